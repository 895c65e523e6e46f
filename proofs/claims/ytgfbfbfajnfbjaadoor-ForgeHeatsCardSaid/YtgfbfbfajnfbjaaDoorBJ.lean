/- PROVED: ForgeHeats (the walk): the law returns true, whatever the book and the numbers. -/
import Derived.Test.YtgfbfbfajnfbjaaDoorBI
namespace Go.Proofs.YtgfbfbfajnfbjaaDoor
section
open Go.RowKit Go.Shelf
attribute [local go_sem] Oper.semAt_some
set_option linter.unusedSimpArgs false
set_option linter.unusedVariables false
theorem heatsR_ok {B : ForgeV} (hg : goodF B = true) {n : Int} (hn : 0 ≤ n ∧ n ≤ 300) : heatsR B n = .tuple #[.agg #[.int .i64 (hLo B n), .int .i64 (hHi B n)], .agg #[.int .i64 (hLo B n * B.coal), .int .i64 (hHi B n * B.coal)], .int .i64 0] := by
  unfold heatsR; rw [hg, inB_iff.2 hn]; rfl
set_option maxRecDepth 100000 in
set_option maxHeartbeats 4000000 in
theorem ForgeHeats_calls (B : ForgeV) (n0 n1 : Int) (w : World) (hB : B.Reads w) (hM : EndsAt w) :
    Calls Tryd.prog 16 #[B.val, .agg #[.int .i64 n0, .int .i64 n1]] w fun e w' => e = .returned (.bool true) ∧ Below w.heap.size w w' := by
  have HB := Lib.hid hB
  have HM := Lib.hid hM
  clear hB hM
  have hcells : B.val = .agg B.cells := rfl
  rw [hcells]
  unfold ForgeV.cells
  go_enter Tryd.func16, Tryd.ntmps16
  go_upto_region 1 with fail
  have k2 := (BoxAt.new w B.cells 28).alloc (.cells #[.int .i64 n0, .int .i64 n1] 47)
  have k3 := BoxAt.new (w.alloc (.cells B.cells 28)) #[.int .i64 n0, .int .i64 n1] 47
  have H1 : Below w.heap.size w ((w.alloc (.cells B.cells 28)).alloc (.cells #[.int .i64 n0, .int .i64 n1] 47)) := ((Below.refl _ _).alloc (Nat.le_refl _) _).alloc (by simp) _
  unfold ForgeV.cells at k2 k3 H1
  simp only [World.size_alloc] at k3
  generalize World.alloc (World.alloc w _) _ = w1 at *
  generalize w.heap.size + 1 = n3 at *
  have HB1 := Lib.hid (HB.out.below H1)
  have HM1 := Lib.hid (HM.out.below H1)
  clear HB HM
  have K2 := Lib.hid k2
  have K3 := Lib.hid k3
  obtain ⟨c2, f2, l2⟩ := k2
  clear k3
  go_wp2_with fail
  refine (eq0_1 (v' := B.val) (by unfold ForgeV.val ForgeV.cells; rfl) (sound_calls B _ HB1.out)).mono ?_
  rintro e w2 ⟨rfl, hb⟩
  clear c2 f2 l2
  have HB2 := Lib.hid (HB1.out.below hb)
  have HM2 := Lib.hid (HM1.out.below hb)
  replace K2 := Lib.hid (K2.out.below hb)
  replace K3 := Lib.hid (K3.out.below hb)
  have H2 := below_then H1 H1.size hb
  clear hb H1 HB1 HM1
  cases hg : goodF B with
  | false =>
    go_wp2_with fail
    refine (works_calls _ HM2.out).mono ?_
    rintro e w3 ⟨rfl, hb⟩
    replace H2 := below_then H2 H2.size hb
    clear hb
    go_wp2
    go_ret
    exact ⟨rfl, H2⟩
  | true =>
    have Hg := Lib.hid hg
    clear hg
    go_upto_region 3 with (fail)
    have HH2 := Lib.hid H2
    clear H2
    obtain ⟨c3, f3, l3⟩ := K3.out
    refine region_plain (S := fun w' => Below w2.heap.size w2 w') 8 (by kernel_rfl) ?_ (fun hHeld => ?_)
    · exact (Below.refl _ _).drew
    first | (refine anyT_take 0 (some 20) (v := ?_) rfl rfl (by kernel_rfl) (by kernel_rfl) (by kernel_rfl) (by kernel_rfl) (fun _ _ _ h => h) (Or.inl ⟨by rfl, ?_⟩) hHeld ?_; rotate_left; focus (intro wq hSw; obtain ⟨hcq, hfq⟩ := bcell hSw; go_simp; (try with_reducible rfl); done))
    (try simp only [Act.put, List.setIfInBounds_toArray, List.set_cons_zero, List.set_cons_succ])
    first | (refine anyT_take 1 (some 21) (v := ?_) rfl rfl (by kernel_rfl) (by kernel_rfl) (by kernel_rfl) (by kernel_rfl) (fun _ _ _ h => h) (Or.inl ⟨by rfl, ?_⟩) hHeld ?_; rotate_left; focus (intro wq hSw; obtain ⟨hcq, hfq⟩ := bcell hSw; go_simp; (try with_reducible rfl); done))
    (try simp only [Act.put, List.setIfInBounds_toArray, List.set_cons_zero, List.set_cons_succ])
    first | (refine anyT_take 3 (some 23) (v := ?_) rfl rfl (by kernel_rfl) (by kernel_rfl) (by kernel_rfl) (by kernel_rfl) (fun _ _ _ h => h) (Or.inl ⟨by rfl, ?_⟩) hHeld ?_; rotate_left; focus (intro wq hSw; obtain ⟨hcq, hfq⟩ := bcell hSw; go_simp; (try with_reducible rfl); done))
    (try simp only [Act.put, List.setIfInBounds_toArray, List.set_cons_zero, List.set_cons_succ])
    first | (refine anyT_take 4 (some 24) (v := ?_) rfl rfl (by kernel_rfl) (by kernel_rfl) (by kernel_rfl) (by kernel_rfl) (fun _ _ _ h => h) (Or.inl ⟨by rfl, ?_⟩) hHeld ?_; rotate_left; focus (intro wq hSw; obtain ⟨hcq, hfq⟩ := bcell hSw; go_simp; (try with_reducible rfl); done))
    (try simp only [Act.put, List.setIfInBounds_toArray, List.set_cons_zero, List.set_cons_succ])
    refine anyT_one 2 (by kernel_rfl) rfl (fun K hK => ?_)
    go_simp
    refine (Turn_calls _ _ _ (by decide)).mono ?_; rintro e x1 ⟨rfl, rfl⟩
    refine hK.out _ _ ?_ (fun hHeld => ?_)
    · exact hHeld
    clear hK K
    (try simp only [Act.put, List.setIfInBounds_toArray, List.set_cons_zero, List.set_cons_succ])
    refine anyT_one 5 (by kernel_rfl) rfl (fun K hK => ?_)
    go_simp
    refine (Turn_calls _ _ _ (by decide)).mono ?_; rintro e x2 ⟨rfl, rfl⟩
    refine hK.out _ _ ?_ (fun hHeld => ?_)
    · exact hHeld
    clear hK K
    (try simp only [Act.put, List.setIfInBounds_toArray, List.set_cons_zero, List.set_cons_succ])
    first | (refine anyT_take 6 (some 5) (v := ?_) rfl rfl (by kernel_rfl) (by kernel_rfl) (by kernel_rfl) (by kernel_rfl) (fun _ _ _ h => h) (Or.inl ⟨by rfl, ?_⟩) hHeld ?_; rotate_left; focus (intro wq hSw; obtain ⟨hcq, hfq⟩ := bcell hSw; go_simp; (try with_reducible rfl); done))
    (try simp only [Act.put, List.setIfInBounds_toArray, List.set_cons_zero, List.set_cons_succ])
    first | (refine anyT_take 7 (some 6) (v := ?_) rfl rfl (by kernel_rfl) (by kernel_rfl) (by kernel_rfl) (by kernel_rfl) (fun _ _ _ h => h) (Or.inl ⟨by rfl, ?_⟩) hHeld ?_; rotate_left; focus (intro wq hSw; obtain ⟨hcq, hfq⟩ := bcell hSw; go_simp; (try with_reducible rfl); done))
    (try simp only [Act.put, List.setIfInBounds_toArray, List.set_cons_zero, List.set_cons_succ])
    refine anyT_done (by kernel_rfl) ?_ _
    have hi := turnZ_bd (n := n0) (b := 151) (by decide)
    have hk := turnZ_bd (n := n1) (b := 151) (by decide)
    generalize turnZ n0 151 = i at *
    generalize turnZ n1 151 = k at *
    have HBr := Lib.hid (HB2.out.below hHeld)
    have HMr := Lib.hid (HM2.out.below hHeld)
    have Hr := Lib.hid (below_then HH2.out HH2.out.size hHeld)
    have Kr := Lib.hid (K2.out.below hHeld)
    clear HB2 HM2 HH2 K2 K3 c3 f3 l3 hHeld
    have hO := Lib.hid (heats_ok ((goodF_iff B).1 Hg.out) hi.1 hk.1)
    obtain ⟨c2, f2, l2⟩ := Kr.out
    go_wp2_with fail
    refine (eq0_2 (v' := B.val) (by unfold ForgeV.val ForgeV.cells; rfl) (Heats_calls B i _ HBr.out)).mono ?_
    rintro e w3 ⟨rfl, hb⟩
    rw [heatsR_ok Hg.out (by omega)]
    replace HBr := Lib.hid (HBr.out.below hb)
    replace HMr := Lib.hid (HMr.out.below hb)
    replace Hr := Lib.hid (below_then Hr.out Hr.out.size hb)
    replace Kr := Lib.hid (Kr.out.below hb)
    clear hb c2 f2 l2
    go_upto_region 5 with (fail)
    have hb : Below w3.heap.size w3 ((w3.alloc (.cells #[.int .i64 (hLo B i), .int .i64 (hHi B i)] 24)).alloc (.cells #[.int .i64 (hLo B i * B.coal), .int .i64 (hHi B i * B.coal)] 24)) := ((Below.refl _ _).alloc (Nat.le_refl _) _).alloc (by simp) _
    have k7 := (BoxAt.new w3 #[.int .i64 (hLo B i), .int .i64 (hHi B i)] 24).alloc (.cells #[.int .i64 (hLo B i * B.coal), .int .i64 (hHi B i * B.coal)] 24)
    have k8 := BoxAt.new (w3.alloc (.cells #[.int .i64 (hLo B i), .int .i64 (hHi B i)] 24)) #[.int .i64 (hLo B i * B.coal), .int .i64 (hHi B i * B.coal)] 24
    rw [World.size_alloc] at k8
    generalize (w3.alloc _).alloc _ = w4 at *
    replace HBr := Lib.hid (HBr.out.below hb)
    replace HMr := Lib.hid (HMr.out.below hb)
    replace Hr := Lib.hid (below_then Hr.out Hr.out.size hb)
    replace Kr := Lib.hid (Kr.out.below hb)
    have K7 := Lib.hid k7
    have K8 := Lib.hid k8
    clear hb k7 k8
    generalize w3.heap.size + 1 = n8 at *
    generalize w3.heap.size = n7 at *
    obtain ⟨c2, f2, l2⟩ := Kr.out
    go_wp2_with fail
    refine (eq0_2 (v' := B.val) (by unfold ForgeV.val ForgeV.cells; rfl) (Heats_calls B k _ HBr.out)).mono ?_
    rintro e w5 ⟨rfl, hb⟩
    rw [heatsR_ok Hg.out (by omega)]
    replace HBr := Lib.hid (HBr.out.below hb)
    replace HMr := Lib.hid (HMr.out.below hb)
    replace Hr := Lib.hid (below_then Hr.out Hr.out.size hb)
    replace Kr := Lib.hid (Kr.out.below hb)
    replace K7 := Lib.hid (K7.out.below hb)
    replace K8 := Lib.hid (K8.out.below hb)
    clear hb c2 f2 l2
    go_upto_region 6 with (fail)
    have hb : Below w5.heap.size w5 ((w5.alloc (.cells #[.int .i64 (hLo B k), .int .i64 (hHi B k)] 24)).alloc (.cells #[.int .i64 (hLo B k * B.coal), .int .i64 (hHi B k * B.coal)] 24)) := ((Below.refl _ _).alloc (Nat.le_refl _) _).alloc (by simp) _
    have k10 := (BoxAt.new w5 #[.int .i64 (hLo B k), .int .i64 (hHi B k)] 24).alloc (.cells #[.int .i64 (hLo B k * B.coal), .int .i64 (hHi B k * B.coal)] 24)
    have k11 := BoxAt.new (w5.alloc (.cells #[.int .i64 (hLo B k), .int .i64 (hHi B k)] 24)) #[.int .i64 (hLo B k * B.coal), .int .i64 (hHi B k * B.coal)] 24
    rw [World.size_alloc] at k11
    generalize (w5.alloc _).alloc _ = w6 at *
    replace HBr := Lib.hid (HBr.out.below hb)
    replace HMr := Lib.hid (HMr.out.below hb)
    replace Hr := Lib.hid (below_then Hr.out Hr.out.size hb)
    replace Kr := Lib.hid (Kr.out.below hb)
    replace K7 := Lib.hid (K7.out.below hb)
    replace K8 := Lib.hid (K8.out.below hb)
    have K10 := Lib.hid k10
    have K11 := Lib.hid k11
    clear hb k10 k11
    generalize w5.heap.size + 1 = n11 at *
    generalize w5.heap.size = n10 at *
    obtain ⟨c2, f2, l2⟩ := Kr.out
    have hik : IntKind.i64.wrap (i + k) = i + k := wrap_in (by omega) (by omega)
    go_wp2_with fail
    refine (eq0_2 (v' := B.val) (by unfold ForgeV.val ForgeV.cells; rfl) (Heats_calls B (i + k) _ HBr.out)).mono ?_
    rintro e w7 ⟨rfl, hb⟩
    rw [heatsR_ok Hg.out (by omega)]
    replace HBr := Lib.hid (HBr.out.below hb)
    replace HMr := Lib.hid (HMr.out.below hb)
    replace Hr := Lib.hid (below_then Hr.out Hr.out.size hb)
    replace Kr := Lib.hid (Kr.out.below hb)
    replace K7 := Lib.hid (K7.out.below hb)
    replace K8 := Lib.hid (K8.out.below hb)
    replace K10 := Lib.hid (K10.out.below hb)
    replace K11 := Lib.hid (K11.out.below hb)
    clear hb c2 f2 l2
    go_upto_region 7 with (fail)
    have hb : Below w7.heap.size w7 ((w7.alloc (.cells #[.int .i64 (hLo B (i + k)), .int .i64 (hHi B (i + k))] 24)).alloc (.cells #[.int .i64 (hLo B (i + k) * B.coal), .int .i64 (hHi B (i + k) * B.coal)] 24)) := ((Below.refl _ _).alloc (Nat.le_refl _) _).alloc (by simp) _
    have k13 := (BoxAt.new w7 #[.int .i64 (hLo B (i + k)), .int .i64 (hHi B (i + k))] 24).alloc (.cells #[.int .i64 (hLo B (i + k) * B.coal), .int .i64 (hHi B (i + k) * B.coal)] 24)
    have k14 := BoxAt.new (w7.alloc (.cells #[.int .i64 (hLo B (i + k)), .int .i64 (hHi B (i + k))] 24)) #[.int .i64 (hLo B (i + k) * B.coal), .int .i64 (hHi B (i + k) * B.coal)] 24
    rw [World.size_alloc] at k14
    generalize (w7.alloc _).alloc _ = w8 at *
    replace HBr := Lib.hid (HBr.out.below hb)
    replace HMr := Lib.hid (HMr.out.below hb)
    replace Hr := Lib.hid (below_then Hr.out Hr.out.size hb)
    replace Kr := Lib.hid (Kr.out.below hb)
    replace K7 := Lib.hid (K7.out.below hb)
    replace K8 := Lib.hid (K8.out.below hb)
    replace K10 := Lib.hid (K10.out.below hb)
    replace K11 := Lib.hid (K11.out.below hb)
    have K13 := Lib.hid k13
    have K14 := Lib.hid k14
    clear hb k13 k14
    generalize w7.heap.size + 1 = n14 at *
    generalize w7.heap.size = n13 at *
    obtain ⟨c2, f2, l2⟩ := Kr.out
    have Hgd := Lib.hid ((goodF_iff B).1 Hg.out)
    obtain ⟨⟨s0, s1, s2⟩, ⟨t0, t1, t2⟩, ⟨u0, u1, u2⟩, hpos, hhot, ⟨o1, o2, o3⟩, ⟨o4, o5, o6⟩⟩ := hO.out
    clear hO
    have hco := Hgd.out.coal
    have Hhot := Lib.hid hhot
    have mul : ∀ x : Int, 0 ≤ x → x ≤ 300 → IntKind.i64.wrap (x * B.coal) = x * B.coal := fun x h1 h2 => by
      have m1 : 0 ≤ x * B.coal := Int.mul_nonneg h1 hco.1
      have m3 : x * B.coal ≤ 300 * 100 := Int.mul_le_mul h2 hco.2 hco.1 (by decide)
      exact wrap_in (by omega) (by omega)
    have hw1 := mul (hLo B i) (by omega) (by omega)
    have hw2 := mul (hHi B i) (by omega) (by omega)
    have hw3 := mul (hLo B k) (by omega) (by omega)
    have hw4 := mul (hHi B k) (by omega) (by omega)
    have hw5 := mul (hLo B (i + k)) (by omega) (by omega)
    have hw6 := mul (hHi B (i + k)) (by omega) (by omega)
    have Hw := Lib.hid (And.intro hw1 (And.intro hw2 (And.intro hw3 (And.intro hw4 (And.intro hw5 hw6)))))
    clear mul hw1 hw2 hw3 hw4 hw5 hw6 hhot hco hik
    have e1 : spanB (hLo B i) (hHi B i) 0 i = true := spanB_iff.2 (by omega)
    have e2 : spanB (hLo B k) (hHi B k) 0 k = true := spanB_iff.2 (by omega)
    generalize hLo B i = a0 at *
    generalize hHi B i = a1 at *
    generalize hLo B k = b0 at *
    generalize hHi B k = b1 at *
    generalize hLo B (i + k) = d0 at *
    generalize hHi B (i + k) = d1 at *
    obtain ⟨c7, f7, l7⟩ := K7.out
    obtain ⟨c10, f10, l10⟩ := K10.out
    have Hc : Below w8.heap.size w8 w8 := Below.refl _ _
    by_cases hp : 0 < i
    all_goals
      have hq := hpos
      simp only [hp] at hq
      go_upto_region 9 with (first
        | (go_at_call 63; refine (Good_calls _ _ _ _ _).mono ?_; rintro e w' ⟨rfl, hb⟩; (first | rw [e1] | rw [e2]); obtain ⟨c7, f7, l7⟩ := BoxAt.below ⟨c7, f7, l7⟩ hb; obtain ⟨c10, f10, l10⟩ := BoxAt.below ⟨c10, f10, l10⟩ hb; have Hc := below_then Hc Hc.size hb; clear hb))
      have hsz := Hc
      replace HBr := Lib.hid (HBr.out.below Hc)
      replace HMr := Lib.hid (HMr.out.below Hc)
      replace Hr := Lib.hid (below_then Hr.out Hr.out.size Hc)
      replace Kr := Lib.hid (Kr.out.below Hc)
      replace K7 := Lib.hid (K7.out.below Hc)
      replace K8 := Lib.hid (K8.out.below Hc)
      replace K10 := Lib.hid (K10.out.below Hc)
      replace K11 := Lib.hid (K11.out.below Hc)
      replace K13 := Lib.hid (K13.out.below Hc)
      replace K14 := Lib.hid (K14.out.below Hc)
      clear hsz Hc c2 f2 l2 c7 f7 l7 c10 f10 l10
      obtain ⟨c2, f2, l2⟩ := Kr.out
      obtain ⟨c7, f7, l7⟩ := K7.out
      obtain ⟨c8, f8, l8⟩ := K8.out
      obtain ⟨c10, f10, l10⟩ := K10.out
      obtain ⟨c11, f11, l11⟩ := K11.out
      obtain ⟨c13, f13, l13⟩ := K13.out
      obtain ⟨c14, f14, l14⟩ := K14.out
      obtain ⟨hw1, hw2, hw3, hw4, hw5, hw6⟩ := Hw.out
      refine region_plain (S := fun wq => Below w'.heap.size w' wq) 43 (by kernel_rfl) ?_ (fun hHeld => ?_)
      · exact (Below.refl _ _).drew
      first | (refine anyT_take 0 (some 79) (v := ?_) rfl rfl (by kernel_rfl) (by kernel_rfl) (by kernel_rfl) (by kernel_rfl) (fun _ _ _ h => h) (Or.inl ⟨by rfl, ?_⟩) hHeld ?_; rotate_left; focus (intro wq hSw; obtain ⟨hcq, hfq⟩ := bcell hSw; go_simp; (try with_reducible rfl); done))
      (try simp only [Act.put, List.setIfInBounds_toArray, List.set_cons_zero, List.set_cons_succ])
      first | (refine anyT_take 1 (some 80) (v := ?_) rfl rfl (by kernel_rfl) (by kernel_rfl) (by kernel_rfl) (by kernel_rfl) (fun _ _ _ h => h) (Or.inl ⟨by rfl, ?_⟩) hHeld ?_; rotate_left; focus (intro wq hSw; obtain ⟨hcq, hfq⟩ := bcell hSw; go_simp; (try with_reducible rfl); done))
      (try simp only [Act.put, List.setIfInBounds_toArray, List.set_cons_zero, List.set_cons_succ])
      first | (refine anyT_take 2 (some 81) (v := ?_) rfl rfl (by kernel_rfl) (by kernel_rfl) (by kernel_rfl) (by kernel_rfl) (fun _ _ _ h => h) (Or.inl ⟨by rfl, ?_⟩) hHeld ?_; rotate_left; focus (intro wq hSw; obtain ⟨hcq, hfq⟩ := bcell hSw; go_simp; (try with_reducible rfl); done))
      (try simp only [Act.put, List.setIfInBounds_toArray, List.set_cons_zero, List.set_cons_succ])
      first | (refine anyT_take 3 (some 82) (v := ?_) rfl rfl (by kernel_rfl) (by kernel_rfl) (by kernel_rfl) (by kernel_rfl) (fun _ _ _ h => h) (Or.inl ⟨by rfl, ?_⟩) hHeld ?_; rotate_left; focus (intro wq hSw; obtain ⟨hcq, hfq⟩ := bcell hSw; go_simp; (try with_reducible rfl); done))
      (try simp only [Act.put, List.setIfInBounds_toArray, List.set_cons_zero, List.set_cons_succ])
      first | (refine anyT_take 4 (some 83) (v := ?_) rfl rfl (by kernel_rfl) (by kernel_rfl) (by kernel_rfl) (by kernel_rfl) (fun _ _ _ h => h) (Or.inl ⟨by rfl, ?_⟩) hHeld ?_; rotate_left; focus (intro wq hSw; obtain ⟨hcq, hfq⟩ := bcell hSw; go_simp; (try with_reducible rfl); done))
      (try simp only [Act.put, List.setIfInBounds_toArray, List.set_cons_zero, List.set_cons_succ])
      first | (refine anyT_take 5 (some 84) (v := ?_) rfl rfl (by kernel_rfl) (by kernel_rfl) (by kernel_rfl) (by kernel_rfl) (fun _ _ _ h => h) (Or.inl ⟨by rfl, ?_⟩) hHeld ?_; rotate_left; focus (intro wq hSw; obtain ⟨hcq, hfq⟩ := bcell hSw; go_simp; (try with_reducible rfl); done))
      (try simp only [Act.put, List.setIfInBounds_toArray, List.set_cons_zero, List.set_cons_succ])
      first | (refine anyT_take 6 (some 85) (v := ?_) rfl rfl (by kernel_rfl) (by kernel_rfl) (by kernel_rfl) (by kernel_rfl) (fun _ _ _ h => h) (Or.inl ⟨by rfl, ?_⟩) hHeld ?_; rotate_left; focus (intro wq hSw; obtain ⟨hcq, hfq⟩ := bcell hSw; go_simp; (try with_reducible rfl); done))
      (try simp only [Act.put, List.setIfInBounds_toArray, List.set_cons_zero, List.set_cons_succ])
      first | (refine anyT_take 7 (some 86) (v := ?_) rfl rfl (by kernel_rfl) (by kernel_rfl) (by kernel_rfl) (by kernel_rfl) (fun _ _ _ h => h) (Or.inl ⟨by rfl, ?_⟩) hHeld ?_; rotate_left; focus (intro wq hSw; obtain ⟨hcq, hfq⟩ := bcell hSw; go_simp; (try with_reducible rfl); done))
      (try simp only [Act.put, List.setIfInBounds_toArray, List.set_cons_zero, List.set_cons_succ])
      first | (refine anyT_take 8 (some 87) (v := ?_) rfl rfl (by kernel_rfl) (by kernel_rfl) (by kernel_rfl) (by kernel_rfl) (fun _ _ _ h => h) (Or.inl ⟨by rfl, ?_⟩) hHeld ?_; rotate_left; focus (intro wq hSw; obtain ⟨hcq, hfq⟩ := bcell hSw; go_simp; (try with_reducible rfl); done))
      (try simp only [Act.put, List.setIfInBounds_toArray, List.set_cons_zero, List.set_cons_succ])
      first | (refine anyT_take 9 (some 88) (v := ?_) rfl rfl (by kernel_rfl) (by kernel_rfl) (by kernel_rfl) (by kernel_rfl) (fun _ _ _ h => h) (Or.inl ⟨by rfl, ?_⟩) hHeld ?_; rotate_left; focus (intro wq hSw; obtain ⟨hcq, hfq⟩ := bcell hSw; go_simp; (try with_reducible rfl); done))
      (try simp only [Act.put, List.setIfInBounds_toArray, List.set_cons_zero, List.set_cons_succ])
      first | (refine anyT_take 10 (some 89) (v := ?_) rfl rfl (by kernel_rfl) (by kernel_rfl) (by kernel_rfl) (by kernel_rfl) (fun _ _ _ h => h) (Or.inl ⟨by rfl, ?_⟩) hHeld ?_; rotate_left; focus (intro wq hSw; obtain ⟨hcq, hfq⟩ := bcell hSw; go_simp; (try with_reducible rfl); done))
      (try simp only [Act.put, List.setIfInBounds_toArray, List.set_cons_zero, List.set_cons_succ])
      refine anyT_one 11 (by kernel_rfl) rfl (fun K hK => ?_)
      go_simp
      refine (Band_calls _ _ _).mono ?_; rintro e x1 ⟨rfl, hb1⟩
      refine hK.out _ _ ?_ (fun hHeld => ?_)
      · exact below_then hHeld hHeld.size hb1
      clear hK K
      (try simp only [Act.put, List.setIfInBounds_toArray, List.set_cons_zero, List.set_cons_succ])
      first | (refine anyT_take 12 (some 91) (v := ?_) rfl rfl (by kernel_rfl) (by kernel_rfl) (by kernel_rfl) (by kernel_rfl) (fun _ _ _ h => h) (Or.inl ⟨by rfl, ?_⟩) hHeld ?_; rotate_left; focus (intro wq hSw; obtain ⟨hcq, hfq⟩ := bcell hSw; go_simp; (try with_reducible rfl); done))
      (try simp only [Act.put, List.setIfInBounds_toArray, List.set_cons_zero, List.set_cons_succ])
      first | (refine anyT_take 13 (some 92) (v := ?_) rfl rfl (by kernel_rfl) (by kernel_rfl) (by kernel_rfl) (by kernel_rfl) (fun _ _ _ h => h) (Or.inl ⟨by rfl, ?_⟩) hHeld ?_; rotate_left; focus (intro wq hSw; obtain ⟨hcq, hfq⟩ := bcell hSw; go_simp; (try with_reducible rfl); done))
      (try simp only [Act.put, List.setIfInBounds_toArray, List.set_cons_zero, List.set_cons_succ])
      first | (refine anyT_take 14 (some 93) rfl rfl (by kernel_rfl) (by kernel_rfl) (by kernel_rfl) (by kernel_rfl) (fun _ _ _ h => h) (Or.inr ⟨by rfl, rfl⟩) hHeld ?_) | (refine anyT_take 14 (some 93) (v := ?_) rfl rfl (by kernel_rfl) (by kernel_rfl) (by kernel_rfl) (by kernel_rfl) (fun _ _ _ h => h) (Or.inl ⟨by rfl, ?_⟩) hHeld ?_; rotate_left; focus (intro wq hSw; obtain ⟨hcq, hfq⟩ := bcell hSw; go_simp; (try with_reducible rfl); done))
      (try simp only [Act.put, List.setIfInBounds_toArray, List.set_cons_zero, List.set_cons_succ])
      first | (refine anyT_take 15 (some 94) rfl rfl (by kernel_rfl) (by kernel_rfl) (by kernel_rfl) (by kernel_rfl) (fun _ _ _ h => h) (Or.inr ⟨by rfl, rfl⟩) hHeld ?_) | (refine anyT_take 15 (some 94) (v := ?_) rfl rfl (by kernel_rfl) (by kernel_rfl) (by kernel_rfl) (by kernel_rfl) (fun _ _ _ h => h) (Or.inl ⟨by rfl, ?_⟩) hHeld ?_; rotate_left; focus (intro wq hSw; obtain ⟨hcq, hfq⟩ := bcell hSw; go_simp; (try with_reducible rfl); done))
      (try simp only [Act.put, List.setIfInBounds_toArray, List.set_cons_zero, List.set_cons_succ])
      first | (refine anyT_take 16 (some 95) rfl rfl (by kernel_rfl) (by kernel_rfl) (by kernel_rfl) (by kernel_rfl) (fun _ _ _ h => h) (Or.inr ⟨by rfl, rfl⟩) hHeld ?_) | (refine anyT_take 16 (some 95) (v := ?_) rfl rfl (by kernel_rfl) (by kernel_rfl) (by kernel_rfl) (by kernel_rfl) (fun _ _ _ h => h) (Or.inl ⟨by rfl, ?_⟩) hHeld ?_; rotate_left; focus (intro wq hSw; obtain ⟨hcq, hfq⟩ := bcell hSw; go_simp; (try with_reducible rfl); done))
      (try simp only [Act.put, List.setIfInBounds_toArray, List.set_cons_zero, List.set_cons_succ])
      first | (refine anyT_take 17 (some 96) rfl rfl (by kernel_rfl) (by kernel_rfl) (by kernel_rfl) (by kernel_rfl) (fun _ _ _ h => h) (Or.inr ⟨by rfl, rfl⟩) hHeld ?_) | (refine anyT_take 17 (some 96) (v := ?_) rfl rfl (by kernel_rfl) (by kernel_rfl) (by kernel_rfl) (by kernel_rfl) (fun _ _ _ h => h) (Or.inl ⟨by rfl, ?_⟩) hHeld ?_; rotate_left; focus (intro wq hSw; obtain ⟨hcq, hfq⟩ := bcell hSw; go_simp; (try with_reducible rfl); done))
      (try simp only [Act.put, List.setIfInBounds_toArray, List.set_cons_zero, List.set_cons_succ])
      first | (refine anyT_take 18 (some 97) rfl rfl (by kernel_rfl) (by kernel_rfl) (by kernel_rfl) (by kernel_rfl) (fun _ _ _ h => h) (Or.inr ⟨by rfl, rfl⟩) hHeld ?_) | (refine anyT_take 18 (some 97) (v := ?_) rfl rfl (by kernel_rfl) (by kernel_rfl) (by kernel_rfl) (by kernel_rfl) (fun _ _ _ h => h) (Or.inl ⟨by rfl, ?_⟩) hHeld ?_; rotate_left; focus (intro wq hSw; obtain ⟨hcq, hfq⟩ := bcell hSw; go_simp; (try with_reducible rfl); done))
      (try simp only [Act.put, List.setIfInBounds_toArray, List.set_cons_zero, List.set_cons_succ])
      first | (refine anyT_take 19 (some 98) rfl rfl (by kernel_rfl) (by kernel_rfl) (by kernel_rfl) (by kernel_rfl) (fun _ _ _ h => h) (Or.inr ⟨by rfl, rfl⟩) hHeld ?_) | (refine anyT_take 19 (some 98) (v := ?_) rfl rfl (by kernel_rfl) (by kernel_rfl) (by kernel_rfl) (by kernel_rfl) (fun _ _ _ h => h) (Or.inl ⟨by rfl, ?_⟩) hHeld ?_; rotate_left; focus (intro wq hSw; obtain ⟨hcq, hfq⟩ := bcell hSw; go_simp; (try with_reducible rfl); done))
      (try simp only [Act.put, List.setIfInBounds_toArray, List.set_cons_zero, List.set_cons_succ])
      first | (refine anyT_take 20 (some 99) rfl rfl (by kernel_rfl) (by kernel_rfl) (by kernel_rfl) (by kernel_rfl) (fun _ _ _ h => h) (Or.inr ⟨by rfl, rfl⟩) hHeld ?_) | (refine anyT_take 20 (some 99) (v := ?_) rfl rfl (by kernel_rfl) (by kernel_rfl) (by kernel_rfl) (by kernel_rfl) (fun _ _ _ h => h) (Or.inl ⟨by rfl, ?_⟩) hHeld ?_; rotate_left; focus (intro wq hSw; obtain ⟨hcq, hfq⟩ := bcell hSw; go_simp; (try with_reducible rfl); done))
      (try simp only [Act.put, List.setIfInBounds_toArray, List.set_cons_zero, List.set_cons_succ])
      first | (refine anyT_take 21 (some 100) rfl rfl (by kernel_rfl) (by kernel_rfl) (by kernel_rfl) (by kernel_rfl) (fun _ _ _ h => h) (Or.inr ⟨by rfl, rfl⟩) hHeld ?_) | (refine anyT_take 21 (some 100) (v := ?_) rfl rfl (by kernel_rfl) (by kernel_rfl) (by kernel_rfl) (by kernel_rfl) (fun _ _ _ h => h) (Or.inl ⟨by rfl, ?_⟩) hHeld ?_; rotate_left; focus (intro wq hSw; obtain ⟨hcq, hfq⟩ := bcell hSw; go_simp; (try with_reducible rfl); done))
      (try simp only [Act.put, List.setIfInBounds_toArray, List.set_cons_zero, List.set_cons_succ])
      first | (refine anyT_take 22 (some 101) rfl rfl (by kernel_rfl) (by kernel_rfl) (by kernel_rfl) (by kernel_rfl) (fun _ _ _ h => h) (Or.inr ⟨by rfl, rfl⟩) hHeld ?_) | (refine anyT_take 22 (some 101) (v := ?_) rfl rfl (by kernel_rfl) (by kernel_rfl) (by kernel_rfl) (by kernel_rfl) (fun _ _ _ h => h) (Or.inl ⟨by rfl, ?_⟩) hHeld ?_; rotate_left; focus (intro wq hSw; obtain ⟨hcq, hfq⟩ := bcell hSw; go_simp; (try with_reducible rfl); done))
      (try simp only [Act.put, List.setIfInBounds_toArray, List.set_cons_zero, List.set_cons_succ])
      first | (refine anyT_take 23 (some 102) rfl rfl (by kernel_rfl) (by kernel_rfl) (by kernel_rfl) (by kernel_rfl) (fun _ _ _ h => h) (Or.inr ⟨by rfl, rfl⟩) hHeld ?_) | (refine anyT_take 23 (some 102) (v := ?_) rfl rfl (by kernel_rfl) (by kernel_rfl) (by kernel_rfl) (by kernel_rfl) (fun _ _ _ h => h) (Or.inl ⟨by rfl, ?_⟩) hHeld ?_; rotate_left; focus (intro wq hSw; obtain ⟨hcq, hfq⟩ := bcell hSw; go_simp; (try with_reducible rfl); done))
      (try simp only [Act.put, List.setIfInBounds_toArray, List.set_cons_zero, List.set_cons_succ])
      first | (refine anyT_take 24 (some 103) rfl rfl (by kernel_rfl) (by kernel_rfl) (by kernel_rfl) (by kernel_rfl) (fun _ _ _ h => h) (Or.inr ⟨by rfl, rfl⟩) hHeld ?_) | (refine anyT_take 24 (some 103) (v := ?_) rfl rfl (by kernel_rfl) (by kernel_rfl) (by kernel_rfl) (by kernel_rfl) (fun _ _ _ h => h) (Or.inl ⟨by rfl, ?_⟩) hHeld ?_; rotate_left; focus (intro wq hSw; obtain ⟨hcq, hfq⟩ := bcell hSw; go_simp; (try with_reducible rfl); done))
      (try simp only [Act.put, List.setIfInBounds_toArray, List.set_cons_zero, List.set_cons_succ])
      refine anyT_one 25 (by kernel_rfl) rfl (fun K hK => ?_)
      go_simp
      refine (Band_calls _ _ _).mono ?_; rintro e x2 ⟨rfl, hb2⟩
      refine hK.out _ _ ?_ (fun hHeld => ?_)
      · exact below_then hHeld hHeld.size hb2
      clear hK K
      (try simp only [Act.put, List.setIfInBounds_toArray, List.set_cons_zero, List.set_cons_succ])
      first | (refine anyT_take 26 (some 105) rfl rfl (by kernel_rfl) (by kernel_rfl) (by kernel_rfl) (by kernel_rfl) (fun _ _ _ h => h) (Or.inr ⟨by rfl, rfl⟩) hHeld ?_) | (refine anyT_take 26 (some 105) (v := ?_) rfl rfl (by kernel_rfl) (by kernel_rfl) (by kernel_rfl) (by kernel_rfl) (fun _ _ _ h => h) (Or.inl ⟨by rfl, ?_⟩) hHeld ?_; rotate_left; focus (intro wq hSw; obtain ⟨hcq, hfq⟩ := bcell hSw; go_simp; (try with_reducible rfl); done))
      (try simp only [Act.put, List.setIfInBounds_toArray, List.set_cons_zero, List.set_cons_succ])
      first | (refine anyT_take 27 (some 106) (v := ?_) rfl rfl (by kernel_rfl) (by kernel_rfl) (by kernel_rfl) (by kernel_rfl) (fun _ _ _ h => h) (Or.inl ⟨by rfl, ?_⟩) hHeld ?_; rotate_left; focus (intro wq hSw; obtain ⟨hcq, hfq⟩ := bcell hSw; go_simp; (try with_reducible rfl); done))
      (try simp only [Act.put, List.setIfInBounds_toArray, List.set_cons_zero, List.set_cons_succ])
      first | (refine anyT_take 28 (some 107) (v := ?_) rfl rfl (by kernel_rfl) (by kernel_rfl) (by kernel_rfl) (by kernel_rfl) (fun _ _ _ h => h) (Or.inl ⟨by rfl, ?_⟩) hHeld ?_; rotate_left; focus (intro wq hSw; obtain ⟨hcq, hfq⟩ := bcell hSw; go_simp; (try with_reducible rfl); done))
      (try simp only [Act.put, List.setIfInBounds_toArray, List.set_cons_zero, List.set_cons_succ])
      first | (refine anyT_take 29 (some 108) rfl rfl (by kernel_rfl) (by kernel_rfl) (by kernel_rfl) (by kernel_rfl) (fun _ _ _ h => h) (Or.inr ⟨by rfl, rfl⟩) hHeld ?_) | (refine anyT_take 29 (some 108) (v := ?_) rfl rfl (by kernel_rfl) (by kernel_rfl) (by kernel_rfl) (by kernel_rfl) (fun _ _ _ h => h) (Or.inl ⟨by rfl, ?_⟩) hHeld ?_; rotate_left; focus (intro wq hSw; obtain ⟨hcq, hfq⟩ := bcell hSw; go_simp; (try with_reducible rfl); done))
      (try simp only [Act.put, List.setIfInBounds_toArray, List.set_cons_zero, List.set_cons_succ])
      first | (refine anyT_take 30 (some 109) rfl rfl (by kernel_rfl) (by kernel_rfl) (by kernel_rfl) (by kernel_rfl) (fun _ _ _ h => h) (Or.inr ⟨by rfl, rfl⟩) hHeld ?_) | (refine anyT_take 30 (some 109) (v := ?_) rfl rfl (by kernel_rfl) (by kernel_rfl) (by kernel_rfl) (by kernel_rfl) (fun _ _ _ h => h) (Or.inl ⟨by rfl, ?_⟩) hHeld ?_; rotate_left; focus (intro wq hSw; obtain ⟨hcq, hfq⟩ := bcell hSw; go_simp; (try with_reducible rfl); done))
      (try simp only [Act.put, List.setIfInBounds_toArray, List.set_cons_zero, List.set_cons_succ])
      first | (refine anyT_take 31 (some 110) rfl rfl (by kernel_rfl) (by kernel_rfl) (by kernel_rfl) (by kernel_rfl) (fun _ _ _ h => h) (Or.inr ⟨by rfl, rfl⟩) hHeld ?_) | (refine anyT_take 31 (some 110) (v := ?_) rfl rfl (by kernel_rfl) (by kernel_rfl) (by kernel_rfl) (by kernel_rfl) (fun _ _ _ h => h) (Or.inl ⟨by rfl, ?_⟩) hHeld ?_; rotate_left; focus (intro wq hSw; obtain ⟨hcq, hfq⟩ := bcell hSw; go_simp; (try with_reducible rfl); done))
      (try simp only [Act.put, List.setIfInBounds_toArray, List.set_cons_zero, List.set_cons_succ])
      first | (refine anyT_take 32 (some 111) rfl rfl (by kernel_rfl) (by kernel_rfl) (by kernel_rfl) (by kernel_rfl) (fun _ _ _ h => h) (Or.inr ⟨by rfl, rfl⟩) hHeld ?_) | (refine anyT_take 32 (some 111) (v := ?_) rfl rfl (by kernel_rfl) (by kernel_rfl) (by kernel_rfl) (by kernel_rfl) (fun _ _ _ h => h) (Or.inl ⟨by rfl, ?_⟩) hHeld ?_; rotate_left; focus (intro wq hSw; obtain ⟨hcq, hfq⟩ := bcell hSw; go_simp; (try with_reducible rfl); done))
      (try simp only [Act.put, List.setIfInBounds_toArray, List.set_cons_zero, List.set_cons_succ])
      first | (refine anyT_take 33 (some 112) rfl rfl (by kernel_rfl) (by kernel_rfl) (by kernel_rfl) (by kernel_rfl) (fun _ _ _ h => h) (Or.inr ⟨by rfl, rfl⟩) hHeld ?_) | (refine anyT_take 33 (some 112) (v := ?_) rfl rfl (by kernel_rfl) (by kernel_rfl) (by kernel_rfl) (by kernel_rfl) (fun _ _ _ h => h) (Or.inl ⟨by rfl, ?_⟩) hHeld ?_; rotate_left; focus (intro wq hSw; obtain ⟨hcq, hfq⟩ := bcell hSw; go_simp; (try with_reducible rfl); done))
      (try simp only [Act.put, List.setIfInBounds_toArray, List.set_cons_zero, List.set_cons_succ])
      first | (refine anyT_take 34 (some 113) rfl rfl (by kernel_rfl) (by kernel_rfl) (by kernel_rfl) (by kernel_rfl) (fun _ _ _ h => h) (Or.inr ⟨by rfl, rfl⟩) hHeld ?_) | (refine anyT_take 34 (some 113) (v := ?_) rfl rfl (by kernel_rfl) (by kernel_rfl) (by kernel_rfl) (by kernel_rfl) (fun _ _ _ h => h) (Or.inl ⟨by rfl, ?_⟩) hHeld ?_; rotate_left; focus (intro wq hSw; obtain ⟨hcq, hfq⟩ := bcell hSw; go_simp; (try with_reducible rfl); done))
      (try simp only [Act.put, List.setIfInBounds_toArray, List.set_cons_zero, List.set_cons_succ])
      first | (refine anyT_take 35 (some 114) rfl rfl (by kernel_rfl) (by kernel_rfl) (by kernel_rfl) (by kernel_rfl) (fun _ _ _ h => h) (Or.inr ⟨by rfl, rfl⟩) hHeld ?_) | (refine anyT_take 35 (some 114) (v := ?_) rfl rfl (by kernel_rfl) (by kernel_rfl) (by kernel_rfl) (by kernel_rfl) (fun _ _ _ h => h) (Or.inl ⟨by rfl, ?_⟩) hHeld ?_; rotate_left; focus (intro wq hSw; obtain ⟨hcq, hfq⟩ := bcell hSw; go_simp; (try with_reducible rfl); done))
      (try simp only [Act.put, List.setIfInBounds_toArray, List.set_cons_zero, List.set_cons_succ])
      first | (refine anyT_take 36 (some 115) rfl rfl (by kernel_rfl) (by kernel_rfl) (by kernel_rfl) (by kernel_rfl) (fun _ _ _ h => h) (Or.inr ⟨by rfl, rfl⟩) hHeld ?_) | (refine anyT_take 36 (some 115) (v := ?_) rfl rfl (by kernel_rfl) (by kernel_rfl) (by kernel_rfl) (by kernel_rfl) (fun _ _ _ h => h) (Or.inl ⟨by rfl, ?_⟩) hHeld ?_; rotate_left; focus (intro wq hSw; obtain ⟨hcq, hfq⟩ := bcell hSw; go_simp; (try with_reducible rfl); done))
      (try simp only [Act.put, List.setIfInBounds_toArray, List.set_cons_zero, List.set_cons_succ])
      first | (refine anyT_take 37 (some 116) rfl rfl (by kernel_rfl) (by kernel_rfl) (by kernel_rfl) (by kernel_rfl) (fun _ _ _ h => h) (Or.inr ⟨by rfl, rfl⟩) hHeld ?_) | (refine anyT_take 37 (some 116) (v := ?_) rfl rfl (by kernel_rfl) (by kernel_rfl) (by kernel_rfl) (by kernel_rfl) (fun _ _ _ h => h) (Or.inl ⟨by rfl, ?_⟩) hHeld ?_; rotate_left; focus (intro wq hSw; obtain ⟨hcq, hfq⟩ := bcell hSw; go_simp; (try with_reducible rfl); done))
      (try simp only [Act.put, List.setIfInBounds_toArray, List.set_cons_zero, List.set_cons_succ])
      first | (refine anyT_take 38 (some 117) rfl rfl (by kernel_rfl) (by kernel_rfl) (by kernel_rfl) (by kernel_rfl) (fun _ _ _ h => h) (Or.inr ⟨by rfl, rfl⟩) hHeld ?_) | (refine anyT_take 38 (some 117) (v := ?_) rfl rfl (by kernel_rfl) (by kernel_rfl) (by kernel_rfl) (by kernel_rfl) (fun _ _ _ h => h) (Or.inl ⟨by rfl, ?_⟩) hHeld ?_; rotate_left; focus (intro wq hSw; obtain ⟨hcq, hfq⟩ := bcell hSw; go_simp; (try with_reducible rfl); done))
      (try simp only [Act.put, List.setIfInBounds_toArray, List.set_cons_zero, List.set_cons_succ])
      first | (refine anyT_take 39 (some 118) rfl rfl (by kernel_rfl) (by kernel_rfl) (by kernel_rfl) (by kernel_rfl) (fun _ _ _ h => h) (Or.inr ⟨by rfl, rfl⟩) hHeld ?_) | (refine anyT_take 39 (some 118) (v := ?_) rfl rfl (by kernel_rfl) (by kernel_rfl) (by kernel_rfl) (by kernel_rfl) (fun _ _ _ h => h) (Or.inl ⟨by rfl, ?_⟩) hHeld ?_; rotate_left; focus (intro wq hSw; obtain ⟨hcq, hfq⟩ := bcell hSw; go_simp; (try with_reducible rfl); done))
      (try simp only [Act.put, List.setIfInBounds_toArray, List.set_cons_zero, List.set_cons_succ])
      refine anyT_one 40 (by kernel_rfl) rfl (fun K hK => ?_)
      go_simp
      refine (Band_calls _ _ _).mono ?_; rintro e x3 ⟨rfl, hb3⟩
      refine hK.out _ _ ?_ (fun hHeld => ?_)
      · exact below_then hHeld hHeld.size hb3
      clear hK K
      (try simp only [Act.put, List.setIfInBounds_toArray, List.set_cons_zero, List.set_cons_succ])
      first | (refine anyT_take 41 (some 120) rfl rfl (by kernel_rfl) (by kernel_rfl) (by kernel_rfl) (by kernel_rfl) (fun _ _ _ h => h) (Or.inr ⟨by rfl, rfl⟩) hHeld ?_) | (refine anyT_take 41 (some 120) (v := ?_) rfl rfl (by kernel_rfl) (by kernel_rfl) (by kernel_rfl) (by kernel_rfl) (fun _ _ _ h => h) (Or.inl ⟨by rfl, ?_⟩) hHeld ?_; rotate_left; focus (intro wq hSw; obtain ⟨hcq, hfq⟩ := bcell hSw; go_simp; (try with_reducible rfl); done))
      (try simp only [Act.put, List.setIfInBounds_toArray, List.set_cons_zero, List.set_cons_succ])
      first | (refine anyT_take 42 (some 121) (v := ?_) rfl rfl (by kernel_rfl) (by kernel_rfl) (by kernel_rfl) (by kernel_rfl) (fun _ _ _ h => h) (Or.inl ⟨by rfl, ?_⟩) hHeld ?_; rotate_left; focus (intro wq hSw; obtain ⟨hcq, hfq⟩ := bcell hSw; go_simp; (try with_reducible rfl); done))
      (try simp only [Act.put, List.setIfInBounds_toArray, List.set_cons_zero, List.set_cons_succ])
      refine anyT_done (by kernel_rfl) ?_ _
      replace HMr := Lib.hid (HMr.out.below hHeld)
      replace Hr := Lib.hid (below_then Hr.out Hr.out.size hHeld)
      replace Kr := Lib.hid (Kr.out.below hHeld)
      replace K7 := Lib.hid (K7.out.below hHeld)
      replace K10 := Lib.hid (K10.out.below hHeld)
      replace K13 := Lib.hid (K13.out.below hHeld)
      clear hHeld HBr K8 K11 K14 c2 f2 l2 c7 f7 l7 c8 f8 l8 c10 f10 l10 c11 f11 l11 c13 f13 l13 c14 f14 l14 hw1 hw2 hw3 hw4 hw5 hw6 Hw
      obtain ⟨c2, f2, l2⟩ := Kr.out
      obtain ⟨c7, f7, l7⟩ := K7.out
      have hd1 := Hgd.out.hot
      have hd2 := Hgd.out.least
      have hd3 := Hgd.out.cool
      have v6 : IntKind.i64.wrap (B.hot - B.least) = B.hot - B.least := wrap_in (by omega) (by omega)
      have v1 : IntKind.i64.wrap (i + a0) = i + a0 := wrap_in (by omega) (by omega)
      have v2 : IntKind.i64.wrap (i + a0 - 1) = i + a0 - 1 := wrap_in (by omega) (by omega)
      have hv : (0 < i → 1 ≤ (i + a0 - 1) / a0 ∧ (i + a0 - 1) / a0 ≤ 300) := fun h => by
        have h1 : 0 < a0 := hpos.2 h
        have h2 : (i + a0 - 1) / a0 ≤ i + a0 - 1 := Int.ediv_le_self _ (by omega)
        have h3 : 1 ≤ (i + a0 - 1) / a0 := by rw [Int.le_ediv_iff_mul_le h1]; omega
        exact ⟨h3, by omega⟩
      have v3 : 0 < i → IntKind.i64.wrap ((i + a0 - 1).tdiv a0) = (i + a0 - 1) / a0 := fun h => by
        have h3 := hv h
        rw [Int.tdiv_eq_ediv_of_nonneg (by omega)]; exact wrap_in (by omega) (by omega)
      have v4 : 0 < i → IntKind.i64.wrap ((i + a0 - 1) / a0 - 1) = (i + a0 - 1) / a0 - 1 := fun h => by
        have h3 := hv h
        exact wrap_in (by omega) (by omega)
      have v5 : 0 < i → IntKind.i64.wrap (B.clo * ((i + a0 - 1) / a0 - 1)) = B.clo * ((i + a0 - 1) / a0 - 1) := fun h => by
        have h3 := hv h
        have h4 := Hhot.out h
        have h5 : 0 ≤ B.clo * ((i + a0 - 1) / a0 - 1) := Int.mul_nonneg (by omega) (by omega)
        exact wrap_in (by omega) (by omega)
      have v7 : 0 < i → ¬ (B.hot - B.least < B.clo * ((i + a0 - 1) / a0 - 1)) := fun h => by
        have h4 := Hhot.out h
        omega
      have vz : 0 < i → ¬ a0 = 0 := fun h => by
        have h1 : 0 < a0 := hpos.2 h
        omega
      try replace v3 := v3 hp
      try replace v4 := v4 hp
      try replace v5 := v5 hp
      try replace v7 := v7 hp
      try replace vz := vz hp
      clear hv hd1 hd2 hd3 hpos
      go_upto_region 11 with (fail)
    · clear c2 f2 l2 c7 f7 l7
      refine region_plain (S := fun wq => BoxAt wq w.heap.size B.cells ∧ BoxAt wq n7 #[.int .i64 a0, .int .i64 a1] ∧ BoxAt wq n10 #[.int .i64 b0, .int .i64 b1] ∧ BoxAt wq n13 #[.int .i64 d0, .int .i64 d1] ∧ Below w.heap.size w wq ∧ EndsAt wq) 23 (by kernel_rfl) ?_ (fun hHeld => ?_)
      · exact ⟨Kr.out.below (Below.refl _ _).drew, K7.out.below (Below.refl _ _).drew, K10.out.below (Below.refl _ _).drew, K13.out.below (Below.refl _ _).drew, Hr.out.drew, HMr.out.below (Below.refl _ _).drew⟩
      first | (refine anyT_take 0 (some 122) (v := ?_) rfl rfl (by kernel_rfl) (by kernel_rfl) (by kernel_rfl) (by kernel_rfl) (fun _ _ _ h => h) (Or.inl ⟨by rfl, ?_⟩) hHeld ?_; rotate_left; focus (intro wq hSw; obtain ⟨k2, ⟨c7, f7, l7⟩, _⟩ := hSw; unfold ForgeV.cells at k2; obtain ⟨c2, f2, l2⟩ := k2; go_simp; (try with_reducible rfl); done))
      (try simp only [Act.put, List.setIfInBounds_toArray, List.set_cons_zero, List.set_cons_succ])
      first | (refine anyT_take 1 (some 123) (v := ?_) rfl rfl (by kernel_rfl) (by kernel_rfl) (by kernel_rfl) (by kernel_rfl) (fun _ _ _ h => h) (Or.inl ⟨by rfl, ?_⟩) hHeld ?_; rotate_left; focus (intro wq hSw; obtain ⟨k2, ⟨c7, f7, l7⟩, _⟩ := hSw; unfold ForgeV.cells at k2; obtain ⟨c2, f2, l2⟩ := k2; go_simp; (try with_reducible rfl); done))
      (try simp only [Act.put, List.setIfInBounds_toArray, List.set_cons_zero, List.set_cons_succ])
      first | (refine anyT_take 2 (some 124) (v := ?_) rfl rfl (by kernel_rfl) (by kernel_rfl) (by kernel_rfl) (by kernel_rfl) (fun _ _ _ h => h) (Or.inl ⟨by rfl, ?_⟩) hHeld ?_; rotate_left; focus (intro wq hSw; obtain ⟨k2, ⟨c7, f7, l7⟩, _⟩ := hSw; unfold ForgeV.cells at k2; obtain ⟨c2, f2, l2⟩ := k2; go_simp; (try with_reducible rfl); done))
      (try simp only [Act.put, List.setIfInBounds_toArray, List.set_cons_zero, List.set_cons_succ])
      first | (refine anyT_take 3 (some 125) rfl rfl (by kernel_rfl) (by kernel_rfl) (by kernel_rfl) (by kernel_rfl) (fun _ _ _ h => h) (Or.inr ⟨by rfl, rfl⟩) hHeld ?_) | (refine anyT_take 3 (some 125) (v := ?_) rfl rfl (by kernel_rfl) (by kernel_rfl) (by kernel_rfl) (by kernel_rfl) (fun _ _ _ h => h) (Or.inl ⟨by rfl, ?_⟩) hHeld ?_; rotate_left; focus (intro wq hSw; obtain ⟨k2, ⟨c7, f7, l7⟩, _⟩ := hSw; unfold ForgeV.cells at k2; obtain ⟨c2, f2, l2⟩ := k2; go_simp; (try with_reducible rfl); done))
      (try simp only [Act.put, List.setIfInBounds_toArray, List.set_cons_zero, List.set_cons_succ])
      first | (refine anyT_take 4 (some 126) rfl rfl (by kernel_rfl) (by kernel_rfl) (by kernel_rfl) (by kernel_rfl) (fun _ _ _ h => h) (Or.inr ⟨by rfl, rfl⟩) hHeld ?_) | (refine anyT_take 4 (some 126) (v := ?_) rfl rfl (by kernel_rfl) (by kernel_rfl) (by kernel_rfl) (by kernel_rfl) (fun _ _ _ h => h) (Or.inl ⟨by rfl, ?_⟩) hHeld ?_; rotate_left; focus (intro wq hSw; obtain ⟨k2, ⟨c7, f7, l7⟩, _⟩ := hSw; unfold ForgeV.cells at k2; obtain ⟨c2, f2, l2⟩ := k2; go_simp; (try with_reducible rfl); done))
      (try simp only [Act.put, List.setIfInBounds_toArray, List.set_cons_zero, List.set_cons_succ])
      first | (refine anyT_take 5 (some 127) rfl rfl (by kernel_rfl) (by kernel_rfl) (by kernel_rfl) (by kernel_rfl) (fun _ _ _ h => h) (Or.inr ⟨by rfl, rfl⟩) hHeld ?_) | (refine anyT_take 5 (some 127) (v := ?_) rfl rfl (by kernel_rfl) (by kernel_rfl) (by kernel_rfl) (by kernel_rfl) (fun _ _ _ h => h) (Or.inl ⟨by rfl, ?_⟩) hHeld ?_; rotate_left; focus (intro wq hSw; obtain ⟨k2, ⟨c7, f7, l7⟩, _⟩ := hSw; unfold ForgeV.cells at k2; obtain ⟨c2, f2, l2⟩ := k2; go_simp; (try with_reducible rfl); done))
      (try simp only [Act.put, List.setIfInBounds_toArray, List.set_cons_zero, List.set_cons_succ])
      first | (refine anyT_take 6 (some 128) rfl rfl (by kernel_rfl) (by kernel_rfl) (by kernel_rfl) (by kernel_rfl) (fun _ _ _ h => h) (Or.inr ⟨by rfl, rfl⟩) hHeld ?_) | (refine anyT_take 6 (some 128) (v := ?_) rfl rfl (by kernel_rfl) (by kernel_rfl) (by kernel_rfl) (by kernel_rfl) (fun _ _ _ h => h) (Or.inl ⟨by rfl, ?_⟩) hHeld ?_; rotate_left; focus (intro wq hSw; obtain ⟨k2, ⟨c7, f7, l7⟩, _⟩ := hSw; unfold ForgeV.cells at k2; obtain ⟨c2, f2, l2⟩ := k2; go_simp; (try with_reducible rfl); done))
      (try simp only [Act.put, List.setIfInBounds_toArray, List.set_cons_zero, List.set_cons_succ])
      first | (refine anyT_take 7 (some 129) rfl rfl (by kernel_rfl) (by kernel_rfl) (by kernel_rfl) (by kernel_rfl) (fun _ _ _ h => h) (Or.inr ⟨by rfl, rfl⟩) hHeld ?_) | (refine anyT_take 7 (some 129) (v := ?_) rfl rfl (by kernel_rfl) (by kernel_rfl) (by kernel_rfl) (by kernel_rfl) (fun _ _ _ h => h) (Or.inl ⟨by rfl, ?_⟩) hHeld ?_; rotate_left; focus (intro wq hSw; obtain ⟨k2, ⟨c7, f7, l7⟩, _⟩ := hSw; unfold ForgeV.cells at k2; obtain ⟨c2, f2, l2⟩ := k2; go_simp; (try with_reducible rfl); done))
      (try simp only [Act.put, List.setIfInBounds_toArray, List.set_cons_zero, List.set_cons_succ])
      first | (refine anyT_take 8 (some 130) rfl rfl (by kernel_rfl) (by kernel_rfl) (by kernel_rfl) (by kernel_rfl) (fun _ _ _ h => h) (Or.inr ⟨by rfl, rfl⟩) hHeld ?_) | (refine anyT_take 8 (some 130) (v := ?_) rfl rfl (by kernel_rfl) (by kernel_rfl) (by kernel_rfl) (by kernel_rfl) (fun _ _ _ h => h) (Or.inl ⟨by rfl, ?_⟩) hHeld ?_; rotate_left; focus (intro wq hSw; obtain ⟨k2, ⟨c7, f7, l7⟩, _⟩ := hSw; unfold ForgeV.cells at k2; obtain ⟨c2, f2, l2⟩ := k2; go_simp; (try with_reducible rfl); done))
      (try simp only [Act.put, List.setIfInBounds_toArray, List.set_cons_zero, List.set_cons_succ])
      first | (refine anyT_take 9 (some 131) rfl rfl (by kernel_rfl) (by kernel_rfl) (by kernel_rfl) (by kernel_rfl) (fun _ _ _ h => h) (Or.inr ⟨by rfl, rfl⟩) hHeld ?_) | (refine anyT_take 9 (some 131) (v := ?_) rfl rfl (by kernel_rfl) (by kernel_rfl) (by kernel_rfl) (by kernel_rfl) (fun _ _ _ h => h) (Or.inl ⟨by rfl, ?_⟩) hHeld ?_; rotate_left; focus (intro wq hSw; obtain ⟨k2, ⟨c7, f7, l7⟩, _⟩ := hSw; unfold ForgeV.cells at k2; obtain ⟨c2, f2, l2⟩ := k2; go_simp; (try with_reducible rfl); done))
      (try simp only [Act.put, List.setIfInBounds_toArray, List.set_cons_zero, List.set_cons_succ])
      first | (refine anyT_take 10 (some 132) rfl rfl (by kernel_rfl) (by kernel_rfl) (by kernel_rfl) (by kernel_rfl) (fun _ _ _ h => h) (Or.inr ⟨by rfl, rfl⟩) hHeld ?_) | (refine anyT_take 10 (some 132) (v := ?_) rfl rfl (by kernel_rfl) (by kernel_rfl) (by kernel_rfl) (by kernel_rfl) (fun _ _ _ h => h) (Or.inl ⟨by rfl, ?_⟩) hHeld ?_; rotate_left; focus (intro wq hSw; obtain ⟨k2, ⟨c7, f7, l7⟩, _⟩ := hSw; unfold ForgeV.cells at k2; obtain ⟨c2, f2, l2⟩ := k2; go_simp; (try with_reducible rfl); done))
      (try simp only [Act.put, List.setIfInBounds_toArray, List.set_cons_zero, List.set_cons_succ])
      first | (refine anyT_take 11 (some 133) rfl rfl (by kernel_rfl) (by kernel_rfl) (by kernel_rfl) (by kernel_rfl) (fun _ _ _ h => h) (Or.inr ⟨by rfl, rfl⟩) hHeld ?_) | (refine anyT_take 11 (some 133) (v := ?_) rfl rfl (by kernel_rfl) (by kernel_rfl) (by kernel_rfl) (by kernel_rfl) (fun _ _ _ h => h) (Or.inl ⟨by rfl, ?_⟩) hHeld ?_; rotate_left; focus (intro wq hSw; obtain ⟨k2, ⟨c7, f7, l7⟩, _⟩ := hSw; unfold ForgeV.cells at k2; obtain ⟨c2, f2, l2⟩ := k2; go_simp; (try with_reducible rfl); done))
      (try simp only [Act.put, List.setIfInBounds_toArray, List.set_cons_zero, List.set_cons_succ])
      first | (refine anyT_take 12 (some 134) rfl rfl (by kernel_rfl) (by kernel_rfl) (by kernel_rfl) (by kernel_rfl) (fun _ _ _ h => h) (Or.inr ⟨by rfl, rfl⟩) hHeld ?_) | (refine anyT_take 12 (some 134) (v := ?_) rfl rfl (by kernel_rfl) (by kernel_rfl) (by kernel_rfl) (by kernel_rfl) (fun _ _ _ h => h) (Or.inl ⟨by rfl, ?_⟩) hHeld ?_; rotate_left; focus (intro wq hSw; obtain ⟨k2, ⟨c7, f7, l7⟩, _⟩ := hSw; unfold ForgeV.cells at k2; obtain ⟨c2, f2, l2⟩ := k2; go_simp; (try with_reducible rfl); done))
      (try simp only [Act.put, List.setIfInBounds_toArray, List.set_cons_zero, List.set_cons_succ])
      first | (refine anyT_take 13 (some 135) rfl rfl (by kernel_rfl) (by kernel_rfl) (by kernel_rfl) (by kernel_rfl) (fun _ _ _ h => h) (Or.inr ⟨by rfl, rfl⟩) hHeld ?_) | (refine anyT_take 13 (some 135) (v := ?_) rfl rfl (by kernel_rfl) (by kernel_rfl) (by kernel_rfl) (by kernel_rfl) (fun _ _ _ h => h) (Or.inl ⟨by rfl, ?_⟩) hHeld ?_; rotate_left; focus (intro wq hSw; obtain ⟨k2, ⟨c7, f7, l7⟩, _⟩ := hSw; unfold ForgeV.cells at k2; obtain ⟨c2, f2, l2⟩ := k2; go_simp; (try with_reducible rfl); done))
      (try simp only [Act.put, List.setIfInBounds_toArray, List.set_cons_zero, List.set_cons_succ])
      first | (refine anyT_take 14 (some 136) rfl rfl (by kernel_rfl) (by kernel_rfl) (by kernel_rfl) (by kernel_rfl) (fun _ _ _ h => h) (Or.inr ⟨by rfl, rfl⟩) hHeld ?_) | (refine anyT_take 14 (some 136) (v := ?_) rfl rfl (by kernel_rfl) (by kernel_rfl) (by kernel_rfl) (by kernel_rfl) (fun _ _ _ h => h) (Or.inl ⟨by rfl, ?_⟩) hHeld ?_; rotate_left; focus (intro wq hSw; obtain ⟨k2, ⟨c7, f7, l7⟩, _⟩ := hSw; unfold ForgeV.cells at k2; obtain ⟨c2, f2, l2⟩ := k2; go_simp; (try with_reducible rfl); done))
      (try simp only [Act.put, List.setIfInBounds_toArray, List.set_cons_zero, List.set_cons_succ])
      first | (refine anyT_take 15 (some 137) rfl rfl (by kernel_rfl) (by kernel_rfl) (by kernel_rfl) (by kernel_rfl) (fun _ _ _ h => h) (Or.inr ⟨by rfl, rfl⟩) hHeld ?_) | (refine anyT_take 15 (some 137) (v := ?_) rfl rfl (by kernel_rfl) (by kernel_rfl) (by kernel_rfl) (by kernel_rfl) (fun _ _ _ h => h) (Or.inl ⟨by rfl, ?_⟩) hHeld ?_; rotate_left; focus (intro wq hSw; obtain ⟨k2, ⟨c7, f7, l7⟩, _⟩ := hSw; unfold ForgeV.cells at k2; obtain ⟨c2, f2, l2⟩ := k2; go_simp; (try with_reducible rfl); done))
      (try simp only [Act.put, List.setIfInBounds_toArray, List.set_cons_zero, List.set_cons_succ])
      first | (refine anyT_take 16 (some 138) rfl rfl (by kernel_rfl) (by kernel_rfl) (by kernel_rfl) (by kernel_rfl) (fun _ _ _ h => h) (Or.inr ⟨by rfl, rfl⟩) hHeld ?_) | (refine anyT_take 16 (some 138) (v := ?_) rfl rfl (by kernel_rfl) (by kernel_rfl) (by kernel_rfl) (by kernel_rfl) (fun _ _ _ h => h) (Or.inl ⟨by rfl, ?_⟩) hHeld ?_; rotate_left; focus (intro wq hSw; obtain ⟨k2, ⟨c7, f7, l7⟩, _⟩ := hSw; unfold ForgeV.cells at k2; obtain ⟨c2, f2, l2⟩ := k2; go_simp; (try with_reducible rfl); done))
      (try simp only [Act.put, List.setIfInBounds_toArray, List.set_cons_zero, List.set_cons_succ])
      first | (refine anyT_take 17 (some 139) rfl rfl (by kernel_rfl) (by kernel_rfl) (by kernel_rfl) (by kernel_rfl) (fun _ _ _ h => h) (Or.inr ⟨by rfl, rfl⟩) hHeld ?_) | (refine anyT_take 17 (some 139) (v := ?_) rfl rfl (by kernel_rfl) (by kernel_rfl) (by kernel_rfl) (by kernel_rfl) (fun _ _ _ h => h) (Or.inl ⟨by rfl, ?_⟩) hHeld ?_; rotate_left; focus (intro wq hSw; obtain ⟨k2, ⟨c7, f7, l7⟩, _⟩ := hSw; unfold ForgeV.cells at k2; obtain ⟨c2, f2, l2⟩ := k2; go_simp; (try with_reducible rfl); done))
      (try simp only [Act.put, List.setIfInBounds_toArray, List.set_cons_zero, List.set_cons_succ])
      first | (refine anyT_take 18 (some 140) rfl rfl (by kernel_rfl) (by kernel_rfl) (by kernel_rfl) (by kernel_rfl) (fun _ _ _ h => h) (Or.inr ⟨by rfl, rfl⟩) hHeld ?_) | (refine anyT_take 18 (some 140) (v := ?_) rfl rfl (by kernel_rfl) (by kernel_rfl) (by kernel_rfl) (by kernel_rfl) (fun _ _ _ h => h) (Or.inl ⟨by rfl, ?_⟩) hHeld ?_; rotate_left; focus (intro wq hSw; obtain ⟨k2, ⟨c7, f7, l7⟩, _⟩ := hSw; unfold ForgeV.cells at k2; obtain ⟨c2, f2, l2⟩ := k2; go_simp; (try with_reducible rfl); done))
      (try simp only [Act.put, List.setIfInBounds_toArray, List.set_cons_zero, List.set_cons_succ])
      first | (refine anyT_take 19 (some 141) rfl rfl (by kernel_rfl) (by kernel_rfl) (by kernel_rfl) (by kernel_rfl) (fun _ _ _ h => h) (Or.inr ⟨by rfl, rfl⟩) hHeld ?_) | (refine anyT_take 19 (some 141) (v := ?_) rfl rfl (by kernel_rfl) (by kernel_rfl) (by kernel_rfl) (by kernel_rfl) (fun _ _ _ h => h) (Or.inl ⟨by rfl, ?_⟩) hHeld ?_; rotate_left; focus (intro wq hSw; obtain ⟨k2, ⟨c7, f7, l7⟩, _⟩ := hSw; unfold ForgeV.cells at k2; obtain ⟨c2, f2, l2⟩ := k2; go_simp; (try with_reducible rfl); done))
      (try simp only [Act.put, List.setIfInBounds_toArray, List.set_cons_zero, List.set_cons_succ])
      first | (refine anyT_take 20 (some 142) rfl rfl (by kernel_rfl) (by kernel_rfl) (by kernel_rfl) (by kernel_rfl) (fun _ _ _ h => h) (Or.inr ⟨by rfl, rfl⟩) hHeld ?_) | (refine anyT_take 20 (some 142) (v := ?_) rfl rfl (by kernel_rfl) (by kernel_rfl) (by kernel_rfl) (by kernel_rfl) (fun _ _ _ h => h) (Or.inl ⟨by rfl, ?_⟩) hHeld ?_; rotate_left; focus (intro wq hSw; obtain ⟨k2, ⟨c7, f7, l7⟩, _⟩ := hSw; unfold ForgeV.cells at k2; obtain ⟨c2, f2, l2⟩ := k2; go_simp; (try with_reducible rfl); done))
      (try simp only [Act.put, List.setIfInBounds_toArray, List.set_cons_zero, List.set_cons_succ])
      first | (refine anyT_take 21 (some 143) rfl rfl (by kernel_rfl) (by kernel_rfl) (by kernel_rfl) (by kernel_rfl) (fun _ _ _ h => h) (Or.inr ⟨by rfl, rfl⟩) hHeld ?_) | (refine anyT_take 21 (some 143) (v := ?_) rfl rfl (by kernel_rfl) (by kernel_rfl) (by kernel_rfl) (by kernel_rfl) (fun _ _ _ h => h) (Or.inl ⟨by rfl, ?_⟩) hHeld ?_; rotate_left; focus (intro wq hSw; obtain ⟨k2, ⟨c7, f7, l7⟩, _⟩ := hSw; unfold ForgeV.cells at k2; obtain ⟨c2, f2, l2⟩ := k2; go_simp; (try with_reducible rfl); done))
      (try simp only [Act.put, List.setIfInBounds_toArray, List.set_cons_zero, List.set_cons_succ])
      first | (refine anyT_take 22 (some 144) (v := ?_) rfl rfl (by kernel_rfl) (by kernel_rfl) (by kernel_rfl) (by kernel_rfl) (fun _ _ _ h => h) (Or.inl ⟨by rfl, ?_⟩) hHeld ?_; rotate_left; focus (intro wq hSw; obtain ⟨k2, ⟨c7, f7, l7⟩, _⟩ := hSw; unfold ForgeV.cells at k2; obtain ⟨c2, f2, l2⟩ := k2; go_simp; (try with_reducible rfl); done))
      (try simp only [Act.put, List.setIfInBounds_toArray, List.set_cons_zero, List.set_cons_succ])
      refine anyT_done (by kernel_rfl) ?_ _
      obtain ⟨_, ⟨c7, f7, l7⟩, ⟨c10, f10, l10⟩, ⟨c13, f13, l13⟩, hbl, hM⟩ := hHeld
      clear Kr K7 K10 K13 Hr HMr
      have HM := Lib.hid hM
      have Hbl := Lib.hid hbl
      clear hM hbl
      have z1 : IntKind.i64.wrap (a0 + b0) = a0 + b0 := wrap_in (by omega) (by omega)
      have z2 : IntKind.i64.wrap (a1 + b1) = a1 + b1 := wrap_in (by omega) (by omega)
      go_upto_region 13 with (fail)
      clear v1 v2 v3 v4 v5 v6 v7 vz
      rcases Int.lt_or_le a0 b0 with m1 | m1 <;> rcases Int.lt_or_le a1 b1 with m2 | m2
      all_goals
        go_wp2_with fail
        refine (works_calls _ HM.out).mono ?_
        rintro e w12 ⟨rfl, hb⟩
        go_wp2
        go_ret
        exact ⟨rfl, below_then Hbl.out Hbl.out.size hb⟩
    · clear v1 v2 v3 v4 v5 v6 v7 vz
      have HM := Lib.hid HMr.out
      have Hbl := Lib.hid Hr.out
      have z1 : IntKind.i64.wrap (a0 + b0) = a0 + b0 := wrap_in (by omega) (by omega)
      have z2 : IntKind.i64.wrap (a1 + b1) = a1 + b1 := wrap_in (by omega) (by omega)
      clear HMr Hr
      have h0 : i = 0 := by omega
      subst h0
      go_quiet (fail)
      have hbq : Below x3.heap.size x3 (x3.drewN nq) := below_drewN (Below.refl _ _) nq
      replace HM := Lib.hid (HM.out.below hbq)
      replace Hbl := Lib.hid (below_then Hbl.out Hbl.out.size hbq)
      replace K7 := Lib.hid (K7.out.below hbq)
      replace K10 := Lib.hid (K10.out.below hbq)
      replace K13 := Lib.hid (K13.out.below hbq)
      clear hbq c2 f2 l2
      generalize x3.drewN nq = x4 at *
      obtain ⟨c7, f7, l7⟩ := K7.out
      obtain ⟨c10, f10, l10⟩ := K10.out
      obtain ⟨c13, f13, l13⟩ := K13.out
      go_upto_region 13 with (fail)
      rcases Int.lt_or_le a0 b0 with m1 | m1 <;> rcases Int.lt_or_le a1 b1 with m2 | m2
      all_goals try (exfalso; omega)
      all_goals
        go_wp2_with fail
        refine (works_calls _ HM.out).mono ?_
        rintro e w12 ⟨rfl, hb⟩
        go_wp2
        go_ret
        exact ⟨rfl, below_then Hbl.out Hbl.out.size hb⟩
end
end Go.Proofs.YtgfbfbfajnfbjaaDoor
