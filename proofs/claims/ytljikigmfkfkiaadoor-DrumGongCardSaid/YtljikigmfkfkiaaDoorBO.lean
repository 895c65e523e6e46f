import Derived.Test.YtljikigmfkfkiaaDoorBN
namespace Go.Proofs.YtljikigmfkfkiaaDoor
open Go.RowKit Go.Shelf
attribute [local go_sem] Oper.semAt_some
set_option linter.unusedSimpArgs false
set_option linter.unusedVariables false

set_option maxRecDepth 100000 in
set_option maxHeartbeats 8000000 in
theorem DrumGong_calls (B : BookV) (A : Option Addr) (c : Nat) (bits : List Int) (w : World) (hB : B.Reads w) (hp : IntsAt w A bits) (hM : MarksAt w) :
    Calls Tryd.prog 7 #[B.val, .slice A bits.length c] w fun e w' => e = .returned (.bool true) ∧ Below w.heap.size w w' := by
  have HB := Lib.hid hB
  have HP := Lib.hid hp
  have HM := Lib.hid hM
  have H : Below w.heap.size w (w.alloc (.cells B.cells 27)) := (Below.refl _ _).alloc (Nat.le_refl _) _
  have k2 := BoxAt.new w B.cells 27
  clear hB hp hM
  unfold BookV.val BookV.cells
  go_enter Tryd.func7, Tryd.ntmps7
  go_upto_region 1 with (fail)
  unfold BookV.cells at H k2
  generalize w.alloc _ = w0 at *
  have K2 := Lib.hid k2
  obtain ⟨c2, f2, l2⟩ := k2
  go_wp2_with fail
  refine (eq0_1 (v' := B.val) (by unfold BookV.val BookV.cells; rfl) (Plan_calls B _ (HB.out.below H) (HM.out.below H))).mono ?_
  rintro e w1 ⟨hR, hb⟩
  replace H := below_then H H.size hb
  replace K2 := Lib.hid (K2.out.below hb)
  clear hb c2 f2 l2
  have hpR : plansR B = .tuple #[.int .i64 (bif goodB B then (allPlans B).length else 0), .int .i64 (bif goodB B then 0 else 80)] := by unfold plansR; cases goodB B <;> rfl
  have HpR := Lib.hid hpR
  clear hpR
  rcases hR with ⟨hg, rfl⟩ | ⟨hg, hbest, rfl⟩ | ⟨hg, q, A1, hbest, rfl, hqi⟩
  · have Hg := Lib.hid hg
    clear hg
    obtain ⟨c2, f2, l2⟩ := K2.out
    go_wp2_with fail
    refine (eq0_1 (v' := B.val) (by unfold BookV.val BookV.cells; rfl) (Plans_calls B _ (HB.out.below H) (HM.out.below H))).mono ?_
    rintro e w2 ⟨rfl, hb⟩
    rw [HpR.out, Hg.out, cond_false, cond_false]
    replace H := below_then H H.size hb
    replace K2 := Lib.hid (K2.out.below hb)
    clear hb c2 f2 l2
    obtain ⟨c2, f2, l2⟩ := K2.out
    go_wp2_with fail
    refine (eq0_1 (v' := B.val) (by unfold BookV.val BookV.cells; rfl) (sound_calls B _ (HB.out.below H))).mono ?_
    rintro e w3 ⟨rfl, hb⟩
    rw [Hg.out]
    have HH := Lib.hid (below_then H H.size hb)
    clear hb H c2 f2 l2
    go_wp2_with fail
    refine (works_calls _ (HM.out.below HH.out)).mono ?_
    rintro e w4 ⟨rfl, hb⟩
    have hfin := below_then HH.out HH.out.size hb
    clear hb
    go_wp2
    go_ret
    exact ⟨rfl, hfin⟩
  · have Hg := Lib.hid hg
    have hnil := best_none hbest
    have hl0 : (allPlans B).length = 0 := by rw [hnil]; rfl
    have Hl0 := Lib.hid hl0
    clear hg hbest hnil hl0
    obtain ⟨c2, f2, l2⟩ := K2.out
    go_wp2_with fail
    refine (eq0_1 (v' := B.val) (by unfold BookV.val BookV.cells; rfl) (Plans_calls B _ (HB.out.below H) (HM.out.below H))).mono ?_
    rintro e w2 ⟨rfl, hb⟩
    rw [HpR.out, Hg.out, cond_true, cond_true, Hl0.out]
    replace H := below_then H H.size hb
    replace K2 := Lib.hid (K2.out.below hb)
    clear hb c2 f2 l2
    obtain ⟨c2, f2, l2⟩ := K2.out
    go_wp2_with fail
    refine (eq0_1 (v' := B.val) (by unfold BookV.val BookV.cells; rfl) (sound_calls B _ (HB.out.below H))).mono ?_
    rintro e w3 ⟨rfl, hb⟩
    rw [Hg.out]
    have HH := Lib.hid (below_then H H.size hb)
    clear hb H c2 f2 l2
    go_wp2_with fail
    refine (works_calls _ (HM.out.below HH.out)).mono ?_
    rintro e w4 ⟨rfl, hb⟩
    have hfin := below_then HH.out HH.out.size hb
    clear hb
    go_wp2
    go_ret
    exact ⟨rfl, hfin⟩
  · have Hg := Lib.hid hg
    have g := Lib.hid ((goodB_iff B).1 hg)
    have hinv := best_inv B
    rw [hbest] at hinv
    obtain ⟨hqm, _⟩ := hinv
    obtain ⟨ip, hisP⟩ := allPlans_mem g.out hqm
    obtain ⟨he1, he2, he3, he4⟩ := plan_end g.out ip hisP
    have hn1 : 0 < (allPlans B).length := List.length_pos_of_mem hqm
    have hn2 := allPlans_len g.out
    obtain ⟨np, hnp⟩ : ∃ np : Nat, (allPlans B).length = np := ⟨_, rfl⟩
    rw [hnp] at hn1 hn2
    have Hnp := Lib.hid hnp
    have Hip := Lib.hid ip
    have HisP := Lib.hid hisP
    have He4 := Lib.hid he4
    have Hqi := Lib.hid hqi
    have Hbd := Lib.hid (timeTo_bd g.out ip q.length)
    have hql : q.length ≤ 8 ∧ 0 < q.length := by have := ip.len; have := g.out.parts; omega
    obtain ⟨pm, hpm⟩ : ∃ pm, q.length = pm + 1 := ⟨q.length - 1, by omega⟩
    rw [show q.length - 1 = pm by omega] at he1
    have Hpm := Lib.hid hpm
    have hwl : IntKind.i64.wrap ((q.length : Int) - 1) = (pm : Int) := by rw [show (q.length : Int) - 1 = pm by omega]; exact wrap_in (by omega) (by omega)
    have hpi : (pm : Int) < q.length := by omega
    have hend : (gi q pm != B.fin) = false := by rw [bne_eq_false_iff_eq]; exact he1
    have hnn : decide ((np : Int) < 1) = false := by rw [decide_eq_false_iff_not]; omega
    have hnn2 : ¬ np < 1 := by omega
    have hnn3 : ¬ np = 0 := by omega
    clear hg hbest hqm ip hisP he1 he4 hqi hnp hpm
    obtain ⟨b1, o1, rfl⟩ := Hqi.out.some_ (by omega)
    obtain ⟨c2, f2, l2⟩ := K2.out
    go_wp2_with fail
    refine (eq0_1 (v' := B.val) (by unfold BookV.val BookV.cells; rfl) (Plans_calls B _ (HB.out.below H) (HM.out.below H))).mono ?_
    rintro e w2 ⟨rfl, hb⟩
    rw [HpR.out, Hg.out, cond_true, cond_true, Hnp.out]
    replace H := below_then H H.size hb
    replace K2 := Lib.hid (K2.out.below hb)
    replace Hqi := Lib.hid (Hqi.out.below hb)
    clear hb c2 f2 l2
    obtain ⟨c2, f2, l2⟩ := K2.out
    go_wp2_with fail
    refine (eq0_1 (v' := B.val) (by unfold BookV.val BookV.cells; rfl) (sound_calls B _ (HB.out.below H))).mono ?_
    rintro e w3 ⟨rfl, hb⟩
    rw [Hg.out]
    have H3 := Lib.hid (below_then H H.size hb)
    replace K2 := Lib.hid (K2.out.below hb)
    replace Hqi := Lib.hid (Hqi.out.below hb)
    clear hb H c2 f2 l2
    obtain ⟨c2, f2, l2⟩ := K2.out
    have hck := Hqi.out.at_ (show pm < q.length by have := Hpm.out; omega)
    have bk := World.block_lt_of_cell? _ _ hck
    simp only at bk
    go_upto_region 7 with (fail)
    refine region_plain (S := fun w' => Below w3.heap.size w3 w') 32 (by kernel_rfl) ?_ (fun hHeld => ?_)
    · exact (Below.refl _ _).drew
    first | (refine anyT_take 0 (some 67) (v := ?_) rfl rfl (by kernel_rfl) (by kernel_rfl) (by kernel_rfl) (by kernel_rfl) (fun _ _ _ h => h) (Or.inl ⟨by rfl, ?_⟩) hHeld ?_; rotate_left; focus (intro wq hSw; obtain ⟨hcq, hfq⟩ := bcell hSw; go_simp; (try with_reducible rfl); done))
    (try simp only [Act.put, List.setIfInBounds_toArray, List.set_cons_zero, List.set_cons_succ])
    first | (refine anyT_take 1 (some 68) (v := ?_) rfl rfl (by kernel_rfl) (by kernel_rfl) (by kernel_rfl) (by kernel_rfl) (fun _ _ _ h => h) (Or.inl ⟨by rfl, ?_⟩) hHeld ?_; rotate_left; focus (intro wq hSw; obtain ⟨hcq, hfq⟩ := bcell hSw; go_simp; (try with_reducible rfl); done))
    (try simp only [Act.put, List.setIfInBounds_toArray, List.set_cons_zero, List.set_cons_succ])
    first | (refine anyT_take 2 (some 69) (v := ?_) rfl rfl (by kernel_rfl) (by kernel_rfl) (by kernel_rfl) (by kernel_rfl) (fun _ _ _ h => h) (Or.inl ⟨by rfl, ?_⟩) hHeld ?_; rotate_left; focus (intro wq hSw; obtain ⟨hcq, hfq⟩ := bcell hSw; go_simp; (try with_reducible rfl); done))
    (try simp only [Act.put, List.setIfInBounds_toArray, List.set_cons_zero, List.set_cons_succ])
    first | (refine anyT_take 3 (some 70) rfl rfl (by kernel_rfl) (by kernel_rfl) (by kernel_rfl) (by kernel_rfl) (fun _ _ _ h => h) (Or.inr ⟨by rfl, rfl⟩) hHeld ?_) | (refine anyT_take 3 (some 70) (v := ?_) rfl rfl (by kernel_rfl) (by kernel_rfl) (by kernel_rfl) (by kernel_rfl) (fun _ _ _ h => h) (Or.inl ⟨by rfl, ?_⟩) hHeld ?_; rotate_left; focus (intro wq hSw; obtain ⟨hcq, hfq⟩ := bcell hSw; go_simp; (try with_reducible rfl); done))
    (try simp only [Act.put, List.setIfInBounds_toArray, List.set_cons_zero, List.set_cons_succ])
    first | (refine anyT_take 4 (some 71) rfl rfl (by kernel_rfl) (by kernel_rfl) (by kernel_rfl) (by kernel_rfl) (fun _ _ _ h => h) (Or.inr ⟨by rfl, rfl⟩) hHeld ?_) | (refine anyT_take 4 (some 71) (v := ?_) rfl rfl (by kernel_rfl) (by kernel_rfl) (by kernel_rfl) (by kernel_rfl) (fun _ _ _ h => h) (Or.inl ⟨by rfl, ?_⟩) hHeld ?_; rotate_left; focus (intro wq hSw; obtain ⟨hcq, hfq⟩ := bcell hSw; go_simp; (try with_reducible rfl); done))
    (try simp only [Act.put, List.setIfInBounds_toArray, List.set_cons_zero, List.set_cons_succ])
    first | (refine anyT_take 5 (some 72) (v := ?_) rfl rfl (by kernel_rfl) (by kernel_rfl) (by kernel_rfl) (by kernel_rfl) (fun _ _ _ h => h) (Or.inl ⟨by rfl, ?_⟩) hHeld ?_; rotate_left; focus (intro wq hSw; obtain ⟨hcq, hfq⟩ := bcell hSw; go_simp; (try with_reducible rfl); done))
    (try simp only [Act.put, List.setIfInBounds_toArray, List.set_cons_zero, List.set_cons_succ])
    first | (refine anyT_take 6 (some 73) (v := ?_) rfl rfl (by kernel_rfl) (by kernel_rfl) (by kernel_rfl) (by kernel_rfl) (fun _ _ _ h => h) (Or.inl ⟨by rfl, ?_⟩) hHeld ?_; rotate_left; focus (intro wq hSw; obtain ⟨hcq, hfq⟩ := bcell hSw; go_simp; (try with_reducible rfl); done))
    (try simp only [Act.put, List.setIfInBounds_toArray, List.set_cons_zero, List.set_cons_succ])
    first | (refine anyT_take 7 (some 74) rfl rfl (by kernel_rfl) (by kernel_rfl) (by kernel_rfl) (by kernel_rfl) (fun _ _ _ h => h) (Or.inr ⟨by rfl, rfl⟩) hHeld ?_) | (refine anyT_take 7 (some 74) (v := ?_) rfl rfl (by kernel_rfl) (by kernel_rfl) (by kernel_rfl) (by kernel_rfl) (fun _ _ _ h => h) (Or.inl ⟨by rfl, ?_⟩) hHeld ?_; rotate_left; focus (intro wq hSw; obtain ⟨hcq, hfq⟩ := bcell hSw; go_simp; (try with_reducible rfl); done))
    (try simp only [Act.put, List.setIfInBounds_toArray, List.set_cons_zero, List.set_cons_succ])
    first | (refine anyT_take 8 (some 75) rfl rfl (by kernel_rfl) (by kernel_rfl) (by kernel_rfl) (by kernel_rfl) (fun _ _ _ h => h) (Or.inr ⟨by rfl, rfl⟩) hHeld ?_) | (refine anyT_take 8 (some 75) (v := ?_) rfl rfl (by kernel_rfl) (by kernel_rfl) (by kernel_rfl) (by kernel_rfl) (fun _ _ _ h => h) (Or.inl ⟨by rfl, ?_⟩) hHeld ?_; rotate_left; focus (intro wq hSw; obtain ⟨hcq, hfq⟩ := bcell hSw; go_simp; (try with_reducible rfl); done))
    (try simp only [Act.put, List.setIfInBounds_toArray, List.set_cons_zero, List.set_cons_succ])
    refine anyT_one 9 (by kernel_rfl) rfl (fun K hK => ?_)
    have hbq : Below w.heap.size w _ := below_then H3.out H3.out.size hHeld
    go_simp
    refine (eq0_2 (v' := B.val) (by unfold BookV.val BookV.cells; rfl) (lawIsPath_true B g.out _ q.length q Hip.out _ (Hqi.out.below hHeld))).mono ?_; clear hbq; rintro e w4 ⟨rfl, hb4⟩
    refine hK.out _ _ ?_ (fun hHeld => ?_)
    · exact below_then hHeld hHeld.size hb4
    clear hK K
    (try simp only [Act.put, List.setIfInBounds_toArray, List.set_cons_zero, List.set_cons_succ])
    first | (refine anyT_take 10 (some 77) rfl rfl (by kernel_rfl) (by kernel_rfl) (by kernel_rfl) (by kernel_rfl) (fun _ _ _ h => h) (Or.inr ⟨by rfl, rfl⟩) hHeld ?_) | (refine anyT_take 10 (some 77) (v := ?_) rfl rfl (by kernel_rfl) (by kernel_rfl) (by kernel_rfl) (by kernel_rfl) (fun _ _ _ h => h) (Or.inl ⟨by rfl, ?_⟩) hHeld ?_; rotate_left; focus (intro wq hSw; obtain ⟨hcq, hfq⟩ := bcell hSw; go_simp; (try with_reducible rfl); done))
    (try simp only [Act.put, List.setIfInBounds_toArray, List.set_cons_zero, List.set_cons_succ])
    first | (refine anyT_take 11 (some 78) (v := ?_) rfl rfl (by kernel_rfl) (by kernel_rfl) (by kernel_rfl) (by kernel_rfl) (fun _ _ _ h => h) (Or.inl ⟨by rfl, ?_⟩) hHeld ?_; rotate_left; focus (intro wq hSw; obtain ⟨hcq, hfq⟩ := bcell hSw; go_simp; (try with_reducible rfl); done))
    (try simp only [Act.put, List.setIfInBounds_toArray, List.set_cons_zero, List.set_cons_succ])
    first | (refine anyT_take 12 (some 79) (v := ?_) rfl rfl (by kernel_rfl) (by kernel_rfl) (by kernel_rfl) (by kernel_rfl) (fun _ _ _ h => h) (Or.inl ⟨by rfl, ?_⟩) hHeld ?_; rotate_left; focus (intro wq hSw; obtain ⟨hcq, hfq⟩ := bcell hSw; go_simp; (try with_reducible rfl); done))
    (try simp only [Act.put, List.setIfInBounds_toArray, List.set_cons_zero, List.set_cons_succ])
    first | (refine anyT_take 13 (some 80) rfl rfl (by kernel_rfl) (by kernel_rfl) (by kernel_rfl) (by kernel_rfl) (fun _ _ _ h => h) (Or.inr ⟨by rfl, rfl⟩) hHeld ?_) | (refine anyT_take 13 (some 80) (v := ?_) rfl rfl (by kernel_rfl) (by kernel_rfl) (by kernel_rfl) (by kernel_rfl) (fun _ _ _ h => h) (Or.inl ⟨by rfl, ?_⟩) hHeld ?_; rotate_left; focus (intro wq hSw; obtain ⟨hcq, hfq⟩ := bcell hSw; go_simp; (try with_reducible rfl); done))
    (try simp only [Act.put, List.setIfInBounds_toArray, List.set_cons_zero, List.set_cons_succ])
    first | (refine anyT_take 14 (some 81) rfl rfl (by kernel_rfl) (by kernel_rfl) (by kernel_rfl) (by kernel_rfl) (fun _ _ _ h => h) (Or.inr ⟨by rfl, rfl⟩) hHeld ?_) | (refine anyT_take 14 (some 81) (v := ?_) rfl rfl (by kernel_rfl) (by kernel_rfl) (by kernel_rfl) (by kernel_rfl) (fun _ _ _ h => h) (Or.inl ⟨by rfl, ?_⟩) hHeld ?_; rotate_left; focus (intro wq hSw; obtain ⟨hcq, hfq⟩ := bcell hSw; go_simp; (try with_reducible rfl); done))
    (try simp only [Act.put, List.setIfInBounds_toArray, List.set_cons_zero, List.set_cons_succ])
    first | (refine anyT_take 15 (some 82) rfl rfl (by kernel_rfl) (by kernel_rfl) (by kernel_rfl) (by kernel_rfl) (fun _ _ _ h => h) (Or.inr ⟨by rfl, rfl⟩) hHeld ?_) | (refine anyT_take 15 (some 82) (v := ?_) rfl rfl (by kernel_rfl) (by kernel_rfl) (by kernel_rfl) (by kernel_rfl) (fun _ _ _ h => h) (Or.inl ⟨by rfl, ?_⟩) hHeld ?_; rotate_left; focus (intro wq hSw; obtain ⟨hcq, hfq⟩ := bcell hSw; go_simp; (try with_reducible rfl); done))
    (try simp only [Act.put, List.setIfInBounds_toArray, List.set_cons_zero, List.set_cons_succ])
    first | (refine anyT_take 16 (some 83) rfl rfl (by kernel_rfl) (by kernel_rfl) (by kernel_rfl) (by kernel_rfl) (fun _ _ _ h => h) (Or.inr ⟨by rfl, rfl⟩) hHeld ?_) | (refine anyT_take 16 (some 83) (v := ?_) rfl rfl (by kernel_rfl) (by kernel_rfl) (by kernel_rfl) (by kernel_rfl) (fun _ _ _ h => h) (Or.inl ⟨by rfl, ?_⟩) hHeld ?_; rotate_left; focus (intro wq hSw; obtain ⟨hcq, hfq⟩ := bcell hSw; go_simp; (try with_reducible rfl); done))
    (try simp only [Act.put, List.setIfInBounds_toArray, List.set_cons_zero, List.set_cons_succ])
    first | (refine anyT_take 17 (some 84) rfl rfl (by kernel_rfl) (by kernel_rfl) (by kernel_rfl) (by kernel_rfl) (fun _ _ _ h => h) (Or.inr ⟨by rfl, rfl⟩) hHeld ?_) | (refine anyT_take 17 (some 84) (v := ?_) rfl rfl (by kernel_rfl) (by kernel_rfl) (by kernel_rfl) (by kernel_rfl) (fun _ _ _ h => h) (Or.inl ⟨by rfl, ?_⟩) hHeld ?_; rotate_left; focus (intro wq hSw; obtain ⟨hcq, hfq⟩ := bcell hSw; go_simp; (try with_reducible rfl); done))
    (try simp only [Act.put, List.setIfInBounds_toArray, List.set_cons_zero, List.set_cons_succ])
    first | (refine anyT_take 18 (some 85) rfl rfl (by kernel_rfl) (by kernel_rfl) (by kernel_rfl) (by kernel_rfl) (fun _ _ _ h => h) (Or.inr ⟨by rfl, rfl⟩) hHeld ?_) | (refine anyT_take 18 (some 85) (v := ?_) rfl rfl (by kernel_rfl) (by kernel_rfl) (by kernel_rfl) (by kernel_rfl) (fun _ _ _ h => h) (Or.inl ⟨by rfl, ?_⟩) hHeld ?_; rotate_left; focus (intro wq hSw; obtain ⟨hcq, hfq⟩ := bcell hSw; go_simp; (try with_reducible rfl); done))
    (try simp only [Act.put, List.setIfInBounds_toArray, List.set_cons_zero, List.set_cons_succ])
    first | (refine anyT_take 19 (some 86) rfl rfl (by kernel_rfl) (by kernel_rfl) (by kernel_rfl) (by kernel_rfl) (fun _ _ _ h => h) (Or.inr ⟨by rfl, rfl⟩) hHeld ?_) | (refine anyT_take 19 (some 86) (v := ?_) rfl rfl (by kernel_rfl) (by kernel_rfl) (by kernel_rfl) (by kernel_rfl) (fun _ _ _ h => h) (Or.inl ⟨by rfl, ?_⟩) hHeld ?_; rotate_left; focus (intro wq hSw; obtain ⟨hcq, hfq⟩ := bcell hSw; go_simp; (try with_reducible rfl); done))
    (try simp only [Act.put, List.setIfInBounds_toArray, List.set_cons_zero, List.set_cons_succ])
    first | (refine anyT_take 20 (some 87) rfl rfl (by kernel_rfl) (by kernel_rfl) (by kernel_rfl) (by kernel_rfl) (fun _ _ _ h => h) (Or.inr ⟨by rfl, rfl⟩) hHeld ?_) | (refine anyT_take 20 (some 87) (v := ?_) rfl rfl (by kernel_rfl) (by kernel_rfl) (by kernel_rfl) (by kernel_rfl) (fun _ _ _ h => h) (Or.inl ⟨by rfl, ?_⟩) hHeld ?_; rotate_left; focus (intro wq hSw; obtain ⟨hcq, hfq⟩ := bcell hSw; go_simp; (try with_reducible rfl); done))
    (try simp only [Act.put, List.setIfInBounds_toArray, List.set_cons_zero, List.set_cons_succ])
    first | (refine anyT_take 21 (some 88) rfl rfl (by kernel_rfl) (by kernel_rfl) (by kernel_rfl) (by kernel_rfl) (fun _ _ _ h => h) (Or.inr ⟨by rfl, rfl⟩) hHeld ?_) | (refine anyT_take 21 (some 88) (v := ?_) rfl rfl (by kernel_rfl) (by kernel_rfl) (by kernel_rfl) (by kernel_rfl) (fun _ _ _ h => h) (Or.inl ⟨by rfl, ?_⟩) hHeld ?_; rotate_left; focus (intro wq hSw; obtain ⟨hcq, hfq⟩ := bcell hSw; go_simp; (try with_reducible rfl); done))
    (try simp only [Act.put, List.setIfInBounds_toArray, List.set_cons_zero, List.set_cons_succ])
    first | (refine anyT_take 22 (some 89) (v := ?_) rfl rfl (by kernel_rfl) (by kernel_rfl) (by kernel_rfl) (by kernel_rfl) (fun _ _ _ h => h) (Or.inl ⟨by rfl, ?_⟩) hHeld ?_; rotate_left; focus (intro wq hSw; obtain ⟨hcq, hfq⟩ := bcell hSw; go_simp; (try with_reducible rfl); done))
    (try simp only [Act.put, List.setIfInBounds_toArray, List.set_cons_zero, List.set_cons_succ])
    first | (refine anyT_take 23 (some 90) (v := ?_) rfl rfl (by kernel_rfl) (by kernel_rfl) (by kernel_rfl) (by kernel_rfl) (fun _ _ _ h => h) (Or.inl ⟨by rfl, ?_⟩) hHeld ?_; rotate_left; focus (intro wq hSw; obtain ⟨hcq, hfq⟩ := bcell hSw; go_simp; (try with_reducible rfl); done))
    (try simp only [Act.put, List.setIfInBounds_toArray, List.set_cons_zero, List.set_cons_succ])
    first | (refine anyT_take 24 (some 91) rfl rfl (by kernel_rfl) (by kernel_rfl) (by kernel_rfl) (by kernel_rfl) (fun _ _ _ h => h) (Or.inr ⟨by rfl, rfl⟩) hHeld ?_) | (refine anyT_take 24 (some 91) (v := ?_) rfl rfl (by kernel_rfl) (by kernel_rfl) (by kernel_rfl) (by kernel_rfl) (fun _ _ _ h => h) (Or.inl ⟨by rfl, ?_⟩) hHeld ?_; rotate_left; focus (intro wq hSw; obtain ⟨hcq, hfq⟩ := bcell hSw; go_simp; (try with_reducible rfl); done))
    (try simp only [Act.put, List.setIfInBounds_toArray, List.set_cons_zero, List.set_cons_succ])
    first | (refine anyT_take 25 (some 92) rfl rfl (by kernel_rfl) (by kernel_rfl) (by kernel_rfl) (by kernel_rfl) (fun _ _ _ h => h) (Or.inr ⟨by rfl, rfl⟩) hHeld ?_) | (refine anyT_take 25 (some 92) (v := ?_) rfl rfl (by kernel_rfl) (by kernel_rfl) (by kernel_rfl) (by kernel_rfl) (fun _ _ _ h => h) (Or.inl ⟨by rfl, ?_⟩) hHeld ?_; rotate_left; focus (intro wq hSw; obtain ⟨hcq, hfq⟩ := bcell hSw; go_simp; (try with_reducible rfl); done))
    (try simp only [Act.put, List.setIfInBounds_toArray, List.set_cons_zero, List.set_cons_succ])
    first | (refine anyT_take 26 (some 93) rfl rfl (by kernel_rfl) (by kernel_rfl) (by kernel_rfl) (by kernel_rfl) (fun _ _ _ h => h) (Or.inr ⟨by rfl, rfl⟩) hHeld ?_) | (refine anyT_take 26 (some 93) (v := ?_) rfl rfl (by kernel_rfl) (by kernel_rfl) (by kernel_rfl) (by kernel_rfl) (fun _ _ _ h => h) (Or.inl ⟨by rfl, ?_⟩) hHeld ?_; rotate_left; focus (intro wq hSw; obtain ⟨hcq, hfq⟩ := bcell hSw; go_simp; (try with_reducible rfl); done))
    (try simp only [Act.put, List.setIfInBounds_toArray, List.set_cons_zero, List.set_cons_succ])
    first | (refine anyT_take 27 (some 94) rfl rfl (by kernel_rfl) (by kernel_rfl) (by kernel_rfl) (by kernel_rfl) (fun _ _ _ h => h) (Or.inr ⟨by rfl, rfl⟩) hHeld ?_) | (refine anyT_take 27 (some 94) (v := ?_) rfl rfl (by kernel_rfl) (by kernel_rfl) (by kernel_rfl) (by kernel_rfl) (fun _ _ _ h => h) (Or.inl ⟨by rfl, ?_⟩) hHeld ?_; rotate_left; focus (intro wq hSw; obtain ⟨hcq, hfq⟩ := bcell hSw; go_simp; (try with_reducible rfl); done))
    (try simp only [Act.put, List.setIfInBounds_toArray, List.set_cons_zero, List.set_cons_succ])
    refine anyT_one 28 (by kernel_rfl) rfl (fun K hK => ?_)
    have hbq : Below w.heap.size w _ := below_then H3.out H3.out.size hHeld
    go_simp
    refine (eq0_2 (v' := B.val) (by unfold BookV.val BookV.cells; rfl) (lawLasts_calls B g.out _ q.length q Hip.out _ (Hqi.out.below hHeld) (HB.out.1.below hbq))).mono ?_; clear hbq; rintro e w5 ⟨rfl, hb5⟩
    refine hK.out _ _ ?_ (fun hHeld => ?_)
    · exact below_then hHeld hHeld.size hb5
    clear hK K
    (try simp only [Act.put, List.setIfInBounds_toArray, List.set_cons_zero, List.set_cons_succ])
    refine anyT_one 29 (by kernel_rfl) rfl (fun K hK => ?_)
    go_simp
    refine (Bears_calls _ _ _ _).mono ?_; rintro e w6 ⟨rfl, hb6⟩; rw [he2]
    refine hK.out _ _ ?_ (fun hHeld => ?_)
    · exact below_then hHeld hHeld.size hb6
    clear hK K
    (try simp only [Act.put, List.setIfInBounds_toArray, List.set_cons_zero, List.set_cons_succ])
    first | (refine anyT_take 30 (some 97) rfl rfl (by kernel_rfl) (by kernel_rfl) (by kernel_rfl) (by kernel_rfl) (fun _ _ _ h => h) (Or.inr ⟨by rfl, rfl⟩) hHeld ?_) | (refine anyT_take 30 (some 97) (v := ?_) rfl rfl (by kernel_rfl) (by kernel_rfl) (by kernel_rfl) (by kernel_rfl) (fun _ _ _ h => h) (Or.inl ⟨by rfl, ?_⟩) hHeld ?_; rotate_left; focus (intro wq hSw; obtain ⟨hcq, hfq⟩ := bcell hSw; go_simp; (try with_reducible rfl); done))
    (try simp only [Act.put, List.setIfInBounds_toArray, List.set_cons_zero, List.set_cons_succ])
    first | (refine anyT_take 31 (some 98) (v := ?_) rfl rfl (by kernel_rfl) (by kernel_rfl) (by kernel_rfl) (by kernel_rfl) (fun _ _ _ h => h) (Or.inl ⟨by rfl, ?_⟩) hHeld ?_; rotate_left; focus (intro wq hSw; obtain ⟨hcq, hfq⟩ := bcell hSw; go_simp; (try with_reducible rfl); done))
    (try simp only [Act.put, List.setIfInBounds_toArray, List.set_cons_zero, List.set_cons_succ])
    refine anyT_done (by kernel_rfl) ?_ _
    have H6 := Lib.hid (below_then H3.out H3.out.size hHeld)
    replace K2 := Lib.hid (K2.out.below hHeld)
    replace Hqi := Lib.hid (Hqi.out.below hHeld)
    clear hHeld c2 f2 l2 hck bk hend hnn hnn2 hnn3 hwl hpi
    obtain ⟨c2, f2, l2⟩ := K2.out
    -- Time, IsPlan, Last
    have htR : timeR B q = .tuple #[.int .i64 (timeTo B q q.length), .int .i64 0] := by unfold timeR; rw [Hg.out, (isPathS_iff g.out q).2 Hip.out]; rfl
    have hiR : isPlanR B q = .tuple #[.bool true, .int .i64 0] := by unfold isPlanR; rw [Hg.out, (isPathS_iff g.out q).2 Hip.out, HisP.out]; rfl
    go_wp2_with fail
    refine (eq0_2 (v' := B.val) (by unfold BookV.val BookV.cells; rfl) (Time_calls B _ q.length q _ (HB.out.below H6.out) Hqi.out)).mono ?_
    rintro e w7 ⟨rfl, hb⟩
    rw [htR]
    have H7 := Lib.hid (below_then H6.out H6.out.size hb)
    replace K2 := Lib.hid (K2.out.below hb)
    replace Hqi := Lib.hid (Hqi.out.below hb)
    clear hb c2 f2 l2 htR
    obtain ⟨c2, f2, l2⟩ := K2.out
    go_wp2_with fail
    refine (eq0_2 (v' := B.val) (by unfold BookV.val BookV.cells; rfl) (IsPlan_calls B _ q.length q _ (HB.out.below H7.out) Hqi.out (HM.out.below H7.out))).mono ?_
    rintro e w8 ⟨rfl, hb⟩
    rw [hiR]
    have H8 := Lib.hid (below_then H7.out H7.out.size hb)
    replace K2 := Lib.hid (K2.out.below hb)
    replace Hqi := Lib.hid (Hqi.out.below hb)
    clear hb c2 f2 l2 hiR
    obtain ⟨c2, f2, l2⟩ := K2.out
    go_wp2_with fail
    refine (eq0_2 (v' := B.val) (by unfold BookV.val BookV.cells; rfl) (Last_calls B _ q.length q _ (HB.out.below H8.out) Hqi.out (HM.out.below H8.out))).mono ?_
    rintro e w9 ⟨hR, hb⟩
    obtain ⟨A9, cc9, rfl⟩ : ∃ A c4, e = .returned (.tuple #[.slice A 0 c4, .int .i64 0]) := by
      rcases hR with ⟨h, _⟩ | ⟨_, h, _⟩ | ⟨_, _, A, rfl, hi⟩
      · rw [Hg.out] at h; cases h
      · rw [(isPathS_iff g.out q).2 Hip.out] at h; cases h
      · rw [he3]; exact ⟨A, _, rfl⟩
    have H9 := Lib.hid (below_then H8.out H8.out.size hb)
    replace K2 := Lib.hid (K2.out.below hb)
    replace Hqi := Lib.hid (Hqi.out.below hb)
    clear hb c2 f2 l2 hR
    obtain ⟨c2, f2, l2⟩ := K2.out
    go_wp2_with fail
    refine (eq0_2 (v' := B.val) (by unfold BookV.val BookV.cells; rfl) (lawLasts_calls B g.out _ q.length q Hip.out _ Hqi.out (HB.out.1.below H9.out))).mono ?_
    rintro e w10 ⟨rfl, hb⟩
    have H10 := Lib.hid (below_then H9.out H9.out.size hb)
    have K210 := Lib.hid (K2.out.below hb)
    have Hqi10 := Lib.hid (Hqi.out.below hb)
    clear hb c2 f2 l2
    generalize timeTo B q q.length = tt at *
    obtain ⟨c2, f2, l2⟩ := K210.out
    have hpll := HB.out.2.1
    have hmany := g.out.many
    have hps := parts_size g.out
    go_upto_block 0 with (fail)
    clear c2 f2 l2
    go_wp2
    go_loopg [13] B.players.length (fun gk i wr => ∃ k : Nat, k ≤ B.players.length ∧ gk = B.players.length - k ∧ i = .int .i64 k ∧ Below w10.heap.size w10 wr)
    case atStart => exact ⟨0, Nat.zero_le _, rfl, rfl, Below.refl _ _⟩
    case round =>
      obtain ⟨k, hk, hgk, rfl, hbe⟩ := hrel
      have Hgk := Lib.hid hgk
      have Hbe := Lib.hid hbe
      have HW := Lib.hid (below_then H10.out H10.out.size hbe)
      obtain ⟨c2, f2, l2⟩ := K210.out.below hbe
      clear hgk hbe
      by_cases hlt : k < B.players.length
      · have hki : (k : Int) < B.players.length := by omega
        have Hlt := Lib.hid hlt
        clear hlt
        go_wp2_with fail
        refine (eq0_4 (v' := B.val) (by unfold BookV.val BookV.cells; rfl) (truly_calls B g.out _ q.length q Hip.out k Hlt.out A c bits _ (HB.out.below HW.out) (Hqi10.out.below Hbe.out) (HP.out.below HW.out))).mono ?_
        rintro e w12 ⟨⟨A', c', r, rfl, hi', hrow⟩, hb⟩
        obtain ⟨nn, hnn⟩ : ∃ nn, (B.parts * B.size).toNat = nn := ⟨_, rfl⟩
        have hz : gi r nn = 0 := by
          have h1 := hrow.2 nn (by omega)
          have h2 := He4.out k Hlt.out
          rw [hnn] at h2
          rw [h2] at h1
          have h3 := (lateTo_bd g.out q _ false (g.out.late k Hlt.out) (fun k' => (catchAt_bd g.out Hip.out Hlt.out false k').1) nn).1
          omega
        have hrl : r.length = nn + 1 := by rw [hrow.1, hnn]
        have hnn8 : nn ≤ 128 := by omega
        obtain ⟨br, or', rfl⟩ := hi'.some_ (by omega)
        have hcr := hi'.at_ (show nn < r.length by omega)
        rw [hz] at hcr
        have brl := World.block_lt_of_cell? _ _ hcr
        simp only at brl
        rw [hrl]
        have hfin := Lib.hid (below_then Hbe.out Hbe.out.size hb)
        have hwn : IntKind.i64.wrap ((nn : Int) + 1 - 1) = (nn : Int) := by rw [show (nn : Int) + 1 - 1 = nn by omega]; exact wrap_in (by omega) (by omega)
        have hni : (nn : Int) < (nn : Int) + 1 := by omega
        clear hb hi' hrow hnn hz hrl c2 f2 l2
        go_wp2
        go_roundg (B.players.length - (k + 1))
        case measure => have := Hgk.out; omega
        case rel => exact ⟨k + 1, by have := Hlt.out; omega, rfl, by go_num, hfin.out⟩
      · obtain rfl : k = B.players.length := by omega
        go_wp2_with fail
        clear c2 f2 l2
        refine (works_calls _ (HM.out.below HW.out)).mono ?_
        rintro e w13 ⟨rfl, hb⟩
        have hfin := below_then HW.out HW.out.size hb
        clear hb
        go_wp2
        go_ret
        exact ⟨rfl, hfin⟩
end Go.Proofs.YtljikigmfkfkiaaDoor
