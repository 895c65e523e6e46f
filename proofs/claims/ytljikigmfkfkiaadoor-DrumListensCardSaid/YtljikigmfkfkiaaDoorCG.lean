import Derived.Test.YtljikigmfkfkiaaDoorCF
import Derived.Test.YtljikigmfkfkiaaDoorBN
import Derived.Test.YtljikigmfkfkiaaDoorBQ
namespace Go.Proofs.YtljikigmfkfkiaaDoor
open Go.RowKit Go.Shelf
attribute [local go_sem] Oper.semAt_some
set_option linter.unusedSimpArgs false
set_option linter.unusedVariables false

theorem madeInts (w : World) (n : Nat) (hn : n ≤ 7) : (Instr.makeSlice 22 (.int .i64 (n : Int)) (.int .i64 (n : Int))).run Tryd.prog w = .ok (.slice (some ⟨w.heap.size, 0, none⟩) n n) (w.alloc (.cells (Array.replicate n (Value.int .i64 0)) 3)) := by
  have : n = 0 ∨ n = 1 ∨ n = 2 ∨ n = 3 ∨ n = 4 ∨ n = 5 ∨ n = 6 ∨ n = 7 := by omega
  rcases this with rfl | rfl | rfl | rfl | rfl | rfl | rfl | rfl <;> (show _ = _; kernel_rfl)
theorem ints_zero (w : World) (n : Nat) (hn : n ≤ 100) : IntsAt (w.alloc (.cells (Array.replicate n (Value.int .i64 0)) 3)) (some ⟨w.heap.size, 0, none⟩) (List.replicate n 0) := by
  refine ⟨by simp; omega, .inr ⟨w.heap.size, 0, rfl, fun j hj => ?_⟩⟩
  have hj' : j < n := by simpa using hj
  rw [(BoxAt.new w _ 3).cell]
  simp [gi, hj']
theorem zero_asks {B : BookV} (n : Nat) (hn : B.parts = (n : Int) + 1) : knowsAsk B (List.replicate n 0) (0 : Nat) = true := by
  unfold knowsAsk knowsHead
  rw [Bool.and_eq_true, Bool.and_eq_true, inB_iff, beq_iff_eq]
  refine ⟨⟨by simp; omega, by simp; omega⟩, ?_⟩
  unfold heardTo
  rw [List.all_eq_true]
  intro j hj
  have hj' : j < n := by simpa using hj
  rw [inB_iff]
  simp [gi, hj']
theorem Knows_zero (B : BookV) (hg : goodB B = true) (n : Nat) (hn : B.parts = (n : Int) + 1) (hn7 : n ≤ 7) (hno : allPlans B = []) (A : Option Addr) (w : World) (hi : IntsAt w A (List.replicate n 0)) (hB : B.Reads w) (hM : MarksAt w) :
    Calls Tryd.prog 37 #[B.val, .slice A n n, .int .i64 0] w fun e w' => e = .returned (.tuple #[.slice none 0 0, .int .i64 4]) ∧ Below w.heap.size w w' := by
  have h := Knows_calls B A n (List.replicate n 0) (0 : Nat) _ hB hi hM
  rw [List.length_replicate] at h
  refine h.mono ?_
  rintro e w' ⟨hR, hbb⟩
  exact ⟨KnowsR_no hR hg (zero_asks n hn) hno, hbb⟩
def keepH (bits : List Int) (j : Nat) : Bool := turnZ (nthZ bits ((j : Int) + 1 + 2)) 3 == 0
def keepM (B : BookV) (bits : List Int) (mark : Int) (j : Nat) : Bool := keepH bits j || ((j : Int) == turnZ mark B.parts)
set_option maxRecDepth 100000 in
set_option maxHeartbeats 8000000 in
theorem DrumListens_calls (B : BookV) (A : Option Addr) (c : Nat) (bits : List Int) (mark : Int) (w : World) (hB : B.Reads w) (hp : IntsAt w A bits) (hM : MarksAt w) :
    Calls Tryd.prog 14 #[B.val, .slice A bits.length c, .int .i64 mark] w fun e w' => e = .returned (.bool true) ∧ Below w.heap.size w w' := by
  have HB := Lib.hid hB
  have HP := Lib.hid hp
  have HM := Lib.hid hM
  have H : Below w.heap.size w (w.alloc (.cells B.cells 27)) := (Below.refl _ _).alloc (Nat.le_refl _) _
  have k2 := BoxAt.new w B.cells 27
  clear hB hp hM
  unfold BookV.val BookV.cells
  go_enter Tryd.func14, Tryd.ntmps14
  go_upto_region 1 with (fail)
  unfold BookV.cells at H k2
  generalize w.alloc _ = w0 at *
  have K2 := Lib.hid k2
  obtain ⟨c2, f2, l2⟩ := k2
  go_wp2_with fail
  refine (eq0_1 (v' := B.val) (by unfold BookV.val BookV.cells; rfl) (sound_calls B _ (HB.out.below H))).mono ?_
  rintro e w1 ⟨rfl, hb⟩
  replace H := below_then H H.size hb
  replace K2 := Lib.hid (K2.out.below hb)
  clear hb c2 f2 l2
  cases hg : goodB B with
  | false =>
    have HH := Lib.hid H
    clear H hg
    go_wp2_with fail
    refine (works_calls _ (HM.out.below HH.out)).mono ?_
    rintro e w2 ⟨rfl, hb⟩
    have hfin := below_then HH.out HH.out.size hb
    clear hb
    go_wp2
    go_ret
    exact ⟨rfl, hfin⟩
  | true =>
    have Hgg := Lib.hid hg
    have g := Lib.hid ((goodB_iff B).1 hg)
    clear hg
    obtain ⟨c2, f2, l2⟩ := K2.out
    go_wp2_with fail
    refine (eq0_2 (v' := B.val) (by unfold BookV.val BookV.cells; rfl) (chosen_calls B g.out A c bits _ (HP.out.below H))).mono ?_
    rintro e w2 ⟨⟨A2, cc2, rfl, hi2, hc2⟩, hb⟩
    replace H := below_then H H.size hb
    replace K2 := Lib.hid (K2.out.below hb)
    have ip := Lib.hid (chosenP_path g.out bits)
    generalize chosenP B bits = path0 at *
    have Hi2 := Lib.hid hi2
    clear hb c2 f2 l2 hi2 hc2
    have hpp := g.out.parts
    obtain ⟨n, hnp⟩ : ∃ n : Nat, B.parts = (n : Int) + 1 := ⟨(B.parts - 1).toNat, by omega⟩
    have hn7 : n ≤ 7 := by omega
    have Hnp := Lib.hid hnp
    clear hpp hnp
    obtain ⟨c2, f2, l2⟩ := K2.out
    -- IsPlan
    go_wp2_with fail
    refine (eq0_2 (v' := B.val) (by unfold BookV.val BookV.cells; rfl) (IsPlan_calls B A2 cc2 path0 _ (HB.out.below H) Hi2.out (HM.out.below H))).mono ?_
    rintro e w3 ⟨rfl, hb⟩
    have hpl : isPlanR B path0 = .tuple #[.bool (isPlanS B path0), .int .i64 0] := by unfold isPlanR; rw [Hgg.out, (isPathS_iff g.out path0).2 ip.out]; rfl
    rw [hpl]
    clear hpl
    have H3 := Lib.hid (below_then H H.size hb)
    replace K2 := Lib.hid (K2.out.below hb)
    replace Hi2 := Lib.hid (Hi2.out.below hb)
    clear hb c2 f2 l2 H
    obtain ⟨isP, hisP⟩ : ∃ isP, isP = isPlanS B path0 := ⟨_, rfl⟩
    rw [← hisP]
    have HisP := Lib.hid hisP
    clear hisP
    go_upto_if 41 with (fail)
    go_cut [7] (fun v wc => (∃ A5 c5 path, v = .slice A5 path.length c5 ∧ IntsAt wc A5 path ∧ path ∈ allPlans B) ∧ Below w3.heap.size w3 wc)
    case first =>
      cases isP with
      | true =>
        go_wp2
        go_meet
        exact ⟨⟨A2, cc2, path0, rfl, Hi2.out, mem_allPlans g.out ip.out HisP.out.symm⟩, Below.refl _ _⟩
      | false =>
        obtain ⟨c2, f2, l2⟩ := K2.out
        go_wp2_with fail
        refine (eq0_1 (v' := B.val) (by unfold BookV.val BookV.cells; rfl) (Plan_calls B _ (HB.out.below H3.out) (HM.out.below H3.out))).mono ?_
        rintro e w4 ⟨hR, hb⟩
        have H4 := Lib.hid (below_then H3.out H3.out.size hb)
        have Hb4 := Lib.hid hb
        have K24 := Lib.hid (K2.out.below hb)
        clear hb c2 f2 l2
        rcases hR with ⟨h, _⟩ | ⟨_, h, rfl⟩ | ⟨_, q, A4, hq, rfl, hi⟩
        · rw [Hgg.out] at h; cases h
        · have Hnil := Lib.hid (best_none h)
          clear h
          obtain ⟨c2, f2, l2⟩ := K24.out
          have hws : IntKind.i64.wrap (B.parts - 1) = (n : Int) := by rw [Hnp.out, show (n : Int) + 1 - 1 = n by omega]; exact wrap_in (by omega) (by omega)
          have hmk := fun w => madeInts w n hn7
          go_upto_region 10 with (fail)
          refine region_plain (S := fun w' => Below w4.heap.size w4 w') 11 (by kernel_rfl) ?_ (fun hHeld => ?_)
          · exact (Below.refl _ _).drew
          first | (refine anyT_take 0 (some 50) (v := ?_) rfl rfl (by kernel_rfl) (by kernel_rfl) (by kernel_rfl) (by kernel_rfl) (fun _ _ _ h => h) (Or.inl ⟨by rfl, ?_⟩) hHeld ?_; rotate_left; focus (intro wq hSw; obtain ⟨hcq, hfq⟩ := bcell hSw; go_simp; (try with_reducible rfl); done))
          (try simp only [Act.put, List.setIfInBounds_toArray, List.set_cons_zero, List.set_cons_succ])
          first | (refine anyT_take 1 (some 51) (v := ?_) rfl rfl (by kernel_rfl) (by kernel_rfl) (by kernel_rfl) (by kernel_rfl) (fun _ _ _ h => h) (Or.inl ⟨by rfl, ?_⟩) hHeld ?_; rotate_left; focus (intro wq hSw; obtain ⟨hcq, hfq⟩ := bcell hSw; go_simp; (try with_reducible rfl); done))
          (try simp only [Act.put, List.setIfInBounds_toArray, List.set_cons_zero, List.set_cons_succ])
          first | (refine anyT_take 2 (some 52) (v := ?_) rfl rfl (by kernel_rfl) (by kernel_rfl) (by kernel_rfl) (by kernel_rfl) (fun _ _ _ h => h) (Or.inl ⟨by rfl, ?_⟩) hHeld ?_; rotate_left; focus (intro wq hSw; obtain ⟨hcq, hfq⟩ := bcell hSw; go_simp; (try with_reducible rfl); done))
          (try simp only [Act.put, List.setIfInBounds_toArray, List.set_cons_zero, List.set_cons_succ])
          first | (refine anyT_take 3 (some 53) (v := ?_) rfl rfl (by kernel_rfl) (by kernel_rfl) (by kernel_rfl) (by kernel_rfl) (fun _ _ _ h => h) (Or.inl ⟨by rfl, ?_⟩) hHeld ?_; rotate_left; focus (intro wq hSw; obtain ⟨hcq, hfq⟩ := bcell hSw; go_simp; (try with_reducible rfl); done))
          (try simp only [Act.put, List.setIfInBounds_toArray, List.set_cons_zero, List.set_cons_succ])
          refine anyT_one 4 (by kernel_rfl) rfl (fun K hK => ?_)
          go_simp
          refine hK.out _ _ ?_ (fun hHeld => ?_)
          · exact hHeld.alloc hHeld.size _
          clear hK K
          (try simp only [Act.put, List.setIfInBounds_toArray, List.set_cons_zero, List.set_cons_succ])
          refine anyT_one 5 (by kernel_rfl) rfl (fun K hK => ?_)
          have hbq : Below w.heap.size w _ := below_then H4.out H4.out.size hHeld
          go_simp
          refine (eq0_3 (v' := B.val) (by unfold BookV.val BookV.cells; rfl) (Knows_zero B Hgg.out n Hnp.out hn7 Hnil.out _ _ ((ints_zero w4 n (by omega)).below (Below.refl _ _).drew) (HB.out.below hbq) (HM.out.below hbq))).mono ?_; clear hbq; rintro e w5 ⟨rfl, hb5⟩
          refine hK.out _ _ ?_ (fun hHeld => ?_)
          · exact below_then hHeld hHeld.size hb5
          clear hK K
          (try simp only [Act.put, List.setIfInBounds_toArray, List.set_cons_zero, List.set_cons_succ])
          first | (refine anyT_take 6 (some 49) (v := ?_) rfl rfl (by kernel_rfl) (by kernel_rfl) (by kernel_rfl) (by kernel_rfl) (fun _ _ _ h => h) (Or.inl ⟨by rfl, ?_⟩) hHeld ?_; rotate_left; focus (intro wq hSw; obtain ⟨hcq, hfq⟩ := bcell hSw; go_simp; (try with_reducible rfl); done))
          (try simp only [Act.put, List.setIfInBounds_toArray, List.set_cons_zero, List.set_cons_succ])
          first | (refine anyT_take 7 (some 56) (v := ?_) rfl rfl (by kernel_rfl) (by kernel_rfl) (by kernel_rfl) (by kernel_rfl) (fun _ _ _ h => h) (Or.inl ⟨by rfl, ?_⟩) hHeld ?_; rotate_left; focus (intro wq hSw; obtain ⟨hcq, hfq⟩ := bcell hSw; go_simp; (try with_reducible rfl); done))
          (try simp only [Act.put, List.setIfInBounds_toArray, List.set_cons_zero, List.set_cons_succ])
          first | (refine anyT_take 8 (some 57) (v := ?_) rfl rfl (by kernel_rfl) (by kernel_rfl) (by kernel_rfl) (by kernel_rfl) (fun _ _ _ h => h) (Or.inl ⟨by rfl, ?_⟩) hHeld ?_; rotate_left; focus (intro wq hSw; obtain ⟨hcq, hfq⟩ := bcell hSw; go_simp; (try with_reducible rfl); done))
          (try simp only [Act.put, List.setIfInBounds_toArray, List.set_cons_zero, List.set_cons_succ])
          first | (refine anyT_take 9 (some 10) (v := ?_) rfl rfl (by kernel_rfl) (by kernel_rfl) (by kernel_rfl) (by kernel_rfl) (fun _ _ _ h => h) (Or.inl ⟨by rfl, ?_⟩) hHeld ?_; rotate_left; focus (intro wq hSw; obtain ⟨hcq, hfq⟩ := bcell hSw; go_simp; (try with_reducible rfl); done))
          (try simp only [Act.put, List.setIfInBounds_toArray, List.set_cons_zero, List.set_cons_succ])
          first | (refine anyT_take 10 (some 11) (v := ?_) rfl rfl (by kernel_rfl) (by kernel_rfl) (by kernel_rfl) (by kernel_rfl) (fun _ _ _ h => h) (Or.inl ⟨by rfl, ?_⟩) hHeld ?_; rotate_left; focus (intro wq hSw; obtain ⟨hcq, hfq⟩ := bcell hSw; go_simp; (try with_reducible rfl); done))
          (try simp only [Act.put, List.setIfInBounds_toArray, List.set_cons_zero, List.set_cons_succ])
          refine anyT_done (by kernel_rfl) ?_ _
          have H6 := Lib.hid (below_then H4.out H4.out.size hHeld)
          clear hHeld c2 f2 l2 hmk hws
          go_wp2_with fail
          refine (works_calls _ (HM.out.below H6.out)).mono ?_
          rintro e w7 ⟨rfl, hb⟩
          have hfin := below_then H6.out H6.out.size hb
          clear hb
          go_wp2
          go_ret
          exact ⟨rfl, hfin⟩
        · have hbi := best_inv B
          rw [hq] at hbi
          have Hq := Lib.hid hbi.1
          have Hi4 := Lib.hid hi
          clear hbi hi hq
          go_wp2
          go_meet
          exact ⟨⟨A4, _, q, rfl, Hi4.out, Hq.out⟩, Hb4.out⟩
    case rest =>
      obtain ⟨⟨A5, c5, path, rfl, hi5, hmem⟩, hb5⟩ := hcut
      generalize wc = w5 at *
      have H5 := Lib.hid (below_then H3.out H3.out.size hb5)
      replace K2 := Lib.hid (K2.out.below hb5)
      have Hi5 := Lib.hid hi5
      have Hmem := Lib.hid hmem
      have Hip := Lib.hid (allPlans_mem g.out hmem).1
      clear hb5 hi5 hmem HisP Hi2 ip
      obtain ⟨c2, f2, l2⟩ := K2.out
      go_wp2_with fail
      refine (eq0_2 (v' := B.val) (by unfold BookV.val BookV.cells; rfl) (lawIsPath_true B g.out A5 c5 path Hip.out _ Hi5.out)).mono ?_
      rintro e w6 ⟨rfl, hb⟩
      have H6 := Lib.hid (below_then H5.out H5.out.size hb)
      replace K2 := Lib.hid (K2.out.below hb)
      replace Hi5 := Lib.hid (Hi5.out.below hb)
      clear hb c2 f2 l2
      have hlen : path.length = n + 1 := by have := Hip.out.len; have := Hnp.out; omega
      have Hlen := Lib.hid hlen
      have hp8 : path.length ≤ 8 := by omega
      clear hlen
      obtain ⟨b5, o5, rfl⟩ := Hi5.out.some_ (by have := Hlen.out; omega)
      go_upto_block 0 with (fail)
      go_wp2
      go_loopg [15, 12, 13, 14] n (fun gk i vh vm va wr => ∃ j : Nat, j ≤ n ∧ gk = n - j ∧ i = .int .i64 ((j : Int) + 1) ∧ OwnInts wr w6.heap.size vh (lostL path (keepH bits) j) ∧ OwnInts wr w6.heap.size vm (lostL path (keepM B bits mark) j) ∧ OwnInts wr w6.heap.size va (lostL path (fun _ => true) j) ∧ Off vh vm ∧ Off vh va ∧ Off vm va ∧ Below w6.heap.size w6 wr)
      case atStart => exact ⟨0, Nat.zero_le _, rfl, rfl, OwnInts.nil _ _, OwnInts.nil _ _, OwnInts.nil _ _, Off.nil _, Off.nil _, Off.nil _, Below.refl _ _⟩
      case round =>
        obtain ⟨j, hj, hgj, rfl, ho1, ho2, ho3, hf1, hf2, hf3, hbe⟩ := hrel
        have Hgj := Lib.hid hgj
        have Ho1 := Lib.hid ho1
        have Ho2 := Lib.hid ho2
        have Ho3 := Lib.hid ho3
        have Hf1 := Lib.hid hf1
        have Hf2 := Lib.hid hf2
        have Hf3 := Lib.hid hf3
        have Hbe := Lib.hid hbe
        have HW := Lib.hid (below_then H6.out H6.out.size hbe)
        have hl1 := lostL_len path (keepH bits) j
        have hl2 := lostL_len path (keepM B bits mark) j
        have hl3 := lostL_len path (fun _ => true) j
        clear hgj ho1 ho2 ho3 hf1 hf2 hf3 hbe
        by_cases hlt : j < n
        · have hji : (j : Int) + 1 < path.length := by have := Hlen.out; omega
          have hck := cell_below Hbe.out (Hi5.out.at_ (show j + 1 < path.length by have := Hlen.out; omega))
          have hcp := cell_below Hbe.out (Hi5.out.at_ (show j < path.length by have := Hlen.out; omega))
          have bk := World.block_lt_of_cell? _ _ hck
          simp only at bk
          have hw1 : IntKind.i64.wrap ((j : Int) + 1 - 1) = (j : Int) := by rw [show (j : Int) + 1 - 1 = j by omega]; exact wrap_in (by omega) (by omega)
          have hj2 : (j : Int) < path.length := by omega
          have hst := path_step1 Hip.out (show j + 1 < path.length by omega)
          have hwd : IntKind.i64.wrap (gi path (j + 1) - gi path j) = gi path (j + 1) - gi path j := wrap_in (by omega) (by omega)
          have Hs1 := Lib.hid (lostL_succ path (keepH bits) j)
          have Hs2 := Lib.hid (lostL_succ path (keepM B bits mark) j)
          have Hs3 := Lib.hid (lostL_succ path (fun _ => true) j)
          have Hl1 := Lib.hid hl1
          have Hl2 := Lib.hid hl2
          have Hl3 := Lib.hid hl3
          generalize gi path (j + 1) = x1 at *
          generalize gi path j = x0 at *
          clear hl1 hl2 hl3 hst
          generalize lostL path (keepH bits) j = L1 at *
          generalize lostL path (keepM B bits mark) j = L2 at *
          generalize lostL path (fun _ => true) j = L3 at *
          go_wp2
          go_quiet (fail)
          go_wp2_with (at_builtin; refine wpList_app1a _ rfl _ _ rfl w6.heap.size _ L3 rfl ((Ho3.out.keep (below_drewN (Below.refl _ _) _)).alloc _) _ _ _ rfl (cell_new1 _ _ _) (by have := Hl3.out; omega) (by have := Hbe.out.size; simp; omega) ?_)
          intro v3 w7 ho hbx hsz hoth
          have Ho17 := Lib.hid (hoth _ _ ((Ho1.out.keep (below_drewN (Below.refl _ _) _)).alloc _) Hf2.out.symm).1
          have Ho27 := Lib.hid (hoth _ _ ((Ho2.out.keep (below_drewN (Below.refl _ _) _)).alloc _) Hf3.out.symm).1
          have Hf27 := Lib.hid (hoth _ _ ((Ho1.out.keep (below_drewN (Below.refl _ _) _)).alloc _) Hf2.out.symm).2
          have Hf37 := Lib.hid (hoth _ _ ((Ho2.out.keep (below_drewN (Below.refl _ _) _)).alloc _) Hf3.out.symm).2
          have Ho37 := Lib.hid ho
          have Hb7 := Lib.hid ((below_drewN Hbe.out _ |>.alloc (by have := Hbe.out.size; simp; omega) (.cells #[.int .i64 (x1 - x0)] 3)).trans hbx)
          have HW7 := Lib.hid (below_then H6.out H6.out.size Hb7.out)
          clear ho hbx hsz hoth hck hcp bk
          go_wp2_with fail
          refine (Nth_calls A c bits _ _ (HP.out.below HW7.out)).mono ?_
          rintro e w8 ⟨rfl, rfl⟩
          go_wp2_with fail
          refine (Turn_calls _ _ _ (by omega)).mono ?_
          rintro e w8 ⟨rfl, rfl⟩
          have hkh : Hid ((turnZ (nthZ bits ((j : Int) + 1 + 2)) 3 == 0) = keepH bits j) := rfl
          have hkm : Hid (keepM B bits mark j = (keepH bits j || ((j : Int) == turnZ mark B.parts))) := rfl
          generalize hz : (turnZ (nthZ bits ((j : Int) + 1 + 2)) 3 == 0) = z at *
          rw [← hkh.out] at hkm Hs1
          cases z with
          | true =>
            rw [Bool.true_or] at hkm
            rw [hkm.out] at Hs2
            rw [cond_true] at Hs1 Hs2 Hs3
            go_wp2_with (at_builtin; refine wpList_app1a _ rfl _ _ rfl w6.heap.size _ L1 rfl (Ho17.out.alloc _) _ _ _ rfl (cell_new1 _ _ _) (by have := Hl1.out; omega) (by have := Hb7.out.size; simp; omega) ?_)
            intro v1 w9 ho hbx hsz hoth
            have Ho29 := Lib.hid (hoth _ _ (Ho27.out.alloc _) Hf1.out).1
            have Hf19 := Lib.hid (hoth _ _ (Ho27.out.alloc _) Hf1.out).2
            have Ho39 := Lib.hid (hoth _ _ (Ho37.out.alloc _) Hf27.out.symm).1
            have Hf29 := Lib.hid (hoth _ _ (Ho37.out.alloc _) Hf27.out.symm).2
            have Ho19 := Lib.hid ho
            have Hb9 := Lib.hid ((Hb7.out.alloc Hb7.out.size (.cells #[.int .i64 (x1 - x0)] 3)).trans hbx)
            clear ho hbx hsz hoth
            go_wp2_with (at_builtin; refine wpList_app1a _ rfl _ _ rfl w6.heap.size _ L2 rfl (Ho29.out.alloc _) _ _ _ rfl (cell_new1 _ _ _) (by have := Hl2.out; omega) (by have := Hb9.out.size; simp; omega) ?_)
            intro v2 w10 ho hbx hsz hoth
            have Ho110 := Lib.hid (hoth _ _ (Ho19.out.alloc _) Hf19.out.symm).1
            have Hf110 := Lib.hid (hoth _ _ (Ho19.out.alloc _) Hf19.out.symm).2
            have Ho310 := Lib.hid (hoth _ _ (Ho39.out.alloc _) Hf37.out.symm).1
            have Hf310 := Lib.hid (hoth _ _ (Ho39.out.alloc _) Hf37.out.symm).2
            have Ho210 := Lib.hid ho
            have Hb10 := Lib.hid ((Hb9.out.alloc Hb9.out.size (.cells #[.int .i64 (x1 - x0)] 3)).trans hbx)
            clear ho hbx hsz hoth
            go_wp2
            go_roundg (n - (j + 1))
            case measure => have := Hgj.out; omega
            case rel => exact ⟨j + 1, by omega, rfl, by go_num, (by rw [Hs1.out]; exact Ho110.out), (by rw [Hs2.out]; exact Ho210.out), (by rw [Hs3.out]; exact Ho310.out), Hf110.out.symm, Hf29.out, Hf310.out, Hb10.out⟩
          | false =>
            rw [Bool.false_or] at hkm
            rw [hkm.out] at Hs2
            rw [cond_false] at Hs1
            rw [cond_true] at Hs3
            obtain ⟨c2, f2, l2⟩ := K2.out.below Hb7.out
            go_wp2_with fail
            refine (Turn_calls _ _ _ (by have := Hnp.out; omega)).mono ?_
            rintro e w8 ⟨rfl, rfl⟩
            clear c2 f2 l2 hkm
            cases hy : ((j : Int) == turnZ mark B.parts) with
            | true =>
              rw [hy, cond_true] at Hs2
              go_wp2_with (at_builtin; refine wpList_app1a _ rfl _ _ rfl w6.heap.size _ L1 rfl (Ho17.out.alloc _) _ _ _ rfl (cell_new1 _ _ _) (by have := Hl1.out; omega) (by have := Hb7.out.size; simp; omega) ?_)
              intro v1 w9 ho hbx hsz hoth
              have Ho29 := Lib.hid (hoth _ _ (Ho27.out.alloc _) Hf1.out).1
              have Hf19 := Lib.hid (hoth _ _ (Ho27.out.alloc _) Hf1.out).2
              have Ho39 := Lib.hid (hoth _ _ (Ho37.out.alloc _) Hf27.out.symm).1
              have Hf29 := Lib.hid (hoth _ _ (Ho37.out.alloc _) Hf27.out.symm).2
              have Ho19 := Lib.hid ho
              have Hb9 := Lib.hid ((Hb7.out.alloc Hb7.out.size (.cells #[.int .i64 (-2)] 3)).trans hbx)
              clear ho hbx hsz hoth
              go_wp2_with (at_builtin; refine wpList_app1a _ rfl _ _ rfl w6.heap.size _ L2 rfl (Ho29.out.alloc _) _ _ _ rfl (cell_new1 _ _ _) (by have := Hl2.out; omega) (by have := Hb9.out.size; simp; omega) ?_)
              intro v2 w10 ho hbx hsz hoth
              have Ho110 := Lib.hid (hoth _ _ (Ho19.out.alloc _) Hf19.out.symm).1
              have Hf110 := Lib.hid (hoth _ _ (Ho19.out.alloc _) Hf19.out.symm).2
              have Ho310 := Lib.hid (hoth _ _ (Ho39.out.alloc _) Hf37.out.symm).1
              have Hf310 := Lib.hid (hoth _ _ (Ho39.out.alloc _) Hf37.out.symm).2
              have Ho210 := Lib.hid ho
              have Hb10 := Lib.hid ((Hb9.out.alloc Hb9.out.size (.cells #[.int .i64 (x1 - x0)] 3)).trans hbx)
              clear ho hbx hsz hoth
              go_wp2
              go_roundg (n - (j + 1))
              case measure => have := Hgj.out; omega
              case rel => exact ⟨j + 1, by omega, rfl, by go_num, (by rw [Hs1.out]; exact Ho110.out), (by rw [Hs2.out]; exact Ho210.out), (by rw [Hs3.out]; exact Ho310.out), Hf110.out.symm, Hf29.out, Hf310.out, Hb10.out⟩
            | false =>
              rw [hy, cond_false] at Hs2
              go_wp2_with (at_builtin; refine wpList_app1a _ rfl _ _ rfl w6.heap.size _ L1 rfl (Ho17.out.alloc _) _ _ _ rfl (cell_new1 _ _ _) (by have := Hl1.out; omega) (by have := Hb7.out.size; simp; omega) ?_)
              intro v1 w9 ho hbx hsz hoth
              have Ho29 := Lib.hid (hoth _ _ (Ho27.out.alloc _) Hf1.out).1
              have Hf19 := Lib.hid (hoth _ _ (Ho27.out.alloc _) Hf1.out).2
              have Ho39 := Lib.hid (hoth _ _ (Ho37.out.alloc _) Hf27.out.symm).1
              have Hf29 := Lib.hid (hoth _ _ (Ho37.out.alloc _) Hf27.out.symm).2
              have Ho19 := Lib.hid ho
              have Hb9 := Lib.hid ((Hb7.out.alloc Hb7.out.size (.cells #[.int .i64 (-2)] 3)).trans hbx)
              clear ho hbx hsz hoth
              go_wp2_with (at_builtin; refine wpList_app1a _ rfl _ _ rfl w6.heap.size _ L2 rfl (Ho29.out.alloc _) _ _ _ rfl (cell_new1 _ _ _) (by have := Hl2.out; omega) (by have := Hb9.out.size; simp; omega) ?_)
              intro v2 w10 ho hbx hsz hoth
              have Ho110 := Lib.hid (hoth _ _ (Ho19.out.alloc _) Hf19.out.symm).1
              have Hf110 := Lib.hid (hoth _ _ (Ho19.out.alloc _) Hf19.out.symm).2
              have Ho310 := Lib.hid (hoth _ _ (Ho39.out.alloc _) Hf37.out.symm).1
              have Hf310 := Lib.hid (hoth _ _ (Ho39.out.alloc _) Hf37.out.symm).2
              have Ho210 := Lib.hid ho
              have Hb10 := Lib.hid ((Hb9.out.alloc Hb9.out.size (.cells #[.int .i64 (-2)] 3)).trans hbx)
              clear ho hbx hsz hoth
              go_wp2
              go_roundg (n - (j + 1))
              case measure => have := Hgj.out; omega
              case rel => exact ⟨j + 1, by omega, rfl, by go_num, (by rw [Hs1.out]; exact Ho110.out), (by rw [Hs2.out]; exact Ho210.out), (by rw [Hs3.out]; exact Ho310.out), Hf110.out.symm, Hf29.out, Hf310.out, Hb10.out⟩
        · obtain rfl : j = n := by omega
          obtain ⟨A1, k1, rfl, hi1, hc1, _⟩ := Ho1.out.reads
          obtain ⟨A2, k2, rfl, hi2, hc2, _⟩ := Ho2.out.reads
          obtain ⟨A3, k3, rfl, hi3, hc3, _⟩ := Ho3.out.reads
          obtain ⟨wa, rfl⟩ : ∃ wa, wa = wr := ⟨_, rfl⟩
          have Hi1 := Lib.hid hi1
          have Hi2 := Lib.hid hi2
          have Hi3 := Lib.hid hi3
          have Hask1 : Hid (∀ k, k ≤ j → knowsAsk B (lostL path (keepH bits) j) k = true) := fun k hk => knows_asks Hip.out Hlen.out _ hk
          have Hask2 : Hid (∀ k, k ≤ j → knowsAsk B (lostL path (keepM B bits mark) j) k = true) := fun k hk => knows_asks Hip.out Hlen.out _ hk
          have Hask3 : Hid (∀ k, k ≤ j → knowsAsk B (lostL path (fun _ => true) j) k = true) := fun k hk => knows_asks Hip.out Hlen.out _ hk
          have Hin1 : Hid (∀ k : Nat, gi path k ∈ knowsTo B (lostL path (keepH bits) j) k 4) := fun k => knows_true g.out Hmem.out Hlen.out _
          have Hin2 : Hid (∀ k : Nat, gi path k ∈ knowsTo B (lostL path (keepM B bits mark) j) k 4) := fun k => knows_true g.out Hmem.out Hlen.out _
          have Hin3 : Hid (∀ k : Nat, gi path k ∈ knowsTo B (lostL path (fun _ => true) j) k 4) := fun k => knows_true g.out Hmem.out Hlen.out _
          have Hmo : Hid (∀ (k : Nat) (x : Int), x ∈ knowsTo B (lostL path (keepM B bits mark) j) k 4 → x ∈ knowsTo B (lostL path (keepH bits) j) k 4) := fun k x hx => knows_mono g.out Hmem.out Hlen.out (fun i hi => by unfold keepM; rw [hi]; rfl) hx
          have Hall : Hid (∀ k : Nat, k ≤ j → knowsTo B (lostL path (fun _ => true) j) k 4 = [gi path k]) := fun k hk => knows_all g.out Hmem.out Hlen.out hk
          have Hle1 : Hid ((lostL path (keepH bits) j).length = j) := lostL_len _ _ _
          clear hi1 hi2 hi3 hc1 hc2 hc3 Ho1 Ho2 Ho3 Hf1 Hf2 Hf3 hl1 hl2 hl3
          generalize lostL path (keepH bits) j = L1 at *
          generalize lostL path (keepM B bits mark) j = L2 at *
          generalize lostL path (fun _ => true) j = L3 at *
          have HWa := Lib.hid HW.out
          have K2a := Lib.hid (K2.out.below Hbe.out)
          have Hi5a := Lib.hid (Hi5.out.below Hbe.out)
          clear HW hlt
          have hnl : ¬ ((j : Int) + 1) < path.length := by have := Hlen.out; omega
          go_wp2
          go_loopg [17] (j + 1) (fun gk i wq => ∃ k : Nat, k ≤ j + 1 ∧ gk = j + 1 - k ∧ i = .int .i64 (k : Int) ∧ Below wa.heap.size wa wq)
          case atStart => exact ⟨0, Nat.zero_le _, rfl, rfl, Below.refl _ _⟩
          case round =>
            obtain ⟨k, hk, hgk, rfl, hbk⟩ := hrel
            have Hgk := Lib.hid hgk
            have Hbk := Lib.hid hbk
            have HWk := Lib.hid (below_then HWa.out HWa.out.size hbk)
            clear hgk hbk
            by_cases hlt : k < j + 1
            · have hki : (k : Int) < path.length := by have := Hlen.out; omega
              obtain ⟨c2, f2, l2⟩ := K2a.out.below Hbk.out
              go_wp2_with fail
              refine (eq0_3 (v' := B.val) (by unfold BookV.val BookV.cells; rfl) (Knows_calls B A1 k1 L1 (k : Int) _ (HB.out.below HWk.out) (Hi1.out.below Hbk.out) (HM.out.below HWk.out))).mono ?_
              rintro e w7 ⟨hR, hb⟩
              obtain ⟨A7, rfl, hi7⟩ := KnowsR_ok hR Hgg.out (Hask1.out k (by omega)) (Hin1.out k)
              have Hi7 := Lib.hid hi7
              have Hb7 := Lib.hid (below_then Hbk.out Hbk.out.size hb)
              have HW7 := Lib.hid (below_then HWa.out HWa.out.size Hb7.out)
              clear hi7 hR hb c2 f2 l2
              obtain ⟨c2, f2, l2⟩ := K2a.out.below Hb7.out
              go_wp2_with fail
              refine (eq0_3 (v' := B.val) (by unfold BookV.val BookV.cells; rfl) (Knows_calls B A2 k2 L2 (k : Int) _ (HB.out.below HW7.out) (Hi2.out.below Hb7.out) (HM.out.below HW7.out))).mono ?_
              rintro e w8 ⟨hR, hb⟩
              obtain ⟨A8, rfl, hi8⟩ := KnowsR_ok hR Hgg.out (Hask2.out k (by omega)) (Hin2.out k)
              have Hi8 := Lib.hid hi8
              have Hb8 := Lib.hid (below_then Hb7.out Hb7.out.size hb)
              replace Hi7 := Lib.hid (Hi7.out.below hb)
              have HW8 := Lib.hid (below_then HWa.out HWa.out.size Hb8.out)
              clear hi8 hR hb c2 f2 l2
              obtain ⟨c2, f2, l2⟩ := K2a.out.below Hb8.out
              go_wp2_with fail
              refine (eq0_3 (v' := B.val) (by unfold BookV.val BookV.cells; rfl) (Knows_calls B A3 k3 L3 (k : Int) _ (HB.out.below HW8.out) (Hi3.out.below Hb8.out) (HM.out.below HW8.out))).mono ?_
              rintro e w9 ⟨hR, hb⟩
              obtain ⟨A9, rfl, hi9⟩ := KnowsR_ok hR Hgg.out (Hask3.out k (by omega)) (Hin3.out k)
              rw [Hall.out k (by omega)] at hi9 ⊢
              have Hi9 := Lib.hid hi9
              have Hb9 := Lib.hid (below_then Hb8.out Hb8.out.size hb)
              replace Hi7 := Lib.hid (Hi7.out.below hb)
              replace Hi8 := Lib.hid (Hi8.out.below hb)
              have HW9 := Lib.hid (below_then HWa.out HWa.out.size Hb9.out)
              have Hmk : Hid (∀ x, x ∈ knowsTo B L2 k 4 → x ∈ knowsTo B L1 k 4) := Hmo.out k
              have Hik := Lib.hid (Hin2.out k)
              have hle2 := knowsTo_le B L2 k 4
              clear hi9 hR hb c2 f2 l2
              generalize knowsTo B L1 k 4 = S1 at *
              generalize knowsTo B L2 k 4 = S2 at *
              have hck := cell_below Hb9.out (Hi5a.out.at_ (show k < path.length by omega))
              have bk := World.block_lt_of_cell? _ _ hck
              simp only at bk
              generalize gi path k = x at *
              go_wp2_with fail
              refine (Where_calls A8 _ S2 _ _ Hi8.out).mono ?_
              rintro e w10 ⟨⟨r, rfl, hr⟩, rfl⟩
              have hr0 : ¬ r < 0 := by
                rcases hr with ⟨h, _⟩ | ⟨_, h⟩
                · omega
                · exact absurd Hik.out h
              clear hr
              have hl1 : IntsAt (w9.alloc (.cells #[.int .i64 x] 3)) (some ⟨w9.heap.size, 0, none⟩) [x] := by
                refine ⟨by simp, .inr ⟨_, 0, rfl, fun i hi => ?_⟩⟩
                rw [(BoxAt.new w9 _ 3).cell]
                obtain rfl : i = 0 := by simpa using hi
                rfl
              have Hl1 := Lib.hid hl1
              have Hb10 := Lib.hid (Hb9.out.alloc Hb9.out.size (.cells #[.int .i64 x] 3))
              have Hi710 := Lib.hid (Hi7.out.below ((Below.refl _ _).alloc (Nat.le_refl _) (.cells #[.int .i64 x] 3)))
              have Hi810 := Lib.hid (Hi8.out.below ((Below.refl _ _).alloc (Nat.le_refl _) (.cells #[.int .i64 x] 3)))
              have Hi910 := Lib.hid (Hi9.out.below ((Below.refl _ _).alloc (Nat.le_refl _) (.cells #[.int .i64 x] 3)))
              clear hl1
              go_wp2_with fail
              refine (Equal_calls A9 _ [x] _ _ [x] _ Hi910.out Hl1.out).mono ?_
              rintro e w11 ⟨rfl, hb⟩
              rw [eqL_self]
              have Hb11 := Lib.hid (below_then Hb10.out Hb10.out.size hb)
              have Hi711 := Lib.hid (Hi710.out.below hb)
              have Hi811 := Lib.hid (Hi810.out.below hb)
              have HW11 := Lib.hid (below_then HWa.out HWa.out.size Hb11.out)
              clear hb Hi7 Hi8 Hi9 Hi710 Hi810 Hi910 Hl1 Hb10 Hb9 HW9 hck bk
              obtain ⟨wk, rfl⟩ : ∃ wk, wk = wr := ⟨_, rfl⟩
              go_wp2
              go_loopg [24] S2.length (fun gk i wq => ∃ q : Nat, q ≤ S2.length ∧ gk = S2.length - q ∧ i = .int .i64 (q : Int) ∧ w11 = wq)
              case atStart => exact ⟨0, Nat.zero_le _, rfl, rfl, rfl⟩
              case round =>
                obtain ⟨q, hq, hgq, rfl, rfl⟩ := hrel
                have Hgq := Lib.hid hgq
                clear hgq
                by_cases hlq : q < S2.length
                · have hqi : (q : Int) < S2.length := by omega
                  obtain ⟨b8, o8, rfl⟩ := Hi811.out.some_ (by omega)
                  have hcq := Hi811.out.at_ hlq
                  have bq := World.block_lt_of_cell? _ _ hcq
                  simp only at bq
                  have hmem : Hid (gi S2 q ∈ S1) := Hmk.out _ (by unfold gi; rw [List.getD_eq_getElem?_getD, List.getElem?_eq_getElem hlq]; exact List.getElem_mem _)
                  generalize gi S2 q = y at *
                  go_wp2_with fail
                  refine (Where_calls A7 _ S1 _ _ Hi711.out).mono ?_
                  rintro e w12 ⟨⟨r2, rfl, hr⟩, rfl⟩
                  have hr2 : ¬ r2 < 0 := by
                    rcases hr with ⟨h, _⟩ | ⟨_, h⟩
                    · omega
                    · exact absurd hmem.out h
                  clear hr
                  go_wp2
                  go_roundg (S2.length - (q + 1))
                  case measure => have := Hgq.out; omega
                  case rel => exact ⟨q + 1, by omega, rfl, by go_num, rfl⟩
                · obtain rfl : q = S2.length := by omega
                  go_wp2
                  go_roundg (j + 1 - (k + 1))
                  case measure => have := Hgk.out; omega
                  case rel => exact ⟨k + 1, by omega, rfl, by go_num, Hb11.out⟩
            · obtain rfl : k = j + 1 := by omega
              have hnl : ¬ ((j : Int) + 1) < path.length := by have := Hlen.out; omega
              go_wp2_with fail
              refine (works_calls _ (HM.out.below HWk.out)).mono ?_
              rintro e w10 ⟨rfl, hb⟩
              have hfin := below_then HWk.out HWk.out.size hb
              clear hb
              go_wp2
              go_ret
              exact ⟨rfl, hfin⟩
end Go.Proofs.YtljikigmfkfkiaaDoor
