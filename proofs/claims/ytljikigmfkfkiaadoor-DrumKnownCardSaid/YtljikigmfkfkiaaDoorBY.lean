import Derived.Test.YtljikigmfkfkiaaDoorBX
namespace Go.Proofs.YtljikigmfkfkiaaDoor
open Go.RowKit Go.Shelf
attribute [local go_sem] Oper.semAt_some
set_option linter.unusedSimpArgs false
set_option linter.unusedVariables false

/-- the list and the error of Plan -/
def planV (B : BookV) : List Int × Int := bif goodB B then ((bestOf (allPlans B)).getD [], bif (bestOf (allPlans B)).isSome then 0 else 4) else ([], 80)
theorem PlanR_val {B : BookV} {e : Ending} {w' : World} (h : PlanR B e w') : ∃ A c, e = .returned (.tuple #[.slice A (planV B).1.length c, .int .i64 (planV B).2]) ∧ IntsAt w' A (planV B).1 := by
  unfold planV
  rcases h with ⟨h, rfl⟩ | ⟨h, h2, rfl⟩ | ⟨h, q, A, h2, rfl, hi⟩
  · rw [h]; exact ⟨none, 0, rfl, by simp, .inl rfl⟩
  · rw [h, h2]; exact ⟨none, 0, rfl, by simp, .inl rfl⟩
  · rw [h, h2]; exact ⟨A, _, rfl, hi⟩
theorem take_snoc_gl {L : List (List Int)} {i : Nat} (h : i < L.length) : L.take (i + 1) = L.take i ++ [gl L i] := by
  rw [List.take_add_one, List.getElem?_eq_getElem h]
  unfold gl
  rw [List.getD_eq_getElem?_getD, List.getElem?_eq_getElem h]; rfl
set_option maxRecDepth 100000 in
set_option maxHeartbeats 8000000 in
theorem refPlan_calls (B : BookV) (w : World) (hB : B.Reads w) :
    Calls Tryd.prog 29 #[B.val] w fun e w' => (∃ A c, e = .returned (.tuple #[.slice A (planV B).1.length c, .int .i64 (planV B).2]) ∧ IntsAt w' A (planV B).1) ∧ Below w.heap.size w w' := by
  have HB := Lib.hid hB
  have Hb : Below w.heap.size w (w.alloc (.cells B.cells 27)) := (Below.refl _ _).alloc (Nat.le_refl _) _
  have K2 := Lib.hid (BoxAt.new w B.cells 27)
  clear hB
  unfold BookV.val BookV.cells
  go_enter Tryd.func29, Tryd.ntmps29
  go_wp2_with fail
  refine (eq0_1 (v' := B.val) (by unfold BookV.val BookV.cells; rfl) (refCheck_calls B _ (HB.out.below Hb))).mono ?_
  rintro e w1 ⟨rfl, hb⟩
  have H1 := Lib.hid (below_then Hb Hb.size hb)
  have K21 := Lib.hid (K2.out.below hb)
  clear hb Hb
  cases hg : goodB B with
  | false =>
    rw [cond_false]
    have Hg : Hid (planV B = ([], 80)) := by unfold Hid planV; rw [hg]; rfl
    clear hg
    go_wp2
    go_ret2
    exact ⟨⟨none, 0, (by rw [Hg.out]; rfl), by rw [Hg.out]; exact ⟨by simp, .inl rfl⟩⟩, H1.out⟩
  | true =>
    rw [cond_true]
    have g := Lib.hid ((goodB_iff B).1 hg)
    have Hv : Hid (planV B = ((bestOf (allPlans B)).getD [], bif (bestOf (allPlans B)).isSome then 0 else 4)) := by unfold Hid planV; rw [hg]; rfl
    obtain ⟨c2, f2, l2⟩ := K21.out
    unfold BookV.cells at c2
    clear hg
    go_wp2_with fail
    refine (eq0_1 (v' := B.val) (by unfold BookV.val BookV.cells; rfl) (refPlans0_calls B g.out _ (HB.out.below H1.out))).mono ?_
    rintro e w2 ⟨⟨A2, cc2, rfl, hrd⟩, hb⟩
    have H2 := Lib.hid (below_then H1.out H1.out.size hb)
    have Hrd := Lib.hid hrd
    have hll := allPlans_len g.out
    have Hlens : Hid (∀ x, x ∈ allPlans B → x.length ≤ 8 ∧ 0 < x.length) := by
      intro x hx
      have h1 := (allPlans_mem g.out hx).1.len
      have h2 := g.out.parts
      omega
    clear hb c2 f2 l2 hrd
    generalize hLL : allPlans B = L at *
    clear hLL
    rcases Nat.eq_zero_or_pos L.length with h0 | h0
    · have hnil : L = [] := List.eq_nil_of_length_eq_zero h0
      have Hv2 : Hid (planV B = ([], 4)) := by unfold Hid; rw [Hv.out, hnil]; rfl
      have hz : ((L.length : Int) == 0) = true := by rw [h0]; rfl
      clear hnil h0
      go_wp2
      go_ret2
      exact ⟨⟨none, 0, (by rw [Hv2.out]; rfl), by rw [Hv2.out]; exact ⟨by simp, .inl rfl⟩⟩, H2.out⟩
    · have hz : ((L.length : Int) == 0) = false := by rw [beq_eq_false_iff_ne]; omega
      obtain ⟨b3, o3, rfl, hrows⟩ := Hrd.out.2.resolve_left (by intro e; rw [e] at h0; simp at h0)
      have Hrows := Lib.hid hrows
      obtain ⟨A0, c0, hcell0, hrow0, hc0⟩ := hrows 0 h0
      have bq := World.block_lt_of_cell? _ _ hcell0
      have hl0 : (0 : Int) < L.length := by omega
      simp only [Nat.add_zero] at bq hcell0
      have Hb0 : Hid (bestOf (L.take 1) = some (gl L 0)) := by
        unfold Hid
        rw [show (1 : Nat) = 0 + 1 from rfl, take_snoc_gl h0]; rfl
      have Hrow0 := Lib.hid hrow0
      have hm0 := Lib.hid (gl_mem h0)
      clear hrows hrow0 hc0
      generalize gl L 0 = q0 at *
      go_upto_block 0 with (fail)
      clear hcell0 bq
      go_wp2
      go_loopg [7, 6] (L.length - 1) (fun gk i v wr => ∃ (k : Nat) (q : List Int) (Aq : Option Addr) (cq : Nat), 1 ≤ k ∧ k ≤ L.length ∧ gk = L.length - k ∧ i = .int .i64 k ∧ v = .slice Aq q.length cq ∧ bestOf (L.take k) = some q ∧ q ∈ L ∧ IntsAt wr Aq q ∧ Below w2.heap.size w2 wr)
      case atStart => exact ⟨1, q0, A0, c0, Nat.le_refl _, by omega, rfl, rfl, rfl, Hb0.out, hm0.out, Hrow0.out.1, Below.refl _ _⟩
      case round =>
        obtain ⟨k, q, Aq, cq, hk1, hk, hgk, rfl, rfl, hbest, hqm, hqi, hbe⟩ := hrel
        have Hgk := Lib.hid hgk
        have Hbest := Lib.hid hbest
        have Hqm := Lib.hid hqm
        have Hqi := Lib.hid hqi
        have Hbe := Lib.hid hbe
        clear hgk hbest hqm hqi hbe
        by_cases hlt : k < L.length
        · have hki : (k : Int) < L.length := by omega
          obtain ⟨Aj, cj, hcell, hrow, hcj⟩ := Hrows.out k hlt
          have hstep : bestOf (L.take (k + 1)) = bestStep (some q) (gl L k) := by rw [take_snoc_gl hlt, bestOf_snoc, Hbest.out]
          have Hpm := Lib.hid (gl_mem hlt)
          have Hrow := Lib.hid hrow
          have Hstep := Lib.hid hstep
          have q1 := cell_below Hbe.out hcell
          have bq1 := World.block_lt_of_cell? _ _ q1
          simp only at bq1
          generalize gl L k = p at *
          have Hcell := Lib.hid hcell
          clear hrow hcell hstep hcj
          go_wp2_with fail
          refine (refChanges_calls Aj cj p (by have := (Hlens.out p Hpm.out).1; omega) _ (Hrow.out.1.below Hbe.out)).mono ?_
          rintro e w3 ⟨rfl, hb3⟩
          have Hb3 := Lib.hid (below_then Hbe.out Hbe.out.size hb3)
          have Hqi3 := Lib.hid (Hqi.out.below hb3)
          clear hb3 q1 bq1
          go_wp2_with fail
          refine (refChanges_calls Aq cq q (by have := (Hlens.out q Hqm.out).1; omega) _ Hqi3.out).mono ?_
          rintro e w4 ⟨rfl, hb4⟩
          have Hb4 := Lib.hid (below_then Hb3.out Hb3.out.size hb4)
          have Hqi4 := Lib.hid (Hqi3.out.below hb4)
          have q4 := cell_below Hb4.out Hcell.out
          have bq4 := World.block_lt_of_cell? _ _ q4
          simp only at bq4
          clear hb4
          by_cases hc : changesTo p (p.length - 1) < changesTo q (q.length - 1)
          · have Hs2 : Hid (bestOf (L.take (k + 1)) = some p) := by unfold Hid; rw [Hstep.out]; simp [bestStep, hc]
            have hci : ((changesTo p (p.length - 1) : Nat) : Int) < ((changesTo q (q.length - 1) : Nat) : Int) := by omega
            have hcd : changesTo p (p.length - 1) < changesTo q (q.length - 1) := hc
            go_wp2
            go_roundg (L.length - (k + 1))
            case measure => have := Hgk.out; omega
            case rel => exact ⟨k + 1, p, Aj, cj, by omega, by omega, rfl, by go_num, rfl, Hs2.out, Hpm.out, Hrow.out.1.below Hb4.out, Hb4.out⟩
          · have Hs2 : Hid (bestOf (L.take (k + 1)) = some q) := by unfold Hid; rw [Hstep.out]; simp [bestStep, hc]
            have hci : ¬ ((changesTo p (p.length - 1) : Nat) : Int) < ((changesTo q (q.length - 1) : Nat) : Int) := by omega
            go_wp2
            go_roundg (L.length - (k + 1))
            case measure => have := Hgk.out; omega
            case rel => exact ⟨k + 1, q, Aq, cq, by omega, by omega, rfl, by go_num, rfl, Hs2.out, Hqm.out, Hqi4.out, Hb4.out⟩
        · obtain rfl : k = L.length := by omega
          have Hv2 : Hid (planV B = (q, 0)) := by unfold Hid; rw [Hv.out]; have := Hbest.out; rw [List.take_length] at this; rw [this]; rfl
          go_wp2
          go_ret2
          exact ⟨⟨Aq, cq, (by rw [Hv2.out]; rfl), by rw [Hv2.out]; exact Hqi.out⟩, below_then H2.out H2.out.size Hbe.out⟩
set_option maxRecDepth 100000 in
set_option maxHeartbeats 4000000 in
theorem refPlans_calls (B : BookV) (w : World) (hB : B.Reads w) :
    Calls Tryd.prog 31 #[B.val] w fun e w' => e = .returned (plansR B) ∧ Below w.heap.size w w' := by
  have HB := Lib.hid hB
  have Hb : Below w.heap.size w (w.alloc (.cells B.cells 27)) := (Below.refl _ _).alloc (Nat.le_refl _) _
  have K2 := Lib.hid (BoxAt.new w B.cells 27)
  have Hr : Hid (plansR B = bif goodB B then .tuple #[.int .i64 (allPlans B).length, .int .i64 0] else .tuple #[.int .i64 0, .int .i64 80]) := rfl
  clear hB
  unfold BookV.val BookV.cells
  go_enter Tryd.func31, Tryd.ntmps31
  go_wp2_with fail
  refine (eq0_1 (v' := B.val) (by unfold BookV.val BookV.cells; rfl) (refCheck_calls B _ (HB.out.below Hb))).mono ?_
  rintro e w1 ⟨rfl, hb⟩
  have H1 := Lib.hid (below_then Hb Hb.size hb)
  have K21 := Lib.hid (K2.out.below hb)
  clear hb Hb
  cases hg : goodB B with
  | false =>
    rw [cond_false]
    have Hg := Lib.hid hg
    clear hg
    go_wp2
    go_ret2
    exact ⟨(by rw [Hr.out, Hg.out]; rfl), H1.out⟩
  | true =>
    rw [cond_true]
    have Hg := Lib.hid hg
    have g := Lib.hid ((goodB_iff B).1 hg)
    obtain ⟨c2, f2, l2⟩ := K21.out
    unfold BookV.cells at c2
    clear hg
    go_wp2_with fail
    refine (eq0_1 (v' := B.val) (by unfold BookV.val BookV.cells; rfl) (refPlans0_calls B g.out _ (HB.out.below H1.out))).mono ?_
    rintro e w2 ⟨⟨A2, cc2, rfl, hrd⟩, hb⟩
    have H2 := Lib.hid (below_then H1.out H1.out.size hb)
    clear hb c2 f2 l2 hrd
    go_wp2
    go_ret2
    exact ⟨(by rw [Hr.out, Hg.out]; rfl), H2.out⟩
set_option maxRecDepth 100000 in
set_option maxHeartbeats 4000000 in
theorem refIsPlan_calls (B : BookV) (A : Option Addr) (c : Nat) (path : List Int) (w : World) (hB : B.Reads w) (hp : IntsAt w A path) :
    Calls Tryd.prog 27 #[B.val, .slice A path.length c] w fun e w' => e = .returned (isPlanR B path) ∧ Below w.heap.size w w' := by
  have HB := Lib.hid hB
  have HP := Lib.hid hp
  have Hb : Below w.heap.size w (w.alloc (.cells B.cells 27)) := (Below.refl _ _).alloc (Nat.le_refl _) _
  have K2 := Lib.hid (BoxAt.new w B.cells 27)
  have Hr : Hid (isPlanR B path = bif goodB B then .tuple #[.bool (isPathS B.parts B.start path && isPlanS B path), .int .i64 0] else .tuple #[.bool false, .int .i64 80]) := rfl
  clear hB hp
  unfold BookV.val BookV.cells
  go_enter Tryd.func27, Tryd.ntmps27
  go_wp2_with fail
  refine (eq0_1 (v' := B.val) (by unfold BookV.val BookV.cells; rfl) (refCheck_calls B _ (HB.out.below Hb))).mono ?_
  rintro e w1 ⟨rfl, hb⟩
  have H1 := Lib.hid (below_then Hb Hb.size hb)
  have K21 := Lib.hid (K2.out.below hb)
  clear hb Hb
  cases hg : goodB B with
  | false =>
    rw [cond_false]
    have Hg := Lib.hid hg
    clear hg
    go_wp2
    go_ret2
    exact ⟨(by rw [Hr.out, Hg.out]; rfl), H1.out⟩
  | true =>
    rw [cond_true]
    have Hg := Lib.hid hg
    have g := Lib.hid ((goodB_iff B).1 hg)
    obtain ⟨c2, f2, l2⟩ := K21.out
    unfold BookV.cells at c2
    clear hg
    go_wp2_with fail
    refine (eq0_2 (v' := B.val) (by unfold BookV.val BookV.cells; rfl) (refIsPath_calls B g.out A c path _ (HP.out.below H1.out))).mono ?_
    rintro e w2 ⟨rfl, hb⟩
    have H2 := Lib.hid (below_then H1.out H1.out.size hb)
    have K22 := Lib.hid (K21.out.below hb)
    clear hb c2 f2 l2
    cases hi : isPathS B.parts B.start path with
    | false =>
      have Hi := Lib.hid hi
      clear hi
      go_wp2
      go_ret2
      exact ⟨(by rw [Hr.out, Hg.out, Hi.out]; rfl), H2.out⟩
    | true =>
      have Hi := Lib.hid hi
      have ip := Lib.hid ((isPathS_iff g.out path).1 hi)
      obtain ⟨c2, f2, l2⟩ := K22.out
      unfold BookV.cells at c2
      clear hi
      go_wp2_with fail
      refine (eq0_2 (v' := B.val) (by unfold BookV.val BookV.cells; rfl) (refIsPlanI_calls B g.out A c path ip.out _ (HB.out.below H2.out) (HP.out.below H2.out))).mono ?_
      rintro e w3 ⟨rfl, hb⟩
      have H3 := Lib.hid (below_then H2.out H2.out.size hb)
      clear hb c2 f2 l2
      go_wp2
      go_ret2
      exact ⟨(by rw [Hr.out, Hg.out, Hi.out]; rfl), H3.out⟩
end Go.Proofs.YtljikigmfkfkiaaDoor
