import Derived.Test.YtljikigmfkfkiaaDoorBW
namespace Go.Proofs.YtljikigmfkfkiaaDoor
open Go.RowKit Go.Shelf
attribute [local go_sem] Oper.semAt_some
set_option linter.unusedSimpArgs false
set_option linter.unusedVariables false

def pickTo (B : BookV) (L : List (List Int)) (i : Nat) : List (List Int) := (L.take i).filter (isPlanS B)
theorem pickTo_succ (B : BookV) {L : List (List Int)} {i : Nat} (h : i < L.length) : pickTo B L (i + 1) = pickTo B L i ++ bif isPlanS B (gl L i) then [gl L i] else [] := by
  have e : L.take (i + 1) = L.take i ++ [gl L i] := by
    rw [List.take_add_one, List.getElem?_eq_getElem h]
    unfold gl
    rw [List.getD_eq_getElem?_getD, List.getElem?_eq_getElem h]; rfl
  unfold pickTo
  rw [e, List.filter_append]
  cases hh : isPlanS B (gl L i) <;> simp [hh]
theorem pickTo_len (B : BookV) (L : List (List Int)) (i : Nat) : (pickTo B L i).length ≤ L.length := by
  unfold pickTo
  exact Nat.le_trans (List.length_filter_le _ _) (by simp; omega)
set_option maxRecDepth 100000 in
set_option maxHeartbeats 8000000 in
theorem refPlans0_calls (B : BookV) (g : B.Good) (w : World) (hB : B.Reads w) :
    Calls Tryd.prog 76 #[B.val] w fun e w' => (∃ A c, e = .returned (.slice A (allPlans B).length c) ∧ RowsAt w' A (allPlans B)) ∧ Below w.heap.size w w' := by
  have HB := Lib.hid hB
  have Hg := Lib.hid g
  have H : Below w.heap.size w (w.alloc (.cells B.cells 27)) := (Below.refl _ _).alloc (Nat.le_refl _) _
  have k1 := BoxAt.new w B.cells 27
  have hall : allPlans B = pickTo B (lev B.start (B.parts.toNat - 1)) (lev B.start (B.parts.toNat - 1)).length := by
    unfold allPlans plansFrom pickTo; rw [List.take_length, lev_eq]
  have hpaths : ∀ x, x ∈ lev B.start (B.parts.toNat - 1) → IsPath B x := by
    intro x hx
    rw [lev_eq] at hx
    exact pathsFrom_mem _ _ g.one (by have := g.parts; simp; omega) x hx
  have hll : (lev B.start (B.parts.toNat - 1)).length ≤ 16384 := by
    have h1 := lev_len B.start (B.parts.toNat - 1)
    have hp := g.parts
    have h2 : 4 ^ (B.parts.toNat - 1) ≤ 4 ^ 7 := Nat.pow_le_pow_right (by omega) (by omega)
    omega
  have Hall := Lib.hid hall
  have Hpaths := Lib.hid hpaths
  clear hB g hall hpaths
  unfold BookV.val BookV.cells
  go_enter Tryd.func76, Tryd.ntmps76
  go_upto_region 1 with (fail)
  unfold BookV.cells at H k1
  generalize w.alloc _ = w0 at *
  have K1 := Lib.hid k1
  obtain ⟨c1, f1, l1⟩ := k1
  go_wp2_with fail
  refine (eq0_1 (v' := B.val) (by unfold BookV.val BookV.cells; rfl) (refPaths_calls B Hg.out _)).mono ?_
  rintro e w1 ⟨⟨A1, c2, rfl, hrd⟩, hb⟩
  have H1 := Lib.hid (below_then H H.size hb)
  have K11 := Lib.hid (K1.out.below hb)
  have Hrd := Lib.hid hrd
  clear hb c1 f1 l1 H hrd
  generalize lev B.start (B.parts.toNat - 1) = L at *
  go_upto_block 0 with (fail)
  go_wp2
  go_loopg [5, 4] L.length (fun gk i v wr => ∃ k : Nat, k ≤ L.length ∧ gk = L.length - k ∧ i = .int .i64 k ∧ OwnRows wr w1.heap.size v (pickTo B L k) ∧ Below w1.heap.size w1 wr)
  case atStart => exact ⟨0, Nat.zero_le _, rfl, rfl, OwnRows.nil _ _, Below.refl _ _⟩
  case round =>
    obtain ⟨k, hk, hgk, rfl, hown, hbe⟩ := hrel
    have Hgk := Lib.hid hgk
    have Hown := Lib.hid hown
    have Hbe := Lib.hid hbe
    have HW := Lib.hid (below_then H1.out H1.out.size hbe)
    obtain ⟨c1, f1, l1⟩ := K11.out.below hbe
    clear hgk hown hbe
    by_cases hlt : k < L.length
    · have hki : (k : Int) < L.length := by omega
      obtain ⟨b3, o3, rfl, hrows⟩ := Hrd.out.2.resolve_left (by intro e; rw [e] at hlt; simp at hlt)
      obtain ⟨Aj, cj, hcell, hrow, hcj⟩ := hrows k hlt
      have Hrow := Lib.hid hrow
      have Hcell := Lib.hid hcell
      have Hip := Lib.hid (Hpaths.out _ (gl_mem hlt))
      have Hcj := Lib.hid hcj
      have hs := pickTo_succ B hlt
      have hpl := pickTo_len B L k
      generalize gl L k = p at *
      have q1 := cell_below Hbe.out hcell
      have bq1 := World.block_lt_of_cell? _ _ q1
      simp only at bq1
      clear hrows hrow hcell hcj
      cases hP : isPlanS B p with
      | false =>
        rw [hP, cond_false, List.append_nil] at hs
        have Hs := Lib.hid hs
        clear hs
        go_upto_region 6 with (fail)
        refine region_plain (S := fun w' => Below wr.heap.size wr w') 6 (by kernel_rfl) ?_ (fun hHeld => ?_)
        · exact (Below.refl _ _).drew
        first | (refine anyT_take 0 (some 14) (v := ?_) rfl rfl (by kernel_rfl) (by kernel_rfl) (by kernel_rfl) (by kernel_rfl) (fun _ _ _ h => h) (Or.inl ⟨by rfl, ?_⟩) hHeld ?_; rotate_left; focus (intro wq hSw; obtain ⟨hcq, hfq⟩ := bcell hSw; go_simp; (try with_reducible rfl); done))
        (try simp only [Act.put, List.setIfInBounds_toArray, List.set_cons_zero, List.set_cons_succ])
        first | (refine anyT_take 1 (some 15) (v := ?_) rfl rfl (by kernel_rfl) (by kernel_rfl) (by kernel_rfl) (by kernel_rfl) (fun _ _ _ h => h) (Or.inl ⟨by rfl, ?_⟩) hHeld ?_; rotate_left; focus (intro wq hSw; obtain ⟨hcq, hfq⟩ := bcell hSw; go_simp; (try with_reducible rfl); done))
        (try simp only [Act.put, List.setIfInBounds_toArray, List.set_cons_zero, List.set_cons_succ])
        first | (refine anyT_take 2 (some 16) (v := ?_) rfl rfl (by kernel_rfl) (by kernel_rfl) (by kernel_rfl) (by kernel_rfl) (fun _ _ _ h => h) (Or.inl ⟨by rfl, ?_⟩) hHeld ?_; rotate_left; focus (intro wq hSw; obtain ⟨hcq, hfq⟩ := bcell hSw; go_simp; (try with_reducible rfl); done))
        (try simp only [Act.put, List.setIfInBounds_toArray, List.set_cons_zero, List.set_cons_succ])
        first | (refine anyT_take 3 (some 17) (v := ?_) rfl rfl (by kernel_rfl) (by kernel_rfl) (by kernel_rfl) (by kernel_rfl) (fun _ _ _ h => h) (Or.inl ⟨by rfl, ?_⟩) hHeld ?_; rotate_left; focus (intro wq hSw; obtain ⟨hcq, hfq⟩ := bcell hSw; go_simp; (try with_reducible rfl); done))
        (try simp only [Act.put, List.setIfInBounds_toArray, List.set_cons_zero, List.set_cons_succ])
        first | (refine anyT_take 4 (some 18) (v := ?_) rfl rfl (by kernel_rfl) (by kernel_rfl) (by kernel_rfl) (by kernel_rfl) (fun _ _ _ h => h) (Or.inl ⟨by rfl, ?_⟩) hHeld ?_; rotate_left; focus (intro wq hSw; obtain ⟨hcq, hfq⟩ := bcell hSw; go_simp; (try with_reducible rfl); done))
        (try simp only [Act.put, List.setIfInBounds_toArray, List.set_cons_zero, List.set_cons_succ])
        refine anyT_one 5 (by kernel_rfl) rfl (fun K hK => ?_)
        have hbq : Below w.heap.size w _ := below_then HW.out HW.out.size hHeld
        go_simp
        refine (eq0_2 (v' := B.val) (by unfold BookV.val BookV.cells; rfl) (refIsPlanI_calls B Hg.out _ cj p Hip.out _ (HB.out.below hbq) ((Hrow.out.1.below Hbe.out).below hHeld))).mono ?_; clear hbq; rintro e w6 ⟨rfl, hb6⟩; rw [hP]
        refine hK.out _ _ ?_ (fun hHeld => ?_)
        · exact below_then hHeld hHeld.size hb6
        clear hK K
        (try simp only [Act.put, List.setIfInBounds_toArray, List.set_cons_zero, List.set_cons_succ])
        refine anyT_done (by kernel_rfl) ?_ _
        have Ho6 := Lib.hid (Hown.out.below hHeld)
        have Hb6 := Lib.hid (below_then Hbe.out Hbe.out.size hHeld)
        clear hHeld q1 bq1 c1 f1 l1
        go_wp2
        go_roundg (L.length - (k + 1))
        case measure => have := Hgk.out; omega
        case rel => exact ⟨k + 1, by omega, rfl, by go_num, by rw [Hs.out]; exact Ho6.out, Hb6.out⟩
      | true =>
        rw [hP, cond_true] at hs
        have Hs := Lib.hid hs
        clear hs
        go_upto_region 6 with (fail)
        refine region_plain (S := fun w' => Below wr.heap.size wr w') 6 (by kernel_rfl) ?_ (fun hHeld => ?_)
        · exact (Below.refl _ _).drew
        first | (refine anyT_take 0 (some 14) (v := ?_) rfl rfl (by kernel_rfl) (by kernel_rfl) (by kernel_rfl) (by kernel_rfl) (fun _ _ _ h => h) (Or.inl ⟨by rfl, ?_⟩) hHeld ?_; rotate_left; focus (intro wq hSw; obtain ⟨hcq, hfq⟩ := bcell hSw; go_simp; (try with_reducible rfl); done))
        (try simp only [Act.put, List.setIfInBounds_toArray, List.set_cons_zero, List.set_cons_succ])
        first | (refine anyT_take 1 (some 15) (v := ?_) rfl rfl (by kernel_rfl) (by kernel_rfl) (by kernel_rfl) (by kernel_rfl) (fun _ _ _ h => h) (Or.inl ⟨by rfl, ?_⟩) hHeld ?_; rotate_left; focus (intro wq hSw; obtain ⟨hcq, hfq⟩ := bcell hSw; go_simp; (try with_reducible rfl); done))
        (try simp only [Act.put, List.setIfInBounds_toArray, List.set_cons_zero, List.set_cons_succ])
        first | (refine anyT_take 2 (some 16) (v := ?_) rfl rfl (by kernel_rfl) (by kernel_rfl) (by kernel_rfl) (by kernel_rfl) (fun _ _ _ h => h) (Or.inl ⟨by rfl, ?_⟩) hHeld ?_; rotate_left; focus (intro wq hSw; obtain ⟨hcq, hfq⟩ := bcell hSw; go_simp; (try with_reducible rfl); done))
        (try simp only [Act.put, List.setIfInBounds_toArray, List.set_cons_zero, List.set_cons_succ])
        first | (refine anyT_take 3 (some 17) (v := ?_) rfl rfl (by kernel_rfl) (by kernel_rfl) (by kernel_rfl) (by kernel_rfl) (fun _ _ _ h => h) (Or.inl ⟨by rfl, ?_⟩) hHeld ?_; rotate_left; focus (intro wq hSw; obtain ⟨hcq, hfq⟩ := bcell hSw; go_simp; (try with_reducible rfl); done))
        (try simp only [Act.put, List.setIfInBounds_toArray, List.set_cons_zero, List.set_cons_succ])
        first | (refine anyT_take 4 (some 18) (v := ?_) rfl rfl (by kernel_rfl) (by kernel_rfl) (by kernel_rfl) (by kernel_rfl) (fun _ _ _ h => h) (Or.inl ⟨by rfl, ?_⟩) hHeld ?_; rotate_left; focus (intro wq hSw; obtain ⟨hcq, hfq⟩ := bcell hSw; go_simp; (try with_reducible rfl); done))
        (try simp only [Act.put, List.setIfInBounds_toArray, List.set_cons_zero, List.set_cons_succ])
        refine anyT_one 5 (by kernel_rfl) rfl (fun K hK => ?_)
        have hbq : Below w.heap.size w _ := below_then HW.out HW.out.size hHeld
        go_simp
        refine (eq0_2 (v' := B.val) (by unfold BookV.val BookV.cells; rfl) (refIsPlanI_calls B Hg.out _ cj p Hip.out _ (HB.out.below hbq) ((Hrow.out.1.below Hbe.out).below hHeld))).mono ?_; clear hbq; rintro e w6 ⟨rfl, hb6⟩; rw [hP]
        refine hK.out _ _ ?_ (fun hHeld => ?_)
        · exact below_then hHeld hHeld.size hb6
        clear hK K
        (try simp only [Act.put, List.setIfInBounds_toArray, List.set_cons_zero, List.set_cons_succ])
        refine anyT_done (by kernel_rfl) ?_ _
        have Ho6 := Lib.hid (Hown.out.below hHeld)
        have Hb6 := Lib.hid (below_then Hbe.out Hbe.out.size hHeld)
        have q2 := cell_below hHeld q1
        have bq2 := World.block_lt_of_cell? _ _ q2
        simp only at bq2
        clear hHeld q1 bq1 c1 f1 l1
        go_wp2_with (at_builtin; refine wpList_appR _ rfl _ _ rfl w1.heap.size _ _ rfl (Ho6.out.alloc _) _ _ p _ cj rfl (cell_new1 _ _ _) ((Hrow.out.below Hb6.out).below ((Below.refl _ _).alloc (Nat.le_refl _) _)) Hcj.out (by omega) (by have := Hb6.out.size; simp; omega) ?_)
        intro v' w7 ho hb7 hsz
        have Hho := Lib.hid ho
        have Hb7 := Lib.hid ((Hb6.out.alloc Hb6.out.size _).trans hb7)
        clear ho hb7 hsz q2 bq2
        go_wp2
        go_roundg (L.length - (k + 1))
        case measure => have := Hgk.out; omega
        case rel => exact ⟨k + 1, by omega, rfl, by go_num, by rw [Hs.out]; exact Hho.out, Hb7.out⟩
    · obtain rfl : k = L.length := by omega
      obtain ⟨A', c', rfl, hrd', hc', _⟩ := Hown.out.reads
      have Hrd' := Lib.hid hrd'
      clear hrd' c1 f1 l1
      go_wp2
      go_ret
      exact ⟨⟨A', c', (by rw [Hall.out]; rfl), by rw [Hall.out]; exact Hrd'.out⟩, HW.out⟩
end Go.Proofs.YtljikigmfkfkiaaDoor
