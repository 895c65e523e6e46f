import Derived.Test.YtljikigmfkfkiaaDoorCJ
import Derived.Test.YtljikigmfkfkiaaDoorBY
namespace Go.Proofs.YtljikigmfkfkiaaDoor
open Go.RowKit Go.Shelf
attribute [local go_sem] Oper.semAt_some
set_option linter.unusedSimpArgs false
set_option linter.unusedVariables false

/-! The reference's Bound and Cues. -/
set_option maxRecDepth 100000 in
set_option maxHeartbeats 1000000 in
theorem refAsked_calls (B : BookV) (ok : Bool) (w : World) (hB : B.Reads w) :
    Calls Tryd.prog 81 #[B.val, .bool ok] w fun e w' => e = .returned (.int .i64 (bif goodB B then (bif ok then 0 else 81) else 80)) ∧ Below w.heap.size w w' := by
  have HB := Lib.hid hB
  have Hb : Below w.heap.size w (w.alloc (.cells B.cells 27)) := (Below.refl _ _).alloc (Nat.le_refl _) _
  have K2 := Lib.hid (BoxAt.new w B.cells 27)
  clear hB
  unfold BookV.val BookV.cells
  go_enter Tryd.func81, Tryd.ntmps81
  go_wp2_with fail
  refine (eq0_1 (v' := B.val) (by unfold BookV.val BookV.cells; rfl) (refCheck_calls B _ (HB.out.below Hb))).mono ?_
  rintro e w1 ⟨rfl, hb⟩
  have H1 := below_then Hb Hb.size hb
  clear hb Hb
  cases hg : goodB B with
  | false =>
    rw [cond_false]
    have Hg := Lib.hid hg
    clear hg
    go_wp2
    go_ret
    exact ⟨by rw [Hg.out]; rfl, H1⟩
  | true =>
    rw [cond_true]
    have Hg := Lib.hid hg
    clear hg
    cases ok
    all_goals
      go_wp2
      go_ret
      exact ⟨by rw [Hg.out]; rfl, H1⟩
/-- what the search by halves holds -/
def Halves (has : Int → Bool) (l h : Int) : Prop := -1 ≤ l ∧ l < h ∧ h ≤ 501 ∧ (l = -1 ∨ has l = true) ∧ (h = 501 ∨ has h = false)
theorem Halves.end_ {B : BookV} (g : B.Good) {j : Nat} (hj : j < B.players.length) {l h : Int} (H : Halves (hasPlan B j) l h) (he : ¬ 1 < h - l) : boundR B j = if l < 0 then two 0 4 else two l 0 := by
  obtain ⟨h1, h2, h3, h4, h5⟩ := H
  obtain rfl : h = l + 1 := by omega
  by_cases hl : l < 0
  · rw [if_pos hl]
    obtain rfl : l = -1 := by omega
    have : hasPlan B j 0 = false := by
      rcases h5 with h | h
      · omega
      · simpa using h
    exact (bound_none g hj this).1
  · rw [if_neg hl]
    have hh : hasPlan B j l = true := by rcases h4 with h | h; omega; exact h
    obtain ⟨n, hn0, hn5, hR, hall⟩ := bound_some g hj (has_mono g hj (Int.le_refl _) (show 0 ≤ l by omega) (by omega) hh)
    have e1 := (hall l (by omega) (by omega)).1 hh
    have : n = l := by
      rcases h5 with h | h
      · omega
      · by_cases hx : l + 1 ≤ n
        · have := (hall (l + 1) (by omega) (by omega)).2 hx
          rw [h] at this; cases this
        · omega
    rw [hR, this]
theorem bookHeld_has {B : BookV} (g : B.Good) {j : Nat} (hj : j < B.players.length) {k : Int} (hk : 0 ≤ k ∧ k ≤ 500) (gg c : Nat) : decide ((0 : Int) < (allPlans (bookHeld B gg c j 0 k)).length) = hasPlan B j k := by
  have h := held_plans g hj (lo := 0) (hi := k) (by omega) gg c
  cases hh : hasPlan B j k with
  | true =>
    have := h.2 hh
    rw [decide_eq_true_eq]
    have : 0 < (allPlans (bookHeld B gg c j 0 k)).length := by
      cases he : allPlans (bookHeld B gg c j 0 k) with
      | nil => exact absurd he this
      | cons x l => simp
    omega
  | false =>
    rw [decide_eq_false_iff_not]
    intro hx
    have : hasPlan B j k = true := h.1 (by intro e; rw [e] at hx; simp at hx)
    rw [hh] at this; cases this
set_option maxRecDepth 100000 in
set_option maxHeartbeats 8000000 in
theorem refBound_calls (B : BookV) (player : Int) (w : World) (hB : B.Reads w) :
    Calls Tryd.prog 33 #[B.val, .int .i64 player] w fun e w' => e = .returned (boundR B player) ∧ Below w.heap.size w w' := by
  have HB := Lib.hid hB
  have Hb : Below w.heap.size w (w.alloc (.cells B.cells 27)) := (Below.refl _ _).alloc (Nat.le_refl _) _
  have k2 := BoxAt.new w B.cells 27
  have Hr : Hid (boundR B player = bif goodB B then (bif inB player 0 (B.players.length - 1) then (bif hasPlan B player.toNat 0 then two (findS (hasPlan B player.toNat) 500 0 500) 0 else two 0 4) else two 0 81) else two 0 80) := rfl
  have hpl := hB.2.1
  have hwl : IntKind.i64.wrap ((B.players.length : Int) - 1) = (B.players.length : Int) - 1 := wrap_in (by omega) (by omega)
  clear hB
  unfold BookV.val BookV.cells
  go_enter Tryd.func33, Tryd.ntmps33
  go_upto_region 1 with (fail)
  unfold BookV.cells at Hb k2
  have hsz0 : w.heap.size < (w.alloc (.cells #[.int .i64 B.parts, .int .i64 B.size, .slice B.bA B.beats.length B.bCap, .int .i64 B.start, .int .i64 B.fin, .int .i64 B.tlo, .int .i64 B.thi, .int .i64 B.slo, .int .i64 B.shi, .int .i64 B.notice, .slice B.pA B.players.length B.pCap] 27)).heap.size := by simp
  generalize w.alloc _ = w0 at *
  have K2 := Lib.hid k2
  have Hb0 := Lib.hid Hb
  obtain ⟨c2, f2, l2⟩ := k2
  clear Hb
  refine region_plain (S := fun w' => Below w0.heap.size w0 w') 9 (by kernel_rfl) ?_ (fun hHeld => ?_)
  · exact (Below.refl _ _).drew
  first | (refine anyT_take 0 (some 11) (v := ?_) rfl rfl (by kernel_rfl) (by kernel_rfl) (by kernel_rfl) (by kernel_rfl) (fun _ _ _ h => h) (Or.inl ⟨by rfl, ?_⟩) hHeld ?_; rotate_left; focus (intro wq hSw; obtain ⟨hcq, hfq⟩ := bcell hSw; go_simp; (try with_reducible rfl); done))
  (try simp only [Act.put, List.setIfInBounds_toArray, List.set_cons_zero, List.set_cons_succ])
  first | (refine anyT_take 1 (some 12) (v := ?_) rfl rfl (by kernel_rfl) (by kernel_rfl) (by kernel_rfl) (by kernel_rfl) (fun _ _ _ h => h) (Or.inl ⟨by rfl, ?_⟩) hHeld ?_; rotate_left; focus (intro wq hSw; obtain ⟨hcq, hfq⟩ := bcell hSw; go_simp; (try with_reducible rfl); done))
  (try simp only [Act.put, List.setIfInBounds_toArray, List.set_cons_zero, List.set_cons_succ])
  first | (refine anyT_take 2 (some 13) (v := ?_) rfl rfl (by kernel_rfl) (by kernel_rfl) (by kernel_rfl) (by kernel_rfl) (fun _ _ _ h => h) (Or.inl ⟨by rfl, ?_⟩) hHeld ?_; rotate_left; focus (intro wq hSw; obtain ⟨hcq, hfq⟩ := bcell hSw; go_simp; (try with_reducible rfl); done))
  (try simp only [Act.put, List.setIfInBounds_toArray, List.set_cons_zero, List.set_cons_succ])
  first | (refine anyT_take 3 (some 14) (v := ?_) rfl rfl (by kernel_rfl) (by kernel_rfl) (by kernel_rfl) (by kernel_rfl) (fun _ _ _ h => h) (Or.inl ⟨by rfl, ?_⟩) hHeld ?_; rotate_left; focus (intro wq hSw; obtain ⟨hcq, hfq⟩ := bcell hSw; go_simp; (try with_reducible rfl); done))
  (try simp only [Act.put, List.setIfInBounds_toArray, List.set_cons_zero, List.set_cons_succ])
  first | (refine anyT_take 4 (some 15) (v := ?_) rfl rfl (by kernel_rfl) (by kernel_rfl) (by kernel_rfl) (by kernel_rfl) (fun _ _ _ h => h) (Or.inl ⟨by rfl, ?_⟩) hHeld ?_; rotate_left; focus (intro wq hSw; obtain ⟨hcq, hfq⟩ := bcell hSw; go_simp; (try with_reducible rfl); done))
  (try simp only [Act.put, List.setIfInBounds_toArray, List.set_cons_zero, List.set_cons_succ])
  first | (refine anyT_take 5 (some 16) (v := ?_) rfl rfl (by kernel_rfl) (by kernel_rfl) (by kernel_rfl) (by kernel_rfl) (fun _ _ _ h => h) (Or.inl ⟨by rfl, ?_⟩) hHeld ?_; rotate_left; focus (intro wq hSw; obtain ⟨hcq, hfq⟩ := bcell hSw; go_simp; (try with_reducible rfl); done))
  (try simp only [Act.put, List.setIfInBounds_toArray, List.set_cons_zero, List.set_cons_succ])
  refine anyT_one 6 (by kernel_rfl) rfl (fun K hK => ?_)
  go_simp
  refine (Sits_calls _ _ _ _).mono ?_; rintro e w3 ⟨rfl, rfl⟩
  refine hK.out _ _ ?_ (fun hHeld => ?_)
  · exact hHeld
  clear hK K
  (try simp only [Act.put, List.setIfInBounds_toArray, List.set_cons_zero, List.set_cons_succ])
  refine anyT_one 7 (by kernel_rfl) rfl (fun K hK => ?_)
  have hbq : Below w.heap.size w _ := below_then Hb0.out Hb0.out.size hHeld
  go_simp
  refine (eq0_2 (v' := B.val) (by unfold BookV.val BookV.cells; rfl) (refAsked_calls B _ _ (HB.out.below hbq))).mono ?_; clear hbq; rintro e w4 ⟨rfl, hb4⟩
  refine hK.out _ _ ?_ (fun hHeld => ?_)
  · exact below_then hHeld hHeld.size hb4
  clear hK K
  (try simp only [Act.put, List.setIfInBounds_toArray, List.set_cons_zero, List.set_cons_succ])
  first | (refine anyT_take 8 (some 6) (v := ?_) rfl rfl (by kernel_rfl) (by kernel_rfl) (by kernel_rfl) (by kernel_rfl) (fun _ _ _ h => h) (Or.inl ⟨by rfl, ?_⟩) hHeld ?_; rotate_left; focus (intro wq hSw; obtain ⟨hcq, hfq⟩ := bcell hSw; go_simp; (try with_reducible rfl); done))
  (try simp only [Act.put, List.setIfInBounds_toArray, List.set_cons_zero, List.set_cons_succ])
  refine anyT_done (by kernel_rfl) ?_ _
  have H4 := Lib.hid (below_then Hb0.out Hb0.out.size hHeld)
  have K24 := Lib.hid (K2.out.below hHeld)
  clear c2 f2 l2 hHeld
  cases hg : goodB B with
  | false =>
    rw [cond_false]
    have Hg := Lib.hid hg
    clear hg
    go_wp2
    go_ret2
    exact ⟨by rw [Hr.out, Hg.out]; rfl, H4.out⟩
  | true =>
    rw [cond_true]
    have g := Lib.hid ((goodB_iff B).1 hg)
    have Hg := Lib.hid hg
    clear hg
    cases hin : inB player 0 (B.players.length - 1) with
    | false =>
      rw [cond_false]
      have Hin := Lib.hid hin
      clear hin
      go_wp2
      go_ret2
      exact ⟨by rw [Hr.out, Hg.out, Hin.out]; rfl, H4.out⟩
    | true =>
      rw [cond_true]
      have hin' := inB_iff.1 hin
      obtain ⟨j, rfl⟩ := Int.eq_ofNat_of_zero_le hin'.1
      have hj : j < B.players.length := by omega
      have hl : 0 < B.players.length ∧ B.players.length ≤ 5 := by have := g.out.many; omega
      have Hj := Lib.hid hj
      have Hl := Lib.hid hl
      have hb2 := HB.out.2
      obtain ⟨left, hc, _⟩ := hb2
      obtain ⟨b, o, hpA, hcs⟩ := hc.resolve_left (by intro h; rw [h] at hl; simp at hl)
      have hcc := pcells_at hcs
      have Hcc := Lib.hid hcc
      have Hcs := Lib.hid (hcs j hj)
      have HpA := Lib.hid hpA
      have hji : (j : Int) < B.players.length := by omega
      obtain ⟨i0, hi, hz0, hz1, hz2⟩ := info_parts info68
      clear hc hcs hcc hin hin' Hr hwl hpl
      rw [hpA] at K24
      clear hpA left
      go_upto_block 0 with (fail)
      go_wp2
      go_loopg [7, 8] 502 (fun gk lo hi wr => ∃ l h : Int, Halves (hasPlan B j) l h ∧ gk = (h - l).toNat ∧ lo = .int .i64 l ∧ hi = .int .i64 h ∧ Below w4.heap.size w4 wr)
      case atStart => exact ⟨-1, 501, ⟨by omega, by omega, by omega, .inl rfl, .inl rfl⟩, rfl, rfl, rfl, Below.refl _ _⟩
      case round =>
        obtain ⟨l, h, HH, hgk, rfl, rfl, hbe⟩ := hrel
        have HHH := Lib.hid HH
        have Hgk := Lib.hid hgk
        have HW := Lib.hid (below_then H4.out H4.out.size hbe)
        have Hbe := Lib.hid hbe
        have Kr := Lib.hid (K24.out.below hbe)
        clear hgk hbe
        obtain ⟨hl1, hl2, hl3, -, -⟩ := HH
        have hws : IntKind.i64.wrap (h - l) = h - l := wrap_in (by omega) (by omega)
        by_cases hlt : 1 < h - l
        · obtain ⟨at_, hat⟩ : ∃ k, k = (l + h) / 2 := ⟨_, rfl⟩
          have hat1 : l < at_ ∧ at_ < h ∧ 0 ≤ at_ ∧ at_ ≤ 500 := by omega
          have hw1 : IntKind.i64.wrap (l + h) = l + h := wrap_in (by omega) (by omega)
          have hw3 : (l + h).tdiv 2 = at_ := by rw [hat]; exact Int.tdiv_eq_ediv_of_nonneg (by omega)
          have hw4 : IntKind.i64.wrap at_ = at_ := wrap_in (by omega) (by omega)
          have Hat := Lib.hid hat1
          clear hat hat1
          obtain ⟨c2, f2, l2⟩ := Kr.out
          go_upto_region 8 with (fail)
          have k3 := BoxAt.new wr #[.int .i64 B.parts, .int .i64 B.size, .slice B.bA B.beats.length B.bCap, .int .i64 B.start, .int .i64 B.fin, .int .i64 B.tlo, .int .i64 B.thi, .int .i64 B.slo, .int .i64 B.shi, .int .i64 B.notice, .slice (some ⟨b, o, none⟩) B.players.length B.pCap] 27
          have hb1 : Below wr.heap.size wr (wr.alloc (.cells #[.int .i64 B.parts, .int .i64 B.size, .slice B.bA B.beats.length B.bCap, .int .i64 B.start, .int .i64 B.fin, .int .i64 B.tlo, .int .i64 B.thi, .int .i64 B.slo, .int .i64 B.shi, .int .i64 B.notice, .slice (some ⟨b, o, none⟩) B.players.length B.pCap] 27)) := (Below.refl _ _).alloc (Nat.le_refl _) _
          have hs1 : (wr.alloc (.cells #[.int .i64 B.parts, .int .i64 B.size, .slice B.bA B.beats.length B.bCap, .int .i64 B.start, .int .i64 B.fin, .int .i64 B.tlo, .int .i64 B.thi, .int .i64 B.slo, .int .i64 B.shi, .int .i64 B.notice, .slice (some ⟨b, o, none⟩) B.players.length B.pCap] 27)).heap.size = wr.heap.size + 1 := by simp
          generalize wr.alloc _ = W1 at *
          have K3 := Lib.hid k3
          have Hb1 := Lib.hid hb1
          have Hs1 := Lib.hid hs1
          have hbe1 : Below W1.heap.size W1 (W1.alloc (.cells #[] 68)) := (Below.refl _ _).alloc (Nat.le_refl _) _
          have hown := World.ownsRow_made (w := W1) (base := W1.heap.size) (e := 68) (size := 3) #[] 0 (Nat.le_refl _) (Nat.zero_le _) rfl
          have Hown := Lib.hid hown
          have Hbe1 := Lib.hid hbe1
          clear c2 f2 l2 hown hbe1 hb1 hs1 k3
          obtain ⟨c2, f2, l2⟩ := Kr.out.below Hb1.out
          go_wp2_with (at_builtin; refine wpList_append_own _ rfl _ _ 25 rfl W1.heap.size 68 i0 (.agg #[.int .i64 0, .int .i64 0, .slice none 0 0]) 3 40 under25 hi hz0 hz1 hz2 rfl (by decide) _ 0 [] rfl Hown.out ⟨b, o, none⟩ B.players.length B.pCap (pcells B.players) rfl (pcells_len B.players) (fun j u hu => cell_below (below_then (below_then HW.out HW.out.size Hb1.out) (Nat.le_trans HW.out.size Hb1.out.size) Hbe1.out) (Hcc.out j u hu)) (by intro u hu; simp only [pcells, List.mem_flatMap, List.mem_cons, List.not_mem_nil, or_false] at hu; obtain ⟨p, _, h⟩ := hu; rcases h with rfl | rfl | rfl <;> rfl) (by unfold maxLen; omega) (by omega) (by simp) ?_)
          intro v' w5 ho hg hn
          obtain ⟨h1, h2⟩ := ho
          have hb5 : Below W1.heap.size W1 w5 := Hbe1.out.grown hg (by simp) (by rintro k ⟨⟩; exact Nat.le_refl _)
          rcases h2 with ⟨rfl, hz⟩ | ⟨g', cap, cur, rfl, hgw, hbl, hcap, hmax, hs, ht⟩
          · have := Hl.out; omega
          have hP : PBox w5 g' B.players := by
            refine ⟨cur, _, hbl, fun j hj => ?_⟩
            have key : ∀ i, i < B.players.length * 3 → cur[i]? = (pcells B.players)[i]? := by
              intro i hi
              rw [← ht, List.getElem?_take, if_pos hi, Array.getElem?_toList]
            obtain ⟨g0, g1, g2⟩ := pcells_get B.players j hj
            exact ⟨(key _ (by omega)).trans g0, (key _ (by omega)).trans g1, (key _ (by omega)).trans g2⟩
          have HP := Lib.hid hP
          have Hb5 := Lib.hid hb5
          have Hg' : Hid (wr.heap.size + 1 ≤ g') := by have := Hs1.out; unfold Hid; omega
          clear hg hn h1 hbl hs ht hP hb5 c2 f2 l2 hgw
          obtain ⟨c3, f3, l3⟩ := K3.out.below Hb5.out
          go_upto_region 9 with (fail)
          have k3 := (K3.out.below Hb5.out).put 10 (.slice (some ⟨g', 0, none⟩) B.players.length cap) (by simp)
          have hk : Keep (fun k => k = wr.heap.size) w5 (w5.setCell ⟨wr.heap.size, 10, none⟩ (.slice (some ⟨g', 0, none⟩) B.players.length cap)) :=
            Keep.setCell (M := fun k => k = wr.heap.size) (Keep.refl _ _) (p := ⟨wr.heap.size, 10, none⟩) (.inl rfl) _
          have k2 := ((Kr.out.below Hb1.out).below Hb5.out).keep hk (by have := Kr.out.lt; omega)
          have p6 := HP.out.keep hk (by have := Hg'.out; omega)
          have hw6 : Below wr.heap.size wr (w5.setCell ⟨wr.heap.size, 10, none⟩ (.slice (some ⟨g', 0, none⟩) B.players.length cap)) :=
            (below_then Hb1.out Hb1.out.size Hb5.out).setCell (p := ⟨wr.heap.size, 10, none⟩) (Nat.le_refl _) _
          generalize World.setCell _ _ _ = W6 at *
          have Hw6 := Lib.hid hw6
          have P6 := Lib.hid p6
          have K26 := Lib.hid k2
          have K36 := Lib.hid k3
          obtain ⟨c3, f3, l3⟩ := k3
          obtain ⟨c2, f2, l2⟩ := k2
          simp only [List.setIfInBounds_toArray, List.set_cons_zero, List.set_cons_succ] at c3
          have hc2 := cell_below (below_then HW.out HW.out.size hw6) Hcs.out.2.2
          have bl := World.block_lt_of_cell? _ _ hc2
          simp only at bl
          clear hk hw6 p6
          refine region_plain (S := fun w' => Below W6.heap.size W6 w') 13 (by kernel_rfl) ?_ (fun hHeld => ?_)
          · exact (Below.refl _ _).drew
          first | (refine anyT_take 0 (some 36) (v := ?_) rfl rfl (by kernel_rfl) (by kernel_rfl) (by kernel_rfl) (by kernel_rfl) (fun _ _ _ h => h) (Or.inl ⟨by rfl, ?_⟩) hHeld ?_; rotate_left; focus (intro wq hSw; obtain ⟨hcq, hfq⟩ := bcell hSw; go_simp; (try with_reducible rfl); done))
          (try simp only [Act.put, List.setIfInBounds_toArray, List.set_cons_zero, List.set_cons_succ])
          first | (refine anyT_take 1 (some 37) (v := ?_) rfl rfl (by kernel_rfl) (by kernel_rfl) (by kernel_rfl) (by kernel_rfl) (fun _ _ _ h => h) (Or.inl ⟨by rfl, ?_⟩) hHeld ?_; rotate_left; focus (intro wq hSw; obtain ⟨hcq, hfq⟩ := bcell hSw; go_simp; (try with_reducible rfl); done))
          (try simp only [Act.put, List.setIfInBounds_toArray, List.set_cons_zero, List.set_cons_succ])
          first | (refine anyT_take 2 (some 38) (v := ?_) rfl rfl (by kernel_rfl) (by kernel_rfl) (by kernel_rfl) (by kernel_rfl) (fun _ _ _ h => h) (Or.inl ⟨by rfl, ?_⟩) hHeld ?_; rotate_left; focus (intro wq hSw; obtain ⟨hcq, hfq⟩ := bcell hSw; go_simp; (try with_reducible rfl); done))
          (try simp only [Act.put, List.setIfInBounds_toArray, List.set_cons_zero, List.set_cons_succ])
          first | (refine anyT_take 3 (some 39) (v := ?_) rfl rfl (by kernel_rfl) (by kernel_rfl) (by kernel_rfl) (by kernel_rfl) (fun _ _ _ h => h) (Or.inl ⟨by rfl, ?_⟩) hHeld ?_; rotate_left; focus (intro wq hSw; obtain ⟨hcq, hfq⟩ := bcell hSw; go_simp; (try with_reducible rfl); done))
          (try simp only [Act.put, List.setIfInBounds_toArray, List.set_cons_zero, List.set_cons_succ])
          first | (refine anyT_take 5 (some 41) (v := ?_) rfl rfl (by kernel_rfl) (by kernel_rfl) (by kernel_rfl) (by kernel_rfl) (fun _ _ _ h => h) (Or.inl ⟨by rfl, ?_⟩) hHeld ?_; rotate_left; focus (intro wq hSw; obtain ⟨hcq, hfq⟩ := bcell hSw; go_simp; (try with_reducible rfl); done))
          (try simp only [Act.put, List.setIfInBounds_toArray, List.set_cons_zero, List.set_cons_succ])
          first | (refine anyT_take 6 (some 42) (v := ?_) rfl rfl (by kernel_rfl) (by kernel_rfl) (by kernel_rfl) (by kernel_rfl) (fun _ _ _ h => h) (Or.inl ⟨by rfl, ?_⟩) hHeld ?_; rotate_left; focus (intro wq hSw; obtain ⟨hcq, hfq⟩ := bcell hSw; go_simp; (try with_reducible rfl); done))
          (try simp only [Act.put, List.setIfInBounds_toArray, List.set_cons_zero, List.set_cons_succ])
          first | (refine anyT_take 7 (some 43) (v := ?_) rfl rfl (by kernel_rfl) (by kernel_rfl) (by kernel_rfl) (by kernel_rfl) (fun _ _ _ h => h) (Or.inl ⟨by rfl, ?_⟩) hHeld ?_; rotate_left; focus (intro wq hSw; obtain ⟨hcq, hfq⟩ := bcell hSw; go_simp; (try with_reducible rfl); done))
          (try simp only [Act.put, List.setIfInBounds_toArray, List.set_cons_zero, List.set_cons_succ])
          first | (refine anyT_take 8 (some 44) (v := ?_) rfl rfl (by kernel_rfl) (by kernel_rfl) (by kernel_rfl) (by kernel_rfl) (fun _ _ _ h => h) (Or.inl ⟨by rfl, ?_⟩) hHeld ?_; rotate_left; focus (intro wq hSw; obtain ⟨hcq, hfq⟩ := bcell hSw; go_simp; (try with_reducible rfl); done))
          (try simp only [Act.put, List.setIfInBounds_toArray, List.set_cons_zero, List.set_cons_succ])
          first | (refine anyT_take 9 (some 45) (v := ?_) rfl rfl (by kernel_rfl) (by kernel_rfl) (by kernel_rfl) (by kernel_rfl) (fun _ _ _ h => h) (Or.inl ⟨by rfl, ?_⟩) hHeld ?_; rotate_left; focus (intro wq hSw; obtain ⟨hcq, hfq⟩ := bcell hSw; go_simp; (try with_reducible rfl); done))
          (try simp only [Act.put, List.setIfInBounds_toArray, List.set_cons_zero, List.set_cons_succ])
          first | (refine anyT_take 10 (some 46) (v := ?_) rfl rfl (by kernel_rfl) (by kernel_rfl) (by kernel_rfl) (by kernel_rfl) (fun _ _ _ h => h) (Or.inl ⟨by rfl, ?_⟩) hHeld ?_; rotate_left; focus (intro wq hSw; obtain ⟨hcq, hfq⟩ := bcell hSw; go_simp; (try with_reducible rfl); done))
          (try simp only [Act.put, List.setIfInBounds_toArray, List.set_cons_zero, List.set_cons_succ])
          refine anyT_one 4 (by kernel_rfl) rfl (fun K hK => ?_)
          go_simp
          refine (Band_calls _ _ _).mono ?_; rintro e w7 ⟨rfl, hb7⟩
          refine hK.out _ _ ?_ (fun hHeld => ?_)
          · exact below_then hHeld hHeld.size hb7
          clear hK K
          (try simp only [Act.put, List.setIfInBounds_toArray, List.set_cons_zero, List.set_cons_succ])
          first | (refine anyT_take 11 (some 47) (v := ?_) rfl rfl (by kernel_rfl) (by kernel_rfl) (by kernel_rfl) (by kernel_rfl) (fun _ _ _ h => h) (Or.inl ⟨by rfl, ?_⟩) hHeld ?_; rotate_left; focus (intro wq hSw; obtain ⟨hcq, hfq⟩ := bcell hSw; go_simp; (try with_reducible rfl); done))
          (try simp only [Act.put, List.setIfInBounds_toArray, List.set_cons_zero, List.set_cons_succ])
          first | (refine anyT_take 12 (some 48) (v := ?_) rfl rfl (by kernel_rfl) (by kernel_rfl) (by kernel_rfl) (by kernel_rfl) (fun _ _ _ h => h) (Or.inl ⟨by rfl, ?_⟩) hHeld ?_; rotate_left; focus (intro wq hSw; obtain ⟨hcq, hfq⟩ := bcell hSw; go_simp; (try with_reducible rfl); done))
          (try simp only [Act.put, List.setIfInBounds_toArray, List.set_cons_zero, List.set_cons_succ])
          refine anyT_last (by kernel_rfl) rfl (fun K hK => ?_)
          obtain ⟨cur7, tt, hgh, hgc⟩ := P6.out.below hHeld; obtain ⟨q0, q1, q2⟩ := hgc j Hj.out; have gcell : ∀ i, w7.cell? ⟨g', i, none⟩ = cur7[i]? := fun i => (by simp [World.cell?, hgh]); have gfr : ∀ i, w7.frozen? ⟨g', i, none⟩ = false := fun i => (by simp [World.frozen?, hgh]); have z0 : w7.cell? ⟨g', j * 3, none⟩ = _ := (gcell _).trans q0; have z1 : w7.cell? ⟨g', j * 3 + 1, none⟩ = _ := (gcell _).trans q1; have z2 : w7.cell? ⟨g', j * 3 + 2, none⟩ = _ := (gcell _).trans q2; have gl := (Array.getElem?_eq_some_iff.1 hgh).1; clear hgh hgc q0 q1 q2 gcell
          go_simp
          refine hK.out _ _ ?_
          clear hK K
          (try simp only [Act.put, List.setIfInBounds_toArray, List.set_cons_zero, List.set_cons_succ])
          refine anyT_done (by kernel_rfl) ?_ _
          have hk8 : Keep (fun k => k = g') w7 (((w7.setCell ⟨g', j * 3, none⟩ (.int .i64 0)).setCell ⟨g', j * 3 + 1, none⟩ (.int .i64 at_)).setCell ⟨g', j * 3 + 2, none⟩ (.slice (gp B.players j).cA (gp B.players j).catches.length (gp B.players j).cCap)) :=
            Keep.setCell (M := fun k => k = g') (Keep.setCell (M := fun k => k = g') (Keep.setCell (M := fun k => k = g') (Keep.refl _ _) (p := ⟨g', j * 3, none⟩) (.inl rfl) _) (p := ⟨g', j * 3 + 1, none⟩) (.inl rfl) _) (p := ⟨g', j * 3 + 2, none⟩) (.inl rfl) _
          have p8 := (P6.out.below hHeld).set3 j Hj.out 0 at_
          have k38 := (K36.out.below hHeld).keep hk8 (by have := Hg'.out; omega)
          have hw7 := below_then Hw6.out Hw6.out.size hHeld
          have hw8 := hw7.trans (hk8.below (fun k _ e => by have := Hg'.out; omega) hw7.size)
          clear c3 f3 l3 c2 f2 l2 hc2 bl hk8 hw7 hHeld
          generalize World.setCell (World.setCell (World.setCell w7 _ _) _ _) _ _ = W8 at *
          have Hw8 := Lib.hid hw8
          have hrd := bookHeld_reads (c := cap) HB.out (below_then HW.out HW.out.size hw8) Hj.out p8
          have Hrd := Lib.hid hrd
          obtain ⟨c3, f3, l3⟩ := k38
          simp only [List.setIfInBounds_toArray, List.set_cons_zero, List.set_cons_succ] at c3
          have hb500 : (0 : Int) ≤ at_ ∧ at_ ≤ 500 := by have := Hat.out; omega
          have hd := bookHeld_has g.out Hj.out hb500 g' cap
          have Hd := Lib.hid hd
          clear hrd hw8 p8 hd
          go_wp2_with fail
          refine (eq0_1 (v' := (bookHeld B g' cap j 0 at_).val) (bookHeld_val B g' cap j 0 at_).symm (refPlans0_calls _ (bookHeld_good g.out Hj.out (by omega) g' cap) _ Hrd.out)).mono ?_
          rintro e w9 ⟨⟨A9, cc9, rfl, hrows⟩, hb9⟩
          have H9 := Lib.hid (below_then Hbe.out Hbe.out.size (below_then Hw8.out Hw8.out.size hb9))
          clear hrows hb9 c3 f3 l3
          cases hh : hasPlan B j at_ with
          | true =>
            have hlen0 : (0 : Int) < (allPlans (bookHeld B g' cap j 0 at_)).length := of_decide_eq_true (Hd.out.trans hh)
            have Hh := Lib.hid hh
            clear hh
            go_wp2
            go_roundg (h - at_).toNat
            case measure => have := Hgk.out; have := Hat.out; omega
            case rel => exact ⟨at_, h, ⟨by omega, by have := Hat.out; omega, by omega, .inr Hh.out, HHH.out.2.2.2.2⟩, rfl, rfl, rfl, H9.out⟩
          | false =>
            have hlen0 : ¬ (0 : Int) < (allPlans (bookHeld B g' cap j 0 at_)).length := of_decide_eq_false (Hd.out.trans hh)
            have Hh := Lib.hid hh
            clear hh
            go_wp2
            go_roundg (at_ - l).toNat
            case measure => have := Hgk.out; have := Hat.out; omega
            case rel => exact ⟨l, at_, ⟨by omega, by have := Hat.out; omega, by have := Hat.out; omega, HHH.out.2.2.2.1, .inr Hh.out⟩, rfl, rfl, rfl, H9.out⟩
        · have he := HHH.out.end_ g.out Hj.out hlt
          by_cases hl0 : l < 0
          · rw [if_pos hl0] at he
            have He := Lib.hid he
            clear he
            go_wp2
            go_ret2
            exact ⟨(by rw [He.out]; rfl), HW.out⟩
          · rw [if_neg hl0] at he
            have He := Lib.hid he
            clear he
            go_wp2
            go_ret2
            exact ⟨(by rw [He.out]; rfl), HW.out⟩
end Go.Proofs.YtljikigmfkfkiaaDoor
