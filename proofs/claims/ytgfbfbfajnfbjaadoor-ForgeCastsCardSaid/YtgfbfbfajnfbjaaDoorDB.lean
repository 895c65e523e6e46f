/- PROVED: ForgeCasts (the walk): the law returns true, whatever the book and the numbers. -/
import Derived.Test.YtgfbfbfajnfbjaaDoorCX
import Derived.Test.YtgfbfbfajnfbjaaDoorCQ
import Derived.Test.YtgfbfbfajnfbjaaDoorBF
namespace Go.Proofs.YtgfbfbfajnfbjaaDoor
section
open Go.RowKit Go.Shelf
set_option linter.unusedSimpArgs false
set_option linter.unusedVariables false
/-! The reference's question whether discs can be cast, one behind the other. -/
def FitsCall (B : ForgeV) (n : Nat) : Prop := ∀ (left sizes : List Int) (A : Option Addr) (c : Nat) (A2 : Option Addr) (c2 : Nat) (w : World), sizes.length = n → n ≤ 4 → (∀ k, 0 ≤ gi sizes k ∧ gi sizes k ≤ 24) → left.length = B.lots.length → (∀ k, 0 ≤ gi left k ∧ gi left k ≤ 6) →
  B.Reads w → IntsAt w A left → left.length ≤ c → IntsAt w A2 sizes → sizes.length ≤ c2 →
  Calls Tryd.prog 79 #[B.val, .slice A left.length c, .slice A2 sizes.length c2] w fun e w' => e = .returned (.bool (castsS B left sizes).isSome) ∧ Below w.heap.size w w'
theorem split_at (ms : List (List Int)) (k : Nat) (h : k < ms.length) : ms = ms.take k ++ gm ms k :: ms.drop (k + 1) := by
  have h1 : ms.take k ++ ms.drop k = ms := List.take_append_drop k ms
  rw [List.drop_eq_getElem_cons h] at h1
  have h2 : gm ms k = ms[k] := by unfold gm; rw [List.getD_eq_getElem?_getD, List.getElem?_eq_getElem h]; rfl
  rw [h2]; exact h1.symm
theorem sub_take (a m : List Int) (h : a.length = m.length) (j : Nat) (hj : j < a.length) : (subL a m).take (j + 1) = (subL a m).take j ++ [gi a j - gi m j] := by
  have hl : j < (subL a m).length := by rw [subL_len a m h]; exact hj
  rw [List.take_add_one, ← gi_subL a m h, gi, List.getD_eq_getElem?_getD, List.getElem?_eq_getElem hl]; rfl
theorem castsS_some_of {B : ForgeV} {left sizes ss : List Int} {ms l1 l2 : List (List Int)} {m : List Int} (hst : castsS B left sizes = ms.findSome? fun m => (castsS B (subL left m) ss).map (m :: ·)) (hsp : ms = l1 ++ m :: l2)
    (hno : ∀ x, x ∈ l1 → castsS B (subL left x) ss = none) (h : (castsS B (subL left m) ss).isSome = true) : (castsS B left sizes).isSome = true := by
  obtain ⟨r, hr⟩ := Option.isSome_iff_exists.1 h
  have h1 : l1.findSome? (fun m => (castsS B (subL left m) ss).map (m :: ·)) = none := by
    rw [List.findSome?_eq_none_iff]; intro x hx; rw [hno x hx]; rfl
  rw [hst, hsp, List.findSome?_append, h1, Option.none_or, List.findSome?_cons, hr]; rfl
end
section
open Go.RowKit Go.Shelf
attribute [local go_sem] Oper.semAt_some
set_option linter.unusedSimpArgs false
set_option linter.unusedVariables false
set_option maxRecDepth 100000 in
set_option maxHeartbeats 2000000 in
theorem refFits_zero (B : ForgeV) : FitsCall B 0 := by
  intro left sizes A c A2 c2 w hn h4 hsb hl hlb hB hp hc hp2 hc2
  have hnil : sizes = [] := List.eq_nil_of_length_eq_zero hn
  subst hnil
  have H1 : Below w.heap.size w (w.alloc (.cells B.cells 28)) := (Below.refl _ _).alloc (Nat.le_refl _) _
  have hcells : B.val = .agg B.cells := rfl
  rw [hcells]
  unfold ForgeV.cells at H1 ⊢
  clear hB hp hp2 hsb hlb hl hc
  go_enter Tryd.func79, Tryd.ntmps79
  go_wp2
  go_ret
  exact ⟨rfl, H1⟩
set_option maxRecDepth 100000 in
set_option maxHeartbeats 8000000 in
theorem refFits_succ (B : ForgeV) (g : B.Good) (n : Nat) (IH : FitsCall B n) : FitsCall B (n + 1) := by
  intro left sizes A c A2 c2 w hn h4 hsb hl hlb hB hp hc hp2 hc2
  have hm4 := g.many
  have hpos : 0 < sizes.length := by omega
  obtain ⟨b, o, rfl, hpc⟩ := hp2.2.resolve_left (by intro e; rw [e] at hpos; simp at hpos)
  obtain ⟨lb, lo, rfl, hlc⟩ := hp.2.resolve_left (by intro e; rw [e] at hl; simp at hl; omega)
  have Hp2 := Lib.hid hp2
  have Hp := Lib.hid hp
  have HB0 := Lib.hid hB
  have Hg := Lib.hid g
  have Hl := Lib.hid hl
  have Hlb := Lib.hid hlb
  have hsd : sizes = gi sizes 0 :: sizes.drop 1 := by
    match sizes, hpos with
    | a :: t, _ => rfl
  have Hstep : Hid (∀ l, castsS B l sizes = (meltsS B l (gi sizes 0)).findSome? fun m => (castsS B (subL l m) (sizes.drop 1)).map (m :: ·)) := Lib.hid (fun l => by
    rw [hsd, castsS_step]; rfl)
  have hdl : (sizes.drop 1).length = sizes.length - 1 := by simp
  have hih : ∀ (oo cc : Nat) (rest : List Int) (RA : Option Addr) (rc : Nat) (W : World), sizes.length - 1 ≤ cc → rest.length = B.lots.length → (∀ k, 0 ≤ gi rest k ∧ gi rest k ≤ 6) → B.Reads W → IntsAt W RA rest → rest.length ≤ rc → IntsAt W (some ⟨b, oo, none⟩) (sizes.drop 1) →
      Calls Tryd.prog 79 #[B.val, .slice RA rest.length rc, .slice (some ⟨b, oo, none⟩) (sizes.length - 1) cc] W fun e w' => e = .returned (.bool (castsS B rest (sizes.drop 1)).isSome) ∧ Below W.heap.size W w' := by
    intro oo cc rest RA rc W hcc hr hrb hB hi hrc hs
    have h := IH rest (sizes.drop 1) RA rc (some ⟨b, oo, none⟩) cc W (by omega) (by omega) (fun k => by
      have := hsb (k + 1)
      unfold gi at this ⊢
      rw [List.getD_eq_getElem?_getD, List.getElem?_drop, Nat.add_comm 1 k]
      rwa [List.getD_eq_getElem?_getD] at this) hr hrb hB hi hrc hs (by omega)
    rw [hdl] at h
    exact h
  have Hih := Lib.hid hih
  have Hs0 := Lib.hid (hsb 0)
  have hne : ((sizes.length : Int) == 0) = false := by rw [beq_eq_false_iff_ne]; omega
  have hn4l : left.length ≤ 4 := by omega
  have k3 := BoxAt.new w B.cells 28
  have H1 : Below w.heap.size w (w.alloc (.cells B.cells 28)) := (Below.refl _ _).alloc (Nat.le_refl _) _
  have hcells : B.val = .agg B.cells := rfl
  rw [hcells]
  unfold ForgeV.cells at k3 H1 ⊢
  have Hc := Lib.hid hc
  have hsl2 : 1 ≤ sizes.length := hpos
  have hsl3 : (1 : Int) ≤ sizes.length := by omega
  clear hB hp hp2 hpc hlc hsb hlb hsd hdl hih IH hc g hl hn
  by_cases hcc : c2 = 1
  · subst hcc
    have Hl1 : Hid (sizes.length - 1 ≤ 0) := Lib.hid (by omega)
    have Hdp : Hid (∀ W : World, Below w.heap.size w W → IntsAt W (some ⟨b, o, none⟩) (sizes.drop 1)) := Lib.hid (fun W _ => ⟨by simp; omega, .inl (List.drop_of_length_le (by omega))⟩)
    clear hc2
    as_aux_lemma =>
      go_enter Tryd.func79, Tryd.ntmps79
      go_upto_region 1 with fail
      generalize w.alloc _ = W1 at *
      have K3 := Lib.hid k3
      have HW1 := Lib.hid H1
      have p0 := cell_below H1 (Hp2.out.at_ (k := 0) hpos)
      rw [Nat.add_zero] at p0
      have pbl := World.block_lt_of_cell? _ _ p0
      simp only at pbl
      obtain ⟨c3, f3, l3⟩ := k3
      clear H1
      go_upto_region 3 with (fail)
      refine region_plain (S := fun w' => Below W1.heap.size W1 w') 7 (by kernel_rfl) ?_ (fun hHeld => ?_)
      · exact (Below.refl _ _).drew
      first | (refine anyT_take 0 (some 14) (v := ?_) rfl rfl (by kernel_rfl) (by kernel_rfl) (by kernel_rfl) (by kernel_rfl) (fun _ _ _ h => h) (Or.inl ⟨by rfl, ?_⟩) hHeld ?_; rotate_left; focus (intro wq hSw; obtain ⟨hcq, hfq⟩ := bcell hSw; go_simp; (try with_reducible rfl); done))
      (try simp only [Act.put, List.setIfInBounds_toArray, List.set_cons_zero, List.set_cons_succ])
      first | (refine anyT_take 1 (some 15) (v := ?_) rfl rfl (by kernel_rfl) (by kernel_rfl) (by kernel_rfl) (by kernel_rfl) (fun _ _ _ h => h) (Or.inl ⟨by rfl, ?_⟩) hHeld ?_; rotate_left; focus (intro wq hSw; obtain ⟨hcq, hfq⟩ := bcell hSw; go_simp; (try with_reducible rfl); done))
      (try simp only [Act.put, List.setIfInBounds_toArray, List.set_cons_zero, List.set_cons_succ])
      first | (refine anyT_take 2 (some 16) (v := ?_) rfl rfl (by kernel_rfl) (by kernel_rfl) (by kernel_rfl) (by kernel_rfl) (fun _ _ _ h => h) (Or.inl ⟨by rfl, ?_⟩) hHeld ?_; rotate_left; focus (intro wq hSw; obtain ⟨hcq, hfq⟩ := bcell hSw; go_simp; (try with_reducible rfl); done))
      (try simp only [Act.put, List.setIfInBounds_toArray, List.set_cons_zero, List.set_cons_succ])
      first | (refine anyT_take 3 (some 17) (v := ?_) rfl rfl (by kernel_rfl) (by kernel_rfl) (by kernel_rfl) (by kernel_rfl) (fun _ _ _ h => h) (Or.inl ⟨by rfl, ?_⟩) hHeld ?_; rotate_left; focus (intro wq hSw; obtain ⟨hcq, hfq⟩ := bcell hSw; go_simp; (try with_reducible rfl); done))
      (try simp only [Act.put, List.setIfInBounds_toArray, List.set_cons_zero, List.set_cons_succ])
      first | (refine anyT_take 4 (some 18) (v := ?_) rfl rfl (by kernel_rfl) (by kernel_rfl) (by kernel_rfl) (by kernel_rfl) (fun _ _ _ h => h) (Or.inl ⟨by rfl, ?_⟩) hHeld ?_; rotate_left; focus (intro wq hSw; obtain ⟨hcq, hfq⟩ := bcell hSw; go_simp; (try with_reducible rfl); done))
      (try simp only [Act.put, List.setIfInBounds_toArray, List.set_cons_zero, List.set_cons_succ])
      refine anyT_one 5 (by kernel_rfl) rfl (fun K hK => ?_)
      go_simp
      refine (eq0_3 (v' := B.val) (by unfold ForgeV.val ForgeV.cells; rfl) (refMelts_calls B Hg.out left (gi sizes 0) _ c _ (HB0.out.below (below_then HW1.out HW1.out.size hHeld)) Hl.out Hlb.out Hs0.out ((Hp.out.below HW1.out).below hHeld) Hc.out)).mono ?_; rintro e w5 ⟨⟨mA, mc, rfl, hrf, hmc⟩, hb5⟩
      refine hK.out _ _ ?_ (fun hHeld => ?_)
      · exact below_then hHeld hHeld.size hb5
      clear hK K
      (try simp only [Act.put, List.setIfInBounds_toArray, List.set_cons_zero, List.set_cons_succ])
      first | (refine anyT_take 6 (some 7) (v := ?_) rfl rfl (by kernel_rfl) (by kernel_rfl) (by kernel_rfl) (by kernel_rfl) (fun _ _ _ h => h) (Or.inl ⟨by rfl, ?_⟩) hHeld ?_; rotate_left; focus (intro wq hSw; obtain ⟨hcq, hfq⟩ := bcell hSw; go_simp; (try with_reducible rfl); done))
      (try simp only [Act.put, List.setIfInBounds_toArray, List.set_cons_zero, List.set_cons_succ])
      refine anyT_done (by kernel_rfl) ?_ _
      have HW5 := Lib.hid (below_then HW1.out HW1.out.size hHeld)
      have K35 := Lib.hid (K3.out.below hHeld)
      have Hrf := Lib.hid hrf
      have Hmem := Lib.hid (fun x hx => meltsS_mem (B := B) (hv := left) (many := gi sizes 0) (x := x) (fun k => (Hlb.out k).1) hx)
      have hml : (meltsS B left (gi sizes 0)).length ≤ 100000 := Nat.le_trans (List.length_filter_le _ _) (Nat.le_trans (choices_len _ _ Hlb.out) (Nat.le_trans (Nat.pow_le_pow_right (by omega) (by rw [Hl.out]; exact hm4.2)) (by decide)))
      have Hst := Lib.hid (Hstep.out left)
      clear hHeld hb5 hrf c3 f3 l3 hne p0 pbl Hstep
      generalize meltsS B left (gi sizes 0) = ms at *
      go_wp2
      go_loopg [8] ms.length (fun gq i wr => ∃ k : Nat, k ≤ ms.length ∧ gq = ms.length - k ∧ i = .int .i64 k ∧ (∀ m, m ∈ ms.take k → castsS B (subL left m) (sizes.drop 1) = none) ∧ Below w5.heap.size w5 wr)
      case atStart => exact ⟨0, Nat.zero_le _, rfl, rfl, fun m hm => by simp at hm, Below.refl _ _⟩
      case round =>
        obtain ⟨k, hk, hgk, rfl, hno, hbe⟩ := hrel
        have Hgk := Lib.hid hgk
        have Hno := Lib.hid hno
        have Hbe := Lib.hid hbe
        have HBr := Lib.hid (below_then HW5.out HW5.out.size hbe)
        clear hgk hno hbe
        by_cases hlt : k < ms.length
        · have hki : (k : Int) < ms.length := by omega
          obtain ⟨rb, ro, rfl, hrb, hrb2⟩ := Hrf.out.some_ (by omega)
          obtain ⟨Aj, cj, hcell, hcap, hints, hfr⟩ := Hrf.out.at_ hlt
          have hx := Hmem.out (gm ms k) (gm_mem hlt)
          have Hsp := Lib.hid (split_at ms k hlt)
          have Htk := Lib.hid (take_snoc4 ms k hlt)
          generalize gm ms k = m at *
          have hlm : left.length = m.length := hx.1.symm
          obtain ⟨mb, mo, rfl, hmc⟩ := hints.2.resolve_left (by intro e; rw [e] at hlm; have h0 : left.length = 0 := hlm; have := Hl.out; omega)
          have Hlm := Lib.hid hlm
          have Hx := Lib.hid hx.2.1
          have Hsub := Lib.hid (fun j (hj : j < left.length) => sub_take left m hlm j hj)
          have Hsl := Lib.hid (subL_len left m hlm)
          have Hsg := Lib.hid (fun j => gi_subL left m hlm j)
          have Hcell := Lib.hid hcell
          have Hints := Lib.hid hints
          clear hcell hints hx hmc hlm hcap hfr
          go_upto_block 2 with (fail)
          go_wp2
          generalize wr = w6 at *
          go_loopg [10, 9] left.length (fun gq i v wq => ∃ j : Nat, j ≤ left.length ∧ gq = left.length - j ∧ i = .int .i64 j ∧ OwnInts wq w6.heap.size v ((subL left m).take j) ∧ Below w6.heap.size w6 wq)
          case atStart => exact ⟨0, Nat.zero_le _, rfl, rfl, OwnInts.nil _ _, Below.refl _ _⟩
          case round =>
            obtain ⟨j, hj, hgj, rfl, hown, hbq⟩ := hrel
            have Hgj := Lib.hid hgj
            have Hown := Lib.hid hown
            have Hbq := Lib.hid hbq
            have Hbx := Lib.hid (below_then Hbe.out Hbe.out.size hbq)
            have HBq := Lib.hid (below_then HBr.out HBr.out.size hbq)
            have p0 := cell_below Hbx.out Hcell.out
            have pbl := World.block_lt_of_cell? _ _ p0
            simp only at pbl
            clear hgj hown hbq
            by_cases hltj : j < left.length
            · have hji : (j : Int) < left.length := by omega
              have hjm : j < m.length := by have := Hlm.out; omega
              have q0 := cell_below HBq.out (Hp.out.at_ hltj)
              have r0 := cell_below Hbx.out (Hints.out.at_ hjm)
              have qbl := World.block_lt_of_cell? _ _ q0
              have rbl := World.block_lt_of_cell? _ _ r0
              have qb6 := World.block_lt_of_cell? _ _ (Hp.out.at_ hltj)
              have rb6 := World.block_lt_of_cell? _ _ (Hints.out.at_ hjm)
              have sz1 := HBr.out.size
              have sz2 := Hbe.out.size
              simp only at qbl rbl qb6 rb6
              have hlb6 : lb < w6.heap.size := by omega
              have hmb6 : mb < w6.heap.size := by omega
              have hrb6 : rb < w6.heap.size := by omega
              have b1 := Hlb.out j
              have b2 := Hx.out j
              have hw1 : IntKind.i64.wrap (gi left j - gi m j) = gi left j - gi m j := wrap_in (by omega) (by omega)
              have hjmi : (j : Int) < m.length := by omega
              have Hs := Lib.hid (Hsub.out j hltj)
              clear b1 b2
              go_upto_region 11 with (fail)
              refine region_plain (S := fun w' => Below w6.heap.size wr w') 16 (by kernel_rfl) ?_ (fun hHeld => ?_)
              · exact (Below.refl _ _).drew
              have hownd : OwnInts wr.drew w6.heap.size _ ((subL left m).take j) := Hown.out.keep (Below.refl _ _).drew; generalize hWd : World.drew wr = Wd at *; have hws : w6.heap.size ≤ wr.heap.size := Hbq.out.size
              first | (refine anyT_take 0 (some 32) (v := ?_) rfl rfl (by kernel_rfl) (by kernel_rfl) (by kernel_rfl) (by kernel_rfl) (fun _ _ _ h => h) (Or.inl ⟨by rfl, ?_⟩) hHeld ?_; rotate_left; focus (intro wq hSw; obtain ⟨hcq, hfq⟩ := bcellN hSw; go_simp; (try with_reducible rfl); done))
              (try simp only [Act.put, List.setIfInBounds_toArray, List.set_cons_zero, List.set_cons_succ])
              first | (refine anyT_take 1 (some 33) (v := ?_) rfl rfl (by kernel_rfl) (by kernel_rfl) (by kernel_rfl) (by kernel_rfl) (fun _ _ _ h => h) (Or.inl ⟨by rfl, ?_⟩) hHeld ?_; rotate_left; focus (intro wq hSw; obtain ⟨hcq, hfq⟩ := bcellN hSw; go_simp; (try with_reducible rfl); done))
              (try simp only [Act.put, List.setIfInBounds_toArray, List.set_cons_zero, List.set_cons_succ])
              first | (refine anyT_take 2 (some 34) (v := ?_) rfl rfl (by kernel_rfl) (by kernel_rfl) (by kernel_rfl) (by kernel_rfl) (fun _ _ _ h => h) (Or.inl ⟨by rfl, ?_⟩) hHeld ?_; rotate_left; focus (intro wq hSw; obtain ⟨hcq, hfq⟩ := bcellN hSw; go_simp; (try with_reducible rfl); done))
              (try simp only [Act.put, List.setIfInBounds_toArray, List.set_cons_zero, List.set_cons_succ])
              first | (refine anyT_take 3 (some 35) (v := ?_) rfl rfl (by kernel_rfl) (by kernel_rfl) (by kernel_rfl) (by kernel_rfl) (fun _ _ _ h => h) (Or.inl ⟨by rfl, ?_⟩) hHeld ?_; rotate_left; focus (intro wq hSw; obtain ⟨hcq, hfq⟩ := bcellN hSw; go_simp; (try with_reducible rfl); done))
              (try simp only [Act.put, List.setIfInBounds_toArray, List.set_cons_zero, List.set_cons_succ])
              first | (refine anyT_take 4 (some 36) (v := ?_) rfl rfl (by kernel_rfl) (by kernel_rfl) (by kernel_rfl) (by kernel_rfl) (fun _ _ _ h => h) (Or.inl ⟨by rfl, ?_⟩) hHeld ?_; rotate_left; focus (intro wq hSw; obtain ⟨hcq, hfq⟩ := bcellN hSw; go_simp; (try with_reducible rfl); done))
              (try simp only [Act.put, List.setIfInBounds_toArray, List.set_cons_zero, List.set_cons_succ])
              first | (refine anyT_take 5 (some 37) (v := ?_) rfl rfl (by kernel_rfl) (by kernel_rfl) (by kernel_rfl) (by kernel_rfl) (fun _ _ _ h => h) (Or.inl ⟨by rfl, ?_⟩) hHeld ?_; rotate_left; focus (intro wq hSw; obtain ⟨hcq, hfq⟩ := bcellN hSw; go_simp; (try with_reducible rfl); done))
              (try simp only [Act.put, List.setIfInBounds_toArray, List.set_cons_zero, List.set_cons_succ])
              first | (refine anyT_take 6 (some 38) (v := ?_) rfl rfl (by kernel_rfl) (by kernel_rfl) (by kernel_rfl) (by kernel_rfl) (fun _ _ _ h => h) (Or.inl ⟨by rfl, ?_⟩) hHeld ?_; rotate_left; focus (intro wq hSw; obtain ⟨hcq, hfq⟩ := bcellN hSw; go_simp; (try with_reducible rfl); done))
              (try simp only [Act.put, List.setIfInBounds_toArray, List.set_cons_zero, List.set_cons_succ])
              first | (refine anyT_take 7 (some 39) (v := ?_) rfl rfl (by kernel_rfl) (by kernel_rfl) (by kernel_rfl) (by kernel_rfl) (fun _ _ _ h => h) (Or.inl ⟨by rfl, ?_⟩) hHeld ?_; rotate_left; focus (intro wq hSw; obtain ⟨hcq, hfq⟩ := bcellN hSw; go_simp; (try with_reducible rfl); done))
              (try simp only [Act.put, List.setIfInBounds_toArray, List.set_cons_zero, List.set_cons_succ])
              first | (refine anyT_take 8 (some 40) (v := ?_) rfl rfl (by kernel_rfl) (by kernel_rfl) (by kernel_rfl) (by kernel_rfl) (fun _ _ _ h => h) (Or.inl ⟨by rfl, ?_⟩) hHeld ?_; rotate_left; focus (intro wq hSw; obtain ⟨hcq, hfq⟩ := bcellN hSw; go_simp; (try with_reducible rfl); done))
              (try simp only [Act.put, List.setIfInBounds_toArray, List.set_cons_zero, List.set_cons_succ])
              first | (refine anyT_take 9 (some 41) (v := ?_) rfl rfl (by kernel_rfl) (by kernel_rfl) (by kernel_rfl) (by kernel_rfl) (fun _ _ _ h => h) (Or.inl ⟨by rfl, ?_⟩) hHeld ?_; rotate_left; focus (intro wq hSw; obtain ⟨hcq, hfq⟩ := bcellN hSw; go_simp; (try with_reducible rfl); done))
              (try simp only [Act.put, List.setIfInBounds_toArray, List.set_cons_zero, List.set_cons_succ])
              first | (refine anyT_take 10 (some 42) (v := ?_) rfl rfl (by kernel_rfl) (by kernel_rfl) (by kernel_rfl) (by kernel_rfl) (fun _ _ _ h => h) (Or.inl ⟨by rfl, ?_⟩) hHeld ?_; rotate_left; focus (intro wq hSw; obtain ⟨hcq, hfq⟩ := bcellN hSw; go_simp; (try with_reducible rfl); done))
              (try simp only [Act.put, List.setIfInBounds_toArray, List.set_cons_zero, List.set_cons_succ])
              first | (refine anyT_take 11 (some 43) (v := ?_) rfl rfl (by kernel_rfl) (by kernel_rfl) (by kernel_rfl) (by kernel_rfl) (fun _ _ _ h => h) (Or.inl ⟨by rfl, ?_⟩) hHeld ?_; rotate_left; focus (intro wq hSw; obtain ⟨hcq, hfq⟩ := bcellN hSw; go_simp; (try with_reducible rfl); done))
              (try simp only [Act.put, List.setIfInBounds_toArray, List.set_cons_zero, List.set_cons_succ])
              first | (refine anyT_take 12 (some 44) (v := ?_) rfl rfl (by kernel_rfl) (by kernel_rfl) (by kernel_rfl) (by kernel_rfl) (fun _ _ _ h => h) (Or.inl ⟨by rfl, ?_⟩) hHeld ?_; rotate_left; focus (intro wq hSw; obtain ⟨hcq, hfq⟩ := bcellN hSw; go_simp; (try with_reducible rfl); done))
              (try simp only [Act.put, List.setIfInBounds_toArray, List.set_cons_zero, List.set_cons_succ])
              refine anyT_one 13 (by kernel_rfl) rfl (fun K hK => ?_)
              go_simp
              refine hK.out _ _ ?_ (fun hHeld => ?_)
              · exact hHeld.alloc (by have := hHeld.size; omega) _
              clear hK K
              (try simp only [Act.put, List.setIfInBounds_toArray, List.set_cons_zero, List.set_cons_succ])
              refine anyT_one 14 (by kernel_rfl) rfl (fun K hK => ?_)
              rw [if_pos (by rfl)]; refine wp_app1 _ _ _ rfl w6.heap.size _ ((subL left m).take j) rfl (hownd.alloc _) _ 1 _ rfl (cell_new1 _ _ _) (by rw [List.length_take]; omega) (by have := hHeld.size; omega) ?_; rintro v8 w8 ho8 hb8; have hb8' := hHeld.trans hb8
              go_simp
              refine hK.out _ _ ?_ (fun hHeld => ?_)
              · exact hb8'
              clear hK K
              (try simp only [Act.put, List.setIfInBounds_toArray, List.set_cons_zero, List.set_cons_succ])
              first | (refine anyT_take 15 (some 9) (v := ?_) rfl rfl (by kernel_rfl) (by kernel_rfl) (by kernel_rfl) (by kernel_rfl) (fun _ _ _ h => h) (Or.inl ⟨by rfl, ?_⟩) hHeld ?_; rotate_left; focus (intro wq hSw; obtain ⟨hcq, hfq⟩ := bcellN hSw; go_simp; (try with_reducible rfl); done))
              (try simp only [Act.put, List.setIfInBounds_toArray, List.set_cons_zero, List.set_cons_succ])
              refine anyT_done (by kernel_rfl) ?_ _
              have Ho8 := Lib.hid ho8
              have Hfin := Lib.hid (Hbq.out.trans hHeld)
              clear hHeld hb8 hb8' ho8 hownd p0 pbl q0 r0 qbl rbl
              go_wp2
              go_roundg (left.length - (j + 1))
              case measure => have := Hgj.out; omega
              case rel => exact ⟨j + 1, by omega, rfl, by go_num, by rw [Hs.out]; exact Ho8.out, Hfin.out⟩
            · obtain rfl : j = left.length := by omega
              have hji : ¬ (left.length : Int) < left.length := by omega
              have hown := Hown.out
              rw [show (subL left m).take left.length = subL left m by rw [← Hsl.out, List.take_length]] at hown
              obtain ⟨RA, rc, rfl, hri, hrc, _⟩ := hown.reads
              have Hri := Lib.hid hri
              have Hrc := Lib.hid hrc
              have Hrl := Lib.hid (Hsl.out.trans Hl.out)
              have Hrb : Hid (∀ k, 0 ≤ gi (subL left m) k ∧ gi (subL left m) k ≤ 6) := Lib.hid (fun k => by rw [Hsg.out]; have := Hx.out k; have := Hlb.out k; omega)
              clear hown hri hrc Hown
              have hct := fun h => castsS_some_of Hst.out Hsp.out Hno.out h
              have Hct := Lib.hid hct
              clear hct
              generalize hrest : subL left m = rest at *
              have Hrest := Lib.hid hrest
              clear hrest
              obtain ⟨c3, f3, l3⟩ := K35.out.below Hbx.out
              go_upto_region 12 with (fail)
              refine region_plain (S := fun w' => Below wr.heap.size wr w') 5 (by kernel_rfl) ?_ (fun hHeld => ?_)
              · exact (Below.refl _ _).drew
              first | (refine anyT_take 0 (some 47) (v := ?_) rfl rfl (by kernel_rfl) (by kernel_rfl) (by kernel_rfl) (by kernel_rfl) (fun _ _ _ h => h) (Or.inl ⟨by rfl, ?_⟩) hHeld ?_; rotate_left; focus (intro wq hSw; obtain ⟨hcq, hfq⟩ := bcell hSw; go_simp; (try with_reducible rfl); done))
              (try simp only [Act.put, List.setIfInBounds_toArray, List.set_cons_zero, List.set_cons_succ])
              first | (refine anyT_take 1 (some 48) (v := ?_) rfl rfl (by kernel_rfl) (by kernel_rfl) (by kernel_rfl) (by kernel_rfl) (fun _ _ _ h => h) (Or.inl ⟨by rfl, ?_⟩) hHeld ?_; rotate_left; focus (intro wq hSw; obtain ⟨hcq, hfq⟩ := bcell hSw; go_simp; (try with_reducible rfl); done))
              (try simp only [Act.put, List.setIfInBounds_toArray, List.set_cons_zero, List.set_cons_succ])
              first | (refine anyT_take 2 (some 49) (v := ?_) rfl rfl (by kernel_rfl) (by kernel_rfl) (by kernel_rfl) (by kernel_rfl) (fun _ _ _ h => h) (Or.inl ⟨by rfl, ?_⟩) hHeld ?_; rotate_left; focus (intro wq hSw; obtain ⟨hcq, hfq⟩ := bcell hSw; go_simp; (try with_reducible rfl); done))
              (try simp only [Act.put, List.setIfInBounds_toArray, List.set_cons_zero, List.set_cons_succ])
              first | (refine anyT_take 3 (some 50) (v := ?_) rfl rfl (by kernel_rfl) (by kernel_rfl) (by kernel_rfl) (by kernel_rfl) (fun _ _ _ h => h) (Or.inl ⟨by rfl, ?_⟩) hHeld ?_; rotate_left; focus (intro wq hSw; obtain ⟨hcq, hfq⟩ := bcell hSw; go_simp; (try with_reducible rfl); done))
              (try simp only [Act.put, List.setIfInBounds_toArray, List.set_cons_zero, List.set_cons_succ])
              refine anyT_one 4 (by kernel_rfl) rfl (fun K hK => ?_)
              go_simp
              refine (eq0_3 (v' := B.val) (by unfold ForgeV.val ForgeV.cells; rfl) (Hih.out o 0 rest RA rc _ Hl1.out Hrl.out Hrb.out (HB0.out.below (below_then HBq.out HBq.out.size hHeld)) (Hri.out.below hHeld) Hrc.out (Hdp.out _ (below_then HBq.out HBq.out.size hHeld)))).mono ?_; rintro e w7 ⟨rfl, hb7⟩
              refine hK.out _ _ ?_ (fun hHeld => ?_)
              · exact below_then hHeld hHeld.size hb7
              clear hK K
              (try simp only [Act.put, List.setIfInBounds_toArray, List.set_cons_zero, List.set_cons_succ])
              refine anyT_done (by kernel_rfl) ?_ _
              have Hfin := Lib.hid (below_then HBq.out HBq.out.size hHeld)
              have Hfb := Lib.hid (below_then Hbx.out Hbx.out.size hHeld)
              clear hHeld hb7 c3 f3 l3 p0 pbl
              cases hr : castsS B rest (sizes.drop 1) with
              | some r =>
                have Hs : Hid ((castsS B left sizes).isSome = true) := Lib.hid (Hct.out (by rw [hr]; rfl))
                clear hr
                go_wp2
                go_ret
                exact ⟨by rw [Hs.out] <;> rfl, Hfin.out⟩
              | none =>
                have Hr := Lib.hid hr
                clear hr
                go_wp2
                go_roundg (ms.length - (k + 1))
                case measure => have := Hgk.out; omega
                case rel =>
                  refine ⟨k + 1, by omega, rfl, by go_num, fun x hx => ?_, Hfb.out⟩
                  rw [Htk.out] at hx
                  rcases List.mem_append.1 hx with h | h
                  · exact Hno.out x h
                  · rw [List.mem_singleton.1 h, Hrest.out]; exact Hr.out
        · obtain rfl : k = ms.length := by omega
          have hki : ¬ (ms.length : Int) < ms.length := by omega
          have Hs : Hid ((castsS B left sizes).isSome = false) := Lib.hid (by
            have hno := Hno.out
            rw [List.take_length] at hno
            rw [Hst.out, (List.findSome?_eq_none_iff).2 (fun m hm => by rw [hno m hm]; rfl)]; rfl)
          obtain ⟨c3, f3, l3⟩ := K35.out.below Hbe.out
          go_wp2
          go_ret
          exact ⟨by rw [Hs.out] <;> rfl, HBr.out⟩

  · have Hl1 : Hid (sizes.length - 1 ≤ c2 - 1) := Lib.hid (by omega)
    have Hdp : Hid (∀ W : World, Below w.heap.size w W → IntsAt W (some ⟨b, o + 1, none⟩) (sizes.drop 1)) := Lib.hid (fun W h => (Hp2.out.below h).drop1)
    as_aux_lemma =>
      go_enter Tryd.func79, Tryd.ntmps79
      go_upto_region 1 with fail
      generalize w.alloc _ = W1 at *
      have K3 := Lib.hid k3
      have HW1 := Lib.hid H1
      have p0 := cell_below H1 (Hp2.out.at_ (k := 0) hpos)
      rw [Nat.add_zero] at p0
      have pbl := World.block_lt_of_cell? _ _ p0
      simp only at pbl
      obtain ⟨c3, f3, l3⟩ := k3
      clear H1
      go_upto_region 3 with (fail)
      refine region_plain (S := fun w' => Below W1.heap.size W1 w') 7 (by kernel_rfl) ?_ (fun hHeld => ?_)
      · exact (Below.refl _ _).drew
      first | (refine anyT_take 0 (some 14) (v := ?_) rfl rfl (by kernel_rfl) (by kernel_rfl) (by kernel_rfl) (by kernel_rfl) (fun _ _ _ h => h) (Or.inl ⟨by rfl, ?_⟩) hHeld ?_; rotate_left; focus (intro wq hSw; obtain ⟨hcq, hfq⟩ := bcell hSw; go_simp; (try with_reducible rfl); done))
      (try simp only [Act.put, List.setIfInBounds_toArray, List.set_cons_zero, List.set_cons_succ])
      first | (refine anyT_take 1 (some 15) (v := ?_) rfl rfl (by kernel_rfl) (by kernel_rfl) (by kernel_rfl) (by kernel_rfl) (fun _ _ _ h => h) (Or.inl ⟨by rfl, ?_⟩) hHeld ?_; rotate_left; focus (intro wq hSw; obtain ⟨hcq, hfq⟩ := bcell hSw; go_simp; (try with_reducible rfl); done))
      (try simp only [Act.put, List.setIfInBounds_toArray, List.set_cons_zero, List.set_cons_succ])
      first | (refine anyT_take 2 (some 16) (v := ?_) rfl rfl (by kernel_rfl) (by kernel_rfl) (by kernel_rfl) (by kernel_rfl) (fun _ _ _ h => h) (Or.inl ⟨by rfl, ?_⟩) hHeld ?_; rotate_left; focus (intro wq hSw; obtain ⟨hcq, hfq⟩ := bcell hSw; go_simp; (try with_reducible rfl); done))
      (try simp only [Act.put, List.setIfInBounds_toArray, List.set_cons_zero, List.set_cons_succ])
      first | (refine anyT_take 3 (some 17) (v := ?_) rfl rfl (by kernel_rfl) (by kernel_rfl) (by kernel_rfl) (by kernel_rfl) (fun _ _ _ h => h) (Or.inl ⟨by rfl, ?_⟩) hHeld ?_; rotate_left; focus (intro wq hSw; obtain ⟨hcq, hfq⟩ := bcell hSw; go_simp; (try with_reducible rfl); done))
      (try simp only [Act.put, List.setIfInBounds_toArray, List.set_cons_zero, List.set_cons_succ])
      first | (refine anyT_take 4 (some 18) (v := ?_) rfl rfl (by kernel_rfl) (by kernel_rfl) (by kernel_rfl) (by kernel_rfl) (fun _ _ _ h => h) (Or.inl ⟨by rfl, ?_⟩) hHeld ?_; rotate_left; focus (intro wq hSw; obtain ⟨hcq, hfq⟩ := bcell hSw; go_simp; (try with_reducible rfl); done))
      (try simp only [Act.put, List.setIfInBounds_toArray, List.set_cons_zero, List.set_cons_succ])
      refine anyT_one 5 (by kernel_rfl) rfl (fun K hK => ?_)
      go_simp
      refine (eq0_3 (v' := B.val) (by unfold ForgeV.val ForgeV.cells; rfl) (refMelts_calls B Hg.out left (gi sizes 0) _ c _ (HB0.out.below (below_then HW1.out HW1.out.size hHeld)) Hl.out Hlb.out Hs0.out ((Hp.out.below HW1.out).below hHeld) Hc.out)).mono ?_; rintro e w5 ⟨⟨mA, mc, rfl, hrf, hmc⟩, hb5⟩
      refine hK.out _ _ ?_ (fun hHeld => ?_)
      · exact below_then hHeld hHeld.size hb5
      clear hK K
      (try simp only [Act.put, List.setIfInBounds_toArray, List.set_cons_zero, List.set_cons_succ])
      first | (refine anyT_take 6 (some 7) (v := ?_) rfl rfl (by kernel_rfl) (by kernel_rfl) (by kernel_rfl) (by kernel_rfl) (fun _ _ _ h => h) (Or.inl ⟨by rfl, ?_⟩) hHeld ?_; rotate_left; focus (intro wq hSw; obtain ⟨hcq, hfq⟩ := bcell hSw; go_simp; (try with_reducible rfl); done))
      (try simp only [Act.put, List.setIfInBounds_toArray, List.set_cons_zero, List.set_cons_succ])
      refine anyT_done (by kernel_rfl) ?_ _
      have HW5 := Lib.hid (below_then HW1.out HW1.out.size hHeld)
      have K35 := Lib.hid (K3.out.below hHeld)
      have Hrf := Lib.hid hrf
      have Hmem := Lib.hid (fun x hx => meltsS_mem (B := B) (hv := left) (many := gi sizes 0) (x := x) (fun k => (Hlb.out k).1) hx)
      have hml : (meltsS B left (gi sizes 0)).length ≤ 100000 := Nat.le_trans (List.length_filter_le _ _) (Nat.le_trans (choices_len _ _ Hlb.out) (Nat.le_trans (Nat.pow_le_pow_right (by omega) (by rw [Hl.out]; exact hm4.2)) (by decide)))
      have Hst := Lib.hid (Hstep.out left)
      clear hHeld hb5 hrf c3 f3 l3 hne p0 pbl Hstep
      generalize meltsS B left (gi sizes 0) = ms at *
      go_wp2
      go_loopg [8] ms.length (fun gq i wr => ∃ k : Nat, k ≤ ms.length ∧ gq = ms.length - k ∧ i = .int .i64 k ∧ (∀ m, m ∈ ms.take k → castsS B (subL left m) (sizes.drop 1) = none) ∧ Below w5.heap.size w5 wr)
      case atStart => exact ⟨0, Nat.zero_le _, rfl, rfl, fun m hm => by simp at hm, Below.refl _ _⟩
      case round =>
        obtain ⟨k, hk, hgk, rfl, hno, hbe⟩ := hrel
        have Hgk := Lib.hid hgk
        have Hno := Lib.hid hno
        have Hbe := Lib.hid hbe
        have HBr := Lib.hid (below_then HW5.out HW5.out.size hbe)
        clear hgk hno hbe
        by_cases hlt : k < ms.length
        · have hki : (k : Int) < ms.length := by omega
          obtain ⟨rb, ro, rfl, hrb, hrb2⟩ := Hrf.out.some_ (by omega)
          obtain ⟨Aj, cj, hcell, hcap, hints, hfr⟩ := Hrf.out.at_ hlt
          have hx := Hmem.out (gm ms k) (gm_mem hlt)
          have Hsp := Lib.hid (split_at ms k hlt)
          have Htk := Lib.hid (take_snoc4 ms k hlt)
          generalize gm ms k = m at *
          have hlm : left.length = m.length := hx.1.symm
          obtain ⟨mb, mo, rfl, hmc⟩ := hints.2.resolve_left (by intro e; rw [e] at hlm; have h0 : left.length = 0 := hlm; have := Hl.out; omega)
          have Hlm := Lib.hid hlm
          have Hx := Lib.hid hx.2.1
          have Hsub := Lib.hid (fun j (hj : j < left.length) => sub_take left m hlm j hj)
          have Hsl := Lib.hid (subL_len left m hlm)
          have Hsg := Lib.hid (fun j => gi_subL left m hlm j)
          have Hcell := Lib.hid hcell
          have Hints := Lib.hid hints
          clear hcell hints hx hmc hlm hcap hfr
          go_upto_block 2 with (fail)
          go_wp2
          generalize wr = w6 at *
          go_loopg [10, 9] left.length (fun gq i v wq => ∃ j : Nat, j ≤ left.length ∧ gq = left.length - j ∧ i = .int .i64 j ∧ OwnInts wq w6.heap.size v ((subL left m).take j) ∧ Below w6.heap.size w6 wq)
          case atStart => exact ⟨0, Nat.zero_le _, rfl, rfl, OwnInts.nil _ _, Below.refl _ _⟩
          case round =>
            obtain ⟨j, hj, hgj, rfl, hown, hbq⟩ := hrel
            have Hgj := Lib.hid hgj
            have Hown := Lib.hid hown
            have Hbq := Lib.hid hbq
            have Hbx := Lib.hid (below_then Hbe.out Hbe.out.size hbq)
            have HBq := Lib.hid (below_then HBr.out HBr.out.size hbq)
            have p0 := cell_below Hbx.out Hcell.out
            have pbl := World.block_lt_of_cell? _ _ p0
            simp only at pbl
            clear hgj hown hbq
            by_cases hltj : j < left.length
            · have hji : (j : Int) < left.length := by omega
              have hjm : j < m.length := by have := Hlm.out; omega
              have q0 := cell_below HBq.out (Hp.out.at_ hltj)
              have r0 := cell_below Hbx.out (Hints.out.at_ hjm)
              have qbl := World.block_lt_of_cell? _ _ q0
              have rbl := World.block_lt_of_cell? _ _ r0
              have qb6 := World.block_lt_of_cell? _ _ (Hp.out.at_ hltj)
              have rb6 := World.block_lt_of_cell? _ _ (Hints.out.at_ hjm)
              have sz1 := HBr.out.size
              have sz2 := Hbe.out.size
              simp only at qbl rbl qb6 rb6
              have hlb6 : lb < w6.heap.size := by omega
              have hmb6 : mb < w6.heap.size := by omega
              have hrb6 : rb < w6.heap.size := by omega
              have b1 := Hlb.out j
              have b2 := Hx.out j
              have hw1 : IntKind.i64.wrap (gi left j - gi m j) = gi left j - gi m j := wrap_in (by omega) (by omega)
              have hjmi : (j : Int) < m.length := by omega
              have Hs := Lib.hid (Hsub.out j hltj)
              clear b1 b2
              go_upto_region 11 with (fail)
              refine region_plain (S := fun w' => Below w6.heap.size wr w') 16 (by kernel_rfl) ?_ (fun hHeld => ?_)
              · exact (Below.refl _ _).drew
              have hownd : OwnInts wr.drew w6.heap.size _ ((subL left m).take j) := Hown.out.keep (Below.refl _ _).drew; generalize hWd : World.drew wr = Wd at *; have hws : w6.heap.size ≤ wr.heap.size := Hbq.out.size
              first | (refine anyT_take 0 (some 32) (v := ?_) rfl rfl (by kernel_rfl) (by kernel_rfl) (by kernel_rfl) (by kernel_rfl) (fun _ _ _ h => h) (Or.inl ⟨by rfl, ?_⟩) hHeld ?_; rotate_left; focus (intro wq hSw; obtain ⟨hcq, hfq⟩ := bcellN hSw; go_simp; (try with_reducible rfl); done))
              (try simp only [Act.put, List.setIfInBounds_toArray, List.set_cons_zero, List.set_cons_succ])
              first | (refine anyT_take 1 (some 33) (v := ?_) rfl rfl (by kernel_rfl) (by kernel_rfl) (by kernel_rfl) (by kernel_rfl) (fun _ _ _ h => h) (Or.inl ⟨by rfl, ?_⟩) hHeld ?_; rotate_left; focus (intro wq hSw; obtain ⟨hcq, hfq⟩ := bcellN hSw; go_simp; (try with_reducible rfl); done))
              (try simp only [Act.put, List.setIfInBounds_toArray, List.set_cons_zero, List.set_cons_succ])
              first | (refine anyT_take 2 (some 34) (v := ?_) rfl rfl (by kernel_rfl) (by kernel_rfl) (by kernel_rfl) (by kernel_rfl) (fun _ _ _ h => h) (Or.inl ⟨by rfl, ?_⟩) hHeld ?_; rotate_left; focus (intro wq hSw; obtain ⟨hcq, hfq⟩ := bcellN hSw; go_simp; (try with_reducible rfl); done))
              (try simp only [Act.put, List.setIfInBounds_toArray, List.set_cons_zero, List.set_cons_succ])
              first | (refine anyT_take 3 (some 35) (v := ?_) rfl rfl (by kernel_rfl) (by kernel_rfl) (by kernel_rfl) (by kernel_rfl) (fun _ _ _ h => h) (Or.inl ⟨by rfl, ?_⟩) hHeld ?_; rotate_left; focus (intro wq hSw; obtain ⟨hcq, hfq⟩ := bcellN hSw; go_simp; (try with_reducible rfl); done))
              (try simp only [Act.put, List.setIfInBounds_toArray, List.set_cons_zero, List.set_cons_succ])
              first | (refine anyT_take 4 (some 36) (v := ?_) rfl rfl (by kernel_rfl) (by kernel_rfl) (by kernel_rfl) (by kernel_rfl) (fun _ _ _ h => h) (Or.inl ⟨by rfl, ?_⟩) hHeld ?_; rotate_left; focus (intro wq hSw; obtain ⟨hcq, hfq⟩ := bcellN hSw; go_simp; (try with_reducible rfl); done))
              (try simp only [Act.put, List.setIfInBounds_toArray, List.set_cons_zero, List.set_cons_succ])
              first | (refine anyT_take 5 (some 37) (v := ?_) rfl rfl (by kernel_rfl) (by kernel_rfl) (by kernel_rfl) (by kernel_rfl) (fun _ _ _ h => h) (Or.inl ⟨by rfl, ?_⟩) hHeld ?_; rotate_left; focus (intro wq hSw; obtain ⟨hcq, hfq⟩ := bcellN hSw; go_simp; (try with_reducible rfl); done))
              (try simp only [Act.put, List.setIfInBounds_toArray, List.set_cons_zero, List.set_cons_succ])
              first | (refine anyT_take 6 (some 38) (v := ?_) rfl rfl (by kernel_rfl) (by kernel_rfl) (by kernel_rfl) (by kernel_rfl) (fun _ _ _ h => h) (Or.inl ⟨by rfl, ?_⟩) hHeld ?_; rotate_left; focus (intro wq hSw; obtain ⟨hcq, hfq⟩ := bcellN hSw; go_simp; (try with_reducible rfl); done))
              (try simp only [Act.put, List.setIfInBounds_toArray, List.set_cons_zero, List.set_cons_succ])
              first | (refine anyT_take 7 (some 39) (v := ?_) rfl rfl (by kernel_rfl) (by kernel_rfl) (by kernel_rfl) (by kernel_rfl) (fun _ _ _ h => h) (Or.inl ⟨by rfl, ?_⟩) hHeld ?_; rotate_left; focus (intro wq hSw; obtain ⟨hcq, hfq⟩ := bcellN hSw; go_simp; (try with_reducible rfl); done))
              (try simp only [Act.put, List.setIfInBounds_toArray, List.set_cons_zero, List.set_cons_succ])
              first | (refine anyT_take 8 (some 40) (v := ?_) rfl rfl (by kernel_rfl) (by kernel_rfl) (by kernel_rfl) (by kernel_rfl) (fun _ _ _ h => h) (Or.inl ⟨by rfl, ?_⟩) hHeld ?_; rotate_left; focus (intro wq hSw; obtain ⟨hcq, hfq⟩ := bcellN hSw; go_simp; (try with_reducible rfl); done))
              (try simp only [Act.put, List.setIfInBounds_toArray, List.set_cons_zero, List.set_cons_succ])
              first | (refine anyT_take 9 (some 41) (v := ?_) rfl rfl (by kernel_rfl) (by kernel_rfl) (by kernel_rfl) (by kernel_rfl) (fun _ _ _ h => h) (Or.inl ⟨by rfl, ?_⟩) hHeld ?_; rotate_left; focus (intro wq hSw; obtain ⟨hcq, hfq⟩ := bcellN hSw; go_simp; (try with_reducible rfl); done))
              (try simp only [Act.put, List.setIfInBounds_toArray, List.set_cons_zero, List.set_cons_succ])
              first | (refine anyT_take 10 (some 42) (v := ?_) rfl rfl (by kernel_rfl) (by kernel_rfl) (by kernel_rfl) (by kernel_rfl) (fun _ _ _ h => h) (Or.inl ⟨by rfl, ?_⟩) hHeld ?_; rotate_left; focus (intro wq hSw; obtain ⟨hcq, hfq⟩ := bcellN hSw; go_simp; (try with_reducible rfl); done))
              (try simp only [Act.put, List.setIfInBounds_toArray, List.set_cons_zero, List.set_cons_succ])
              first | (refine anyT_take 11 (some 43) (v := ?_) rfl rfl (by kernel_rfl) (by kernel_rfl) (by kernel_rfl) (by kernel_rfl) (fun _ _ _ h => h) (Or.inl ⟨by rfl, ?_⟩) hHeld ?_; rotate_left; focus (intro wq hSw; obtain ⟨hcq, hfq⟩ := bcellN hSw; go_simp; (try with_reducible rfl); done))
              (try simp only [Act.put, List.setIfInBounds_toArray, List.set_cons_zero, List.set_cons_succ])
              first | (refine anyT_take 12 (some 44) (v := ?_) rfl rfl (by kernel_rfl) (by kernel_rfl) (by kernel_rfl) (by kernel_rfl) (fun _ _ _ h => h) (Or.inl ⟨by rfl, ?_⟩) hHeld ?_; rotate_left; focus (intro wq hSw; obtain ⟨hcq, hfq⟩ := bcellN hSw; go_simp; (try with_reducible rfl); done))
              (try simp only [Act.put, List.setIfInBounds_toArray, List.set_cons_zero, List.set_cons_succ])
              refine anyT_one 13 (by kernel_rfl) rfl (fun K hK => ?_)
              go_simp
              refine hK.out _ _ ?_ (fun hHeld => ?_)
              · exact hHeld.alloc (by have := hHeld.size; omega) _
              clear hK K
              (try simp only [Act.put, List.setIfInBounds_toArray, List.set_cons_zero, List.set_cons_succ])
              refine anyT_one 14 (by kernel_rfl) rfl (fun K hK => ?_)
              rw [if_pos (by rfl)]; refine wp_app1 _ _ _ rfl w6.heap.size _ ((subL left m).take j) rfl (hownd.alloc _) _ 1 _ rfl (cell_new1 _ _ _) (by rw [List.length_take]; omega) (by have := hHeld.size; omega) ?_; rintro v8 w8 ho8 hb8; have hb8' := hHeld.trans hb8
              go_simp
              refine hK.out _ _ ?_ (fun hHeld => ?_)
              · exact hb8'
              clear hK K
              (try simp only [Act.put, List.setIfInBounds_toArray, List.set_cons_zero, List.set_cons_succ])
              first | (refine anyT_take 15 (some 9) (v := ?_) rfl rfl (by kernel_rfl) (by kernel_rfl) (by kernel_rfl) (by kernel_rfl) (fun _ _ _ h => h) (Or.inl ⟨by rfl, ?_⟩) hHeld ?_; rotate_left; focus (intro wq hSw; obtain ⟨hcq, hfq⟩ := bcellN hSw; go_simp; (try with_reducible rfl); done))
              (try simp only [Act.put, List.setIfInBounds_toArray, List.set_cons_zero, List.set_cons_succ])
              refine anyT_done (by kernel_rfl) ?_ _
              have Ho8 := Lib.hid ho8
              have Hfin := Lib.hid (Hbq.out.trans hHeld)
              clear hHeld hb8 hb8' ho8 hownd p0 pbl q0 r0 qbl rbl
              go_wp2
              go_roundg (left.length - (j + 1))
              case measure => have := Hgj.out; omega
              case rel => exact ⟨j + 1, by omega, rfl, by go_num, by rw [Hs.out]; exact Ho8.out, Hfin.out⟩
            · obtain rfl : j = left.length := by omega
              have hji : ¬ (left.length : Int) < left.length := by omega
              have hown := Hown.out
              rw [show (subL left m).take left.length = subL left m by rw [← Hsl.out, List.take_length]] at hown
              obtain ⟨RA, rc, rfl, hri, hrc, _⟩ := hown.reads
              have Hri := Lib.hid hri
              have Hrc := Lib.hid hrc
              have Hrl := Lib.hid (Hsl.out.trans Hl.out)
              have Hrb : Hid (∀ k, 0 ≤ gi (subL left m) k ∧ gi (subL left m) k ≤ 6) := Lib.hid (fun k => by rw [Hsg.out]; have := Hx.out k; have := Hlb.out k; omega)
              clear hown hri hrc Hown
              have hct := fun h => castsS_some_of Hst.out Hsp.out Hno.out h
              have Hct := Lib.hid hct
              clear hct
              generalize hrest : subL left m = rest at *
              have Hrest := Lib.hid hrest
              clear hrest
              obtain ⟨c3, f3, l3⟩ := K35.out.below Hbx.out
              go_upto_region 12 with (fail)
              refine region_plain (S := fun w' => Below wr.heap.size wr w') 5 (by kernel_rfl) ?_ (fun hHeld => ?_)
              · exact (Below.refl _ _).drew
              first | (refine anyT_take 0 (some 47) (v := ?_) rfl rfl (by kernel_rfl) (by kernel_rfl) (by kernel_rfl) (by kernel_rfl) (fun _ _ _ h => h) (Or.inl ⟨by rfl, ?_⟩) hHeld ?_; rotate_left; focus (intro wq hSw; obtain ⟨hcq, hfq⟩ := bcell hSw; go_simp; (try with_reducible rfl); done))
              (try simp only [Act.put, List.setIfInBounds_toArray, List.set_cons_zero, List.set_cons_succ])
              first | (refine anyT_take 1 (some 48) (v := ?_) rfl rfl (by kernel_rfl) (by kernel_rfl) (by kernel_rfl) (by kernel_rfl) (fun _ _ _ h => h) (Or.inl ⟨by rfl, ?_⟩) hHeld ?_; rotate_left; focus (intro wq hSw; obtain ⟨hcq, hfq⟩ := bcell hSw; go_simp; (try with_reducible rfl); done))
              (try simp only [Act.put, List.setIfInBounds_toArray, List.set_cons_zero, List.set_cons_succ])
              first | (refine anyT_take 2 (some 49) (v := ?_) rfl rfl (by kernel_rfl) (by kernel_rfl) (by kernel_rfl) (by kernel_rfl) (fun _ _ _ h => h) (Or.inl ⟨by rfl, ?_⟩) hHeld ?_; rotate_left; focus (intro wq hSw; obtain ⟨hcq, hfq⟩ := bcell hSw; go_simp; (try with_reducible rfl); done))
              (try simp only [Act.put, List.setIfInBounds_toArray, List.set_cons_zero, List.set_cons_succ])
              first | (refine anyT_take 3 (some 50) (v := ?_) rfl rfl (by kernel_rfl) (by kernel_rfl) (by kernel_rfl) (by kernel_rfl) (fun _ _ _ h => h) (Or.inl ⟨by rfl, ?_⟩) hHeld ?_; rotate_left; focus (intro wq hSw; obtain ⟨hcq, hfq⟩ := bcell hSw; go_simp; (try with_reducible rfl); done))
              (try simp only [Act.put, List.setIfInBounds_toArray, List.set_cons_zero, List.set_cons_succ])
              refine anyT_one 4 (by kernel_rfl) rfl (fun K hK => ?_)
              go_simp
              refine (eq0_3 (v' := B.val) (by unfold ForgeV.val ForgeV.cells; rfl) (Hih.out (o + 1) (c2 - 1) rest RA rc _ Hl1.out Hrl.out Hrb.out (HB0.out.below (below_then HBq.out HBq.out.size hHeld)) (Hri.out.below hHeld) Hrc.out (Hdp.out _ (below_then HBq.out HBq.out.size hHeld)))).mono ?_; rintro e w7 ⟨rfl, hb7⟩
              refine hK.out _ _ ?_ (fun hHeld => ?_)
              · exact below_then hHeld hHeld.size hb7
              clear hK K
              (try simp only [Act.put, List.setIfInBounds_toArray, List.set_cons_zero, List.set_cons_succ])
              refine anyT_done (by kernel_rfl) ?_ _
              have Hfin := Lib.hid (below_then HBq.out HBq.out.size hHeld)
              have Hfb := Lib.hid (below_then Hbx.out Hbx.out.size hHeld)
              clear hHeld hb7 c3 f3 l3 p0 pbl
              cases hr : castsS B rest (sizes.drop 1) with
              | some r =>
                have Hs : Hid ((castsS B left sizes).isSome = true) := Lib.hid (Hct.out (by rw [hr]; rfl))
                clear hr
                go_wp2
                go_ret
                exact ⟨by rw [Hs.out] <;> rfl, Hfin.out⟩
              | none =>
                have Hr := Lib.hid hr
                clear hr
                go_wp2
                go_roundg (ms.length - (k + 1))
                case measure => have := Hgk.out; omega
                case rel =>
                  refine ⟨k + 1, by omega, rfl, by go_num, fun x hx => ?_, Hfb.out⟩
                  rw [Htk.out] at hx
                  rcases List.mem_append.1 hx with h | h
                  · exact Hno.out x h
                  · rw [List.mem_singleton.1 h, Hrest.out]; exact Hr.out
        · obtain rfl : k = ms.length := by omega
          have hki : ¬ (ms.length : Int) < ms.length := by omega
          have Hs : Hid ((castsS B left sizes).isSome = false) := Lib.hid (by
            have hno := Hno.out
            rw [List.take_length] at hno
            rw [Hst.out, (List.findSome?_eq_none_iff).2 (fun m hm => by rw [hno m hm]; rfl)]; rfl)
          obtain ⟨c3, f3, l3⟩ := K35.out.below Hbe.out
          go_wp2
          go_ret
          exact ⟨by rw [Hs.out] <;> rfl, HBr.out⟩

theorem refFits_calls (B : ForgeV) (g : B.Good) : ∀ n, FitsCall B n
  | 0 => refFits_zero B
  | n + 1 => refFits_succ B g n (refFits_calls B g n)
end
end Go.Proofs.YtgfbfbfajnfbjaaDoor

namespace Go.Proofs.YtgfbfbfajnfbjaaDoor
section
open Go.RowKit Go.Shelf
set_option linter.unusedSimpArgs false
set_option linter.unusedVariables false
def castsE (B : ForgeV) (sizes : List Int) : Int := bif goodF B then (bif castsAsk sizes then (bif (castsS B (stockS B) sizes).isSome then 0 else 4) else 21) else 20
theorem askTo_stop {sizes : List Int} {k : Nat} (hk : k ≤ sizes.length) (h : askTo sizes k = false) : castsAsk sizes = false := by
  unfold castsAsk askTo at *
  rw [Bool.and_eq_false_iff] at h ⊢
  exact h.imp id fun h => all_false hk h
theorem castsR_cases {B : ForgeV} {S : List Int} {e : Ending} {w' : World} (h : CastsR B S e w') : ∃ A n, e = .returned (.tuple #[.slice A n n, .int .i64 (castsE B S)]) ∧
    Hid ((castsE B S ≠ 0 ∧ n = 0) ∨ (castsE B S = 0 ∧ goodF B = true ∧ castsAsk S = true ∧ ∃ ms, castsS B (stockS B) S = some ms ∧ n = ms.length ∧ RowsAt w' A ms)) := by
  unfold castsE
  rcases h with ⟨h1, h2⟩ | ⟨h0, h1, h2⟩ | ⟨h0, h1, h2, h3⟩ | ⟨h0, h1, ms, A, h2, h3, h4⟩
  · rw [h1]; exact ⟨none, 0, h2, .inl ⟨by simp, rfl⟩⟩
  · rw [h0, h1]; exact ⟨none, 0, h2, .inl ⟨by simp, rfl⟩⟩
  · rw [h0, h1, h2]; exact ⟨none, 0, h3, .inl ⟨by simp, rfl⟩⟩
  · rw [h0, h1, h2]; exact ⟨A, ms.length, h3, .inr ⟨rfl, rfl, rfl, ms, rfl, rfl, h4⟩⟩
theorem ask_all {sizes : List Int} (h : castsAsk sizes = true) : (1 ≤ sizes.length ∧ sizes.length ≤ 4) ∧ ∀ k, k < sizes.length → 1 ≤ gi sizes k ∧ gi sizes k ≤ 24 := by
  unfold castsAsk askTo at h
  rw [Bool.and_eq_true, inB_iff] at h
  exact ⟨by omega, fun k hk => inB_iff.1 (range_all_get h.2 k hk)⟩
/-- what is cast already -/
def addL (a m : List Int) (j : Nat) : List Int := (List.range a.length).map fun i => if i < j then gi a i + gi m i else gi a i
theorem addL_len (a m : List Int) (j : Nat) : (addL a m j).length = a.length := by unfold addL; simp
theorem addL_get (a m : List Int) (j k : Nat) (h : k < a.length) : gi (addL a m j) k = if k < j then gi a k + gi m k else gi a k := by
  unfold addL
  rw [gi, List.getD_eq_getElem?_getD, List.getElem?_map, List.getElem?_range h]; rfl
theorem addL_zero (a m : List Int) : addL a m 0 = a := list_ext_gi (addL_len a m 0) fun k hk => by
  rw [addL_len] at hk
  rw [addL_get a m 0 k hk, if_neg (Nat.not_lt_zero _)]
theorem addL_set (a m : List Int) (j : Nat) (h : j < a.length) : (addL a m j).set j (gi a j + gi m j) = addL a m (j + 1) := list_ext_gi (by rw [List.length_set, addL_len, addL_len]) fun k hk => by
  rw [List.length_set, addL_len] at hk
  rw [gi_set _ _ _ _ (by rw [addL_len]; exact h), addL_get _ _ _ _ hk, addL_get _ _ _ _ hk]
  by_cases e : k = j
  · subst e; rw [if_pos rfl, if_pos (Nat.lt_succ_self _)]
  · rw [if_neg e]
    by_cases c : k < j
    · rw [if_pos c, if_pos (by omega)]
    · rw [if_neg c, if_neg (by omega)]
/-- the bars of the first discs together -/
def usedAt (B : ForgeV) (ms : List (List Int)) (k : Nat) : List Int := subL (stockS B) (leftAt (stockS B) ms k)
theorem used_len {B : ForgeV} {S : List Int} {ms : List (List Int)} (h : KeptS B S ms) {k : Nat} (hk : k ≤ ms.length) : (usedAt B ms k).length = B.lots.length := by
  unfold usedAt
  rw [subL_len _ _ (by rw [(h.left k hk).1]; simp [stockS])]; simp [stockS]
theorem used_get {B : ForgeV} {S : List Int} {ms : List (List Int)} (h : KeptS B S ms) {k : Nat} (hk : k ≤ ms.length) (j : Nat) : gi (usedAt B ms k) j = gi (stockS B) j - gi (leftAt (stockS B) ms k) j := by
  unfold usedAt
  exact gi_subL _ _ (by rw [(h.left k hk).1]; simp [stockS]) j
theorem left_le {B : ForgeV} {S : List Int} {ms : List (List Int)} (g : B.Good) (h : KeptS B S ms) : ∀ {k : Nat}, k ≤ ms.length → ∀ j, gi (leftAt (stockS B) ms k) j ≤ gi (stockS B) j
  | 0, _, j => Int.le_refl _
  | k + 1, hk, j => by
    have hl := left_le g h (k := k) (by omega) j
    rw [leftAt, gi_subL _ _ (by rw [(h.left k (by omega)).1, (within_at (h.each k (by omega)).1).1])]
    have := (within_bd g (h.each k (by omega)).1 j).1
    omega
theorem used_zero (B : ForgeV) (ms : List (List Int)) : usedAt B ms 0 = List.replicate B.lots.length 0 := list_ext_gi (by unfold usedAt leftAt; rw [subL_len _ _ rfl, List.length_replicate]; simp [stockS]) fun k hk => by
  unfold usedAt leftAt at *
  rw [subL_len _ _ rfl] at hk
  have hk' : k < B.lots.length := by simpa [stockS] using hk
  rw [gi_subL _ _ rfl]
  unfold gi
  rw [List.getD_eq_getElem?_getD (l := List.replicate _ _), List.getElem?_replicate, if_pos hk']
  simp
theorem used_succ {B : ForgeV} {S : List Int} {ms : List (List Int)} (h : KeptS B S ms) {k : Nat} (hk : k < ms.length) : addL (usedAt B ms k) (gm ms k) B.lots.length = usedAt B ms (k + 1) := list_ext_gi (by rw [addL_len, used_len h (by omega), used_len h (by omega)]) fun j hj => by
  rw [addL_len, used_len h (by omega)] at hj
  rw [addL_get _ _ _ _ (by rw [used_len h (by omega)]; exact hj), if_pos hj, used_get h (by omega), used_get h (by omega), leftAt, gi_subL]
  · omega
  · rw [(h.left k (by omega)).1, (within_at (h.each k hk).1).1]
end
section
open Go.RowKit Go.Shelf
attribute [local go_sem] Oper.semAt_some
set_option linter.unusedSimpArgs false
set_option linter.unusedVariables false
set_option maxRecDepth 100000 in
set_option maxHeartbeats 4000000 in
theorem refCasts_calls (B : ForgeV) (A : Option Addr) (c : Nat) (sizes : List Int) (w : World) (hB : B.Reads w) (hp : IntsAt w A sizes) (hc : sizes.length ≤ c) :
    Calls Tryd.prog 29 #[B.val, .slice A sizes.length c] w fun e w' => e = .returned (.int .i64 (castsE B sizes)) ∧ Below w.heap.size w w' := by
  have HB0 := Lib.hid hB
  have Hp0 := Lib.hid hp
  have Hc := Lib.hid hc
  have Hr : Hid (castsE B sizes = bif goodF B then (bif castsAsk sizes then (bif (castsS B (stockS B) sizes).isSome then 0 else 4) else 21) else 20) := Lib.hid rfl
  have k2 := BoxAt.new w B.cells 28
  have H1 : Below w.heap.size w (w.alloc (.cells B.cells 28)) := (Below.refl _ _).alloc (Nat.le_refl _) _
  have hcells : B.val = .agg B.cells := rfl
  rw [hcells]
  unfold ForgeV.cells at k2 H1 ⊢
  clear hB hc
  go_enter Tryd.func29, Tryd.ntmps29
  go_upto_region 1 with fail
  generalize w.alloc _ = W1 at *
  have K2 := Lib.hid k2
  have HW1 := Lib.hid H1
  obtain ⟨c2, f2, l2⟩ := k2
  clear H1
  go_wp2_with fail
  refine (eq0_1 (v' := B.val) (by unfold ForgeV.val ForgeV.cells; rfl) (refCheck_calls B _ (HB0.out.below HW1.out))).mono ?_
  rintro e w2 ⟨rfl, hb⟩
  replace HW1 := Lib.hid (below_then HW1.out HW1.out.size hb)
  replace K2 := Lib.hid (K2.out.below hb)
  clear hb c2 f2 l2
  cases hg : goodF B with
  | false =>
    have Hf : Hid (castsE B sizes = 20) := by unfold Hid; rw [Hr.out, hg]; rfl
    clear hg
    go_wp2
    go_ret
    exact ⟨by rw [Hf.out] <;> rfl, HW1.out⟩
  | true =>
    have Hg := Lib.hid ((goodF_iff B).1 hg)
    have Hf : Hid (castsE B sizes = bif castsAsk sizes then (bif (castsS B (stockS B) sizes).isSome then 0 else 4) else 21) := by unfold Hid; rw [Hr.out, hg]; rfl
    clear hg Hr
    have hask0 : inB (sizes.length : Int) 1 4 = askTo sizes 0 := by unfold askTo; simp
    have hle := hp.1
    go_upto_block 0 with (go_at_call 48; refine (Sits_calls _ _ _ _).mono ?_; rintro e w' ⟨rfl, rfl⟩; rw [hask0])
    clear hask0 hp
    go_wp2
    go_loopg [7, 6] sizes.length (fun gq i s wr => ∃ k : Nat, k ≤ sizes.length ∧ gq = sizes.length - k ∧ i = .int .i64 k ∧ s = .bool (askTo sizes k) ∧ wr = w2)
    case atStart => exact ⟨0, Nat.zero_le _, rfl, rfl, rfl, rfl⟩
    case round =>
      obtain ⟨k, hk, hgk, rfl, rfl, rfl⟩ := hrel
      have Hgk := Lib.hid hgk
      have Hst := Lib.hid (askTo_succ sizes k)
      clear hgk
      cases hx : askTo sizes k with
      | false =>
        have Hf2 : Hid (castsE B sizes = 21) := by unfold Hid; rw [Hf.out, askTo_stop hk hx]; rfl
        clear hx
        go_wp2
        go_ret
        exact ⟨by rw [Hf2.out] <;> rfl, HW1.out⟩
      | true =>
        have Hx := Lib.hid hx
        clear hx
        by_cases hlt : k < sizes.length
        · have hki : (k : Int) < sizes.length := by omega
          obtain ⟨sb, so, rfl⟩ := Hp0.out.some_ (by omega)
          have p0 := cell_below HW1.out (Hp0.out.at_ hlt)
          have pbl := World.block_lt_of_cell? _ _ p0
          simp only at pbl
          go_wp2_with (go_at_call 48; refine (Sits_calls _ _ _ _).mono ?_; rintro e w' ⟨rfl, rfl⟩)
          go_roundg (sizes.length - (k + 1))
          case measure => have := Hgk.out; omega
          case rel => exact ⟨k + 1, by omega, rfl, by go_num, by rw [Hst.out, Hx.out]; rfl, rfl⟩
        · obtain rfl : k = sizes.length := by omega
          have hki : ¬ (sizes.length : Int) < sizes.length := by omega
          have hca : castsAsk sizes = true := Hx.out
          have hal := ask_all hca
          have Hf2 : Hid (castsE B sizes = bif (castsS B (stockS B) sizes).isSome then 0 else 4) := by unfold Hid; rw [Hf.out, hca]; rfl
          have Hal := Lib.hid hal
          have hsl : (stockS B).length = B.lots.length := by simp [stockS]
          have Hsl := Lib.hid hsl
          have Hsb : Hid (∀ k, 0 ≤ gi sizes k ∧ gi sizes k ≤ 24) := Lib.hid (fun k => by
            by_cases h : k < sizes.length
            · have := hal.2 k h; omega
            · rw [gi_out (by omega)]; omega)
          clear hca hal hsl
          obtain ⟨sm, hsm⟩ : ∃ sm, (castsS B (stockS B) sizes).isSome = sm := ⟨_, rfl⟩
          have hf2 := Hf2.out
          rw [hsm] at hf2
          have Hf2 := Lib.hid hf2
          have Hsm := Lib.hid hsm
          clear hf2 hsm
          obtain ⟨c2, f2, l2⟩ := K2.out
          go_upto_region 11 with (fail)
          refine region_plain (S := fun w' => Below wr.heap.size wr w') 6 (by kernel_rfl) ?_ (fun hHeld => ?_)
          · exact (Below.refl _ _).drew
          first | (refine anyT_take 0 (some 32) (v := ?_) rfl rfl (by kernel_rfl) (by kernel_rfl) (by kernel_rfl) (by kernel_rfl) (fun _ _ _ h => h) (Or.inl ⟨by rfl, ?_⟩) hHeld ?_; rotate_left; focus (intro wq hSw; obtain ⟨hcq, hfq⟩ := bcell hSw; go_simp; (try with_reducible rfl); done))
          (try simp only [Act.put, List.setIfInBounds_toArray, List.set_cons_zero, List.set_cons_succ])
          first | (refine anyT_take 1 (some 33) (v := ?_) rfl rfl (by kernel_rfl) (by kernel_rfl) (by kernel_rfl) (by kernel_rfl) (fun _ _ _ h => h) (Or.inl ⟨by rfl, ?_⟩) hHeld ?_; rotate_left; focus (intro wq hSw; obtain ⟨hcq, hfq⟩ := bcell hSw; go_simp; (try with_reducible rfl); done))
          (try simp only [Act.put, List.setIfInBounds_toArray, List.set_cons_zero, List.set_cons_succ])
          first | (refine anyT_take 3 (some 35) (v := ?_) rfl rfl (by kernel_rfl) (by kernel_rfl) (by kernel_rfl) (by kernel_rfl) (fun _ _ _ h => h) (Or.inl ⟨by rfl, ?_⟩) hHeld ?_; rotate_left; focus (intro wq hSw; obtain ⟨hcq, hfq⟩ := bcell hSw; go_simp; (try with_reducible rfl); done))
          (try simp only [Act.put, List.setIfInBounds_toArray, List.set_cons_zero, List.set_cons_succ])
          refine anyT_one 2 (by kernel_rfl) rfl (fun K hK => ?_)
          go_simp
          refine (eq0_1 (v' := B.val) (by unfold ForgeV.val ForgeV.cells; rfl) (refStock_calls B Hg.out _ (HB0.out.below (below_then HW1.out HW1.out.size hHeld)))).mono ?_; rintro e w5 ⟨⟨sA, sc, rfl, hsi, hsc⟩, hb5⟩
          refine hK.out _ _ ?_ (fun hHeld => ?_)
          · exact below_then hHeld hHeld.size hb5
          clear hK K
          (try simp only [Act.put, List.setIfInBounds_toArray, List.set_cons_zero, List.set_cons_succ])
          refine anyT_one 4 (by kernel_rfl) rfl (fun K hK => ?_)
          have hst := refFits_calls B Hg.out sizes.length (stockS B) sizes sA sc A c w5 rfl Hal.out.1.2 Hsb.out Hsl.out (stock_bd Hg.out) (HB0.out.below (below_then HW1.out HW1.out.size hHeld)) hsi (by rw [Hsl.out]; exact hsc) ((Hp0.out.below HW1.out).below hHeld) Hc.out; rw [Hsl.out, Hsm.out] at hst
          go_simp
          refine (eq0_3 (v' := B.val) (by unfold ForgeV.val ForgeV.cells; rfl) hst).mono ?_; rintro e w6 ⟨rfl, hb6⟩
          refine hK.out _ _ ?_ (fun hHeld => ?_)
          · exact below_then hHeld hHeld.size hb6
          clear hK K
          (try simp only [Act.put, List.setIfInBounds_toArray, List.set_cons_zero, List.set_cons_succ])
          first | (refine anyT_take 5 (some 37) (v := ?_) rfl rfl (by kernel_rfl) (by kernel_rfl) (by kernel_rfl) (by kernel_rfl) (fun _ _ _ h => h) (Or.inl ⟨by rfl, ?_⟩) hHeld ?_; rotate_left; focus (intro wq hSw; obtain ⟨hcq, hfq⟩ := bcell hSw; go_simp; (try with_reducible rfl); done))
          (try simp only [Act.put, List.setIfInBounds_toArray, List.set_cons_zero, List.set_cons_succ])
          refine anyT_done (by kernel_rfl) ?_ _
          have HF := Lib.hid (below_then HW1.out HW1.out.size hHeld)
          clear hHeld hb5 hb6 hst hsi c2 f2 l2
          cases hcs : sm with
          | false =>
            have Hf3 : Hid (castsE B sizes = 4) := by unfold Hid; rw [Hf2.out, hcs]; rfl
            clear hcs
            go_wp2
            go_ret
            exact ⟨by rw [Hf3.out] <;> rfl, HF.out⟩
          | true =>
            have Hf3 : Hid (castsE B sizes = 0) := by unfold Hid; rw [Hf2.out, hcs]; rfl
            clear hcs
            go_wp2
            go_ret
            exact ⟨by rw [Hf3.out] <;> rfl, HF.out⟩
set_option maxRecDepth 100000 in
set_option maxHeartbeats 8000000 in
theorem refAreCasts_calls (B : ForgeV) (g : B.Good) (S : List Int) (ms : List (List Int)) (hk : KeptS B S ms) (hS4 : S.length ≤ 4) (hSb : ∀ k, k < S.length → 1 ≤ gi S k ∧ gi S k ≤ 24) (A : Option Addr) (c : Nat) (A2 : Option Addr) (c2 : Nat) (w : World) (hB : B.Reads w) (hp : IntsAt w A S) (hr : RowsAt w A2 ms) (hms : 0 < ms.length) :
    Calls Tryd.prog 30 #[B.val, .slice A S.length c, .slice A2 ms.length c2] w fun e w' => e = .returned (.bool true) ∧ Below w.heap.size w w' := by
  have HB0 := Lib.hid hB
  have Hg := Lib.hid g
  have Hk := Lib.hid hk
  have hkl := hk.len
  have Hkl := Lib.hid hkl
  have hm4 := g.many
  obtain ⟨sb, so, rfl⟩ := hp.some_ (by omega)
  obtain ⟨rb, ro, rfl⟩ := hr.some_ hms
  have HS6 := Lib.hid hp
  have Hrow := Lib.hid hr
  have HSb := Lib.hid hSb
  obtain ⟨lb, lo, hlA⟩ := hB.lots.some_ (by omega)
  have hlts := hB.lots
  rw [hlA] at hlts
  have Hlts := Lib.hid hlts
  have HlA := Lib.hid hlA
  have k3 := BoxAt.new w B.cells 28
  have H1 : Below w.heap.size w (w.alloc (.cells B.cells 28)) := (Below.refl _ _).alloc (Nat.le_refl _) _
  have hcells : B.val = .agg B.cells := rfl
  rw [hcells]
  unfold ForgeV.cells at k3 H1 ⊢
  rw [hlA] at k3 H1 ⊢
  have hneq : ((ms.length : Int) != S.length) = false := by rw [bne_eq_false_iff_eq]; omega
  have hms4 : ms.length ≤ 4 := by omega
  clear hB g hk hp hr hSb hlA hlts hkl
  go_enter Tryd.func30, Tryd.ntmps30
  go_upto_region 1 with fail
  generalize w.alloc _ = w6 at *
  have H6 := Lib.hid H1
  have K3k := Lib.hid k3
  obtain ⟨c3, f3, l3⟩ := k3
  have hs6 := World.block_lt_of_cell? _ _ (HS6.out.at0 (by have := Hkl.out; omega))
  simp only at hs6
  have hmk := fun W => makeInts W B.lots.length (by omega)
  have hL0 : (0 : Int) ≤ B.lots.length := by omega
  have kL : IntBox (w6.alloc (.cells (Array.replicate B.lots.length (.int .i64 0)) 3)) w6.heap.size (List.replicate B.lots.length 0) := IntBox.zeros (BoxAt.new w6 _ _)
  have hb7 : Below w6.heap.size w6 (w6.alloc (.cells (Array.replicate B.lots.length (.int .i64 0)) 3)) := (Below.refl _ _).alloc (Nat.le_refl _) _
  rw [← used_zero B ms] at kL
  go_upto_block 0 with (fail)
  clear hmk c3 f3 l3 hneq H1
  generalize w6.alloc _ = w7 at *
  have hg6 := H6.out.size
  have h36 := K3k.out.lt
  generalize hgL : w6.heap.size = gL at *
  have HgL := Lib.hid hgL
  have KL := Lib.hid kL
  have Hb7 := Lib.hid hb7
  have hl7 := kL.lt
  have lift : ∀ {wr : World}, Below gL w6 wr → Below w6.heap.size w6 wr := fun h => by rw [HgL.out]; exact h
  have hwl : w.heap.size < gL := by omega
  clear hb7 kL hgL
  go_wp2
  go_loopg [8] ms.length (fun gq i wr => ∃ k : Nat, k ≤ ms.length ∧ gq = ms.length - k ∧ i = .int .i64 k ∧ IntBox wr gL (usedAt B ms k) ∧ Below gL w6 wr)
  case atStart => exact ⟨0, Nat.zero_le _, rfl, rfl, KL.out, Hb7.out⟩
  case round =>
    obtain ⟨k, hk, hgk, rfl, hbx, hbe⟩ := hrel
    have Hgk := Lib.hid hgk
    have Hbx := Lib.hid hbx
    have Hbe := Lib.hid hbe
    obtain ⟨c3, f3, l3⟩ := K3k.out.below (lift hbe)
    clear hgk hbx hbe KL
    by_cases hlt : k < ms.length
    · have hki : (k : Int) < ms.length := by omega
      have hkSn : k < S.length := by have := Hkl.out; omega
      have hkS : (k : Int) < S.length := by omega
      have heach := Hk.out.each k hlt
      have hug := fun j => used_get Hk.out (k := k) (by omega) j
      have hlf := Hk.out.left k (by omega)
      have hsb := HSb.out k hkSn
      have hul := used_len Hk.out (k := k) (by omega)
      have hus := used_succ Hk.out hlt
      obtain ⟨Aj, cj, hcell, hcap, hints⟩ := Hrow.out.at_ hlt
      have hub : ∀ j, 0 ≤ gi (usedAt B ms k) j ∧ gi (usedAt B ms k) j ≤ 6 := fun j => by
        rw [hug]
        have hle := left_le Hg.out Hk.out (k := k) (by omega) j
        have := stock_bd Hg.out j; have := hlf.2 j; omega
      generalize hU1 : usedAt B ms (k + 1) = U1 at *
      have HU1 := Lib.hid hU1
      clear hU1
      generalize usedAt B ms k = U at *
      generalize gm ms k = m at *
      have hml : m.length = B.lots.length := (within_at heach.1).1
      obtain ⟨mb, mo, rfl, hmc⟩ := hints.2.resolve_left (by intro e; rw [e] at hml; have h0 : B.lots.length = 0 := hml.symm; omega)
      have Hmc := Lib.hid hmc
      have hm4' : m.length ≤ 4 := by omega
      have Hml := Lib.hid hml
      have Him := Lib.hid (show isMeltR B m = .tuple #[.bool true, .int .i64 0] by rw [isMelt_good Hg.out, heach.1, heach.2.1]; rfl)
      have Hmb := Lib.hid (within_bd Hg.out heach.1)
      have hsm := fun w h => Sum_calls (some ⟨mb, mo, none⟩) cj m w h hm4' (within_bd Hg.out heach.1)
      rw [heach.2.2] at hsm
      have Hsm := Lib.hid hsm
      have p0 := cell_below (lift Hbe.out) (cell_below H6.out hcell)
      have pbl := World.block_lt_of_cell? _ _ p0
      have s0 := cell_below (lift Hbe.out) (cell_below H6.out (HS6.out.at_ (k := k) hkSn))
      have sbl := World.block_lt_of_cell? _ _ s0
      simp only at pbl sbl
      have Hcell := Lib.hid (cell_below H6.out hcell)
      have Hints := Lib.hid (hints.below H6.out)
      have Hul := Lib.hid hul
      have Hus := Lib.hid hus
      have Hub := Lib.hid hub
      clear heach hul hus hub hcell hints hsm hcap hml hmc hug hlf
      go_upto_region 7 with (fail)
      refine region_plain (S := fun w' => Below wr.heap.size wr w') 11 (by kernel_rfl) ?_ (fun hHeld => ?_)
      · exact (Below.refl _ _).drew
      first | (refine anyT_take 0 (some 29) (v := ?_) rfl rfl (by kernel_rfl) (by kernel_rfl) (by kernel_rfl) (by kernel_rfl) (fun _ _ _ h => h) (Or.inl ⟨by rfl, ?_⟩) hHeld ?_; rotate_left; focus (intro wq hSw; obtain ⟨hcq, hfq⟩ := bcell hSw; go_simp; (try with_reducible rfl); done))
      (try simp only [Act.put, List.setIfInBounds_toArray, List.set_cons_zero, List.set_cons_succ])
      first | (refine anyT_take 1 (some 30) (v := ?_) rfl rfl (by kernel_rfl) (by kernel_rfl) (by kernel_rfl) (by kernel_rfl) (fun _ _ _ h => h) (Or.inl ⟨by rfl, ?_⟩) hHeld ?_; rotate_left; focus (intro wq hSw; obtain ⟨hcq, hfq⟩ := bcell hSw; go_simp; (try with_reducible rfl); done))
      (try simp only [Act.put, List.setIfInBounds_toArray, List.set_cons_zero, List.set_cons_succ])
      first | (refine anyT_take 2 (some 31) (v := ?_) rfl rfl (by kernel_rfl) (by kernel_rfl) (by kernel_rfl) (by kernel_rfl) (fun _ _ _ h => h) (Or.inl ⟨by rfl, ?_⟩) hHeld ?_; rotate_left; focus (intro wq hSw; obtain ⟨hcq, hfq⟩ := bcell hSw; go_simp; (try with_reducible rfl); done))
      (try simp only [Act.put, List.setIfInBounds_toArray, List.set_cons_zero, List.set_cons_succ])
      first | (refine anyT_take 3 (some 32) (v := ?_) rfl rfl (by kernel_rfl) (by kernel_rfl) (by kernel_rfl) (by kernel_rfl) (fun _ _ _ h => h) (Or.inl ⟨by rfl, ?_⟩) hHeld ?_; rotate_left; focus (intro wq hSw; obtain ⟨hcq, hfq⟩ := bcell hSw; go_simp; (try with_reducible rfl); done))
      (try simp only [Act.put, List.setIfInBounds_toArray, List.set_cons_zero, List.set_cons_succ])
      first | (refine anyT_take 4 (some 33) (v := ?_) rfl rfl (by kernel_rfl) (by kernel_rfl) (by kernel_rfl) (by kernel_rfl) (fun _ _ _ h => h) (Or.inl ⟨by rfl, ?_⟩) hHeld ?_; rotate_left; focus (intro wq hSw; obtain ⟨hcq, hfq⟩ := bcell hSw; go_simp; (try with_reducible rfl); done))
      (try simp only [Act.put, List.setIfInBounds_toArray, List.set_cons_zero, List.set_cons_succ])
      refine anyT_one 5 (by kernel_rfl) rfl (fun K hK => ?_)
      go_simp
      refine (eq0_2 (v' := B.val) (by unfold ForgeV.val ForgeV.cells; rw [HlA.out]) (refIsMelt_calls B (some ⟨mb, mo, none⟩) cj m _ (HB0.out.below (H6.out.trans ((Hbe.out.trans (hHeld.mono (by have := Hbx.out.lt; omega))).mono hg6))) (Hints.out.below (lift (Hbe.out.trans (hHeld.mono (by have := Hbx.out.lt; omega))))))).mono ?_; rintro e w8 ⟨rfl, hb⟩; rw [Him.out]
      refine hK.out _ _ ?_ (fun hHeld => ?_)
      · exact below_then hHeld hHeld.size hb
      clear hK K
      (try simp only [Act.put, List.setIfInBounds_toArray, List.set_cons_zero, List.set_cons_succ])
      first | (refine anyT_take 6 (some 28) (v := ?_) rfl rfl (by kernel_rfl) (by kernel_rfl) (by kernel_rfl) (by kernel_rfl) (fun _ _ _ h => h) (Or.inl ⟨by rfl, ?_⟩) hHeld ?_; rotate_left; focus (intro wq hSw; obtain ⟨hcq, hfq⟩ := bcell hSw; go_simp; (try with_reducible rfl); done))
      (try simp only [Act.put, List.setIfInBounds_toArray, List.set_cons_zero, List.set_cons_succ])
      first | (refine anyT_take 7 (some 35) (v := ?_) rfl rfl (by kernel_rfl) (by kernel_rfl) (by kernel_rfl) (by kernel_rfl) (fun _ _ _ h => h) (Or.inl ⟨by rfl, ?_⟩) hHeld ?_; rotate_left; focus (intro wq hSw; obtain ⟨hcq, hfq⟩ := bcell hSw; go_simp; (try with_reducible rfl); done))
      (try simp only [Act.put, List.setIfInBounds_toArray, List.set_cons_zero, List.set_cons_succ])
      first | (refine anyT_take 8 (some 36) (v := ?_) rfl rfl (by kernel_rfl) (by kernel_rfl) (by kernel_rfl) (by kernel_rfl) (fun _ _ _ h => h) (Or.inl ⟨by rfl, ?_⟩) hHeld ?_; rotate_left; focus (intro wq hSw; obtain ⟨hcq, hfq⟩ := bcell hSw; go_simp; (try with_reducible rfl); done))
      (try simp only [Act.put, List.setIfInBounds_toArray, List.set_cons_zero, List.set_cons_succ])
      first | (refine anyT_take 9 (some 9) (v := ?_) rfl rfl (by kernel_rfl) (by kernel_rfl) (by kernel_rfl) (by kernel_rfl) (fun _ _ _ h => h) (Or.inl ⟨by rfl, ?_⟩) hHeld ?_; rotate_left; focus (intro wq hSw; obtain ⟨hcq, hfq⟩ := bcell hSw; go_simp; (try with_reducible rfl); done))
      (try simp only [Act.put, List.setIfInBounds_toArray, List.set_cons_zero, List.set_cons_succ])
      first | (refine anyT_take 10 (some 10) (v := ?_) rfl rfl (by kernel_rfl) (by kernel_rfl) (by kernel_rfl) (by kernel_rfl) (fun _ _ _ h => h) (Or.inl ⟨by rfl, ?_⟩) hHeld ?_; rotate_left; focus (intro wq hSw; obtain ⟨hcq, hfq⟩ := bcell hSw; go_simp; (try with_reducible rfl); done))
      (try simp only [Act.put, List.setIfInBounds_toArray, List.set_cons_zero, List.set_cons_succ])
      refine anyT_done (by kernel_rfl) ?_ _
      replace Hbe := Lib.hid (Hbe.out.trans (hHeld.mono (by have := Hbx.out.lt; omega)))
      replace Hbx := Lib.hid (Hbx.out.below hHeld)
      replace p0 := cell_below hHeld p0
      replace s0 := cell_below hHeld s0
      have pbl := World.block_lt_of_cell? _ _ p0
      have sbl := World.block_lt_of_cell? _ _ s0
      simp only at pbl sbl
      clear hHeld hb c3 f3 l3
      obtain ⟨c3, f3, l3⟩ := K3k.out.below (lift Hbe.out)
      go_upto_region 8 with (fail)
      refine region_plain (S := fun w' => Below w8.heap.size w8 w') 14 (by kernel_rfl) ?_ (fun hHeld => ?_)
      · exact (Below.refl _ _).drew
      first | (refine anyT_take 0 (some 37) (v := ?_) rfl rfl (by kernel_rfl) (by kernel_rfl) (by kernel_rfl) (by kernel_rfl) (fun _ _ _ h => h) (Or.inl ⟨by rfl, ?_⟩) hHeld ?_; rotate_left; focus (intro wq hSw; obtain ⟨hcq, hfq⟩ := bcell hSw; go_simp; (try with_reducible rfl); done))
      (try simp only [Act.put, List.setIfInBounds_toArray, List.set_cons_zero, List.set_cons_succ])
      first | (refine anyT_take 1 (some 38) (v := ?_) rfl rfl (by kernel_rfl) (by kernel_rfl) (by kernel_rfl) (by kernel_rfl) (fun _ _ _ h => h) (Or.inl ⟨by rfl, ?_⟩) hHeld ?_; rotate_left; focus (intro wq hSw; obtain ⟨hcq, hfq⟩ := bcell hSw; go_simp; (try with_reducible rfl); done))
      (try simp only [Act.put, List.setIfInBounds_toArray, List.set_cons_zero, List.set_cons_succ])
      first | (refine anyT_take 2 (some 39) (v := ?_) rfl rfl (by kernel_rfl) (by kernel_rfl) (by kernel_rfl) (by kernel_rfl) (fun _ _ _ h => h) (Or.inl ⟨by rfl, ?_⟩) hHeld ?_; rotate_left; focus (intro wq hSw; obtain ⟨hcq, hfq⟩ := bcell hSw; go_simp; (try with_reducible rfl); done))
      (try simp only [Act.put, List.setIfInBounds_toArray, List.set_cons_zero, List.set_cons_succ])
      first | (refine anyT_take 3 (some 40) rfl rfl (by kernel_rfl) (by kernel_rfl) (by kernel_rfl) (by kernel_rfl) (fun _ _ _ h => h) (Or.inr ⟨by rfl, rfl⟩) hHeld ?_) | (refine anyT_take 3 (some 40) (v := ?_) rfl rfl (by kernel_rfl) (by kernel_rfl) (by kernel_rfl) (by kernel_rfl) (fun _ _ _ h => h) (Or.inl ⟨by rfl, ?_⟩) hHeld ?_; rotate_left; focus (intro wq hSw; obtain ⟨hcq, hfq⟩ := bcell hSw; go_simp; (try with_reducible rfl); done))
      (try simp only [Act.put, List.setIfInBounds_toArray, List.set_cons_zero, List.set_cons_succ])
      first | (refine anyT_take 4 (some 41) rfl rfl (by kernel_rfl) (by kernel_rfl) (by kernel_rfl) (by kernel_rfl) (fun _ _ _ h => h) (Or.inr ⟨by rfl, rfl⟩) hHeld ?_) | (refine anyT_take 4 (some 41) (v := ?_) rfl rfl (by kernel_rfl) (by kernel_rfl) (by kernel_rfl) (by kernel_rfl) (fun _ _ _ h => h) (Or.inl ⟨by rfl, ?_⟩) hHeld ?_; rotate_left; focus (intro wq hSw; obtain ⟨hcq, hfq⟩ := bcell hSw; go_simp; (try with_reducible rfl); done))
      (try simp only [Act.put, List.setIfInBounds_toArray, List.set_cons_zero, List.set_cons_succ])
      first | (refine anyT_take 5 (some 42) rfl rfl (by kernel_rfl) (by kernel_rfl) (by kernel_rfl) (by kernel_rfl) (fun _ _ _ h => h) (Or.inr ⟨by rfl, rfl⟩) hHeld ?_) | (refine anyT_take 5 (some 42) (v := ?_) rfl rfl (by kernel_rfl) (by kernel_rfl) (by kernel_rfl) (by kernel_rfl) (fun _ _ _ h => h) (Or.inl ⟨by rfl, ?_⟩) hHeld ?_; rotate_left; focus (intro wq hSw; obtain ⟨hcq, hfq⟩ := bcell hSw; go_simp; (try with_reducible rfl); done))
      (try simp only [Act.put, List.setIfInBounds_toArray, List.set_cons_zero, List.set_cons_succ])
      first | (refine anyT_take 6 (some 43) rfl rfl (by kernel_rfl) (by kernel_rfl) (by kernel_rfl) (by kernel_rfl) (fun _ _ _ h => h) (Or.inr ⟨by rfl, rfl⟩) hHeld ?_) | (refine anyT_take 6 (some 43) (v := ?_) rfl rfl (by kernel_rfl) (by kernel_rfl) (by kernel_rfl) (by kernel_rfl) (fun _ _ _ h => h) (Or.inl ⟨by rfl, ?_⟩) hHeld ?_; rotate_left; focus (intro wq hSw; obtain ⟨hcq, hfq⟩ := bcell hSw; go_simp; (try with_reducible rfl); done))
      (try simp only [Act.put, List.setIfInBounds_toArray, List.set_cons_zero, List.set_cons_succ])
      first | (refine anyT_take 8 (some 45) rfl rfl (by kernel_rfl) (by kernel_rfl) (by kernel_rfl) (by kernel_rfl) (fun _ _ _ h => h) (Or.inr ⟨by rfl, rfl⟩) hHeld ?_) | (refine anyT_take 8 (some 45) (v := ?_) rfl rfl (by kernel_rfl) (by kernel_rfl) (by kernel_rfl) (by kernel_rfl) (fun _ _ _ h => h) (Or.inl ⟨by rfl, ?_⟩) hHeld ?_; rotate_left; focus (intro wq hSw; obtain ⟨hcq, hfq⟩ := bcell hSw; go_simp; (try with_reducible rfl); done))
      (try simp only [Act.put, List.setIfInBounds_toArray, List.set_cons_zero, List.set_cons_succ])
      first | (refine anyT_take 9 (some 46) rfl rfl (by kernel_rfl) (by kernel_rfl) (by kernel_rfl) (by kernel_rfl) (fun _ _ _ h => h) (Or.inr ⟨by rfl, rfl⟩) hHeld ?_) | (refine anyT_take 9 (some 46) (v := ?_) rfl rfl (by kernel_rfl) (by kernel_rfl) (by kernel_rfl) (by kernel_rfl) (fun _ _ _ h => h) (Or.inl ⟨by rfl, ?_⟩) hHeld ?_; rotate_left; focus (intro wq hSw; obtain ⟨hcq, hfq⟩ := bcell hSw; go_simp; (try with_reducible rfl); done))
      (try simp only [Act.put, List.setIfInBounds_toArray, List.set_cons_zero, List.set_cons_succ])
      first | (refine anyT_take 10 (some 47) rfl rfl (by kernel_rfl) (by kernel_rfl) (by kernel_rfl) (by kernel_rfl) (fun _ _ _ h => h) (Or.inr ⟨by rfl, rfl⟩) hHeld ?_) | (refine anyT_take 10 (some 47) (v := ?_) rfl rfl (by kernel_rfl) (by kernel_rfl) (by kernel_rfl) (by kernel_rfl) (fun _ _ _ h => h) (Or.inl ⟨by rfl, ?_⟩) hHeld ?_; rotate_left; focus (intro wq hSw; obtain ⟨hcq, hfq⟩ := bcell hSw; go_simp; (try with_reducible rfl); done))
      (try simp only [Act.put, List.setIfInBounds_toArray, List.set_cons_zero, List.set_cons_succ])
      first | (refine anyT_take 11 (some 48) rfl rfl (by kernel_rfl) (by kernel_rfl) (by kernel_rfl) (by kernel_rfl) (fun _ _ _ h => h) (Or.inr ⟨by rfl, rfl⟩) hHeld ?_) | (refine anyT_take 11 (some 48) (v := ?_) rfl rfl (by kernel_rfl) (by kernel_rfl) (by kernel_rfl) (by kernel_rfl) (fun _ _ _ h => h) (Or.inl ⟨by rfl, ?_⟩) hHeld ?_; rotate_left; focus (intro wq hSw; obtain ⟨hcq, hfq⟩ := bcell hSw; go_simp; (try with_reducible rfl); done))
      (try simp only [Act.put, List.setIfInBounds_toArray, List.set_cons_zero, List.set_cons_succ])
      refine anyT_one 7 (by kernel_rfl) rfl (fun K hK => ?_)
      go_simp
      refine (Hsm.out _ (Hints.out.below (lift (Hbe.out.trans (hHeld.mono (by have := Hbx.out.lt; omega)))))).mono ?_; rintro e w10 ⟨rfl, rfl⟩
      refine hK.out _ _ ?_ (fun hHeld => ?_)
      · exact hHeld
      clear hK K
      (try simp only [Act.put, List.setIfInBounds_toArray, List.set_cons_zero, List.set_cons_succ])
      first | (refine anyT_take 12 (some 49) rfl rfl (by kernel_rfl) (by kernel_rfl) (by kernel_rfl) (by kernel_rfl) (fun _ _ _ h => h) (Or.inr ⟨by rfl, rfl⟩) hHeld ?_) | (refine anyT_take 12 (some 49) (v := ?_) rfl rfl (by kernel_rfl) (by kernel_rfl) (by kernel_rfl) (by kernel_rfl) (fun _ _ _ h => h) (Or.inl ⟨by rfl, ?_⟩) hHeld ?_; rotate_left; focus (intro wq hSw; obtain ⟨hcq, hfq⟩ := bcell hSw; go_simp; (try with_reducible rfl); done))
      (try simp only [Act.put, List.setIfInBounds_toArray, List.set_cons_zero, List.set_cons_succ])
      first | (refine anyT_take 13 (some 50) (v := ?_) rfl rfl (by kernel_rfl) (by kernel_rfl) (by kernel_rfl) (by kernel_rfl) (fun _ _ _ h => h) (Or.inl ⟨by rfl, ?_⟩) hHeld ?_; rotate_left; focus (intro wq hSw; obtain ⟨hcq, hfq⟩ := bcell hSw; go_simp; (try with_reducible rfl); done))
      (try simp only [Act.put, List.setIfInBounds_toArray, List.set_cons_zero, List.set_cons_succ])
      refine anyT_done (by kernel_rfl) ?_ _
      replace Hbe := Lib.hid (Hbe.out.trans (hHeld.mono (by have := Hbx.out.lt; omega)))
      replace Hbx := Lib.hid (Hbx.out.below hHeld)
      clear hHeld c3 f3 l3 p0 s0 pbl sbl Him Hsm
      generalize World.drew w8 = wz at *
      go_upto_block 2 with (fail)
      go_wp2
      have hbx0 := Hbx.out
      rw [← addL_zero U m] at hbx0
      go_loopg [11] B.lots.length (fun gq i wq => ∃ j : Nat, j ≤ B.lots.length ∧ gq = B.lots.length - j ∧ i = .int .i64 j ∧ IntBox wq gL (addL U m j) ∧ Below gL w6 wq)
      case atStart => exact ⟨0, Nat.zero_le _, rfl, rfl, hbx0, Hbe.out⟩
      case round =>
        clear hbx0 Hbx Hbe
        obtain ⟨j, hj, hgj, rfl, hbx, hbe⟩ := hrel
        have Hgj := Lib.hid hgj
        have Hbx := Lib.hid hbx
        have Hbe := Lib.hid hbe
        clear hgj hbx hbe
        by_cases hlj : j < B.lots.length
        · have hji : (j : Int) < B.lots.length := by omega
          have hjm : j < m.length := by have := Hml.out; omega
          have hjmi : (j : Int) < m.length := by omega
          have p0 := cell_below (lift Hbe.out) Hcell.out
          have pbl := World.block_lt_of_cell? _ _ p0
          have q0 := cell_below (lift Hbe.out) (Hints.out.at_ hjm)
          have qbl := World.block_lt_of_cell? _ _ q0
          have mbl := World.block_lt_of_cell? _ _ (Hints.out.at_ hjm)
          have rbl := World.block_lt_of_cell? _ _ Hcell.out
          have r0 := Hbx.out.at_ (k := j) (by rw [addL_len, Hul.out]; exact hlj)
          have rL := Hbx.out.lt
          have fL : ∀ i, wr.frozen? ⟨gL, i, none⟩ = false := Hbx.out.frozen
          simp only at pbl qbl mbl rbl
          rw [HgL.out] at mbl rbl
          rw [addL_get U m j j (by rw [Hul.out]; exact hlj), if_neg (Nat.lt_irrefl _)] at r0
          have b1 := Hub.out j
          have b2 := Hmb.out j
          have hw1 : IntKind.i64.wrap (gi U j + gi m j) = gi U j + gi m j := wrap_in (by omega) (by omega)
          have hbp := Hbx.out.put (k := j) (by rw [addL_len, Hul.out]; exact hlj) (gi U j + gi m j)
          rw [addL_set U m j (by rw [Hul.out]; exact hlj)] at hbp
          have hbe2 : Below gL w6 (wr.setCell ⟨gL, j, none⟩ (.int .i64 (gi U j + gi m j))) := Hbe.out.setCell (p := ⟨gL, j, none⟩) (Nat.le_refl _) _
          go_upto_region 13 with (fail)
          refine region_plain (S := fun w' => Below wr.heap.size wr w') 13 (by kernel_rfl) ?_ (fun hHeld => ?_)
          · exact (Below.refl _ _).drew
          first | (refine anyT_take 0 (some 57) (v := ?_) rfl rfl (by kernel_rfl) (by kernel_rfl) (by kernel_rfl) (by kernel_rfl) (fun _ _ _ h => h) (Or.inl ⟨by rfl, ?_⟩) hHeld ?_; rotate_left; focus (intro wq hSw; obtain ⟨hcq, hfq⟩ := bcell hSw; go_simp; (try with_reducible rfl); done))
          (try simp only [Act.put, List.setIfInBounds_toArray, List.set_cons_zero, List.set_cons_succ])
          first | (refine anyT_take 1 (some 58) (v := ?_) rfl rfl (by kernel_rfl) (by kernel_rfl) (by kernel_rfl) (by kernel_rfl) (fun _ _ _ h => h) (Or.inl ⟨by rfl, ?_⟩) hHeld ?_; rotate_left; focus (intro wq hSw; obtain ⟨hcq, hfq⟩ := bcell hSw; go_simp; (try with_reducible rfl); done))
          (try simp only [Act.put, List.setIfInBounds_toArray, List.set_cons_zero, List.set_cons_succ])
          first | (refine anyT_take 2 (some 59) (v := ?_) rfl rfl (by kernel_rfl) (by kernel_rfl) (by kernel_rfl) (by kernel_rfl) (fun _ _ _ h => h) (Or.inl ⟨by rfl, ?_⟩) hHeld ?_; rotate_left; focus (intro wq hSw; obtain ⟨hcq, hfq⟩ := bcell hSw; go_simp; (try with_reducible rfl); done))
          (try simp only [Act.put, List.setIfInBounds_toArray, List.set_cons_zero, List.set_cons_succ])
          first | (refine anyT_take 3 (some 60) (v := ?_) rfl rfl (by kernel_rfl) (by kernel_rfl) (by kernel_rfl) (by kernel_rfl) (fun _ _ _ h => h) (Or.inl ⟨by rfl, ?_⟩) hHeld ?_; rotate_left; focus (intro wq hSw; obtain ⟨hcq, hfq⟩ := bcell hSw; go_simp; (try with_reducible rfl); done))
          (try simp only [Act.put, List.setIfInBounds_toArray, List.set_cons_zero, List.set_cons_succ])
          first | (refine anyT_take 4 (some 61) (v := ?_) rfl rfl (by kernel_rfl) (by kernel_rfl) (by kernel_rfl) (by kernel_rfl) (fun _ _ _ h => h) (Or.inl ⟨by rfl, ?_⟩) hHeld ?_; rotate_left; focus (intro wq hSw; obtain ⟨hcq, hfq⟩ := bcell hSw; go_simp; (try with_reducible rfl); done))
          (try simp only [Act.put, List.setIfInBounds_toArray, List.set_cons_zero, List.set_cons_succ])
          first | (refine anyT_take 5 (some 62) (v := ?_) rfl rfl (by kernel_rfl) (by kernel_rfl) (by kernel_rfl) (by kernel_rfl) (fun _ _ _ h => h) (Or.inl ⟨by rfl, ?_⟩) hHeld ?_; rotate_left; focus (intro wq hSw; obtain ⟨hcq, hfq⟩ := bcell hSw; go_simp; (try with_reducible rfl); done))
          (try simp only [Act.put, List.setIfInBounds_toArray, List.set_cons_zero, List.set_cons_succ])
          first | (refine anyT_take 6 (some 63) (v := ?_) rfl rfl (by kernel_rfl) (by kernel_rfl) (by kernel_rfl) (by kernel_rfl) (fun _ _ _ h => h) (Or.inl ⟨by rfl, ?_⟩) hHeld ?_; rotate_left; focus (intro wq hSw; obtain ⟨hcq, hfq⟩ := bcell hSw; go_simp; (try with_reducible rfl); done))
          (try simp only [Act.put, List.setIfInBounds_toArray, List.set_cons_zero, List.set_cons_succ])
          first | (refine anyT_take 7 (some 64) (v := ?_) rfl rfl (by kernel_rfl) (by kernel_rfl) (by kernel_rfl) (by kernel_rfl) (fun _ _ _ h => h) (Or.inl ⟨by rfl, ?_⟩) hHeld ?_; rotate_left; focus (intro wq hSw; obtain ⟨hcq, hfq⟩ := bcell hSw; go_simp; (try with_reducible rfl); done))
          (try simp only [Act.put, List.setIfInBounds_toArray, List.set_cons_zero, List.set_cons_succ])
          first | (refine anyT_take 8 (some 65) (v := ?_) rfl rfl (by kernel_rfl) (by kernel_rfl) (by kernel_rfl) (by kernel_rfl) (fun _ _ _ h => h) (Or.inl ⟨by rfl, ?_⟩) hHeld ?_; rotate_left; focus (intro wq hSw; obtain ⟨hcq, hfq⟩ := bcell hSw; go_simp; (try with_reducible rfl); done))
          (try simp only [Act.put, List.setIfInBounds_toArray, List.set_cons_zero, List.set_cons_succ])
          first | (refine anyT_take 9 (some 66) (v := ?_) rfl rfl (by kernel_rfl) (by kernel_rfl) (by kernel_rfl) (by kernel_rfl) (fun _ _ _ h => h) (Or.inl ⟨by rfl, ?_⟩) hHeld ?_; rotate_left; focus (intro wq hSw; obtain ⟨hcq, hfq⟩ := bcell hSw; go_simp; (try with_reducible rfl); done))
          (try simp only [Act.put, List.setIfInBounds_toArray, List.set_cons_zero, List.set_cons_succ])
          first | (refine anyT_take 10 (some 67) (v := ?_) rfl rfl (by kernel_rfl) (by kernel_rfl) (by kernel_rfl) (by kernel_rfl) (fun _ _ _ h => h) (Or.inl ⟨by rfl, ?_⟩) hHeld ?_; rotate_left; focus (intro wq hSw; obtain ⟨hcq, hfq⟩ := bcell hSw; go_simp; (try with_reducible rfl); done))
          (try simp only [Act.put, List.setIfInBounds_toArray, List.set_cons_zero, List.set_cons_succ])
          first | (refine anyT_take 11 (some 68) (v := ?_) rfl rfl (by kernel_rfl) (by kernel_rfl) (by kernel_rfl) (by kernel_rfl) (fun _ _ _ h => h) (Or.inl ⟨by rfl, ?_⟩) hHeld ?_; rotate_left; focus (intro wq hSw; obtain ⟨hcq, hfq⟩ := bcell hSw; go_simp; (try with_reducible rfl); done))
          (try simp only [Act.put, List.setIfInBounds_toArray, List.set_cons_zero, List.set_cons_succ])
          first | (refine anyT_take 12 (some 69) (v := ?_) rfl rfl (by kernel_rfl) (by kernel_rfl) (by kernel_rfl) (by kernel_rfl) (fun _ _ _ h => h) (Or.inl ⟨by rfl, ?_⟩) hHeld ?_; rotate_left; focus (intro wq hSw; obtain ⟨hcq, hfq⟩ := bcell hSw; go_simp; (try with_reducible rfl); done))
          (try simp only [Act.put, List.setIfInBounds_toArray, List.set_cons_zero, List.set_cons_succ])
          refine anyT_last (by kernel_rfl) rfl (fun K hK => ?_)
          go_simp
          refine hK.out _ _ ?_
          clear hK K
          (try simp only [Act.put, List.setIfInBounds_toArray, List.set_cons_zero, List.set_cons_succ])
          refine anyT_done (by kernel_rfl) ?_ _
          replace hbp : IntBox (World.drew (wr.setCell ⟨gL, j, none⟩ (.int .i64 (gi U j + gi m j)))) gL (addL U m (j + 1)) := BoxAt.below hbp (Below.refl _ _).drew
          replace hbe2 : Below gL w6 (World.drew (wr.setCell ⟨gL, j, none⟩ (.int .i64 (gi U j + gi m j)))) := hbe2.drew
          clear p0 pbl q0 qbl mbl r0 rL fL rbl b1 b2 hHeld
          generalize World.drew (World.setCell wr _ _) = ws at *
          have Hbp := Lib.hid hbp
          have Hbq := Lib.hid hbe2
          clear hbp hbe2
          go_wp2
          go_roundg (B.lots.length - (j + 1))
          case measure => have := Hgj.out; omega
          case rel => exact ⟨j + 1, by omega, rfl, by go_num, Hbp.out, Hbq.out⟩
        · obtain rfl : j = B.lots.length := by omega
          have hji : ¬ (B.lots.length : Int) < B.lots.length := by omega
          have hbx := Hbx.out
          rw [Hus.out] at hbx
          have Hbx := Lib.hid hbx
          clear hbx
          go_wp2
          go_roundg (ms.length - (k + 1))
          case measure => have := Hgk.out; omega
          case rel => exact ⟨k + 1, by omega, rfl, by go_num, by rw [HU1.out]; exact Hbx.out, Hbe.out⟩
    · obtain rfl : k = ms.length := by omega
      have hki : ¬ (ms.length : Int) < ms.length := by omega
      have Hug := Lib.hid (fun j => used_get Hk.out (k := ms.length) (Nat.le_refl _) j)
      have Hul := Lib.hid (used_len Hk.out (k := ms.length) (Nat.le_refl _))
      have Hlf := Lib.hid (Hk.out.left ms.length (Nat.le_refl _)).2
      generalize usedAt B ms ms.length = U at *
      go_upto_block 4 with (fail)
      clear c3 f3 l3
      go_wp2
      generalize wr = w9 at *
      go_loopg [12] B.lots.length (fun gq i wq => ∃ j : Nat, j ≤ B.lots.length ∧ gq = B.lots.length - j ∧ i = .int .i64 j ∧ Below w9.heap.size w9 wq)
      case atStart => exact ⟨0, Nat.zero_le _, rfl, rfl, Below.refl _ _⟩
      case round =>
        obtain ⟨j, hj, hgj, rfl, hbq⟩ := hrel
        have Hgj := Lib.hid hgj
        have Hbq := Lib.hid hbq
        have HbeQ := Lib.hid (Hbe.out.trans (hbq.mono (by have := Hbx.out.lt; omega)))
        obtain ⟨c3, f3, l3⟩ := K3k.out.below (lift HbeQ.out)
        clear hgj hbq
        by_cases hlj : j < B.lots.length
        · have hji : (j : Int) < B.lots.length := by omega
          have r0 := IntBox.at_ (l := U) (BoxAt.below Hbx.out Hbq.out) (k := j) (by rw [Hul.out]; exact hlj)
          have rL := World.block_lt_of_cell? _ _ r0
          have p0 := ((Hlts.out.below H6.out).below (lift HbeQ.out)).at_ hlj |>.1
          have pbl := World.block_lt_of_cell? _ _ p0
          simp only at rL pbl
          have hu := Hug.out j
          rw [gi_stock B j hlj] at hu
          have hlf := Hlf.out j
          have hnl : ¬ (gl B.lots j).bars < gi U j := by omega
          clear hu hlf
          go_upto_region 17 with (fail)
          refine region_plain (S := fun w' => Below wr.heap.size wr w') 11 (by kernel_rfl) ?_ (fun hHeld => ?_)
          · exact (Below.refl _ _).drew
          first | (refine anyT_take 0 (some 76) (v := ?_) rfl rfl (by kernel_rfl) (by kernel_rfl) (by kernel_rfl) (by kernel_rfl) (fun _ _ _ h => h) (Or.inl ⟨by rfl, ?_⟩) hHeld ?_; rotate_left; focus (intro wq hSw; obtain ⟨hcq, hfq⟩ := bcell hSw; go_simp; (try with_reducible rfl); done))
          (try simp only [Act.put, List.setIfInBounds_toArray, List.set_cons_zero, List.set_cons_succ])
          first | (refine anyT_take 1 (some 77) (v := ?_) rfl rfl (by kernel_rfl) (by kernel_rfl) (by kernel_rfl) (by kernel_rfl) (fun _ _ _ h => h) (Or.inl ⟨by rfl, ?_⟩) hHeld ?_; rotate_left; focus (intro wq hSw; obtain ⟨hcq, hfq⟩ := bcell hSw; go_simp; (try with_reducible rfl); done))
          (try simp only [Act.put, List.setIfInBounds_toArray, List.set_cons_zero, List.set_cons_succ])
          first | (refine anyT_take 2 (some 78) (v := ?_) rfl rfl (by kernel_rfl) (by kernel_rfl) (by kernel_rfl) (by kernel_rfl) (fun _ _ _ h => h) (Or.inl ⟨by rfl, ?_⟩) hHeld ?_; rotate_left; focus (intro wq hSw; obtain ⟨hcq, hfq⟩ := bcell hSw; go_simp; (try with_reducible rfl); done))
          (try simp only [Act.put, List.setIfInBounds_toArray, List.set_cons_zero, List.set_cons_succ])
          first | (refine anyT_take 3 (some 79) (v := ?_) rfl rfl (by kernel_rfl) (by kernel_rfl) (by kernel_rfl) (by kernel_rfl) (fun _ _ _ h => h) (Or.inl ⟨by rfl, ?_⟩) hHeld ?_; rotate_left; focus (intro wq hSw; obtain ⟨hcq, hfq⟩ := bcell hSw; go_simp; (try with_reducible rfl); done))
          (try simp only [Act.put, List.setIfInBounds_toArray, List.set_cons_zero, List.set_cons_succ])
          first | (refine anyT_take 4 (some 80) (v := ?_) rfl rfl (by kernel_rfl) (by kernel_rfl) (by kernel_rfl) (by kernel_rfl) (fun _ _ _ h => h) (Or.inl ⟨by rfl, ?_⟩) hHeld ?_; rotate_left; focus (intro wq hSw; obtain ⟨hcq, hfq⟩ := bcell hSw; go_simp; (try with_reducible rfl); done))
          (try simp only [Act.put, List.setIfInBounds_toArray, List.set_cons_zero, List.set_cons_succ])
          first | (refine anyT_take 5 (some 81) (v := ?_) rfl rfl (by kernel_rfl) (by kernel_rfl) (by kernel_rfl) (by kernel_rfl) (fun _ _ _ h => h) (Or.inl ⟨by rfl, ?_⟩) hHeld ?_; rotate_left; focus (intro wq hSw; obtain ⟨hcq, hfq⟩ := bcell hSw; go_simp; (try with_reducible rfl); done))
          (try simp only [Act.put, List.setIfInBounds_toArray, List.set_cons_zero, List.set_cons_succ])
          first | (refine anyT_take 6 (some 82) (v := ?_) rfl rfl (by kernel_rfl) (by kernel_rfl) (by kernel_rfl) (by kernel_rfl) (fun _ _ _ h => h) (Or.inl ⟨by rfl, ?_⟩) hHeld ?_; rotate_left; focus (intro wq hSw; obtain ⟨hcq, hfq⟩ := bcell hSw; go_simp; (try with_reducible rfl); done))
          (try simp only [Act.put, List.setIfInBounds_toArray, List.set_cons_zero, List.set_cons_succ])
          first | (refine anyT_take 7 (some 83) (v := ?_) rfl rfl (by kernel_rfl) (by kernel_rfl) (by kernel_rfl) (by kernel_rfl) (fun _ _ _ h => h) (Or.inl ⟨by rfl, ?_⟩) hHeld ?_; rotate_left; focus (intro wq hSw; obtain ⟨hcq, hfq⟩ := bcell hSw; go_simp; (try with_reducible rfl); done))
          (try simp only [Act.put, List.setIfInBounds_toArray, List.set_cons_zero, List.set_cons_succ])
          first | (refine anyT_take 8 (some 84) (v := ?_) rfl rfl (by kernel_rfl) (by kernel_rfl) (by kernel_rfl) (by kernel_rfl) (fun _ _ _ h => h) (Or.inl ⟨by rfl, ?_⟩) hHeld ?_; rotate_left; focus (intro wq hSw; obtain ⟨hcq, hfq⟩ := bcell hSw; go_simp; (try with_reducible rfl); done))
          (try simp only [Act.put, List.setIfInBounds_toArray, List.set_cons_zero, List.set_cons_succ])
          first | (refine anyT_take 9 (some 85) (v := ?_) rfl rfl (by kernel_rfl) (by kernel_rfl) (by kernel_rfl) (by kernel_rfl) (fun _ _ _ h => h) (Or.inl ⟨by rfl, ?_⟩) hHeld ?_; rotate_left; focus (intro wq hSw; obtain ⟨hcq, hfq⟩ := bcell hSw; go_simp; (try with_reducible rfl); done))
          (try simp only [Act.put, List.setIfInBounds_toArray, List.set_cons_zero, List.set_cons_succ])
          first | (refine anyT_take 10 (some 86) (v := ?_) rfl rfl (by kernel_rfl) (by kernel_rfl) (by kernel_rfl) (by kernel_rfl) (fun _ _ _ h => h) (Or.inl ⟨by rfl, ?_⟩) hHeld ?_; rotate_left; focus (intro wq hSw; obtain ⟨hcq, hfq⟩ := bcell hSw; go_simp; (try with_reducible rfl); done))
          (try simp only [Act.put, List.setIfInBounds_toArray, List.set_cons_zero, List.set_cons_succ])
          refine anyT_done (by kernel_rfl) ?_ _
          have Hfin := Lib.hid (below_then Hbq.out Hbq.out.size hHeld)
          clear hHeld c3 f3 l3 r0 rL p0 pbl
          go_wp2
          go_roundg (B.lots.length - (j + 1))
          case measure => have := Hgj.out; omega
          case rel => exact ⟨j + 1, by omega, rfl, by go_num, Hfin.out⟩
        · obtain rfl : j = B.lots.length := by omega
          have hji : ¬ (B.lots.length : Int) < B.lots.length := by omega
          go_wp2
          go_ret
          exact ⟨rfl, H6.out.trans (HbeQ.out.mono hg6)⟩
set_option maxRecDepth 100000 in
set_option maxHeartbeats 4000000 in
theorem ForgeCasts_calls (B : ForgeV) (A' : Option Addr) (c' : Nat) (sizes : List Int) (w : World) (hB : B.Reads w) (hp : IntsAt w A' sizes) (hc : sizes.length ≤ c') (hM : EndsAt w) :
    Calls Tryd.prog 4 #[B.val, .slice A' sizes.length c'] w fun e w' => e = .returned (.bool true) ∧ Below w.heap.size w w' := by
  have HB0 := Lib.hid hB
  have HM0 := Lib.hid hM
  have Hp0 := Lib.hid hp
  have Hc := Lib.hid hc
  clear hB hM hp hc
  have hcells : B.val = .agg B.cells := rfl
  rw [hcells]
  unfold ForgeV.cells
  go_enter Tryd.func4, Tryd.ntmps4
  go_upto_region 1 with fail
  have k3 := BoxAt.new w B.cells 28
  have H1 : Below w.heap.size w (w.alloc (.cells B.cells 28)) := (Below.refl _ _).alloc (Nat.le_refl _) _
  unfold ForgeV.cells at k3 H1
  generalize w.alloc _ = w1 at *
  have H2 := Lib.hid H1
  have K3 := Lib.hid k3
  obtain ⟨c3, f3, l3⟩ := k3
  clear H1
  go_wp2_with fail
  refine (eq0_2 (v' := B.val) (by unfold ForgeV.val ForgeV.cells; rfl) (Casts_calls B A' c' sizes _ (HB0.out.below H2.out) (HM0.out.below H2.out) (Hp0.out.below H2.out))).mono ?_
  rintro e w2 ⟨hc, hb⟩
  obtain ⟨A2, n2, rfl, hcs⟩ := castsR_cases hc
  replace K3 := Lib.hid (K3.out.below hb)
  replace H2 := Lib.hid (below_then H2.out H2.out.size hb)
  clear hc hb c3 f3 l3
  obtain ⟨c3, f3, l3⟩ := K3.out
  go_wp2_with fail
  refine (eq0_2 (v' := B.val) (by unfold ForgeV.val ForgeV.cells; rfl) (refCasts_calls B A' c' sizes _ (HB0.out.below H2.out) (Hp0.out.below H2.out) Hc.out)).mono ?_
  rintro e w3 ⟨rfl, hb⟩
  have Hb3 := Lib.hid hb
  replace K3 := Lib.hid (K3.out.below hb)
  replace H2 := Lib.hid (below_then H2.out H2.out.size hb)
  clear hb c3 f3 l3
  generalize castsE B sizes = f at *
  rcases hcs.out with ⟨h1, rfl⟩ | ⟨rfl, hg, ha, ms, hms, rfl, hrow⟩
  · have hff : (f != f) = false := by simp
    have hf0 : (f != 0) = true := by simpa using h1
    clear hcs h1
    go_wp2_with fail
    refine (works_calls _ (HM0.out.below H2.out)).mono ?_
    rintro e w4 ⟨rfl, hb⟩
    go_wp2
    go_ret
    exact ⟨rfl, below_then H2.out H2.out.size hb⟩
  · have hal := ask_all ha
    have Hg := Lib.hid ((goodF_iff B).1 hg)
    have Hk := Lib.hid (kept_of Hg.out (nn_of (l := sizes) (fun j hj => by have := hal.2 j hj; omega)) hms)
    have Hal := Lib.hid hal
    have Hrow := Lib.hid (hrow.below Hb3.out)
    have Hpos : Hid (0 < ms.length) := Lib.hid (by have := Hk.out.len; omega)
    clear hcs hal hms hrow hg ha
    obtain ⟨c3, f3, l3⟩ := K3.out
    go_wp2_with fail
    refine (eq0_3 (v' := B.val) (by unfold ForgeV.val ForgeV.cells; rfl) (refAreCasts_calls B Hg.out sizes ms Hk.out Hal.out.1.2 Hal.out.2 A' c' A2 ms.length _ (HB0.out.below H2.out) (Hp0.out.below H2.out) Hrow.out Hpos.out)).mono ?_
    rintro e w4 ⟨rfl, hb⟩
    replace H2 := Lib.hid (below_then H2.out H2.out.size hb)
    clear hb c3 f3 l3
    go_wp2_with fail
    refine (works_calls _ (HM0.out.below H2.out)).mono ?_
    rintro e w5 ⟨rfl, hb⟩
    go_wp2
    go_ret
    exact ⟨rfl, below_then H2.out H2.out.size hb⟩
end
end Go.Proofs.YtgfbfbfajnfbjaaDoor
