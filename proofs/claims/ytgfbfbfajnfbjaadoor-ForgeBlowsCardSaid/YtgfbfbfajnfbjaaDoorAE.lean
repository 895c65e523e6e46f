import Derived.Test.YtgfbfbfajnfbjaaDoorAD
namespace Go.Proofs.YtgfbfbfajnfbjaaDoor
section
open Go.RowKit Go.Shelf
attribute [local go_sem] Oper.semAt_some
set_option linter.unusedSimpArgs false
set_option linter.unusedVariables false
def fullS (B : ForgeV) (n : Nat) : Int × Int := (spanOf B n (truthsS B 0)).getD (0, 0)
def partS (B : ForgeV) (n i : Nat) : Int × Int := (spanOf B n ((truthsS B 0).take i)).getD (0, 0)
def spansS (B : ForgeV) : List (Int × Int) := (List.range 301).map (fullS B)
def FqS (B : ForgeV) (n i j : Nat) : Int × Int := if j < n then fullS B j else if j = n then partS B n i else (0, 0)
theorem partS_zero (B : ForgeV) (n : Nat) : partS B n 0 = (0, 0) := rfl
theorem FqS_next (B : ForgeV) (n j : Nat) : FqS B n (truthsS B 0).length j = FqS B (n + 1) 0 j := by
  unfold FqS
  by_cases h1 : j < n
  · rw [if_pos h1, if_pos (by omega)]
  · by_cases h2 : j = n
    · rw [if_neg h1, if_pos h2, if_pos (by omega)]; subst h2; unfold partS fullS; rw [List.take_length]
    · rw [if_neg h1, if_neg h2, if_neg (by omega)]; split <;> simp [partS_zero]
theorem FqS_step (B : ForgeV) (n i : Nat) (p : Int × Int) (hp : partS B n (i + 1) = p) (j : Nat) : (if j = n then p else FqS B n i j) = FqS B n (i + 1) j := by
  unfold FqS
  by_cases h2 : j = n
  · subst h2; rw [if_pos rfl, if_neg (by omega), if_pos rfl, hp]
  · rw [if_neg h2, if_neg h2]; rw [if_neg h2]
theorem FqS_step2 (B : ForgeV) (n i : Nat) (p q : Int × Int) (hp : partS B n (i + 1) = p) (j : Nat) : (if j = n then p else (if j = n then q else FqS B n i j)) = FqS B n (i + 1) j := by
  rw [← FqS_step B n i p hp j]
  by_cases h2 : j = n
  · rw [if_pos h2, if_pos h2]
  · rw [if_neg h2, if_neg h2, if_neg h2]
theorem FqS_fin (B : ForgeV) (n i : Nat) (f : Nat → Int × Int) (hf : ∀ j, j ≠ n → f j = FqS B n i j) (p : Int × Int) (hp : partS B n (i + 1) = p) (j : Nat) : (if j = n then p else f j) = FqS B n (i + 1) j := by
  rw [← FqS_step B n i p hp j]
  by_cases h2 : j = n
  · rw [if_pos h2, if_pos h2]
  · rw [if_neg h2, if_neg h2, hf j h2]
theorem FqS_at (B : ForgeV) (n i : Nat) : FqS B n i n = partS B n i := by unfold FqS; rw [if_neg (by omega), if_pos rfl]
theorem take_snoc (l : List (List Int)) (i : Nat) (hi : i < l.length) : l.take (i + 1) = l.take i ++ [l.getD i []] := by
  rw [List.take_add_one, List.getD_eq_getElem?_getD, List.getElem?_eq_getElem hi]; rfl
theorem spanOf_take (B : ForgeV) (n : Int) (i : Nat) (hi : i < (truthsS B 0).length) : spanOf B n ((truthsS B 0).take (i + 1)) = spanStep B n (spanOf B n ((truthsS B 0).take i)) ((truthsS B 0).getD i []) := by
  rw [take_snoc _ _ hi, spanOf_snoc]
theorem spanOf_some (B : ForgeV) (n : Int) : ∀ (l : List (List Int)), l ≠ [] → ∃ p, spanOf B n l = some p := by
  have h : ∀ (l : List (List Int)) (s : Int × Int), ∃ p, l.foldl (spanStep B n) (some s) = some p := by
    intro l
    induction l with
    | nil => intro s; exact ⟨s, rfl⟩
    | cons t l ih => intro s; obtain ⟨lo, hi⟩ := s; exact ih _
  intro l hl
  cases l with
  | nil => exact absurd rfl hl
  | cons t l => exact h l _
theorem made602 (j : Nat) (hj : j < 602) : (madeCells #[.int .i64 0, .int .i64 0] 602)[j]? = some (.int .i64 0) := by
  unfold madeCells
  rw [Array.getElem?_map, Array.getElem?_range, if_pos hj]
  have : j % 2 = 0 ∨ j % 2 = 1 := by omega
  rcases this with h | h <;> simp [h]
theorem SpansBox.new (W : World) (t : TypeId) : SpansBox (W.alloc (.cells (madeCells #[.int .i64 0, .int .i64 0] 602) t)) W.heap.size (fun _ => (0, 0)) :=
  ⟨_, BoxAt.new W _ _, fun j hj => ⟨made602 _ (by omega), made602 _ (by omega)⟩⟩
theorem infoSp : (Tryd.prog.info? 24).map (fun i => (i.zero, i.size, i.bytes)) = some (some (.agg #[.int .i64 0, .int .i64 0]), 2, 16) := by kernel_rfl
theorem underSp : Tryd.prog.underlying 25 = some (.slice 24) := by kernel_rfl
@[local go_sem] theorem make301 (W : World) : (Instr.makeSlice 25 (.int .i64 301) (.int .i64 301)).run Tryd.prog W = .ok (.slice (some ⟨W.heap.size, 0, none⟩) 301 301) (W.alloc (.cells (madeCells #[.int .i64 0, .int .i64 0] 602) 24)) := by
  obtain ⟨i0, hi, hz0, hz1, hz2⟩ := info_parts infoSp
  have := run_makeSlice (P := Tryd.prog) W 25 24 i0 _ underSp hi hz0 .i64 .i64 301 301 (by decide) (by decide) (by rw [hz1]; decide) (by rw [hz2]; decide) (by decide)
  rw [hz1] at this
  exact this
/-- what the rounds of 'spans' know -/
def CollAt (n3 : Nat) (w0 : World) (C : Nat → Prop) (pre : List (List Int)) (W : World) : Prop := ∃ v, BoxAt W n3 #[v] ∧ OwnThins W w0.heap.size v pre ∧ (∀ g, v.ownBlock = some g → C g)
set_option maxRecDepth 100000 in
set_option maxHeartbeats 4000000 in
theorem spans_calls (B : ForgeV) (g : B.Good) (hc : canS B 0 = true) (w : World) (hB : B.Reads w) :
    Calls Tryd.prog 89 #[B.val] w fun e w' => ∃ gO, e = .returned (.slice (some ⟨gO, 0, none⟩) 301 301) ∧ SpansAt w' (some ⟨gO, 0, none⟩) (spansS B) ∧ w.heap.size ≤ gO ∧ Below w.heap.size w w' := by
  have HB := Lib.hid hB
  have Hg := Lib.hid g
  have Hc := Lib.hid hc
  have k1 := (BoxAt.new w B.cells 87).alloc (.cells #[.slice none 0 0] 137)
  have k3 := BoxAt.new (w.alloc (.cells B.cells 87)) #[.slice none 0 0] 137
  have Hb : Below w.heap.size w ((w.alloc (.cells B.cells 87)).alloc (.cells #[.slice none 0 0] 137)) := ((Below.refl _ _).alloc (Nat.le_refl _) _).alloc (by simp) _
  rw [World.size_alloc] at k3
  clear hB g hc
  unfold ForgeV.val
  unfold ForgeV.cells at k1 k3 Hb ⊢
  refine (callsIn_wide (n := 0)).1 ?_
  refine callsIn_of_wp_marks Tryd.func89 rfl trivial ?_ rfl
  simp only [Tryd.ntmps89, List.size_toArray, List.length_cons, List.length_nil, Nat.reduceAdd, Nat.reduceSub, Array.replicate_succ, Array.replicate_zero, List.push_toArray, List.append_toArray, List.nil_append, List.cons_append]
  gi_upto_region 2 with (fail)
  generalize (w.alloc _).alloc _ = W at *
  have hns : w.heap.size < w.heap.size + 1 := by omega
  generalize w.heap.size + 1 = n3 at *
  have H1 := Lib.hid Hb
  have K1 := Lib.hid k1
  have K3 := Lib.hid k3
  obtain ⟨c1, f1, l1⟩ := k1
  clear Hb k3
  gi_wp2_with fail
  refine ⟨trivial, rfl, ?_⟩
  refine (callsIn_wide.2 (eq0_2 (v' := B.val) (by unfold ForgeV.val ForgeV.cells; rfl) (truths_calls B 0 _))).mono ?_
  rintro e w5 ⟨bB, bL, rfl, ⟨kB, kL⟩, hle, hb5⟩
  have H5 := below_then H1.out H1.out.size hb5
  have hl3 := K3.out.lt
  replace K1 := Lib.hid (K1.out.below hb5)
  replace K3 := Lib.hid (K3.out.below hb5)
  have hs5 := hb5.size
  clear hb5 c1 f1 l1 H1
  gi_wp2_with fail
  refine wpIn_range_c (gf := 105) (lb := #[.pointer (some ⟨bB, 0, none⟩), .pointer (some ⟨bL, 0, none⟩)]) rfl entersTruths1
    (truths_seqC B Hg.out 0 (by decide) w HB.out bB bL (fun k => k = n3) w5 H5 kB kL (fun k h => ⟨by omega, by omega, by omega, by omega⟩)) (fun _ => False) (fun k h => by omega) (fun _ h => h.elim) (fun x vs W hE => by rw [hE]; rfl)
    (fun pre Pv C W => CollAt n3 w C pre W ∧ Keep (fun k => k = n3 ∨ w5.heap.size ≤ k) w5 W) (fun _ _ _ => False)
    (fun Pv C l s X Y r hl hr hk hI => ?hA)
    (fun s Pv Pv' C X Y hI hk hp hC _ => ?hB)
    (fun _ _ _ _ _ _ _ _ _ h => h) (fun _ _ _ _ h _ => h)
    ⟨⟨_, K3.out, OwnThins.nil _ _, fun g h => by cases h⟩, Keep.refl _ _⟩ ?round ?done ?stop
  case hA =>
    obtain ⟨⟨v, h1, h2, h3⟩, h4⟩ := hI
    refine ⟨⟨v, h1.keep hk (by omega), h2.keepM hk (fun g hg e => ?_), h3⟩, h4.trans (hk.mono fun k _ e => .inr (by omega))⟩
    obtain ⟨_, h2'⟩ := h2
    rcases h2' with ⟨rfl, _⟩ | ⟨g', cap, cur, rfl, _, hh, _⟩
    · cases hg
    · simp [Value.ownBlock] at hg; subst hg; rw [e, hr] at hh; cases hh
  case hB =>
    obtain ⟨⟨v, h1, h2, h3⟩, h4⟩ := hI
    exact ⟨⟨v, h1.keep hk (fun h => by have := hp _ h; omega), h2.keepM hk (fun g hg e => (hC g (h3 g hg)).1 e), h3⟩, h4.trans (hk.mono fun k _ h => .inr (by have := hp k h; omega))⟩
  case stop => rintro D c pre W _ _ _ h; exact h.elim
  case round =>
    rintro l Pv C pre x rest vs W2 hxs hl hle hpv hcv ⟨⟨v, hN1, hN2, hN3⟩, hK⟩ hE
    unfold EncThins at hE
    subst hE
    have hlen : pre.length ≤ 8000 := by
      have h1 := truthsS_len Hg.out 0
      rw [hxs, List.length_append] at h1
      omega
    have hb7 : Below W2.heap.size W2 (W2.alloc (.cells (pad3 x) 108)) := (Below.refl _ _).alloc (Nat.le_refl _) _
    have k7 := BoxAt.new W2 (pad3 x) 108
    have hNl := hN1.lt
    have Hcv := Lib.hid hcv
    have HN3 := Lib.hid hN3
    clear hxs hcv hN3
    unfold pad3
    gi_wp2
    change Keep _ W2 (W2.alloc (.cells (pad3 x) 108)) ∧ _
    refine ⟨Keep.of_below hb7, ?_⟩
    rintro W3 r hlr hk2
    have hn7 : W2.heap.size ≠ l := fun e => by
      have := cell_ne_loop hlr (p := ⟨W2.heap.size, 0, none⟩) (v := .int .i64 (gi x 0)) (by exact k7.cell 0)
      exact this e
    have k7' := k7.keep hk2 hn7
    have k33 := (hN1.below hb7).keep hk2 (by omega)
    have hv3 := (hN2.keepM (Keep.of_below (M := fun _ => False) hb7) (fun _ _ h => h)).keepM hk2 (fun g hg e => by have := (Hcv.out g (HN3.out g hg)).2.1; omega)
    have HK3 := Lib.hid ((hK.trans (Keep.of_below hb7)).trans (hk2.mono fun k _ e => .inr (by omega)))
    have HW3 := Lib.hid (H5.trans (HK3.out.below (fun k _ e => by omega) H5.size))
    have hs7 : n3 ≠ W2.heap.size := by omega
    have hl23 : W2.heap.size < W3.heap.size := k7'.lt
    generalize W2.heap.size = n7 at *
    have Hv3 := Lib.hid hv3
    have K33 := Lib.hid k33
    have K7 := Lib.hid k7'
    obtain ⟨c7, f7, l7⟩ := k7'
    obtain ⟨c3, f3, l3⟩ := k33
    unfold pad3 at c7
    have hw3 := HW3.out.size
    clear hb7 k7 hlr hk2 hN1 hN2 hK hv3
    gi_wp2_with (gi_at_builtin; refine wpListIn_appT _ rfl _ _ rfl w.heap.size _ pre rfl (World.ownsRow.alloc Hv3.out _) W3.heap.size 1 x rfl (BoxAt.new _ _ _) (by omega) (by simp; omega) ?_)
    intro v' w4 ho hgr hp
    obtain ⟨g4, c4, hv4, _⟩ := ho.reads (by simp)
    rw [List.length_append] at hv4
    simp only [List.length_cons, List.length_nil, Nat.zero_add] at hv4
    have hkg : Keep (fun k => v.ownBlock = some k) W3 w4 := by
      refine (Keep.of_below ((Below.refl _ _).alloc (Nat.le_refl _) (.cells #[.int .i64 (gi x 0), .int .i64 (gi x 1), .int .i64 (gi x 2)] 108))).trans ⟨hgr.os, hgr.tape, hgr.output, hgr.size, fun k hk hn => hgr.block k hk (fun e => hn e.symm)⟩
    have hvn : ∀ p, v.ownBlock = some p → n3 ≠ p ∧ w.heap.size ≤ p ∧ w5.heap.size ≤ p := fun p h => by have := (Hcv.out p (HN3.out p h)).2; omega
    have k34 := K33.out.keep hkg (fun h => (hvn _ h).1 rfl)
    have hks : Keep (fun q => q = n3) w4 (w4.setCell ⟨n3, 0, none⟩ v') := Keep.setCell (M := fun q => q = n3) (Keep.refl _ _) (p := ⟨n3, 0, none⟩) (.inl rfl) _
    have hon : ∀ p, v'.ownBlock = some p → C p ∨ W3.heap.size ≤ p := fun p h => (hp p h).imp (HN3.out p) (fun h => by first | omega | (simp at h; omega))
    have hne : ∀ p, v'.ownBlock = some p → ¬ p = n3 := fun p h e => by
      rcases hp p h with h | h
      · exact (hvn _ h).1 e.symm
      · first | omega | (simp at h; omega)
    have hfull : Keep (fun k => k = n3 ∨ C k) W3 (w4.setCell ⟨n3, 0, none⟩ v') := (hkg.mono fun k _ e => .inr (HN3.out k e)).trans (hks.mono fun k _ e => .inl e)
    have HF := Lib.hid (show Keep (fun k => k = n3 ∨ C k) W3 (w4.setCell ⟨n3, 0, none⟩ v') ∧ ∃ C', (∀ p, C' p → C p ∨ W3.heap.size ≤ p) ∧ (∀ p, C' p → p < (w4.setCell ⟨n3, 0, none⟩ v').heap.size) ∧ CollAt n3 w C' (pre ++ [x]) (w4.setCell ⟨n3, 0, none⟩ v') ∧ Keep (fun k => k = n3 ∨ w5.heap.size ≤ k) w5 (w4.setCell ⟨n3, 0, none⟩ v') from
      ⟨hfull, fun p => v'.ownBlock = some p, hon, fun p h => Nat.lt_of_lt_of_le (World.ownsRow.lt ho p h).2 hks.size, ⟨v', k34.set1 v', ho.keepM hks hne, fun g h => h⟩, HK3.out.trans (hfull.mono fun k _ e => e.imp id fun e => by have := (Hcv.out k e).2; omega)⟩)
    obtain ⟨c34, f34, l34⟩ := k34
    subst hv4
    clear ho hgr hp hkg hvn hks hon hne hfull c7 f7 l7 c3 f3 l3
    gi_wp2
    exact HF.out
  case done =>
    rintro D W4 hD hK ⟨Pv, C, ⟨v, hN1, hN2, _⟩, hK4⟩ hd
    have hTp : 0 < (truthsS B 0).length := by
      have := Hc.out
      unfold canS at this
      cases h : truthsS B 0 with
      | nil => rw [h] at this; cases this
      | cons _ _ => simp
    have hTl := truthsS_len Hg.out 0
    obtain ⟨gT, cT, rfl, hTh, hTc, hTm, hTb, hTlt⟩ := hN2.reads hTp
    have hb4 : Below w.heap.size w W4 := H5.trans (hK4.below (fun k _ e => by omega) H5.size)
    have Hb4 := Lib.hid hb4
    have Hd := Lib.hid hd
    have HTh := Lib.hid hTh
    have K14 := Lib.hid (K1.out.keep hK4 (by have := K1.out.lt; omega))
    have K34 := Lib.hid hN1
    have HDw := Lib.hid (show w.heap.size ≤ D by have := H5.size; omega)
    have hgO : gT < W4.heap.size ∧ n3 < W4.heap.size := ⟨hTlt, hN1.lt⟩
    have hsz4 := hb4.size
    clear hb4 hd hN1 hN2 hK4 hK hTh K1 K3 hTlt
    gi_upto_region 6 with (fail)
    have hs17 := SpansBox.new W4 24
    have hb17 : Below W4.heap.size W4 (W4.alloc (.cells (madeCells #[.int .i64 0, .int .i64 0] 602) 24)) := (Below.refl _ _).alloc (Nat.le_refl _) _
    generalize W4.alloc _ = W5 at *
    have HS5 := Lib.hid hs17
    have Hg4 := Lib.hid hgO
    generalize hgOe : W4.heap.size = gO at hs17 hb17 HS5 Hg4 ⊢
    have HB5 := Lib.hid hb17
    have HgOe := Lib.hid hgOe
    have hB4 : ∀ {wr : World}, Below gO W4 wr → Below W4.heap.size W4 wr := fun h => by rw [HgOe.out]; exact h
    clear hs17 hb17 hgO hgOe
    refine wpIn_wide.2 ?_
    go_wp2
    refine wpIn_wide.2 ?_
    go_upto_block 2 with (fail)
    go_wp2
    go_loopg [20] 301 (fun gk q wr => ∃ nn : Nat, nn ≤ 301 ∧ gk = 301 - nn ∧ q = .int .i64 nn ∧ SpansBox wr gO (FqS B nn 0) ∧ Below gO W4 wr)
    case atStart => exact ⟨0, Nat.zero_le _, rfl, rfl, HS5.out.congr (fun j hj => by unfold FqS; rw [if_neg (by omega)]; split <;> rfl), HB5.out⟩
    case round =>
      obtain ⟨nn, hnl, hgk, rfl, hS, hBe⟩ := hrel
      have Hgk := Lib.hid hgk
      have HS := Lib.hid hS
      have HBe := Lib.hid hBe
      clear hgk hS hBe
      by_cases hnn : nn < 301
      · have hnni : (nn : Int) < 301 := by omega
        obtain ⟨c3, f3, l3⟩ := K34.out.below (hB4 HBe.out)
        go_upto_block 4 with (fail)
        clear c3 f3 l3
        go_wp2
        go_loopg [25] (truthsS B 0).length (fun gi2 q wr2 => ∃ i : Nat, i ≤ (truthsS B 0).length ∧ gi2 = (truthsS B 0).length - i ∧ q = .int .i64 i ∧ SpansBox wr2 gO (FqS B nn i) ∧ Below gO W4 wr2)
        case atStart => exact ⟨0, Nat.zero_le _, rfl, rfl, HS.out, HBe.out⟩
        case round =>
          clear HS HBe
          obtain ⟨i, hil, hgi, rfl, hS, hBe⟩ := hrel
          have Hgi := Lib.hid hgi
          have HS := Lib.hid hS
          have HBe := Lib.hid hBe
          have hgOl := hS.lt
          clear hgi hS hBe
          by_cases hlt : i < (truthsS B 0).length
          · have hiT : (i : Int) < ((truthsS B 0).length : Nat) := by omega
            obtain ⟨t0, t1, t2⟩ := HTh.out.below (hB4 HBe.out) i hlt
            have hx := truthsS_mem Hg.out (show (truthsS B 0).getD i [] ∈ truthsS B 0 by rw [List.getD_eq_getElem?_getD, List.getElem?_eq_getElem hlt]; exact List.getElem_mem _)
            have HX := Lib.hid hx.2
            have Htk := Lib.hid (spanOf_take B nn i hlt)
            generalize hxe : (truthsS B 0).getD i [] = x at *
            have tbl := World.block_lt_of_cell? _ _ t0
            simp only at tbl
            have hb8 : Below wr.heap.size wr (wr.alloc (.cells #[.int .i64 (gi x 0), .int .i64 (gi x 1), .int .i64 (gi x 2)] 108)) := (Below.refl _ _).alloc (Nat.le_refl _) _
            have k8 := BoxAt.new wr #[.int .i64 (gi x 0), .int .i64 (gi x 1), .int .i64 (gi x 2)] 108
            clear hx hxe
            go_upto_region 12 with (fail)
            clear t0 t1 t2 tbl
            generalize wr.alloc _ = W12 at *
            have HBe12 := Lib.hid (HBe.out.trans (hb8.mono (Nat.le_of_lt hgOl)))
            have HS12 := Lib.hid (HS.out.below hb8)
            have hl8 : gO < W12.heap.size := HS12.out.lt
            generalize wr.heap.size = n8 at *
            obtain ⟨c8, f8, l8⟩ := k8
            obtain ⟨c1, f1, l1⟩ := K14.out.below (hB4 HBe12.out)
            clear hb8 HS HBe
            go_wp2_with fail
            refine (eq0_3 (v' := B.val) (by unfold ForgeV.val ForgeV.cells; rfl) (after_calls B Hg.out x HX.out nn (by omega) _)).mono ?_
            rintro e W13 ⟨rfl, hb13⟩
            have HBe13 := Lib.hid (HBe12.out.trans (hb13.mono (Nat.le_of_lt hl8)))
            have HS13 := Lib.hid (HS12.out.below hb13)
            have hl13 : gO < W13.heap.size := HS13.out.lt
            have hab := afterTo_bd Hg.out HX.out (show (0 : Int) ≤ nn ∧ (nn : Int) ≤ 300 by omega) 3 (by omega)
            rw [afterTo_three] at hab
            have Hq : ∀ s, Hid (spanStep B nn s x = match s with | none => some (afterS B x nn, afterS B x nn) | some (lo, hi) => some (if lo ≤ afterS B x nn then lo else afterS B x nn, if afterS B x nn ≤ hi then hi else afterS B x nn)) := fun s => Lib.hid (by cases s <;> rfl)
            generalize afterS B x nn = a at *
            clear hb13 c8 f8 l8 c1 f1 l1 HS12 HBe12
            have hnn0 : (0 : Int) ≤ nn := by omega
            rcases Nat.eq_zero_or_pos i with h0 | h0
            · subst h0
              have Hpn := Lib.hid (show partS B nn (0 + 1) = (a, a) by unfold partS; rw [Htk.out, (Hq _).out]; rfl)
              obtain ⟨c0, c1, f0⟩ := HS13.out.at_ nn hnn
              have hs15 := HS13.out.put nn hnn a a
              have hb15 : Below gO W13 ((W13.setCell ⟨gO, nn * 2, none⟩ (.int .i64 a)).setCell ⟨gO, nn * 2 + 1, none⟩ (.int .i64 a)) := ((Below.refl gO _).setCell (p := ⟨gO, nn * 2, none⟩) (Nat.le_refl _) (.int .i64 a)).setCell (p := ⟨gO, nn * 2 + 1, none⟩) (Nat.le_refl _) (.int .i64 a)
              clear Htk Hq
              go_upto_region 15 with (fail)
              clear c0 c1 f0
              generalize (W13.setCell _ _).setCell _ _ = W15 at *
              have HBe15 := Lib.hid (HBe13.out.trans hb15)
              obtain ⟨f15, hf15e⟩ : ∃ f15 : Nat → Int × Int, f15 = fun j => if j = nn then (a, a) else FqS B nn 0 j := ⟨_, rfl⟩
              rw [← hf15e] at hs15
              have HS15 := Lib.hid hs15
              have hpart15 : f15 nn = (a, a) := by rw [hf15e]; simp
              have Hf15 := Lib.hid (show ∀ j, j ≠ nn → f15 j = FqS B nn 0 j from fun j e => by rw [hf15e]; simp [e])
              clear hs15 hb15 hf15e HS13 HBe13
              obtain ⟨d0, d1, df⟩ := HS15.out.at_ nn hnn
              simp only [hpart15] at d0 d1
              have hgs15 : gO ≤ W15.heap.size := Nat.le_of_lt HS15.out.lt
              have hgl15 : gO < W15.heap.size := HS15.out.lt
              refine region_plainN (S := fun w' => Below W15.heap.size W15 w') 18 (by kernel_rfl) ?_ (fun hHeld => ?_)
              · exact (Below.refl _ _).drew
              first | (refine anyT_take 0 (some 42) (v := ?_) rfl rfl (by kernel_rfl) (by kernel_rfl) (by kernel_rfl) (by kernel_rfl) (fun _ _ _ h => h) (Or.inl ⟨by rfl, ?_⟩) hHeld ?_; rotate_left; focus (intro wq hSw; obtain ⟨hcq, hfq⟩ := bcell hSw; go_simp; (try with_reducible rfl); done))
              (try simp only [Act.put, List.setIfInBounds_toArray, List.set_cons_zero, List.set_cons_succ])
              first | (refine anyT_take 1 (some 43) (v := ?_) rfl rfl (by kernel_rfl) (by kernel_rfl) (by kernel_rfl) (by kernel_rfl) (fun _ _ _ h => h) (Or.inl ⟨by rfl, ?_⟩) hHeld ?_; rotate_left; focus (intro wq hSw; obtain ⟨hcq, hfq⟩ := bcell hSw; go_simp; (try with_reducible rfl); done))
              (try simp only [Act.put, List.setIfInBounds_toArray, List.set_cons_zero, List.set_cons_succ])
              first | (refine anyT_take 2 (some 44) (v := ?_) rfl rfl (by kernel_rfl) (by kernel_rfl) (by kernel_rfl) (by kernel_rfl) (fun _ _ _ h => h) (Or.inl ⟨by rfl, ?_⟩) hHeld ?_; rotate_left; focus (intro wq hSw; obtain ⟨hcq, hfq⟩ := bcell hSw; go_simp; (try with_reducible rfl); done))
              (try simp only [Act.put, List.setIfInBounds_toArray, List.set_cons_zero, List.set_cons_succ])
              first | (refine anyT_take 3 (some 45) (v := ?_) rfl rfl (by kernel_rfl) (by kernel_rfl) (by kernel_rfl) (by kernel_rfl) (fun _ _ _ h => h) (Or.inl ⟨by rfl, ?_⟩) hHeld ?_; rotate_left; focus (intro wq hSw; obtain ⟨hcq, hfq⟩ := bcell hSw; go_simp; (try with_reducible rfl); done))
              (try simp only [Act.put, List.setIfInBounds_toArray, List.set_cons_zero, List.set_cons_succ])
              first | (refine anyT_take 4 (some 46) (v := ?_) rfl rfl (by kernel_rfl) (by kernel_rfl) (by kernel_rfl) (by kernel_rfl) (fun _ _ _ h => h) (Or.inl ⟨by rfl, ?_⟩) hHeld ?_; rotate_left; focus (intro wq hSw; obtain ⟨hcq, hfq⟩ := bcell hSw; go_simp; (try with_reducible rfl); done))
              (try simp only [Act.put, List.setIfInBounds_toArray, List.set_cons_zero, List.set_cons_succ])
              first | (refine anyT_take 5 (some 47) (v := ?_) rfl rfl (by kernel_rfl) (by kernel_rfl) (by kernel_rfl) (by kernel_rfl) (fun _ _ _ h => h) (Or.inl ⟨by rfl, ?_⟩) hHeld ?_; rotate_left; focus (intro wq hSw; obtain ⟨hcq, hfq⟩ := bcell hSw; go_simp; (try with_reducible rfl); done))
              (try simp only [Act.put, List.setIfInBounds_toArray, List.set_cons_zero, List.set_cons_succ])
              first | (refine anyT_take 6 (some 48) (v := ?_) rfl rfl (by kernel_rfl) (by kernel_rfl) (by kernel_rfl) (by kernel_rfl) (fun _ _ _ h => h) (Or.inl ⟨by rfl, ?_⟩) hHeld ?_; rotate_left; focus (intro wq hSw; obtain ⟨hcq, hfq⟩ := bcell hSw; go_simp; (try with_reducible rfl); done))
              (try simp only [Act.put, List.setIfInBounds_toArray, List.set_cons_zero, List.set_cons_succ])
              first | (refine anyT_take 7 (some 49) (v := ?_) rfl rfl (by kernel_rfl) (by kernel_rfl) (by kernel_rfl) (by kernel_rfl) (fun _ _ _ h => h) (Or.inl ⟨by rfl, ?_⟩) hHeld ?_; rotate_left; focus (intro wq hSw; obtain ⟨hcq, hfq⟩ := bcell hSw; go_simp; (try with_reducible rfl); done))
              (try simp only [Act.put, List.setIfInBounds_toArray, List.set_cons_zero, List.set_cons_succ])
              first | (refine anyT_take 8 (some 50) (v := ?_) rfl rfl (by kernel_rfl) (by kernel_rfl) (by kernel_rfl) (by kernel_rfl) (fun _ _ _ h => h) (Or.inl ⟨by rfl, ?_⟩) hHeld ?_; rotate_left; focus (intro wq hSw; obtain ⟨hcq, hfq⟩ := bcell hSw; go_simp; (try with_reducible rfl); done))
              (try simp only [Act.put, List.setIfInBounds_toArray, List.set_cons_zero, List.set_cons_succ])
              first | (refine anyT_take 9 (some 51) (v := ?_) rfl rfl (by kernel_rfl) (by kernel_rfl) (by kernel_rfl) (by kernel_rfl) (fun _ _ _ h => h) (Or.inl ⟨by rfl, ?_⟩) hHeld ?_; rotate_left; focus (intro wq hSw; obtain ⟨hcq, hfq⟩ := bcell hSw; go_simp; (try with_reducible rfl); done))
              (try simp only [Act.put, List.setIfInBounds_toArray, List.set_cons_zero, List.set_cons_succ])
              first | (refine anyT_take 10 (some 52) (v := ?_) rfl rfl (by kernel_rfl) (by kernel_rfl) (by kernel_rfl) (by kernel_rfl) (fun _ _ _ h => h) (Or.inl ⟨by rfl, ?_⟩) hHeld ?_; rotate_left; focus (intro wq hSw; obtain ⟨hcq, hfq⟩ := bcell hSw; go_simp; (try with_reducible rfl); done))
              (try simp only [Act.put, List.setIfInBounds_toArray, List.set_cons_zero, List.set_cons_succ])
              first | (refine anyT_take 11 (some 53) (v := ?_) rfl rfl (by kernel_rfl) (by kernel_rfl) (by kernel_rfl) (by kernel_rfl) (fun _ _ _ h => h) (Or.inl ⟨by rfl, ?_⟩) hHeld ?_; rotate_left; focus (intro wq hSw; obtain ⟨hcq, hfq⟩ := bcell hSw; go_simp; (try with_reducible rfl); done))
              (try simp only [Act.put, List.setIfInBounds_toArray, List.set_cons_zero, List.set_cons_succ])
              first | (refine anyT_take 12 (some 54) (v := ?_) rfl rfl (by kernel_rfl) (by kernel_rfl) (by kernel_rfl) (by kernel_rfl) (fun _ _ _ h => h) (Or.inl ⟨by rfl, ?_⟩) hHeld ?_; rotate_left; focus (intro wq hSw; obtain ⟨hcq, hfq⟩ := bcell hSw; go_simp; (try with_reducible rfl); done))
              (try simp only [Act.put, List.setIfInBounds_toArray, List.set_cons_zero, List.set_cons_succ])
              first | (refine anyT_take 13 (some 55) (v := ?_) rfl rfl (by kernel_rfl) (by kernel_rfl) (by kernel_rfl) (by kernel_rfl) (fun _ _ _ h => h) (Or.inl ⟨by rfl, ?_⟩) hHeld ?_; rotate_left; focus (intro wq hSw; obtain ⟨hcq, hfq⟩ := bcell hSw; go_simp; (try with_reducible rfl); done))
              (try simp only [Act.put, List.setIfInBounds_toArray, List.set_cons_zero, List.set_cons_succ])
              first | (refine anyT_take 14 (some 56) (v := ?_) rfl rfl (by kernel_rfl) (by kernel_rfl) (by kernel_rfl) (by kernel_rfl) (fun _ _ _ h => h) (Or.inl ⟨by rfl, ?_⟩) hHeld ?_; rotate_left; focus (intro wq hSw; obtain ⟨hcq, hfq⟩ := bcell hSw; go_simp; (try with_reducible rfl); done))
              (try simp only [Act.put, List.setIfInBounds_toArray, List.set_cons_zero, List.set_cons_succ])
              first | (refine anyT_take 15 (some 57) (v := ?_) rfl rfl (by kernel_rfl) (by kernel_rfl) (by kernel_rfl) (by kernel_rfl) (fun _ _ _ h => h) (Or.inl ⟨by rfl, ?_⟩) hHeld ?_; rotate_left; focus (intro wq hSw; obtain ⟨hcq, hfq⟩ := bcell hSw; go_simp; (try with_reducible rfl); done))
              (try simp only [Act.put, List.setIfInBounds_toArray, List.set_cons_zero, List.set_cons_succ])
              first | (refine anyT_take 16 (some 58) (v := ?_) rfl rfl (by kernel_rfl) (by kernel_rfl) (by kernel_rfl) (by kernel_rfl) (fun _ _ _ h => h) (Or.inl ⟨by rfl, ?_⟩) hHeld ?_; rotate_left; focus (intro wq hSw; obtain ⟨hcq, hfq⟩ := bcell hSw; go_simp; (try with_reducible rfl); done))
              (try simp only [Act.put, List.setIfInBounds_toArray, List.set_cons_zero, List.set_cons_succ])
              first | (refine anyT_take 17 (some 59) (v := ?_) rfl rfl (by kernel_rfl) (by kernel_rfl) (by kernel_rfl) (by kernel_rfl) (fun _ _ _ h => h) (Or.inl ⟨by rfl, ?_⟩) hHeld ?_; rotate_left; focus (intro wq hSw; obtain ⟨hcq, hfq⟩ := bcell hSw; go_simp; (try with_reducible rfl); done))
              (try simp only [Act.put, List.setIfInBounds_toArray, List.set_cons_zero, List.set_cons_succ])
              refine anyT_last (by kernel_rfl) rfl (fun K hK => ?_)
              have hS15 := HS15.out.below hHeld; have hs15 := hS15.put nn hnn a a; have HS16 := Lib.hid (hs15.congr (fun j _ => FqS_fin B nn 0 f15 Hf15.out _ Hpn.out j)); have HB16 := Lib.hid ((HBe15.out.trans (hHeld.mono hgs15)).trans (((Below.refl gO _).setCell (p := ⟨gO, nn * 2, none⟩) (Nat.le_refl _) (.int .i64 a)).setCell (p := ⟨gO, nn * 2 + 1, none⟩) (Nat.le_refl _) (.int .i64 a))); obtain ⟨c0, c1, f0⟩ := hS15.at_ nn hnn; simp only [hpart15] at c0 c1; clear hs15 hHeld hS15
              go_simp
              refine hK.out _ _ ?_
              clear hK K
              (try simp only [Act.put, List.setIfInBounds_toArray, List.set_cons_zero, List.set_cons_succ])
              refine anyT_done (by kernel_rfl) ?_ _
              rw [NP_normal]
              go_wp2
              go_roundg ((truthsS B 0).length - (0 + 1))
              case measure => have := Hgi.out; omega
              case rel => exact ⟨0 + 1, by omega, rfl, by go_num, HS16.out, HB16.out⟩

            · have hi0 : ((i : Int) == 0) = false := by rw [beq_eq_false_iff_ne]; omega
              have hne9 : (truthsS B 0).take i ≠ [] := by
                intro e
                have h9 : (List.take i (truthsS B 0)).length = 0 := by rw [e]; rfl
                rw [List.length_take] at h9
                omega
              obtain ⟨⟨lo, hi⟩, hsp⟩ := spanOf_some B nn ((truthsS B 0).take i) hne9
              have hpart15 : FqS B nn i nn = (lo, hi) := by rw [FqS_at]; unfold partS; rw [hsp]; rfl
              obtain ⟨f15, hf15e⟩ : ∃ f15 : Nat → Int × Int, f15 = FqS B nn i := ⟨_, rfl⟩
              have Hf15 := Lib.hid (show ∀ j, j ≠ nn → f15 j = FqS B nn i j from fun j _ => by rw [hf15e])
              have hs15 := HS13.out
              rw [← hf15e] at hs15 hpart15
              have HS15 := Lib.hid hs15
              have HBe15 := Lib.hid HBe13.out
              clear hs15 hf15e HS13 HBe13 h0 hne9
              generalize W13 = W15 at *
              obtain ⟨d0, d1, df⟩ := HS15.out.at_ nn hnn
              simp only [hpart15] at d0 d1
              have hgs15 : gO ≤ W15.heap.size := Nat.le_of_lt HS15.out.lt
              have hgl15 : gO < W15.heap.size := HS15.out.lt
              by_cases h1 : lo ≤ a <;> by_cases h2 : a ≤ hi
              · have Hpn := Lib.hid (show partS B nn (i + 1) = (lo, hi) by unfold partS; rw [Htk.out, hsp, (Hq _).out]; simp only [if_pos h1, if_pos h2]; rfl)
                skip
                clear Htk Hq hsp
                go_upto_region 15 with (fail)
                refine region_plainN (S := fun w' => Below W15.heap.size W15 w') 18 (by kernel_rfl) ?_ (fun hHeld => ?_)
                · exact (Below.refl _ _).drew
                first | (refine anyT_take 0 (some 42) (v := ?_) rfl rfl (by kernel_rfl) (by kernel_rfl) (by kernel_rfl) (by kernel_rfl) (fun _ _ _ h => h) (Or.inl ⟨by rfl, ?_⟩) hHeld ?_; rotate_left; focus (intro wq hSw; obtain ⟨hcq, hfq⟩ := bcell hSw; go_simp; (try with_reducible rfl); done))
                (try simp only [Act.put, List.setIfInBounds_toArray, List.set_cons_zero, List.set_cons_succ])
                first | (refine anyT_take 1 (some 43) (v := ?_) rfl rfl (by kernel_rfl) (by kernel_rfl) (by kernel_rfl) (by kernel_rfl) (fun _ _ _ h => h) (Or.inl ⟨by rfl, ?_⟩) hHeld ?_; rotate_left; focus (intro wq hSw; obtain ⟨hcq, hfq⟩ := bcell hSw; go_simp; (try with_reducible rfl); done))
                (try simp only [Act.put, List.setIfInBounds_toArray, List.set_cons_zero, List.set_cons_succ])
                first | (refine anyT_take 2 (some 44) (v := ?_) rfl rfl (by kernel_rfl) (by kernel_rfl) (by kernel_rfl) (by kernel_rfl) (fun _ _ _ h => h) (Or.inl ⟨by rfl, ?_⟩) hHeld ?_; rotate_left; focus (intro wq hSw; obtain ⟨hcq, hfq⟩ := bcell hSw; go_simp; (try with_reducible rfl); done))
                (try simp only [Act.put, List.setIfInBounds_toArray, List.set_cons_zero, List.set_cons_succ])
                first | (refine anyT_take 3 (some 45) (v := ?_) rfl rfl (by kernel_rfl) (by kernel_rfl) (by kernel_rfl) (by kernel_rfl) (fun _ _ _ h => h) (Or.inl ⟨by rfl, ?_⟩) hHeld ?_; rotate_left; focus (intro wq hSw; obtain ⟨hcq, hfq⟩ := bcell hSw; go_simp; (try with_reducible rfl); done))
                (try simp only [Act.put, List.setIfInBounds_toArray, List.set_cons_zero, List.set_cons_succ])
                first | (refine anyT_take 4 (some 46) (v := ?_) rfl rfl (by kernel_rfl) (by kernel_rfl) (by kernel_rfl) (by kernel_rfl) (fun _ _ _ h => h) (Or.inl ⟨by rfl, ?_⟩) hHeld ?_; rotate_left; focus (intro wq hSw; obtain ⟨hcq, hfq⟩ := bcell hSw; go_simp; (try with_reducible rfl); done))
                (try simp only [Act.put, List.setIfInBounds_toArray, List.set_cons_zero, List.set_cons_succ])
                first | (refine anyT_take 5 (some 47) (v := ?_) rfl rfl (by kernel_rfl) (by kernel_rfl) (by kernel_rfl) (by kernel_rfl) (fun _ _ _ h => h) (Or.inl ⟨by rfl, ?_⟩) hHeld ?_; rotate_left; focus (intro wq hSw; obtain ⟨hcq, hfq⟩ := bcell hSw; go_simp; (try with_reducible rfl); done))
                (try simp only [Act.put, List.setIfInBounds_toArray, List.set_cons_zero, List.set_cons_succ])
                first | (refine anyT_take 6 (some 48) (v := ?_) rfl rfl (by kernel_rfl) (by kernel_rfl) (by kernel_rfl) (by kernel_rfl) (fun _ _ _ h => h) (Or.inl ⟨by rfl, ?_⟩) hHeld ?_; rotate_left; focus (intro wq hSw; obtain ⟨hcq, hfq⟩ := bcell hSw; go_simp; (try with_reducible rfl); done))
                (try simp only [Act.put, List.setIfInBounds_toArray, List.set_cons_zero, List.set_cons_succ])
                first | (refine anyT_take 7 (some 49) (v := ?_) rfl rfl (by kernel_rfl) (by kernel_rfl) (by kernel_rfl) (by kernel_rfl) (fun _ _ _ h => h) (Or.inl ⟨by rfl, ?_⟩) hHeld ?_; rotate_left; focus (intro wq hSw; obtain ⟨hcq, hfq⟩ := bcell hSw; go_simp; (try with_reducible rfl); done))
                (try simp only [Act.put, List.setIfInBounds_toArray, List.set_cons_zero, List.set_cons_succ])
                first | (refine anyT_take 8 (some 50) (v := ?_) rfl rfl (by kernel_rfl) (by kernel_rfl) (by kernel_rfl) (by kernel_rfl) (fun _ _ _ h => h) (Or.inl ⟨by rfl, ?_⟩) hHeld ?_; rotate_left; focus (intro wq hSw; obtain ⟨hcq, hfq⟩ := bcell hSw; go_simp; (try with_reducible rfl); done))
                (try simp only [Act.put, List.setIfInBounds_toArray, List.set_cons_zero, List.set_cons_succ])
                first | (refine anyT_take 9 (some 51) (v := ?_) rfl rfl (by kernel_rfl) (by kernel_rfl) (by kernel_rfl) (by kernel_rfl) (fun _ _ _ h => h) (Or.inl ⟨by rfl, ?_⟩) hHeld ?_; rotate_left; focus (intro wq hSw; obtain ⟨hcq, hfq⟩ := bcell hSw; go_simp; (try with_reducible rfl); done))
                (try simp only [Act.put, List.setIfInBounds_toArray, List.set_cons_zero, List.set_cons_succ])
                first | (refine anyT_take 10 (some 52) (v := ?_) rfl rfl (by kernel_rfl) (by kernel_rfl) (by kernel_rfl) (by kernel_rfl) (fun _ _ _ h => h) (Or.inl ⟨by rfl, ?_⟩) hHeld ?_; rotate_left; focus (intro wq hSw; obtain ⟨hcq, hfq⟩ := bcell hSw; go_simp; (try with_reducible rfl); done))
                (try simp only [Act.put, List.setIfInBounds_toArray, List.set_cons_zero, List.set_cons_succ])
                first | (refine anyT_take 11 (some 53) (v := ?_) rfl rfl (by kernel_rfl) (by kernel_rfl) (by kernel_rfl) (by kernel_rfl) (fun _ _ _ h => h) (Or.inl ⟨by rfl, ?_⟩) hHeld ?_; rotate_left; focus (intro wq hSw; obtain ⟨hcq, hfq⟩ := bcell hSw; go_simp; (try with_reducible rfl); done))
                (try simp only [Act.put, List.setIfInBounds_toArray, List.set_cons_zero, List.set_cons_succ])
                first | (refine anyT_take 12 (some 54) (v := ?_) rfl rfl (by kernel_rfl) (by kernel_rfl) (by kernel_rfl) (by kernel_rfl) (fun _ _ _ h => h) (Or.inl ⟨by rfl, ?_⟩) hHeld ?_; rotate_left; focus (intro wq hSw; obtain ⟨hcq, hfq⟩ := bcell hSw; go_simp; (try with_reducible rfl); done))
                (try simp only [Act.put, List.setIfInBounds_toArray, List.set_cons_zero, List.set_cons_succ])
                first | (refine anyT_take 13 (some 55) (v := ?_) rfl rfl (by kernel_rfl) (by kernel_rfl) (by kernel_rfl) (by kernel_rfl) (fun _ _ _ h => h) (Or.inl ⟨by rfl, ?_⟩) hHeld ?_; rotate_left; focus (intro wq hSw; obtain ⟨hcq, hfq⟩ := bcell hSw; go_simp; (try with_reducible rfl); done))
                (try simp only [Act.put, List.setIfInBounds_toArray, List.set_cons_zero, List.set_cons_succ])
                first | (refine anyT_take 14 (some 56) (v := ?_) rfl rfl (by kernel_rfl) (by kernel_rfl) (by kernel_rfl) (by kernel_rfl) (fun _ _ _ h => h) (Or.inl ⟨by rfl, ?_⟩) hHeld ?_; rotate_left; focus (intro wq hSw; obtain ⟨hcq, hfq⟩ := bcell hSw; go_simp; (try with_reducible rfl); done))
                (try simp only [Act.put, List.setIfInBounds_toArray, List.set_cons_zero, List.set_cons_succ])
                first | (refine anyT_take 15 (some 57) (v := ?_) rfl rfl (by kernel_rfl) (by kernel_rfl) (by kernel_rfl) (by kernel_rfl) (fun _ _ _ h => h) (Or.inl ⟨by rfl, ?_⟩) hHeld ?_; rotate_left; focus (intro wq hSw; obtain ⟨hcq, hfq⟩ := bcell hSw; go_simp; (try with_reducible rfl); done))
                (try simp only [Act.put, List.setIfInBounds_toArray, List.set_cons_zero, List.set_cons_succ])
                first | (refine anyT_take 16 (some 58) (v := ?_) rfl rfl (by kernel_rfl) (by kernel_rfl) (by kernel_rfl) (by kernel_rfl) (fun _ _ _ h => h) (Or.inl ⟨by rfl, ?_⟩) hHeld ?_; rotate_left; focus (intro wq hSw; obtain ⟨hcq, hfq⟩ := bcell hSw; go_simp; (try with_reducible rfl); done))
                (try simp only [Act.put, List.setIfInBounds_toArray, List.set_cons_zero, List.set_cons_succ])
                first | (refine anyT_take 17 (some 59) (v := ?_) rfl rfl (by kernel_rfl) (by kernel_rfl) (by kernel_rfl) (by kernel_rfl) (fun _ _ _ h => h) (Or.inl ⟨by rfl, ?_⟩) hHeld ?_; rotate_left; focus (intro wq hSw; obtain ⟨hcq, hfq⟩ := bcell hSw; go_simp; (try with_reducible rfl); done))
                (try simp only [Act.put, List.setIfInBounds_toArray, List.set_cons_zero, List.set_cons_succ])
                refine anyT_last (by kernel_rfl) rfl (fun K hK => ?_)
                have hS15 := HS15.out.below hHeld; have hs15 := hS15.put nn hnn lo hi; have HS16 := Lib.hid (hs15.congr (fun j _ => FqS_fin B nn i f15 Hf15.out _ Hpn.out j)); have HB16 := Lib.hid ((HBe15.out.trans (hHeld.mono hgs15)).trans (((Below.refl gO _).setCell (p := ⟨gO, nn * 2, none⟩) (Nat.le_refl _) (.int .i64 lo)).setCell (p := ⟨gO, nn * 2 + 1, none⟩) (Nat.le_refl _) (.int .i64 hi))); obtain ⟨c0, c1, f0⟩ := hS15.at_ nn hnn; simp only [hpart15] at c0 c1; clear hs15 hHeld hS15
                go_simp
                refine hK.out _ _ ?_
                clear hK K
                (try simp only [Act.put, List.setIfInBounds_toArray, List.set_cons_zero, List.set_cons_succ])
                refine anyT_done (by kernel_rfl) ?_ _
                rw [NP_normal]
                go_wp2
                go_roundg ((truthsS B 0).length - (i + 1))
                case measure => have := Hgi.out; omega
                case rel => exact ⟨i + 1, by omega, rfl, by go_num, HS16.out, HB16.out⟩

              · have Hpn := Lib.hid (show partS B nn (i + 1) = (lo, a) by unfold partS; rw [Htk.out, hsp, (Hq _).out]; simp only [if_pos h1, if_neg h2]; rfl)
                have h2 : hi < a := by omega
                skip
                clear Htk Hq hsp
                go_upto_region 15 with (fail)
                refine region_plainN (S := fun w' => Below W15.heap.size W15 w') 18 (by kernel_rfl) ?_ (fun hHeld => ?_)
                · exact (Below.refl _ _).drew
                first | (refine anyT_take 0 (some 42) (v := ?_) rfl rfl (by kernel_rfl) (by kernel_rfl) (by kernel_rfl) (by kernel_rfl) (fun _ _ _ h => h) (Or.inl ⟨by rfl, ?_⟩) hHeld ?_; rotate_left; focus (intro wq hSw; obtain ⟨hcq, hfq⟩ := bcell hSw; go_simp; (try with_reducible rfl); done))
                (try simp only [Act.put, List.setIfInBounds_toArray, List.set_cons_zero, List.set_cons_succ])
                first | (refine anyT_take 1 (some 43) (v := ?_) rfl rfl (by kernel_rfl) (by kernel_rfl) (by kernel_rfl) (by kernel_rfl) (fun _ _ _ h => h) (Or.inl ⟨by rfl, ?_⟩) hHeld ?_; rotate_left; focus (intro wq hSw; obtain ⟨hcq, hfq⟩ := bcell hSw; go_simp; (try with_reducible rfl); done))
                (try simp only [Act.put, List.setIfInBounds_toArray, List.set_cons_zero, List.set_cons_succ])
                first | (refine anyT_take 2 (some 44) (v := ?_) rfl rfl (by kernel_rfl) (by kernel_rfl) (by kernel_rfl) (by kernel_rfl) (fun _ _ _ h => h) (Or.inl ⟨by rfl, ?_⟩) hHeld ?_; rotate_left; focus (intro wq hSw; obtain ⟨hcq, hfq⟩ := bcell hSw; go_simp; (try with_reducible rfl); done))
                (try simp only [Act.put, List.setIfInBounds_toArray, List.set_cons_zero, List.set_cons_succ])
                first | (refine anyT_take 3 (some 45) (v := ?_) rfl rfl (by kernel_rfl) (by kernel_rfl) (by kernel_rfl) (by kernel_rfl) (fun _ _ _ h => h) (Or.inl ⟨by rfl, ?_⟩) hHeld ?_; rotate_left; focus (intro wq hSw; obtain ⟨hcq, hfq⟩ := bcell hSw; go_simp; (try with_reducible rfl); done))
                (try simp only [Act.put, List.setIfInBounds_toArray, List.set_cons_zero, List.set_cons_succ])
                first | (refine anyT_take 4 (some 46) (v := ?_) rfl rfl (by kernel_rfl) (by kernel_rfl) (by kernel_rfl) (by kernel_rfl) (fun _ _ _ h => h) (Or.inl ⟨by rfl, ?_⟩) hHeld ?_; rotate_left; focus (intro wq hSw; obtain ⟨hcq, hfq⟩ := bcell hSw; go_simp; (try with_reducible rfl); done))
                (try simp only [Act.put, List.setIfInBounds_toArray, List.set_cons_zero, List.set_cons_succ])
                first | (refine anyT_take 5 (some 47) (v := ?_) rfl rfl (by kernel_rfl) (by kernel_rfl) (by kernel_rfl) (by kernel_rfl) (fun _ _ _ h => h) (Or.inl ⟨by rfl, ?_⟩) hHeld ?_; rotate_left; focus (intro wq hSw; obtain ⟨hcq, hfq⟩ := bcell hSw; go_simp; (try with_reducible rfl); done))
                (try simp only [Act.put, List.setIfInBounds_toArray, List.set_cons_zero, List.set_cons_succ])
                first | (refine anyT_take 6 (some 48) (v := ?_) rfl rfl (by kernel_rfl) (by kernel_rfl) (by kernel_rfl) (by kernel_rfl) (fun _ _ _ h => h) (Or.inl ⟨by rfl, ?_⟩) hHeld ?_; rotate_left; focus (intro wq hSw; obtain ⟨hcq, hfq⟩ := bcell hSw; go_simp; (try with_reducible rfl); done))
                (try simp only [Act.put, List.setIfInBounds_toArray, List.set_cons_zero, List.set_cons_succ])
                first | (refine anyT_take 7 (some 49) (v := ?_) rfl rfl (by kernel_rfl) (by kernel_rfl) (by kernel_rfl) (by kernel_rfl) (fun _ _ _ h => h) (Or.inl ⟨by rfl, ?_⟩) hHeld ?_; rotate_left; focus (intro wq hSw; obtain ⟨hcq, hfq⟩ := bcell hSw; go_simp; (try with_reducible rfl); done))
                (try simp only [Act.put, List.setIfInBounds_toArray, List.set_cons_zero, List.set_cons_succ])
                first | (refine anyT_take 8 (some 50) (v := ?_) rfl rfl (by kernel_rfl) (by kernel_rfl) (by kernel_rfl) (by kernel_rfl) (fun _ _ _ h => h) (Or.inl ⟨by rfl, ?_⟩) hHeld ?_; rotate_left; focus (intro wq hSw; obtain ⟨hcq, hfq⟩ := bcell hSw; go_simp; (try with_reducible rfl); done))
                (try simp only [Act.put, List.setIfInBounds_toArray, List.set_cons_zero, List.set_cons_succ])
                first | (refine anyT_take 9 (some 51) (v := ?_) rfl rfl (by kernel_rfl) (by kernel_rfl) (by kernel_rfl) (by kernel_rfl) (fun _ _ _ h => h) (Or.inl ⟨by rfl, ?_⟩) hHeld ?_; rotate_left; focus (intro wq hSw; obtain ⟨hcq, hfq⟩ := bcell hSw; go_simp; (try with_reducible rfl); done))
                (try simp only [Act.put, List.setIfInBounds_toArray, List.set_cons_zero, List.set_cons_succ])
                first | (refine anyT_take 10 (some 52) (v := ?_) rfl rfl (by kernel_rfl) (by kernel_rfl) (by kernel_rfl) (by kernel_rfl) (fun _ _ _ h => h) (Or.inl ⟨by rfl, ?_⟩) hHeld ?_; rotate_left; focus (intro wq hSw; obtain ⟨hcq, hfq⟩ := bcell hSw; go_simp; (try with_reducible rfl); done))
                (try simp only [Act.put, List.setIfInBounds_toArray, List.set_cons_zero, List.set_cons_succ])
                first | (refine anyT_take 11 (some 53) (v := ?_) rfl rfl (by kernel_rfl) (by kernel_rfl) (by kernel_rfl) (by kernel_rfl) (fun _ _ _ h => h) (Or.inl ⟨by rfl, ?_⟩) hHeld ?_; rotate_left; focus (intro wq hSw; obtain ⟨hcq, hfq⟩ := bcell hSw; go_simp; (try with_reducible rfl); done))
                (try simp only [Act.put, List.setIfInBounds_toArray, List.set_cons_zero, List.set_cons_succ])
                first | (refine anyT_take 12 (some 54) (v := ?_) rfl rfl (by kernel_rfl) (by kernel_rfl) (by kernel_rfl) (by kernel_rfl) (fun _ _ _ h => h) (Or.inl ⟨by rfl, ?_⟩) hHeld ?_; rotate_left; focus (intro wq hSw; obtain ⟨hcq, hfq⟩ := bcell hSw; go_simp; (try with_reducible rfl); done))
                (try simp only [Act.put, List.setIfInBounds_toArray, List.set_cons_zero, List.set_cons_succ])
                first | (refine anyT_take 13 (some 55) (v := ?_) rfl rfl (by kernel_rfl) (by kernel_rfl) (by kernel_rfl) (by kernel_rfl) (fun _ _ _ h => h) (Or.inl ⟨by rfl, ?_⟩) hHeld ?_; rotate_left; focus (intro wq hSw; obtain ⟨hcq, hfq⟩ := bcell hSw; go_simp; (try with_reducible rfl); done))
                (try simp only [Act.put, List.setIfInBounds_toArray, List.set_cons_zero, List.set_cons_succ])
                first | (refine anyT_take 14 (some 56) (v := ?_) rfl rfl (by kernel_rfl) (by kernel_rfl) (by kernel_rfl) (by kernel_rfl) (fun _ _ _ h => h) (Or.inl ⟨by rfl, ?_⟩) hHeld ?_; rotate_left; focus (intro wq hSw; obtain ⟨hcq, hfq⟩ := bcell hSw; go_simp; (try with_reducible rfl); done))
                (try simp only [Act.put, List.setIfInBounds_toArray, List.set_cons_zero, List.set_cons_succ])
                first | (refine anyT_take 15 (some 57) (v := ?_) rfl rfl (by kernel_rfl) (by kernel_rfl) (by kernel_rfl) (by kernel_rfl) (fun _ _ _ h => h) (Or.inl ⟨by rfl, ?_⟩) hHeld ?_; rotate_left; focus (intro wq hSw; obtain ⟨hcq, hfq⟩ := bcell hSw; go_simp; (try with_reducible rfl); done))
                (try simp only [Act.put, List.setIfInBounds_toArray, List.set_cons_zero, List.set_cons_succ])
                first | (refine anyT_take 16 (some 58) (v := ?_) rfl rfl (by kernel_rfl) (by kernel_rfl) (by kernel_rfl) (by kernel_rfl) (fun _ _ _ h => h) (Or.inl ⟨by rfl, ?_⟩) hHeld ?_; rotate_left; focus (intro wq hSw; obtain ⟨hcq, hfq⟩ := bcell hSw; go_simp; (try with_reducible rfl); done))
                (try simp only [Act.put, List.setIfInBounds_toArray, List.set_cons_zero, List.set_cons_succ])
                first | (refine anyT_take 17 (some 59) (v := ?_) rfl rfl (by kernel_rfl) (by kernel_rfl) (by kernel_rfl) (by kernel_rfl) (fun _ _ _ h => h) (Or.inl ⟨by rfl, ?_⟩) hHeld ?_; rotate_left; focus (intro wq hSw; obtain ⟨hcq, hfq⟩ := bcell hSw; go_simp; (try with_reducible rfl); done))
                (try simp only [Act.put, List.setIfInBounds_toArray, List.set_cons_zero, List.set_cons_succ])
                refine anyT_last (by kernel_rfl) rfl (fun K hK => ?_)
                have hS15 := HS15.out.below hHeld; have hs15 := hS15.put nn hnn lo a; have HS16 := Lib.hid (hs15.congr (fun j _ => FqS_fin B nn i f15 Hf15.out _ Hpn.out j)); have HB16 := Lib.hid ((HBe15.out.trans (hHeld.mono hgs15)).trans (((Below.refl gO _).setCell (p := ⟨gO, nn * 2, none⟩) (Nat.le_refl _) (.int .i64 lo)).setCell (p := ⟨gO, nn * 2 + 1, none⟩) (Nat.le_refl _) (.int .i64 a))); obtain ⟨c0, c1, f0⟩ := hS15.at_ nn hnn; simp only [hpart15] at c0 c1; clear hs15 hHeld hS15
                go_simp
                refine hK.out _ _ ?_
                clear hK K
                (try simp only [Act.put, List.setIfInBounds_toArray, List.set_cons_zero, List.set_cons_succ])
                refine anyT_done (by kernel_rfl) ?_ _
                rw [NP_normal]
                go_wp2
                go_roundg ((truthsS B 0).length - (i + 1))
                case measure => have := Hgi.out; omega
                case rel => exact ⟨i + 1, by omega, rfl, by go_num, HS16.out, HB16.out⟩

              · have Hpn := Lib.hid (show partS B nn (i + 1) = (a, hi) by unfold partS; rw [Htk.out, hsp, (Hq _).out]; simp only [if_neg h1, if_pos h2]; rfl)
                have h1 : a < lo := by omega
                skip
                clear Htk Hq hsp
                go_upto_region 15 with (fail)
                refine region_plainN (S := fun w' => Below W15.heap.size W15 w') 18 (by kernel_rfl) ?_ (fun hHeld => ?_)
                · exact (Below.refl _ _).drew
                first | (refine anyT_take 0 (some 42) (v := ?_) rfl rfl (by kernel_rfl) (by kernel_rfl) (by kernel_rfl) (by kernel_rfl) (fun _ _ _ h => h) (Or.inl ⟨by rfl, ?_⟩) hHeld ?_; rotate_left; focus (intro wq hSw; obtain ⟨hcq, hfq⟩ := bcell hSw; go_simp; (try with_reducible rfl); done))
                (try simp only [Act.put, List.setIfInBounds_toArray, List.set_cons_zero, List.set_cons_succ])
                first | (refine anyT_take 1 (some 43) (v := ?_) rfl rfl (by kernel_rfl) (by kernel_rfl) (by kernel_rfl) (by kernel_rfl) (fun _ _ _ h => h) (Or.inl ⟨by rfl, ?_⟩) hHeld ?_; rotate_left; focus (intro wq hSw; obtain ⟨hcq, hfq⟩ := bcell hSw; go_simp; (try with_reducible rfl); done))
                (try simp only [Act.put, List.setIfInBounds_toArray, List.set_cons_zero, List.set_cons_succ])
                first | (refine anyT_take 2 (some 44) (v := ?_) rfl rfl (by kernel_rfl) (by kernel_rfl) (by kernel_rfl) (by kernel_rfl) (fun _ _ _ h => h) (Or.inl ⟨by rfl, ?_⟩) hHeld ?_; rotate_left; focus (intro wq hSw; obtain ⟨hcq, hfq⟩ := bcell hSw; go_simp; (try with_reducible rfl); done))
                (try simp only [Act.put, List.setIfInBounds_toArray, List.set_cons_zero, List.set_cons_succ])
                first | (refine anyT_take 3 (some 45) (v := ?_) rfl rfl (by kernel_rfl) (by kernel_rfl) (by kernel_rfl) (by kernel_rfl) (fun _ _ _ h => h) (Or.inl ⟨by rfl, ?_⟩) hHeld ?_; rotate_left; focus (intro wq hSw; obtain ⟨hcq, hfq⟩ := bcell hSw; go_simp; (try with_reducible rfl); done))
                (try simp only [Act.put, List.setIfInBounds_toArray, List.set_cons_zero, List.set_cons_succ])
                first | (refine anyT_take 4 (some 46) (v := ?_) rfl rfl (by kernel_rfl) (by kernel_rfl) (by kernel_rfl) (by kernel_rfl) (fun _ _ _ h => h) (Or.inl ⟨by rfl, ?_⟩) hHeld ?_; rotate_left; focus (intro wq hSw; obtain ⟨hcq, hfq⟩ := bcell hSw; go_simp; (try with_reducible rfl); done))
                (try simp only [Act.put, List.setIfInBounds_toArray, List.set_cons_zero, List.set_cons_succ])
                first | (refine anyT_take 5 (some 47) (v := ?_) rfl rfl (by kernel_rfl) (by kernel_rfl) (by kernel_rfl) (by kernel_rfl) (fun _ _ _ h => h) (Or.inl ⟨by rfl, ?_⟩) hHeld ?_; rotate_left; focus (intro wq hSw; obtain ⟨hcq, hfq⟩ := bcell hSw; go_simp; (try with_reducible rfl); done))
                (try simp only [Act.put, List.setIfInBounds_toArray, List.set_cons_zero, List.set_cons_succ])
                first | (refine anyT_take 6 (some 48) (v := ?_) rfl rfl (by kernel_rfl) (by kernel_rfl) (by kernel_rfl) (by kernel_rfl) (fun _ _ _ h => h) (Or.inl ⟨by rfl, ?_⟩) hHeld ?_; rotate_left; focus (intro wq hSw; obtain ⟨hcq, hfq⟩ := bcell hSw; go_simp; (try with_reducible rfl); done))
                (try simp only [Act.put, List.setIfInBounds_toArray, List.set_cons_zero, List.set_cons_succ])
                first | (refine anyT_take 7 (some 49) (v := ?_) rfl rfl (by kernel_rfl) (by kernel_rfl) (by kernel_rfl) (by kernel_rfl) (fun _ _ _ h => h) (Or.inl ⟨by rfl, ?_⟩) hHeld ?_; rotate_left; focus (intro wq hSw; obtain ⟨hcq, hfq⟩ := bcell hSw; go_simp; (try with_reducible rfl); done))
                (try simp only [Act.put, List.setIfInBounds_toArray, List.set_cons_zero, List.set_cons_succ])
                first | (refine anyT_take 8 (some 50) (v := ?_) rfl rfl (by kernel_rfl) (by kernel_rfl) (by kernel_rfl) (by kernel_rfl) (fun _ _ _ h => h) (Or.inl ⟨by rfl, ?_⟩) hHeld ?_; rotate_left; focus (intro wq hSw; obtain ⟨hcq, hfq⟩ := bcell hSw; go_simp; (try with_reducible rfl); done))
                (try simp only [Act.put, List.setIfInBounds_toArray, List.set_cons_zero, List.set_cons_succ])
                first | (refine anyT_take 9 (some 51) (v := ?_) rfl rfl (by kernel_rfl) (by kernel_rfl) (by kernel_rfl) (by kernel_rfl) (fun _ _ _ h => h) (Or.inl ⟨by rfl, ?_⟩) hHeld ?_; rotate_left; focus (intro wq hSw; obtain ⟨hcq, hfq⟩ := bcell hSw; go_simp; (try with_reducible rfl); done))
                (try simp only [Act.put, List.setIfInBounds_toArray, List.set_cons_zero, List.set_cons_succ])
                first | (refine anyT_take 10 (some 52) (v := ?_) rfl rfl (by kernel_rfl) (by kernel_rfl) (by kernel_rfl) (by kernel_rfl) (fun _ _ _ h => h) (Or.inl ⟨by rfl, ?_⟩) hHeld ?_; rotate_left; focus (intro wq hSw; obtain ⟨hcq, hfq⟩ := bcell hSw; go_simp; (try with_reducible rfl); done))
                (try simp only [Act.put, List.setIfInBounds_toArray, List.set_cons_zero, List.set_cons_succ])
                first | (refine anyT_take 11 (some 53) (v := ?_) rfl rfl (by kernel_rfl) (by kernel_rfl) (by kernel_rfl) (by kernel_rfl) (fun _ _ _ h => h) (Or.inl ⟨by rfl, ?_⟩) hHeld ?_; rotate_left; focus (intro wq hSw; obtain ⟨hcq, hfq⟩ := bcell hSw; go_simp; (try with_reducible rfl); done))
                (try simp only [Act.put, List.setIfInBounds_toArray, List.set_cons_zero, List.set_cons_succ])
                first | (refine anyT_take 12 (some 54) (v := ?_) rfl rfl (by kernel_rfl) (by kernel_rfl) (by kernel_rfl) (by kernel_rfl) (fun _ _ _ h => h) (Or.inl ⟨by rfl, ?_⟩) hHeld ?_; rotate_left; focus (intro wq hSw; obtain ⟨hcq, hfq⟩ := bcell hSw; go_simp; (try with_reducible rfl); done))
                (try simp only [Act.put, List.setIfInBounds_toArray, List.set_cons_zero, List.set_cons_succ])
                first | (refine anyT_take 13 (some 55) (v := ?_) rfl rfl (by kernel_rfl) (by kernel_rfl) (by kernel_rfl) (by kernel_rfl) (fun _ _ _ h => h) (Or.inl ⟨by rfl, ?_⟩) hHeld ?_; rotate_left; focus (intro wq hSw; obtain ⟨hcq, hfq⟩ := bcell hSw; go_simp; (try with_reducible rfl); done))
                (try simp only [Act.put, List.setIfInBounds_toArray, List.set_cons_zero, List.set_cons_succ])
                first | (refine anyT_take 14 (some 56) (v := ?_) rfl rfl (by kernel_rfl) (by kernel_rfl) (by kernel_rfl) (by kernel_rfl) (fun _ _ _ h => h) (Or.inl ⟨by rfl, ?_⟩) hHeld ?_; rotate_left; focus (intro wq hSw; obtain ⟨hcq, hfq⟩ := bcell hSw; go_simp; (try with_reducible rfl); done))
                (try simp only [Act.put, List.setIfInBounds_toArray, List.set_cons_zero, List.set_cons_succ])
                first | (refine anyT_take 15 (some 57) (v := ?_) rfl rfl (by kernel_rfl) (by kernel_rfl) (by kernel_rfl) (by kernel_rfl) (fun _ _ _ h => h) (Or.inl ⟨by rfl, ?_⟩) hHeld ?_; rotate_left; focus (intro wq hSw; obtain ⟨hcq, hfq⟩ := bcell hSw; go_simp; (try with_reducible rfl); done))
                (try simp only [Act.put, List.setIfInBounds_toArray, List.set_cons_zero, List.set_cons_succ])
                first | (refine anyT_take 16 (some 58) (v := ?_) rfl rfl (by kernel_rfl) (by kernel_rfl) (by kernel_rfl) (by kernel_rfl) (fun _ _ _ h => h) (Or.inl ⟨by rfl, ?_⟩) hHeld ?_; rotate_left; focus (intro wq hSw; obtain ⟨hcq, hfq⟩ := bcell hSw; go_simp; (try with_reducible rfl); done))
                (try simp only [Act.put, List.setIfInBounds_toArray, List.set_cons_zero, List.set_cons_succ])
                first | (refine anyT_take 17 (some 59) (v := ?_) rfl rfl (by kernel_rfl) (by kernel_rfl) (by kernel_rfl) (by kernel_rfl) (fun _ _ _ h => h) (Or.inl ⟨by rfl, ?_⟩) hHeld ?_; rotate_left; focus (intro wq hSw; obtain ⟨hcq, hfq⟩ := bcell hSw; go_simp; (try with_reducible rfl); done))
                (try simp only [Act.put, List.setIfInBounds_toArray, List.set_cons_zero, List.set_cons_succ])
                refine anyT_last (by kernel_rfl) rfl (fun K hK => ?_)
                have hS15 := HS15.out.below hHeld; have hs15 := hS15.put nn hnn a hi; have HS16 := Lib.hid (hs15.congr (fun j _ => FqS_fin B nn i f15 Hf15.out _ Hpn.out j)); have HB16 := Lib.hid ((HBe15.out.trans (hHeld.mono hgs15)).trans (((Below.refl gO _).setCell (p := ⟨gO, nn * 2, none⟩) (Nat.le_refl _) (.int .i64 a)).setCell (p := ⟨gO, nn * 2 + 1, none⟩) (Nat.le_refl _) (.int .i64 hi))); obtain ⟨c0, c1, f0⟩ := hS15.at_ nn hnn; simp only [hpart15] at c0 c1; clear hs15 hHeld hS15
                go_simp
                refine hK.out _ _ ?_
                clear hK K
                (try simp only [Act.put, List.setIfInBounds_toArray, List.set_cons_zero, List.set_cons_succ])
                refine anyT_done (by kernel_rfl) ?_ _
                rw [NP_normal]
                go_wp2
                go_roundg ((truthsS B 0).length - (i + 1))
                case measure => have := Hgi.out; omega
                case rel => exact ⟨i + 1, by omega, rfl, by go_num, HS16.out, HB16.out⟩

              · have Hpn := Lib.hid (show partS B nn (i + 1) = (a, a) by unfold partS; rw [Htk.out, hsp, (Hq _).out]; simp only [if_neg h1, if_neg h2]; rfl)
                have h1 : a < lo := by omega
                have h2 : hi < a := by omega
                skip
                clear Htk Hq hsp
                go_upto_region 15 with (fail)
                refine region_plainN (S := fun w' => Below W15.heap.size W15 w') 18 (by kernel_rfl) ?_ (fun hHeld => ?_)
                · exact (Below.refl _ _).drew
                first | (refine anyT_take 0 (some 42) (v := ?_) rfl rfl (by kernel_rfl) (by kernel_rfl) (by kernel_rfl) (by kernel_rfl) (fun _ _ _ h => h) (Or.inl ⟨by rfl, ?_⟩) hHeld ?_; rotate_left; focus (intro wq hSw; obtain ⟨hcq, hfq⟩ := bcell hSw; go_simp; (try with_reducible rfl); done))
                (try simp only [Act.put, List.setIfInBounds_toArray, List.set_cons_zero, List.set_cons_succ])
                first | (refine anyT_take 1 (some 43) (v := ?_) rfl rfl (by kernel_rfl) (by kernel_rfl) (by kernel_rfl) (by kernel_rfl) (fun _ _ _ h => h) (Or.inl ⟨by rfl, ?_⟩) hHeld ?_; rotate_left; focus (intro wq hSw; obtain ⟨hcq, hfq⟩ := bcell hSw; go_simp; (try with_reducible rfl); done))
                (try simp only [Act.put, List.setIfInBounds_toArray, List.set_cons_zero, List.set_cons_succ])
                first | (refine anyT_take 2 (some 44) (v := ?_) rfl rfl (by kernel_rfl) (by kernel_rfl) (by kernel_rfl) (by kernel_rfl) (fun _ _ _ h => h) (Or.inl ⟨by rfl, ?_⟩) hHeld ?_; rotate_left; focus (intro wq hSw; obtain ⟨hcq, hfq⟩ := bcell hSw; go_simp; (try with_reducible rfl); done))
                (try simp only [Act.put, List.setIfInBounds_toArray, List.set_cons_zero, List.set_cons_succ])
                first | (refine anyT_take 3 (some 45) (v := ?_) rfl rfl (by kernel_rfl) (by kernel_rfl) (by kernel_rfl) (by kernel_rfl) (fun _ _ _ h => h) (Or.inl ⟨by rfl, ?_⟩) hHeld ?_; rotate_left; focus (intro wq hSw; obtain ⟨hcq, hfq⟩ := bcell hSw; go_simp; (try with_reducible rfl); done))
                (try simp only [Act.put, List.setIfInBounds_toArray, List.set_cons_zero, List.set_cons_succ])
                first | (refine anyT_take 4 (some 46) (v := ?_) rfl rfl (by kernel_rfl) (by kernel_rfl) (by kernel_rfl) (by kernel_rfl) (fun _ _ _ h => h) (Or.inl ⟨by rfl, ?_⟩) hHeld ?_; rotate_left; focus (intro wq hSw; obtain ⟨hcq, hfq⟩ := bcell hSw; go_simp; (try with_reducible rfl); done))
                (try simp only [Act.put, List.setIfInBounds_toArray, List.set_cons_zero, List.set_cons_succ])
                first | (refine anyT_take 5 (some 47) (v := ?_) rfl rfl (by kernel_rfl) (by kernel_rfl) (by kernel_rfl) (by kernel_rfl) (fun _ _ _ h => h) (Or.inl ⟨by rfl, ?_⟩) hHeld ?_; rotate_left; focus (intro wq hSw; obtain ⟨hcq, hfq⟩ := bcell hSw; go_simp; (try with_reducible rfl); done))
                (try simp only [Act.put, List.setIfInBounds_toArray, List.set_cons_zero, List.set_cons_succ])
                first | (refine anyT_take 6 (some 48) (v := ?_) rfl rfl (by kernel_rfl) (by kernel_rfl) (by kernel_rfl) (by kernel_rfl) (fun _ _ _ h => h) (Or.inl ⟨by rfl, ?_⟩) hHeld ?_; rotate_left; focus (intro wq hSw; obtain ⟨hcq, hfq⟩ := bcell hSw; go_simp; (try with_reducible rfl); done))
                (try simp only [Act.put, List.setIfInBounds_toArray, List.set_cons_zero, List.set_cons_succ])
                first | (refine anyT_take 7 (some 49) (v := ?_) rfl rfl (by kernel_rfl) (by kernel_rfl) (by kernel_rfl) (by kernel_rfl) (fun _ _ _ h => h) (Or.inl ⟨by rfl, ?_⟩) hHeld ?_; rotate_left; focus (intro wq hSw; obtain ⟨hcq, hfq⟩ := bcell hSw; go_simp; (try with_reducible rfl); done))
                (try simp only [Act.put, List.setIfInBounds_toArray, List.set_cons_zero, List.set_cons_succ])
                first | (refine anyT_take 8 (some 50) (v := ?_) rfl rfl (by kernel_rfl) (by kernel_rfl) (by kernel_rfl) (by kernel_rfl) (fun _ _ _ h => h) (Or.inl ⟨by rfl, ?_⟩) hHeld ?_; rotate_left; focus (intro wq hSw; obtain ⟨hcq, hfq⟩ := bcell hSw; go_simp; (try with_reducible rfl); done))
                (try simp only [Act.put, List.setIfInBounds_toArray, List.set_cons_zero, List.set_cons_succ])
                first | (refine anyT_take 9 (some 51) (v := ?_) rfl rfl (by kernel_rfl) (by kernel_rfl) (by kernel_rfl) (by kernel_rfl) (fun _ _ _ h => h) (Or.inl ⟨by rfl, ?_⟩) hHeld ?_; rotate_left; focus (intro wq hSw; obtain ⟨hcq, hfq⟩ := bcell hSw; go_simp; (try with_reducible rfl); done))
                (try simp only [Act.put, List.setIfInBounds_toArray, List.set_cons_zero, List.set_cons_succ])
                first | (refine anyT_take 10 (some 52) (v := ?_) rfl rfl (by kernel_rfl) (by kernel_rfl) (by kernel_rfl) (by kernel_rfl) (fun _ _ _ h => h) (Or.inl ⟨by rfl, ?_⟩) hHeld ?_; rotate_left; focus (intro wq hSw; obtain ⟨hcq, hfq⟩ := bcell hSw; go_simp; (try with_reducible rfl); done))
                (try simp only [Act.put, List.setIfInBounds_toArray, List.set_cons_zero, List.set_cons_succ])
                first | (refine anyT_take 11 (some 53) (v := ?_) rfl rfl (by kernel_rfl) (by kernel_rfl) (by kernel_rfl) (by kernel_rfl) (fun _ _ _ h => h) (Or.inl ⟨by rfl, ?_⟩) hHeld ?_; rotate_left; focus (intro wq hSw; obtain ⟨hcq, hfq⟩ := bcell hSw; go_simp; (try with_reducible rfl); done))
                (try simp only [Act.put, List.setIfInBounds_toArray, List.set_cons_zero, List.set_cons_succ])
                first | (refine anyT_take 12 (some 54) (v := ?_) rfl rfl (by kernel_rfl) (by kernel_rfl) (by kernel_rfl) (by kernel_rfl) (fun _ _ _ h => h) (Or.inl ⟨by rfl, ?_⟩) hHeld ?_; rotate_left; focus (intro wq hSw; obtain ⟨hcq, hfq⟩ := bcell hSw; go_simp; (try with_reducible rfl); done))
                (try simp only [Act.put, List.setIfInBounds_toArray, List.set_cons_zero, List.set_cons_succ])
                first | (refine anyT_take 13 (some 55) (v := ?_) rfl rfl (by kernel_rfl) (by kernel_rfl) (by kernel_rfl) (by kernel_rfl) (fun _ _ _ h => h) (Or.inl ⟨by rfl, ?_⟩) hHeld ?_; rotate_left; focus (intro wq hSw; obtain ⟨hcq, hfq⟩ := bcell hSw; go_simp; (try with_reducible rfl); done))
                (try simp only [Act.put, List.setIfInBounds_toArray, List.set_cons_zero, List.set_cons_succ])
                first | (refine anyT_take 14 (some 56) (v := ?_) rfl rfl (by kernel_rfl) (by kernel_rfl) (by kernel_rfl) (by kernel_rfl) (fun _ _ _ h => h) (Or.inl ⟨by rfl, ?_⟩) hHeld ?_; rotate_left; focus (intro wq hSw; obtain ⟨hcq, hfq⟩ := bcell hSw; go_simp; (try with_reducible rfl); done))
                (try simp only [Act.put, List.setIfInBounds_toArray, List.set_cons_zero, List.set_cons_succ])
                first | (refine anyT_take 15 (some 57) (v := ?_) rfl rfl (by kernel_rfl) (by kernel_rfl) (by kernel_rfl) (by kernel_rfl) (fun _ _ _ h => h) (Or.inl ⟨by rfl, ?_⟩) hHeld ?_; rotate_left; focus (intro wq hSw; obtain ⟨hcq, hfq⟩ := bcell hSw; go_simp; (try with_reducible rfl); done))
                (try simp only [Act.put, List.setIfInBounds_toArray, List.set_cons_zero, List.set_cons_succ])
                first | (refine anyT_take 16 (some 58) (v := ?_) rfl rfl (by kernel_rfl) (by kernel_rfl) (by kernel_rfl) (by kernel_rfl) (fun _ _ _ h => h) (Or.inl ⟨by rfl, ?_⟩) hHeld ?_; rotate_left; focus (intro wq hSw; obtain ⟨hcq, hfq⟩ := bcell hSw; go_simp; (try with_reducible rfl); done))
                (try simp only [Act.put, List.setIfInBounds_toArray, List.set_cons_zero, List.set_cons_succ])
                first | (refine anyT_take 17 (some 59) (v := ?_) rfl rfl (by kernel_rfl) (by kernel_rfl) (by kernel_rfl) (by kernel_rfl) (fun _ _ _ h => h) (Or.inl ⟨by rfl, ?_⟩) hHeld ?_; rotate_left; focus (intro wq hSw; obtain ⟨hcq, hfq⟩ := bcell hSw; go_simp; (try with_reducible rfl); done))
                (try simp only [Act.put, List.setIfInBounds_toArray, List.set_cons_zero, List.set_cons_succ])
                refine anyT_last (by kernel_rfl) rfl (fun K hK => ?_)
                have hS15 := HS15.out.below hHeld; have hs15 := hS15.put nn hnn a a; have HS16 := Lib.hid (hs15.congr (fun j _ => FqS_fin B nn i f15 Hf15.out _ Hpn.out j)); have HB16 := Lib.hid ((HBe15.out.trans (hHeld.mono hgs15)).trans (((Below.refl gO _).setCell (p := ⟨gO, nn * 2, none⟩) (Nat.le_refl _) (.int .i64 a)).setCell (p := ⟨gO, nn * 2 + 1, none⟩) (Nat.le_refl _) (.int .i64 a))); obtain ⟨c0, c1, f0⟩ := hS15.at_ nn hnn; simp only [hpart15] at c0 c1; clear hs15 hHeld hS15
                go_simp
                refine hK.out _ _ ?_
                clear hK K
                (try simp only [Act.put, List.setIfInBounds_toArray, List.set_cons_zero, List.set_cons_succ])
                refine anyT_done (by kernel_rfl) ?_ _
                rw [NP_normal]
                go_wp2
                go_roundg ((truthsS B 0).length - (i + 1))
                case measure => have := Hgi.out; omega
                case rel => exact ⟨i + 1, by omega, rfl, by go_num, HS16.out, HB16.out⟩

          · obtain rfl : i = (truthsS B 0).length := by omega
            go_wp2
            go_roundg (301 - (nn + 1))
            case measure => have := Hgk.out; omega
            case rel => exact ⟨nn + 1, by omega, rfl, by go_num, HS.out.congr (fun j _ => FqS_next B nn j), HBe.out⟩
      · obtain rfl : nn = 301 := by omega
        have hfin := HS.out.congr (f' := fullS B) (fun j hj => by unfold FqS; rw [if_pos hj])
        have Hsp := Lib.hid hfin.spans
        have hgw : w.heap.size ≤ gO := by have := HgOe.out; omega
        have hdl : D < gO := by have := (Array.getElem?_eq_some_iff.1 Hd.out).1; have := HgOe.out; omega
        have Hdr : Hid (wr.heap[D]? = some (.deferred (some []))) := Lib.hid ((HBe.out.block D hdl).trans Hd.out)
        have HF := Lib.hid (Hb4.out.trans (HBe.out.mono hgw))
        clear hfin
        go_wp2
        gi_wp2
        refine ⟨by simp, .inl ⟨_, _, rfl, run_takeDeferred Hdr.out, ?_⟩⟩
        refine ⟨_, results_tmp rfl _ _ _, gO, rfl, ?_, hgw, ?_⟩
        · exact Hsp.out.keep (Keep.putObj _ _ _) (by rintro b o ⟨⟩ rfl; omega)
        · exact HF.out.trans ((Keep.putObj _ _ _).below (fun k _ e => by have := HDw.out; omega) HF.out.size)
end
end Go.Proofs.YtgfbfbfajnfbjaaDoor
