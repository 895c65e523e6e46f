import Derived.Test.YtljikigmfkfkiaaDoorBU
namespace Go.Proofs.YtljikigmfkfkiaaDoor
open Go.RowKit Go.Shelf
attribute [local go_sem] Oper.semAt_some
set_option linter.unusedSimpArgs false
set_option linter.unusedVariables false

theorem OwnRows.lit1 (w : World) (x : Int) : OwnRows ((w.alloc (.cells #[.int .i64 x] 3)).alloc (.cells #[.slice (some ⟨w.heap.size, 0, none⟩) 1 1] 22)) w.heap.size (.slice (some ⟨w.heap.size + 1, 0, none⟩) 1 1) [[x]] := by
  have h := World.ownsRow_lit (base := w.heap.size) (e := 22) (size := 1) (w.alloc (.cells #[.int .i64 x] 3)) #[.slice (some ⟨w.heap.size, 0, none⟩) 1 1] 1 (by simp) (by unfold maxLen; omega) rfl
  rw [World.size_alloc] at h
  refine ⟨_, h, fun i hi => ?_⟩
  have : i = 0 := by simp at hi; omega
  subst this
  have hk : BoxAt ((w.alloc (.cells #[.int .i64 x] 3)).alloc (.cells #[.slice (some ⟨w.heap.size, 0, none⟩) 1 1] 22)) w.heap.size #[.int .i64 x] := (BoxAt.new w #[.int .i64 x] 3).alloc _
  obtain ⟨t, f, hh⟩ := hk.block (by simp)
  refine ⟨some ⟨w.heap.size, 0, none⟩, 1, rfl, ⟨⟨by simp [gl], .inr ⟨w.heap.size, 0, rfl, fun j hj => ?_⟩⟩, ?_⟩, by simp [gl]⟩
  · have : j = 0 := by simp [gl] at hj; omega
    subst this
    rw [hk.cell]; rfl
  · rintro b o ⟨⟩
    refine ⟨#[.int .i64 x], (0, 0), ?_⟩
    have h1 : ((w.alloc (.cells #[.int .i64 x] 3)).alloc (.cells #[.slice (some ⟨w.heap.size, 0, none⟩) 1 1] 22)).heap[w.heap.size]? = (w.alloc (.cells #[.int .i64 x] 3)).heap[w.heap.size]? := ((Below.refl _ _).alloc (Nat.le_refl _) _).block _ (by simp)
    rw [h1]; exact World.alloc_heap_new w _
set_option maxRecDepth 100000 in
set_option maxHeartbeats 8000000 in
theorem refPaths_calls (B : BookV) (g : B.Good) (w : World) :
    Calls Tryd.prog 96 #[B.val] w fun e w' => (∃ A c, e = .returned (.slice A (lev B.start (B.parts.toNat - 1)).length c) ∧ RowsAt w' A (lev B.start (B.parts.toNat - 1))) ∧ Below w.heap.size w w' := by
  have Hg := Lib.hid g
  have hpp := g.parts
  have hst := g.start
  have Hb : Below w.heap.size w (w.alloc (.cells B.cells 27)) := (Below.refl _ _).alloc (Nat.le_refl _) _
  have k2 := (BoxAt.new w B.cells 27)
  obtain ⟨np, hnp⟩ : ∃ np : Nat, B.parts = (np : Int) := Int.eq_ofNat_of_zero_le (by omega)
  have Hfin : Hid (B.parts.toNat - 1 = np - 1) := by unfold Hid; rw [hnp]; rfl
  have hnp1 : 1 ≤ np ∧ np ≤ 8 := by omega
  generalize hs : B.start = s at *
  clear g hpp
  unfold BookV.val BookV.cells
  rw [hnp, hs]
  go_enter Tryd.func96, Tryd.ntmps96
  go_upto_region 1 with (fail)
  unfold BookV.cells at k2 Hb
  rw [hnp, hs] at k2 Hb
  generalize w.alloc _ = w2 at *
  have K2 := Lib.hid k2
  obtain ⟨c2, f2, l2⟩ := k2
  go_upto_block 0 with (fail)
  have Hown0 := Lib.hid (OwnRows.lit1 w2 s)
  have Hn3 : Hid (Below w2.heap.size w2 ((w2.alloc (.cells #[.int .i64 s] 3)).alloc (.cells #[.slice (some ⟨w2.heap.size, 0, none⟩) 1 1] 22))) := ((Below.refl _ _).alloc (Nat.le_refl _) _).alloc (by simp) _
  clear c2 f2 l2
  go_wp2
  go_loopg [4, 3] (np - 1) (fun gk i v wr => ∃ k : Nat, k + 1 ≤ np ∧ gk = np - 1 - k ∧ i = .int .i64 ((k : Int) + 1) ∧ OwnRows wr w2.heap.size v (lev s k) ∧ Below w2.heap.size w2 wr)
  case atStart => exact ⟨0, by omega, rfl, rfl, Hown0.out, Hn3.out⟩
  case round =>
    obtain ⟨wk, rfl⟩ : ∃ wk, wk = wr := ⟨_, rfl⟩
    obtain ⟨k, hk, hgk, rfl, hown, hbe⟩ := hrel
    have Hgk := Lib.hid hgk
    have Hbe := Lib.hid hbe
    have HbW := Lib.hid (below_then Hb Hb.size hbe)
    obtain ⟨c2, f2, l2⟩ := K2.out.below hbe
    obtain ⟨A3, c3, rfl, hrd, hc3, _⟩ := hown.reads
    have Hrd := Lib.hid hrd
    clear hgk hown hbe hrd
    by_cases hlt : k + 1 < np
    · have hlti : ((k : Int) + 1) < (np : Int) := by omega
      have hll : (lev s k).length ≤ 16384 := by
        have h1 := lev_len s k
        have h2 : 4 ^ k ≤ 4 ^ 7 := Nat.pow_le_pow_right (by omega) (by omega)
        omega
      have Hmem : Hid (∀ x, x ∈ lev s k → x.length = k + 1 ∧ 0 ≤ gi x k ∧ gi x k ≤ 3) := fun x hx => lev_mem s hst k x hx
      have Hlev : Hid (lev s (k + 1) = rowsTo (lev s k) (lev s k).length) := by unfold Hid; rw [rowsTo_all]; rfl
      generalize hL : lev s k = L at *
      clear hL
      go_upto_block 2 with (fail)
      go_cut [5] (fun v wc => OwnRows wc wk.heap.size v (rowsTo L L.length) ∧ Below wk.heap.size wk wc)
      case first =>
        clear c2 f2 l2
        go_wp2
        go_loopg [6, 5] L.length (fun gk2 i v wi => ∃ j : Nat, j ≤ L.length ∧ gk2 = L.length - j ∧ i = .int .i64 j ∧ OwnRows wi wk.heap.size v (rowsTo L j) ∧ Below wk.heap.size wk wi)
        case atStart => exact ⟨0, Nat.zero_le _, rfl, rfl, OwnRows.nil _ _, Below.refl _ _⟩
        case round =>
          obtain ⟨wj, rfl⟩ : ∃ wj, wj = wr := ⟨_, rfl⟩
          obtain ⟨j, hj, hgj, rfl, hown, hbi⟩ := hrel
          have Hgj := Lib.hid hgj
          have Hown := Lib.hid hown
          have Hbi := Lib.hid hbi
          clear hgj hown hbi
          by_cases hjl : j < L.length
          · obtain ⟨b3, o3, rfl, hrows⟩ := Hrd.out.2.resolve_left (by intro e; rw [e] at hjl; simp at hjl)
            have hjli : (j : Int) < L.length := by omega
            obtain ⟨Aj, cj, hcell, hrow, hcj⟩ := hrows j hjl
            obtain ⟨hpl, hp0, hp3⟩ := Hmem.out _ (gl_mem hjl)
            have Hrow := Lib.hid hrow
            have Hcell := Lib.hid hcell
            have Hs : Hid (rowsTo L (j + 1) = rowsTo L j ++ kidsAll (gl L j)) := Lib.hid (rowsTo_succ hjl)
            have hrl := rowsTo_len L j
            generalize gl L j = p at *
            have hcur : p.length - 1 = k := by omega
            have Hlo : Hid (kidsTo p (loOf (gi p k)) = []) := by unfold Hid; rw [← hcur]; exact kidsTo_lo (by rw [hcur]; exact ⟨hp0, hp3⟩)
            have Hhi : Hid (kidsTo p (hiOf (gi p k) + 1) = kidsAll p) := by unfold Hid; rw [← hcur]; exact kidsTo_hi (by rw [hcur]; exact ⟨hp0, hp3⟩)
            have Hin : Hid (∀ m, loOf (gi p k) ≤ m → m ≤ hiOf (gi p k) → kidsTo p (m + 1) = kidsTo p m ++ [p ++ [(m : Int)]]) := fun m h1 h2 => kid_in (by rw [hcur]; exact h1) (by rw [hcur]; exact h2) (by rw [hcur]; exact ⟨hp0, hp3⟩)
            have Hkl := Lib.hid (kidsTo_len p)
            have Hpl := Lib.hid hpl
            obtain ⟨bj, oj, rfl⟩ := hrow.1.some_ (by omega)
            have Hcl := Lib.hid (hrow.1.at_ (show k < p.length by omega))
            have hx4 : gi p k = 0 ∨ gi p k = 1 ∨ gi p k = 2 ∨ gi p k = 3 := by omega
            generalize gi p k = d at *
            rw [hpl] at hcell hcj
            have Hcell2 := Lib.hid hcell
            have hwk : IntKind.i64.wrap ((k : Int) + 1 - 1) = (k : Int) := by rw [show (k : Int) + 1 - 1 = k by omega]; exact wrap_in (by omega) (by omega)
            have hki : (k : Int) < (k : Int) + 1 := by omega
            clear hrow hcell hpl hcur hrows hp0 hp3 Hcell
            have q1 := cell_below Hbi.out Hcell2.out
            have q2 := cell_below Hbi.out Hcl.out
            have bq1 := World.block_lt_of_cell? _ _ q1
            have bq2 := World.block_lt_of_cell? _ _ q2
            simp only at bq1 bq2
            rcases hx4 with rfl | rfl | rfl | rfl
            · go_upto_block 4 with (fail)
              clear q1 q2 bq1 bq2
              go_wp2
              go_loopg [7, 5] 2 (fun gk3 i v wi => ∃ m : Nat, 0 ≤ m ∧ m ≤ 2 ∧ gk3 = 2 - m ∧ i = .int .i64 m ∧ OwnRows wi wk.heap.size v (rowsTo L j ++ kidsTo p m) ∧ Below wk.heap.size wk wi)
              case atStart => exact ⟨0, Nat.le_refl _, by omega, rfl, rfl, by rw [show kidsTo p 0 = [] from Hlo.out, List.append_nil]; exact Hown.out, Hbi.out⟩
              case round =>
                obtain ⟨m, hm1, hm2, hgm, rfl, hown2, hbm⟩ := hrel
                have Hgm := Lib.hid hgm
                have Hown2 := Lib.hid hown2
                have Hbm := Lib.hid hbm
                clear hgm hown2 hbm
                have q1 := cell_below Hbm.out Hcell2.out
                have q2 := cell_below Hbm.out Hcl.out
                have bq1 := World.block_lt_of_cell? _ _ q1
                have bq2 := World.block_lt_of_cell? _ _ q2
                simp only at bq1 bq2
                by_cases hml : m ≤ 1
                · have hmi : (m : Int) ≤ 1 := by omega
                  go_wp2_with fail
                  rw [← Hpl.out]
                  refine (More_calls _ cj p m _ (Hrow.out.1.below Hbm.out) (by have := Hpl.out; omega) (by have := Hpl.out; omega)).mono ?_
                  rintro e w6 ⟨⟨gm, cm, rfl, hrowm, hcm⟩, hb6⟩
                  rw [Hpl.out]
                  have Ho6 := Lib.hid (Hown2.out.below hb6)
                  have Hb6 := Lib.hid (below_then Hbm.out Hbm.out.size hb6)
                  have Hrm := Lib.hid hrowm
                  have Hcm := Lib.hid hcm
                  clear hrowm hb6 hcm q1 q2 bq1 bq2
                  go_wp2_with (at_builtin; refine wpList_appR _ rfl _ _ rfl wk.heap.size _ _ rfl (Ho6.out.alloc _) _ _ (p ++ [(m : Int)]) _ cm rfl (by rw [List.length_append]; exact cell_new1 _ _ _) (Hrm.out.below ((Below.refl _ _).alloc (Nat.le_refl _) _)) Hcm.out (by have h1 := Hkl.out m; rw [List.length_append]; omega) (by have := Hb6.out.size; simp; omega) ?_)
                  intro v' w7 ho hb7 hsz
                  have Hho := Lib.hid ho
                  have Hb7 := Lib.hid ((Hb6.out.alloc Hb6.out.size _).trans hb7)
                  clear ho hb7 hsz
                  go_wp2
                  go_roundg (2 - (m + 1))
                  case measure => have := Hgm.out; omega
                  case rel => exact ⟨m + 1, by omega, by omega, rfl, by go_num, by rw [Hin.out m hm1 hml]; exact Hho.out, Hb7.out⟩
                · obtain rfl : m = 2 := by omega
                  go_wp2
                  go_roundg (L.length - (j + 1))
                  case measure => have := Hgj.out; omega
                  case rel => exact ⟨j + 1, by omega, rfl, by go_num, by rw [Hs.out, ← Hhi.out]; exact Hown2.out, Hbm.out⟩
            · go_upto_block 4 with (fail)
              clear q1 q2 bq1 bq2
              go_wp2
              go_loopg [7, 5] 3 (fun gk3 i v wi => ∃ m : Nat, 0 ≤ m ∧ m ≤ 3 ∧ gk3 = 3 - m ∧ i = .int .i64 m ∧ OwnRows wi wk.heap.size v (rowsTo L j ++ kidsTo p m) ∧ Below wk.heap.size wk wi)
              case atStart => exact ⟨0, Nat.le_refl _, by omega, rfl, rfl, by rw [show kidsTo p 0 = [] from Hlo.out, List.append_nil]; exact Hown.out, Hbi.out⟩
              case round =>
                obtain ⟨m, hm1, hm2, hgm, rfl, hown2, hbm⟩ := hrel
                have Hgm := Lib.hid hgm
                have Hown2 := Lib.hid hown2
                have Hbm := Lib.hid hbm
                clear hgm hown2 hbm
                have q1 := cell_below Hbm.out Hcell2.out
                have q2 := cell_below Hbm.out Hcl.out
                have bq1 := World.block_lt_of_cell? _ _ q1
                have bq2 := World.block_lt_of_cell? _ _ q2
                simp only at bq1 bq2
                by_cases hml : m ≤ 2
                · have hmi : (m : Int) ≤ 2 := by omega
                  go_wp2_with fail
                  rw [← Hpl.out]
                  refine (More_calls _ cj p m _ (Hrow.out.1.below Hbm.out) (by have := Hpl.out; omega) (by have := Hpl.out; omega)).mono ?_
                  rintro e w6 ⟨⟨gm, cm, rfl, hrowm, hcm⟩, hb6⟩
                  rw [Hpl.out]
                  have Ho6 := Lib.hid (Hown2.out.below hb6)
                  have Hb6 := Lib.hid (below_then Hbm.out Hbm.out.size hb6)
                  have Hrm := Lib.hid hrowm
                  have Hcm := Lib.hid hcm
                  clear hrowm hb6 hcm q1 q2 bq1 bq2
                  go_wp2_with (at_builtin; refine wpList_appR _ rfl _ _ rfl wk.heap.size _ _ rfl (Ho6.out.alloc _) _ _ (p ++ [(m : Int)]) _ cm rfl (by rw [List.length_append]; exact cell_new1 _ _ _) (Hrm.out.below ((Below.refl _ _).alloc (Nat.le_refl _) _)) Hcm.out (by have h1 := Hkl.out m; rw [List.length_append]; omega) (by have := Hb6.out.size; simp; omega) ?_)
                  intro v' w7 ho hb7 hsz
                  have Hho := Lib.hid ho
                  have Hb7 := Lib.hid ((Hb6.out.alloc Hb6.out.size _).trans hb7)
                  clear ho hb7 hsz
                  go_wp2
                  go_roundg (3 - (m + 1))
                  case measure => have := Hgm.out; omega
                  case rel => exact ⟨m + 1, by omega, by omega, rfl, by go_num, by rw [Hin.out m hm1 hml]; exact Hho.out, Hb7.out⟩
                · obtain rfl : m = 3 := by omega
                  go_wp2
                  go_roundg (L.length - (j + 1))
                  case measure => have := Hgj.out; omega
                  case rel => exact ⟨j + 1, by omega, rfl, by go_num, by rw [Hs.out, ← Hhi.out]; exact Hown2.out, Hbm.out⟩
            · go_upto_block 4 with (fail)
              clear q1 q2 bq1 bq2
              go_wp2
              go_loopg [7, 5] 3 (fun gk3 i v wi => ∃ m : Nat, 1 ≤ m ∧ m ≤ 4 ∧ gk3 = 4 - m ∧ i = .int .i64 m ∧ OwnRows wi wk.heap.size v (rowsTo L j ++ kidsTo p m) ∧ Below wk.heap.size wk wi)
              case atStart => exact ⟨1, Nat.le_refl _, by omega, rfl, rfl, by rw [show kidsTo p 1 = [] from Hlo.out, List.append_nil]; exact Hown.out, Hbi.out⟩
              case round =>
                obtain ⟨m, hm1, hm2, hgm, rfl, hown2, hbm⟩ := hrel
                have Hgm := Lib.hid hgm
                have Hown2 := Lib.hid hown2
                have Hbm := Lib.hid hbm
                clear hgm hown2 hbm
                have q1 := cell_below Hbm.out Hcell2.out
                have q2 := cell_below Hbm.out Hcl.out
                have bq1 := World.block_lt_of_cell? _ _ q1
                have bq2 := World.block_lt_of_cell? _ _ q2
                simp only at bq1 bq2
                by_cases hml : m ≤ 3
                · have hmi : (m : Int) ≤ 3 := by omega
                  go_wp2_with fail
                  rw [← Hpl.out]
                  refine (More_calls _ cj p m _ (Hrow.out.1.below Hbm.out) (by have := Hpl.out; omega) (by have := Hpl.out; omega)).mono ?_
                  rintro e w6 ⟨⟨gm, cm, rfl, hrowm, hcm⟩, hb6⟩
                  rw [Hpl.out]
                  have Ho6 := Lib.hid (Hown2.out.below hb6)
                  have Hb6 := Lib.hid (below_then Hbm.out Hbm.out.size hb6)
                  have Hrm := Lib.hid hrowm
                  have Hcm := Lib.hid hcm
                  clear hrowm hb6 hcm q1 q2 bq1 bq2
                  go_wp2_with (at_builtin; refine wpList_appR _ rfl _ _ rfl wk.heap.size _ _ rfl (Ho6.out.alloc _) _ _ (p ++ [(m : Int)]) _ cm rfl (by rw [List.length_append]; exact cell_new1 _ _ _) (Hrm.out.below ((Below.refl _ _).alloc (Nat.le_refl _) _)) Hcm.out (by have h1 := Hkl.out m; rw [List.length_append]; omega) (by have := Hb6.out.size; simp; omega) ?_)
                  intro v' w7 ho hb7 hsz
                  have Hho := Lib.hid ho
                  have Hb7 := Lib.hid ((Hb6.out.alloc Hb6.out.size _).trans hb7)
                  clear ho hb7 hsz
                  go_wp2
                  go_roundg (4 - (m + 1))
                  case measure => have := Hgm.out; omega
                  case rel => exact ⟨m + 1, by omega, by omega, rfl, by go_num, by rw [Hin.out m hm1 hml]; exact Hho.out, Hb7.out⟩
                · obtain rfl : m = 4 := by omega
                  go_wp2
                  go_roundg (L.length - (j + 1))
                  case measure => have := Hgj.out; omega
                  case rel => exact ⟨j + 1, by omega, rfl, by go_num, by rw [Hs.out, ← Hhi.out]; exact Hown2.out, Hbm.out⟩
            · go_upto_block 4 with (fail)
              clear q1 q2 bq1 bq2
              go_wp2
              go_loopg [7, 5] 2 (fun gk3 i v wi => ∃ m : Nat, 2 ≤ m ∧ m ≤ 4 ∧ gk3 = 4 - m ∧ i = .int .i64 m ∧ OwnRows wi wk.heap.size v (rowsTo L j ++ kidsTo p m) ∧ Below wk.heap.size wk wi)
              case atStart => exact ⟨2, Nat.le_refl _, by omega, rfl, rfl, by rw [show kidsTo p 2 = [] from Hlo.out, List.append_nil]; exact Hown.out, Hbi.out⟩
              case round =>
                obtain ⟨m, hm1, hm2, hgm, rfl, hown2, hbm⟩ := hrel
                have Hgm := Lib.hid hgm
                have Hown2 := Lib.hid hown2
                have Hbm := Lib.hid hbm
                clear hgm hown2 hbm
                have q1 := cell_below Hbm.out Hcell2.out
                have q2 := cell_below Hbm.out Hcl.out
                have bq1 := World.block_lt_of_cell? _ _ q1
                have bq2 := World.block_lt_of_cell? _ _ q2
                simp only at bq1 bq2
                by_cases hml : m ≤ 3
                · have hmi : (m : Int) ≤ 3 := by omega
                  go_wp2_with fail
                  rw [← Hpl.out]
                  refine (More_calls _ cj p m _ (Hrow.out.1.below Hbm.out) (by have := Hpl.out; omega) (by have := Hpl.out; omega)).mono ?_
                  rintro e w6 ⟨⟨gm, cm, rfl, hrowm, hcm⟩, hb6⟩
                  rw [Hpl.out]
                  have Ho6 := Lib.hid (Hown2.out.below hb6)
                  have Hb6 := Lib.hid (below_then Hbm.out Hbm.out.size hb6)
                  have Hrm := Lib.hid hrowm
                  have Hcm := Lib.hid hcm
                  clear hrowm hb6 hcm q1 q2 bq1 bq2
                  go_wp2_with (at_builtin; refine wpList_appR _ rfl _ _ rfl wk.heap.size _ _ rfl (Ho6.out.alloc _) _ _ (p ++ [(m : Int)]) _ cm rfl (by rw [List.length_append]; exact cell_new1 _ _ _) (Hrm.out.below ((Below.refl _ _).alloc (Nat.le_refl _) _)) Hcm.out (by have h1 := Hkl.out m; rw [List.length_append]; omega) (by have := Hb6.out.size; simp; omega) ?_)
                  intro v' w7 ho hb7 hsz
                  have Hho := Lib.hid ho
                  have Hb7 := Lib.hid ((Hb6.out.alloc Hb6.out.size _).trans hb7)
                  clear ho hb7 hsz
                  go_wp2
                  go_roundg (4 - (m + 1))
                  case measure => have := Hgm.out; omega
                  case rel => exact ⟨m + 1, by omega, by omega, rfl, by go_num, by rw [Hin.out m hm1 hml]; exact Hho.out, Hb7.out⟩
                · obtain rfl : m = 4 := by omega
                  go_wp2
                  go_roundg (L.length - (j + 1))
                  case measure => have := Hgj.out; omega
                  case rel => exact ⟨j + 1, by omega, rfl, by go_num, by rw [Hs.out, ← Hhi.out]; exact Hown2.out, Hbm.out⟩
          · obtain rfl : j = L.length := by omega
            go_wp2
            go_meet
            exact ⟨Hown.out, Hbi.out⟩
      case rest =>
        obtain ⟨hrows, hbc⟩ := hcut
        generalize wc = w5 at *
        have Hrows := Lib.hid hrows
        have Hbc := Lib.hid (below_then Hbe.out Hbe.out.size hbc)
        clear hrows hbc c2 f2 l2
        go_wp2
        go_roundg (np - 1 - (k + 1))
        case measure => have := Hgk.out; omega
        case rel =>
          obtain ⟨vs, h1, h2⟩ := Hrows.out
          exact ⟨k + 1, by omega, rfl, by go_num, by rw [Hlev.out]; exact ⟨vs, ⟨h1.1, h1.2.imp id (fun ⟨g', cap', cur', e', hg', r'⟩ => ⟨g', cap', cur', e', Nat.le_trans Hbe.out.size hg', r'⟩)⟩, h2⟩, Hbc.out⟩
    · obtain rfl : np = k + 1 := by omega
      go_wp2
      go_ret
      exact ⟨⟨A3, c3, rfl, Hrd.out⟩, HbW.out⟩
end Go.Proofs.YtljikigmfkfkiaaDoor
