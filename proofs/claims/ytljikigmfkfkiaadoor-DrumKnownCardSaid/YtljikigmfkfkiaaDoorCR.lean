import Derived.Test.YtljikigmfkfkiaaDoorCQ
import Derived.Test.YtljikigmfkfkiaaDoorCJ
namespace Go.Proofs.YtljikigmfkfkiaaDoor
open Go.RowKit Go.Shelf
attribute [local go_sem] Oper.semAt_some
set_option linter.unusedSimpArgs false
set_option linter.unusedVariables false

theorem bcellB {n : Nat} {W w1 : World} (hb : Below n W w1) : (∀ b o, b < n → w1.cell? ⟨b, o, none⟩ = W.cell? ⟨b, o, none⟩) ∧ (∀ b o, b < n → w1.frozen? ⟨b, o, none⟩ = W.frozen? ⟨b, o, none⟩) :=
  ⟨fun b o h => hb.cell (p := ⟨b, o, none⟩) h, fun b o h => hb.frozen (p := ⟨b, o, none⟩) h⟩
theorem BoxAt.belowB {n : Nat} {w w1 : World} {b : Nat} {cs : Array Value} (h : BoxAt w b cs) (hb : Below n w w1) (hn : b < n) : BoxAt w1 b cs :=
  ⟨fun i => (hb.cell (p := ⟨b, i, none⟩) hn).trans (h.cell i), fun i => (hb.frozen (p := ⟨b, i, none⟩) hn).trans (h.frozen i), Nat.lt_of_lt_of_le h.lt hb.size⟩
theorem Keep.of_belowB {M : Nat → Prop} {a b c : World} {n : Nat} (h : Keep M a b) (k : Below n b c) (hn : a.heap.size ≤ n) : Keep M a c :=
  ⟨k.os.trans h.os, k.tape.trans h.tape, k.output.trans h.output, Nat.le_trans h.size k.size, fun i hi hm => (k.block i (by omega)).trans (h.block i hi hm)⟩
def EdgeR (B : BookV) (hi : Bool) (e : Ending) (w' : World) : Prop := ∃ A c ps, EdgeOf hi B.players ps B.players.length ∧ e = .returned (bookEdge B hi A c ps).val ∧ (bookEdge B hi A c ps).Reads w'
set_option maxRecDepth 100000 in
set_option maxHeartbeats 16000000 in
theorem edge_calls (B : BookV) (g : B.Good) (worst : Bool) (w : World) (hB : B.Reads w) :
    Calls Tryd.prog 48 #[B.val, .bool worst] w fun e w' => EdgeR B worst e w' ∧ Below w.heap.size w w' := by
  have HB := Lib.hid hB
  have Hg := Lib.hid g
  have hmany := g.many
  have hps : 0 < B.players.length := by omega
  obtain ⟨left, hc, hcat⟩ := hB.2
  obtain ⟨b, o, hpA, hcs⟩ := hc.resolve_left (by intro h; rw [h] at hps; simp at hps)
  have Hcs := Lib.hid hcs
  have Hcat := Lib.hid hcat
  clear hB g hc hcs hcat
  have k2 := ((BoxAt.new w B.cells 27).alloc (.cells zbook 27)).alloc (.cells B.cells 27)
  have k4 := (BoxAt.new (w.alloc (.cells B.cells 27)) zbook 27).alloc (.cells B.cells 27)
  have k5 := BoxAt.new ((w.alloc (.cells B.cells 27)).alloc (.cells zbook 27)) B.cells 27
  have hb3 : Below w.heap.size w (((w.alloc (.cells B.cells 27)).alloc (.cells zbook 27)).alloc (.cells B.cells 27)) := (((Below.refl _ _).alloc (Nat.le_refl _) _).alloc (by simp) _).alloc (by simp; omega) _
  have hs3 : (((w.alloc (.cells B.cells 27)).alloc (.cells zbook 27)).alloc (.cells B.cells 27)).heap.size = w.heap.size + 1 + 1 + 1 := by simp
  simp only [World.size_alloc] at k4 k5
  unfold BookV.val
  unfold BookV.cells zbook at *
  rw [hpA] at *
  go_enter Tryd.func48, Tryd.ntmps48
  go_upto_region 2 with (fail)
  generalize ((w.alloc _).alloc _).alloc _ = W3 at *
  have Hb3 := Lib.hid hb3
  have Hs3 := Lib.hid hs3
  have K2 := Lib.hid k2
  have K4 := Lib.hid k4
  have K5 := Lib.hid k5
  obtain ⟨c5, f5, l5⟩ := k5
  clear hb3 hs3 k2 k4
  go_upto_region 3 with (fail)
  have hk : Keep (fun k => k = w.heap.size + 1 + 1) W3 (W3.setCell ⟨w.heap.size + 1 + 1, 10, none⟩ (.slice none 0 0)) :=
    Keep.setCell (M := fun k => k = w.heap.size + 1 + 1) (Keep.refl _ _) (p := ⟨w.heap.size + 1 + 1, 10, none⟩) (.inl rfl) _
  have k5 := K5.out.put 10 (.slice none 0 0) (by simp)
  have k4 := K4.out.keep hk (by omega)
  have k2 := K2.out.keep hk (by omega)
  have hb4 := Hb3.out.trans (hk.below (n := w.heap.size) (fun k _ e => by omega) Hb3.out.size)
  have hs4 : (W3.setCell ⟨w.heap.size + 1 + 1, 10, none⟩ (.slice none 0 0)).heap.size = w.heap.size + 1 + 1 + 1 := by rw [← Hs3.out]; simp [World.setCell]
  clear hk c5 f5 l5 K2 K4 K5 Hb3 Hs3
  generalize World.setCell _ _ _ = W4 at *
  simp only [List.setIfInBounds_toArray, List.set_cons_zero, List.set_cons_succ] at k5
  have Hb4 := Lib.hid hb4
  have Hs4 := Lib.hid hs4
  have K2 := Lib.hid k2
  have K4 := Lib.hid k4
  have K5 := Lib.hid k5
  obtain ⟨c2, f2, l2⟩ := k2
  clear hb4 hs4 k4 k5
  obtain ⟨hh, Hhh⟩ : ∃ hh, Hid (hh = worst) := ⟨_, rfl⟩
  obtain ⟨s, hs⟩ : ∃ s, s = endOf hh B.slo B.shi := ⟨_, rfl⟩
  have Hs := Lib.hid hs
  rw [Hhh.out] at hs
  cases worst
  all_goals
    simp only [endOf, cond_true, cond_false] at hs
    go_wp2_with fail
    rw [← hs]
    refine (Band_calls _ _ _).mono ?_
    rintro e w5 ⟨rfl, hb5⟩
    clear c2 f2 l2 hs
    obtain ⟨c5, f5, l5⟩ := K5.out.below hb5
    go_upto_block 0 with (fail)
    have hk : Keep (fun k => k = w.heap.size + 1 + 1) w5 ((w5.setCell ⟨w.heap.size + 1 + 1, 7, none⟩ (.int .i64 s)).setCell ⟨w.heap.size + 1 + 1, 8, none⟩ (.int .i64 s)) :=
      Keep.setCell (M := fun k => k = w.heap.size + 1 + 1) (Keep.setCell (M := fun k => k = w.heap.size + 1 + 1) (Keep.refl _ _) (p := ⟨w.heap.size + 1 + 1, 7, none⟩) (.inl rfl) _) (p := ⟨w.heap.size + 1 + 1, 8, none⟩) (.inl rfl) _
    have k5 := ((K5.out.below hb5).put 7 (.int .i64 s) (by simp)).put 8 (.int .i64 s) (by simp)
    simp only [List.setIfInBounds_toArray, List.set_cons_zero, List.set_cons_succ] at k5
    have k4 := (K4.out.below hb5).keep hk (by omega)
    have k2 := (K2.out.below hb5).keep hk (by omega)
    have hb6 := (below_then Hb4.out Hb4.out.size hb5).trans (hk.below (n := w.heap.size) (fun k _ e => by omega) (Nat.le_trans Hb4.out.size hb5.size))
    clear c5 f5 l5 hk hb5 K2 K4 K5 Hb4 Hs4
    generalize World.setCell (World.setCell _ _ _) _ _ = W6 at *
    have Hb6 := Lib.hid hb6
    have Hn5 : Hid (w.heap.size + 1 + 1 < W6.heap.size) := k5.lt
    have K26 := Lib.hid k2
    have K46 := Lib.hid k4
    have K56 := Lib.hid k5
    clear hb6 k2 k4 k5
    go_wp2
    go_loopg [6] B.players.length (fun gk i wr => ∃ (k : Nat) (v : Value) (ps : List PlayerV), k ≤ B.players.length ∧ gk = B.players.length - k ∧ i = .int .i64 k ∧ EdgeOf hh B.players ps k ∧ OwnPl wr W6.heap.size v ps ∧ BoxAt wr (w.heap.size + 1 + 1) #[.int .i64 B.parts, .int .i64 B.size, .slice B.bA B.beats.length B.bCap, .int .i64 B.start, .int .i64 B.fin, .int .i64 B.tlo, .int .i64 B.thi, .int .i64 s, .int .i64 s, .int .i64 B.notice, v] ∧ Keep (fun x => x = w.heap.size + 1 + 1) W6 wr)
    case atStart => exact ⟨0, .slice none 0 0, [], Nat.zero_le _, rfl, rfl, ⟨rfl, fun j hj => by omega⟩, OwnPl.nil _ _, K56.out, Keep.refl _ _⟩
    case round =>
      obtain ⟨k, v, ps, hk, hgk, rfl, hed, hown, hbx, hkp⟩ := hrel
      have Hgk := Lib.hid hgk
      have Hed := Lib.hid hed
      have Hown := Lib.hid hown
      have Hbx := Lib.hid hbx
      have Hkp := Lib.hid hkp
      have HW := Lib.hid (Hb6.out.trans (hkp.below (n := w.heap.size) (fun k _ e => by omega) Hb6.out.size))
      have Kr := Lib.hid (K26.out.keep hkp (by omega))
      clear hgk hed hown hbx hkp
      by_cases hlt : k < B.players.length
      · have hki : (k : Int) < B.players.length := by omega
        have Hlt := Lib.hid hlt
        obtain ⟨c2, f2, l2⟩ := Kr.out
        clear hlt
        go_upto_region 10 with (fail)
        have k7 := BoxAt.new wr #[.int .i64 0, .int .i64 0, .slice none 0 0] 68
        have hbr : Below wr.heap.size wr (wr.alloc (.cells #[.int .i64 0, .int .i64 0, .slice none 0 0] 68)) := (Below.refl _ _).alloc (Nat.le_refl _) _
        generalize wr.alloc _ = W7 at *
        have Hbr := Lib.hid hbr
        have K7 := Lib.hid k7
        obtain ⟨x, hx⟩ : ∃ x, x = endOf hh (gp B.players k).lo (gp B.players k).hi := ⟨_, rfl⟩
        have Hx := Lib.hid hx
        rw [Hhh.out] at hx
        simp only [endOf, cond_true, cond_false] at hx
        have hpk := Hcs.out k Hlt.out
        have p0 := cell_below (below_then HW.out HW.out.size hbr) hpk.1
        have p1 := cell_below (below_then HW.out HW.out.size hbr) hpk.2.1
        have bp := World.block_lt_of_cell? _ _ p0
        simp only at bp
        clear c2 f2 l2 hbr k7 hpk
        obtain ⟨c2, f2, l2⟩ := Kr.out.below Hbr.out
        go_wp2_with fail
        rw [← hx]
        refine (Band_calls _ _ _).mono ?_
        rintro e w8 ⟨rfl, hb8⟩
        clear c2 f2 l2 p0 p1 bp hx
        obtain ⟨c7, f7, l7⟩ := K7.out.below hb8
        go_upto_block 2 with (fail)
        have hk8 : Keep (fun k => k = wr.heap.size) w8 ((w8.setCell ⟨wr.heap.size, 0, none⟩ (.int .i64 x)).setCell ⟨wr.heap.size, 1, none⟩ (.int .i64 x)) :=
          Keep.setCell (M := fun k => k = wr.heap.size) (Keep.setCell (M := fun k => k = wr.heap.size) (Keep.refl _ _) (p := ⟨wr.heap.size, 0, none⟩) (.inl rfl) _) (p := ⟨wr.heap.size, 1, none⟩) (.inl rfl) _
        have k7 := ((K7.out.below hb8).put 0 (.int .i64 x) (by simp)).put 1 (.int .i64 x) (by simp)
        simp only [List.setIfInBounds_toArray, List.set_cons_zero, List.set_cons_succ] at k7
        have hb78 := below_then Hbr.out Hbr.out.size hb8
        have hb9 := hb78.trans (hk8.below (n := wr.heap.size) (fun k _ e => by omega) hb78.size)
        clear c7 f7 l7 hk8 hb8 hb78 K7 Hbr
        generalize World.setCell (World.setCell w8 _ _) _ _ = W9 at *
        have Hb9 := Lib.hid hb9
        have K79 := Lib.hid k7
        have Hn7 : Hid (wr.heap.size < W9.heap.size) := k7.lt
        have HW9 := Lib.hid (below_then HW.out HW.out.size hb9)
        have K29 := Lib.hid (Kr.out.below hb9)
        obtain ⟨cs, hcs⟩ : ∃ cs, cs = (gp B.players k).catches := ⟨_, rfl⟩
        have Hc4 : Hid (cs.length = 4) := by unfold Hid; rw [hcs]; exact Hg.out.catchLen k Hlt.out
        have hsp := (Hcat.out _ (gp_mem Hlt.out)).1
        rw [← hcs] at hsp
        obtain ⟨cb, co, hcA, hcc⟩ := hsp.2.resolve_left (by intro e; have := Hc4.out; rw [e] at this; simp at this)
        have Hcc := Lib.hid hcc
        have p2 := (Hcs.out k Hlt.out).2.2
        rw [hcA, ← hcs] at p2
        have P2 := Lib.hid p2
        have Hcse := Lib.hid hcs
        clear hb9 k7 hsp hcA hcc p2 hcs
        generalize hN : wr.heap.size = n7 at K79 Hn7 ⊢
        have HN := Lib.hid hN
        clear hN
        go_cut [9] (fun i w10 => ∃ v2 : Value, OwnSpans w10 W9.heap.size v2 (ecs hh cs) ∧ BoxAt w10 n7 #[.int .i64 x, .int .i64 x, v2] ∧ Keep (fun q => q = n7) W9 w10)
        case first =>
          go_wp2
          go_loopg [9] 4 (fun gj i wi => ∃ (m : Nat) (v2 : Value), m ≤ 4 ∧ gj = 4 - m ∧ i = .int .i64 m ∧ OwnSpans wi W9.heap.size v2 ((ecs hh cs).take m) ∧ BoxAt wi n7 #[.int .i64 x, .int .i64 x, v2] ∧ Keep (fun q => q = n7) W9 wi)
          case atStart => exact ⟨0, .slice none 0 0, Nat.zero_le _, rfl, rfl, OwnSpans.nil _ _, K79.out, Keep.refl _ _⟩
          case round =>
            obtain ⟨m, v2, hm, hgm, rfl, hos, hb7, hkp⟩ := hrel
            have Hgm := Lib.hid hgm
            have Hos := Lib.hid hos
            have Hb7 := Lib.hid hb7
            have Hkp := Lib.hid hkp
            have HWi := Lib.hid (HW9.out.trans (hkp.below (n := w.heap.size) (fun k _ e => by have := HW.out.size; have := HN.out; omega) HW9.out.size))
            obtain ⟨c2, f2, l2⟩ := K29.out.keep hkp (by have := Kr.out.lt; have := HN.out; omega)
            have q2 := cell_below HWi.out P2.out
            have bq := World.block_lt_of_cell? _ _ q2
            simp only at bq
            have hc4 := Hc4.out
            clear hgm hos hb7 hkp
            by_cases hlm : m < 4
            · have hmi : (m : Int) < 4 := by omega
              obtain ⟨y, hy⟩ : ∃ y, y = endOf (!hh) (gs cs m).1 (gs cs m).2 := ⟨_, rfl⟩
              have Hy := Lib.hid hy
              rw [Hhh.out] at hy
              simp only [endOf, cond_true, cond_false, Bool.not_true, Bool.not_false] at hy
              have r0 := cell_below HWi.out (Hcc.out m (by omega)).1
              have r1 := cell_below HWi.out (Hcc.out m (by omega)).2
              have br := World.block_lt_of_cell? _ _ r0
              simp only at br
              have hmc : (m : Int) < cs.length := by omega
              go_upto_region 20 with (fail)
              rw [← hy]
              have hs9 := Hkp.out.size
              have hn7 := Hn7.out
              obtain ⟨c7, f7, l7⟩ := Hb7.out
              clear hy r0 r1 br c2 f2 l2 q2 bq
              refine region_plain (S := fun w' => Below W9.heap.size wr w') 8 (by kernel_rfl) ?_ (fun hHeld => ?_)
              · exact (Below.refl _ _).drew
              first | (refine anyT_take 0 (some 89) (v := ?_) rfl rfl (by kernel_rfl) (by kernel_rfl) (by kernel_rfl) (by kernel_rfl) (fun _ _ _ h => h) (Or.inl ⟨by rfl, ?_⟩) hHeld ?_; rotate_left; focus (intro wq hSw; obtain ⟨hcq, hfq⟩ := bcellB hSw; go_simp; (try with_reducible rfl); done))
              (try simp only [Act.put, List.setIfInBounds_toArray, List.set_cons_zero, List.set_cons_succ])
              first | (refine anyT_take 1 (some 90) (v := ?_) rfl rfl (by kernel_rfl) (by kernel_rfl) (by kernel_rfl) (by kernel_rfl) (fun _ _ _ h => h) (Or.inl ⟨by rfl, ?_⟩) hHeld ?_; rotate_left; focus (intro wq hSw; obtain ⟨hcq, hfq⟩ := bcellB hSw; go_simp; (try with_reducible rfl); done))
              (try simp only [Act.put, List.setIfInBounds_toArray, List.set_cons_zero, List.set_cons_succ])
              first | (refine anyT_take 2 (some 91) (v := ?_) rfl rfl (by kernel_rfl) (by kernel_rfl) (by kernel_rfl) (by kernel_rfl) (fun _ _ _ h => h) (Or.inl ⟨by rfl, ?_⟩) hHeld ?_; rotate_left; focus (intro wq hSw; obtain ⟨hcq, hfq⟩ := bcellB hSw; go_simp; (try with_reducible rfl); done))
              (try simp only [Act.put, List.setIfInBounds_toArray, List.set_cons_zero, List.set_cons_succ])
              first | (refine anyT_take 3 (some 92) (v := ?_) rfl rfl (by kernel_rfl) (by kernel_rfl) (by kernel_rfl) (by kernel_rfl) (fun _ _ _ h => h) (Or.inl ⟨by rfl, ?_⟩) hHeld ?_; rotate_left; focus (intro wq hSw; obtain ⟨hcq, hfq⟩ := bcellB hSw; go_simp; (try with_reducible rfl); done))
              (try simp only [Act.put, List.setIfInBounds_toArray, List.set_cons_zero, List.set_cons_succ])
              refine anyT_one 4 (by kernel_rfl) rfl (fun K hK => ?_)
              go_simp
              refine (Band_calls _ _ _).mono ?_; rintro e w10 ⟨rfl, hb10⟩; have ho10 := (Hos.out.below (Below.refl _ _).drew).below hb10
              refine hK.out _ _ ?_ (fun hHeld => ?_)
              · exact hHeld.trans (hb10.mono (Nat.le_trans hs9 hHeld.size))
              clear hK K
              (try simp only [Act.put, List.setIfInBounds_toArray, List.set_cons_zero, List.set_cons_succ])
              refine anyT_one 5 (by kernel_rfl) rfl (fun K hK => ?_)
              go_simp
              refine hK.out _ _ ?_ (fun hHeld => ?_)
              · exact hHeld.alloc (Nat.le_trans hs9 hHeld.size) _
              clear hK K
              (try simp only [Act.put, List.setIfInBounds_toArray, List.set_cons_zero, List.set_cons_succ])
              refine anyT_one 6 (by kernel_rfl) rfl (fun K hK => ?_)
              rw [if_pos (by rfl)]; refine wp_appS _ _ _ rfl W9.heap.size _ _ rfl (ho10.below ((Below.refl _ _).alloc (Nat.le_refl _) _)) _ _ _ _ rfl ((BoxAt.new _ _ _).cell 0) ((BoxAt.new _ _ _).cell 1) (by rw [List.length_take]; omega) (Nat.le_trans hs9 hHeld.size) ?_; intro v3 w11 ho hb11; have ho' := ho; obtain ⟨g3, c3, rfl, _⟩ := ho.reads (by simp); generalize hn3 : (List.take m (ecs hh cs) ++ [(y, y)]).length = n3 at *
              go_simp
              refine hK.out _ _ ?_ (fun hHeld => ?_)
              · exact hHeld.trans hb11
              clear hK K
              (try simp only [Act.put, List.setIfInBounds_toArray, List.set_cons_zero, List.set_cons_succ])
              first | (refine anyT_take 7 (some 96) (v := ?_) rfl rfl (by kernel_rfl) (by kernel_rfl) (by kernel_rfl) (by kernel_rfl) (fun _ _ _ h => h) (Or.inl ⟨by rfl, ?_⟩) hHeld ?_; rotate_left; focus (intro wq hSw; obtain ⟨hcq, hfq⟩ := bcellB hSw; go_simp; (try with_reducible rfl); done))
              (try simp only [Act.put, List.setIfInBounds_toArray, List.set_cons_zero, List.set_cons_succ])
              refine anyT_last (by kernel_rfl) rfl (fun K hK => ?_)
              obtain ⟨hcq, hfq⟩ := bcellB hHeld
              go_simp
              refine hK.out _ _ ?_
              clear hK K
              (try simp only [Act.put, List.setIfInBounds_toArray, List.set_cons_zero, List.set_cons_succ])
              refine anyT_done (by kernel_rfl) ?_ _
              have hset := (Hb7.out.belowB hHeld hn7).put 2 (.slice (some ⟨g3, 0, none⟩) n3 c3) (by simp)
              simp only [List.setIfInBounds_toArray, List.set_cons_zero, List.set_cons_succ] at hset
              have hk11 : Keep (fun q => q = n7) w11 (w11.setCell ⟨n7, 2, none⟩ (.slice (some ⟨g3, 0, none⟩) n3 c3)) := Keep.setCell (M := fun q => q = n7) (Keep.refl _ _) (p := ⟨n7, 2, none⟩) (.inl rfl) _
              have hos' := ho'.keep hk11 (fun q e => by omega)
              have hkp' := (Hkp.out.of_belowB hHeld (Nat.le_refl _)).trans hk11
              have he := ecs_take_succ hh cs (k := m) (by omega)
              rw [← Hy.out] at he
              have He := Lib.hid he
              have Hset := Lib.hid hset
              have Hos' := Lib.hid hos'
              have Hkp' := Lib.hid hkp'
              clear hset hk11 hos' hkp' he ho ho' hHeld c7 f7 l7 hb11 ho10
              go_wp2
              go_roundg (4 - (m + 1))
              case measure => have := Hgm.out; omega
              case rel => exact ⟨m + 1, _, by omega, rfl, by go_num, by rw [He.out]; exact Hos'.out, Hset.out, Hkp'.out⟩
            · obtain rfl : m = 4 := by omega
              go_wp2
              go_meet
              exact ⟨v2, by have := Hos.out; rw [List.take_of_length_le (by rw [ecs_len]; omega)] at this; exact this, Hb7.out, Hkp.out⟩
        case rest =>
          obtain ⟨v2, hos, hb7, hkp⟩ := hcut
          obtain ⟨g2, cc2, rfl, hspans, hcap, hg2, hg2s⟩ := hos.reads (by rw [ecs_len, Hc4.out]; omega)
          generalize wc = W10 at *
          have b10 : Below wr.heap.size wr W10 := Hb9.out.trans (hkp.below (n := wr.heap.size) (fun k _ e => by have := HN.out; omega) Hb9.out.size)
          have B10 := Lib.hid b10
          have Hb7 := Lib.hid hb7
          have Hsp := Lib.hid hspans
          have Hg2 := Lib.hid (show W9.heap.size ≤ g2 ∧ g2 < W10.heap.size ∧ (ecs hh cs).length ≤ cc2 from ⟨hg2, hg2s, hcap⟩)
          have Hown10 := Lib.hid (Hown.out.below b10)
          have K510 := Lib.hid (Hbx.out.below b10)
          have hw6 : W6.heap.size ≤ W10.heap.size := Nat.le_trans Hkp.out.size b10.size
          have Hw6 := Lib.hid hw6
          obtain ⟨c5, f5, l5⟩ := K510.out
          obtain ⟨c7, f7, l7⟩ := Hb7.out
          clear hos hb7 hkp hspans hcap hg2 hg2s b10 hw6
          go_wp2_with (at_builtin; refine wpList_appP _ rfl _ _ rfl W6.heap.size v ps rfl (Hown10.out.below ((Below.refl _ _).alloc (Nat.le_refl _) _)) _ _ ⟨x, x, some ⟨g2, 0, none⟩, cc2, ecs hh cs⟩ rfl (BoxAt.new _ _ _) (by have := Hed.out.1; omega) (by have := Hw6.out; simp; omega) ⟨⟨Hsp.out.below ((Below.refl _ _).alloc (Nat.le_refl _) _), Hg2.out.2.2⟩, g2, rfl, (fun e => by have h1 := (World.ownsRow.lt Hown.out.1 g2 e).2; have h2 := Hg2.out.1; have h3 := Hb9.out.size; omega), by have h1 := Hg2.out.1; have h2 := Hb9.out.size; have h3 := Hkp.out.size; omega, by have := Hg2.out.2.1; simp; omega⟩ ?_)
          intro v' w12 ho12 hb12 hblk
          obtain ⟨A', c', rfl, -⟩ := ho12.reads
          have k512 := (K510.out.below ((Below.refl _ _).alloc (Nat.le_refl _) (.cells #[.int .i64 x, .int .i64 x, .slice (some ⟨g2, 0, none⟩) (ecs hh cs).length cc2] 68))).belowB hb12 Hn5.out
          have hkp12 := ((Hkp.out.of_belowX B10.out).alloc (.cells #[.int .i64 x, .int .i64 x, .slice (some ⟨g2, 0, none⟩) (ecs hh cs).length cc2] 68)).of_belowB hb12 (Nat.le_refl _)
          generalize hn3 : (ps ++ [(⟨x, x, some ⟨g2, 0, none⟩, cc2, ecs hh cs⟩ : PlayerV)]).length = n3 at *
          have hk13 : Keep (fun q => q = w.heap.size + 1 + 1) w12 (w12.setCell ⟨w.heap.size + 1 + 1, 10, none⟩ (.slice A' n3 c')) := Keep.setCell (M := fun q => q = w.heap.size + 1 + 1) (Keep.refl _ _) (p := ⟨w.heap.size + 1 + 1, 10, none⟩) (.inl rfl) _
          have hset := k512.put 10 (.slice A' n3 c') (by simp)
          simp only [List.setIfInBounds_toArray, List.set_cons_zero, List.set_cons_succ] at hset
          have hown13 := ho12.keep hk13 (fun q e => by have := Hn5.out; omega)
          have hed13 := Hed.out.snoc (some ⟨g2, 0, none⟩) cc2
          rw [← Hx.out, ← Hcse.out] at hed13
          have Hset := Lib.hid hset
          have Hown13 := Lib.hid hown13
          have Hed13 := Lib.hid hed13
          have Hkp13 := Lib.hid (hkp12.trans hk13)
          clear c5 f5 l5 c7 f7 l7 hset hown13 hed13 hkp12 hk13 ho12 hb12 hblk
          obtain ⟨c5, f5, l5⟩ := k512
          go_wp2
          go_roundg (B.players.length - (k + 1))
          case measure => have := Hgk.out; have := Hlt.out; omega
          case rel => exact ⟨k + 1, _, _, by have := Hlt.out; omega, rfl, by go_num, Hed13.out, Hown13.out, Hset.out, Hkp13.out⟩
      · obtain rfl : k = B.players.length := by omega
        obtain ⟨A', c', rfl, -⟩ := Hown.out.reads
        have hlen := Hed.out.1
        have k4 := K46.out.keep Hkp.out (by omega)
        have hs := put11_box k4 rfl (.int .i64 B.parts) (.int .i64 B.size) (.slice B.bA B.beats.length B.bCap) (.int .i64 B.start) (.int .i64 B.fin) (.int .i64 B.tlo) (.int .i64 B.thi) (.int .i64 s) (.int .i64 s) (.int .i64 B.notice) (.slice A' ps.length c')
        have hkp := put11_keep wr (w.heap.size + 1) (.int .i64 B.parts) (.int .i64 B.size) (.slice B.bA B.beats.length B.bCap) (.int .i64 B.start) (.int .i64 B.fin) (.int .i64 B.tlo) (.int .i64 B.thi) (.int .i64 s) (.int .i64 s) (.int .i64 B.notice) (.slice A' ps.length c')
        have Hss := Lib.hid hs
        have Hkpp := Lib.hid hkp
        have Hlen := Lib.hid hlen
        obtain ⟨c2, f2, l2⟩ := Kr.out
        obtain ⟨c5, f5, l5⟩ := Hbx.out
        obtain ⟨c4, f4, l4⟩ := k4
        clear hs hkp hlen
        go_wp2
        change bodyPost _ _ _ _ _ (put11 wr (w.heap.size + 1) (.int .i64 B.parts) (.int .i64 B.size) (.slice B.bA B.beats.length B.bCap) (.int .i64 B.start) (.int .i64 B.fin) (.int .i64 B.tlo) (.int .i64 B.thi) (.int .i64 s) (.int .i64 s) (.int .i64 B.notice) (.slice A' ps.length c'))
        have hs := Hss.out
        have hkp := Hkpp.out
        clear Hss Hkpp
        generalize put11 wr (w.heap.size + 1) (.int .i64 B.parts) (.int .i64 B.size) (.slice B.bA B.beats.length B.bCap) (.int .i64 B.start) (.int .i64 B.fin) (.int .i64 B.tlo) (.int .i64 B.thi) (.int .i64 s) (.int .i64 s) (.int .i64 B.notice) (.slice A' ps.length c') = W8 at *
        have ka := hs.1.cell
        have hown8 := Hown.out.keep hkp (fun q e => by have := Hn5.out; omega)
        obtain ⟨A2, c2, e2, hpl⟩ := hown8.reads
        cases e2
        have hfin : Below w.heap.size w W8 := HW.out.trans (hs.2.mono (by omega))
        have hsE := Hs.out
        have hhE := Hhh.out
        have hed := Hed.out
        refine bodyPost_ret (v := (bookEdge B hh A' c' ps).val) (by simp [results, Tryd.results48, go_sem, ka, bookEdge, BookV.val, BookV.cells, ← hsE]) rfl ⟨⟨A', c', ps, hhE ▸ hed, hhE ▸ rfl, ?_⟩, hfin⟩
        rw [← hhE]
        exact ⟨HB.out.1.below hfin, hpl⟩
end Go.Proofs.YtljikigmfkfkiaaDoor
