import Derived.Test.YtljikigmfkfkiaaDoorCI
import Derived.Test.YtljikigmfkfkiaaDoorBD
import Derived.Test.YtljikigmfkfkiaaDoorAT
import Derived.StillTailTactics
namespace Go.Proofs.YtljikigmfkfkiaaDoor
open Go.RowKit Go.Shelf
attribute [local go_sem] Oper.semAt_some
set_option linter.unusedSimpArgs false
set_option linter.unusedVariables false

/-! A book in which a player is late between two numbers. -/
theorem bookHeld_val (B : BookV) (g c j : Nat) (lo hi : Int) : (bookHeld B g c j lo hi).val = .agg #[.int .i64 B.parts, .int .i64 B.size, .slice B.bA B.beats.length B.bCap, .int .i64 B.start, .int .i64 B.fin, .int .i64 B.tlo, .int .i64 B.thi, .int .i64 B.slo, .int .i64 B.shi, .int .i64 B.notice, .slice (some ⟨g, 0, none⟩) B.players.length c] := by
  simp [bookHeld, BookV.val, BookV.cells, setL_len]
theorem bookHeld_reads {B : BookV} {w0 W : World} (hB : B.Reads w0) (hb : Below w0.heap.size w0 W) {g c j : Nat} {lo hi : Int} (hj : j < B.players.length) (hp : PBox W g (setL B.players j lo hi)) : (bookHeld B g c j lo hi).Reads W := by
  refine ⟨hB.1.below hb, hp.players (by rw [setL_len]; exact hB.2.1) fun p hp => ?_⟩
  have h := hB.2.below hb
  rcases List.mem_or_eq_of_mem_set hp with h1 | rfl
  · exact h.2.2 p h1
  · exact h.2.2 (gp B.players j) (gp_mem hj)
theorem PBox.set3 {W : World} {g : Nat} {l : List PlayerV} (h : PBox W g l) (j : Nat) (hj : j < l.length) (lo hi : Int) :
    PBox (((W.setCell ⟨g, j * 3, none⟩ (.int .i64 lo)).setCell ⟨g, j * 3 + 1, none⟩ (.int .i64 hi)).setCell ⟨g, j * 3 + 2, none⟩ (.slice (gp l j).cA (gp l j).catches.length (gp l j).cCap)) g (setL l j lo hi) := by
  have h2 := h.set j hj lo hi
  obtain ⟨cur, t, hb, hc⟩ := h2
  refine ⟨cur, t, ?_, hc⟩
  have h3 := heap_setCell_at _ g (j * 3 + 2) (.slice (gp l j).cA (gp l j).catches.length (gp l j).cCap) hb
  rw [h3]
  have hjl : j < (setL l j lo hi).length := by rw [setL_len]; exact hj
  have h4 := (hc j hjl).2.2
  rw [gp_set _ _ _ _ _ hj, if_pos rfl] at h4
  have : cur.setIfInBounds (j * 3 + 2) (.slice (gp l j).cA (gp l j).catches.length (gp l j).cCap) = cur := by
    apply Array.ext_getElem?
    intro i
    rw [Array.getElem?_setIfInBounds]
    split
    · rename_i e; subst e
      rw [if_pos (Array.getElem?_eq_some_iff.1 h4).1, h4]
    · rfl
  rw [this]
def zbook : Array Value := #[.int .i64 0, .int .i64 0, .slice none 0 0, .int .i64 0, .int .i64 0, .int .i64 0, .int .i64 0, .int .i64 0, .int .i64 0, .int .i64 0, .slice none 0 0]
set_option maxRecDepth 100000 in
set_option maxHeartbeats 4000000 in
theorem held_calls (B : BookV) (hl : 0 < B.players.length ∧ B.players.length ≤ 5) (j : Nat) (hj : j < B.players.length) (lo up : Int) (w : World) (hB : B.Reads w) :
    Calls Tryd.prog 52 #[B.val, .int .i64 (j : Int), .agg #[.int .i64 lo, .int .i64 up]] w fun e w' => (∃ g c, e = .returned (bookHeld B g c j lo up).val ∧ (bookHeld B g c j lo up).Reads w') ∧ Below w.heap.size w w' := by
  have HB := Lib.hid hB
  have Hl := Lib.hid hl
  have Hj := Lib.hid hj
  obtain ⟨hb1, hb2⟩ := hB
  obtain ⟨left, hc, _⟩ := hb2
  obtain ⟨b, o, hpA, hcs⟩ := hc.resolve_left (by intro h; rw [h] at hl; simp at hl)
  have hcc := pcells_at hcs
  have Hcc := Lib.hid hcc
  have Hcs := Lib.hid (hcs j hj)
  have HpA := Lib.hid hpA
  have hji : (j : Int) < B.players.length := by omega
  clear hb1 hc hcs hcc hpA
  obtain ⟨i0, hi, hz0, hz1, hz2⟩ := info_parts info68
  go_enter Tryd.func52, Tryd.ntmps52
  unfold BookV.val BookV.cells
  rw [HpA.out]
  have hb4 : Below w.heap.size w ((((w.alloc (.cells B.cells 27)).alloc (.cells #[.int .i64 lo, .int .i64 up] 24)).alloc (.cells zbook 27)).alloc (.cells B.cells 27)) :=
    ((((Below.refl _ _).alloc (Nat.le_refl _) _).alloc (by simp) _).alloc (by simp; omega) _).alloc (by simp; omega) _
  have k0 := (((BoxAt.new w B.cells 27).alloc (.cells #[.int .i64 lo, .int .i64 up] 24)).alloc (.cells zbook 27)).alloc (.cells B.cells 27)
  have k1 := ((BoxAt.new (w.alloc (.cells B.cells 27)) #[.int .i64 lo, .int .i64 up] 24).alloc (.cells zbook 27)).alloc (.cells B.cells 27)
  have k2 := (BoxAt.new ((w.alloc (.cells B.cells 27)).alloc (.cells #[.int .i64 lo, .int .i64 up] 24)) zbook 27).alloc (.cells B.cells 27)
  have k3 := BoxAt.new (((w.alloc (.cells B.cells 27)).alloc (.cells #[.int .i64 lo, .int .i64 up] 24)).alloc (.cells zbook 27)) B.cells 27
  have hsz : ((((w.alloc (.cells B.cells 27)).alloc (.cells #[.int .i64 lo, .int .i64 up] 24)).alloc (.cells zbook 27)).alloc (.cells B.cells 27)).heap.size = w.heap.size + 1 + 1 + 1 + 1 := by simp
  simp only [World.size_alloc] at k1 k2 k3
  unfold BookV.cells zbook at hb4 k0 k1 k2 k3 hsz
  rw [HpA.out] at hb4 k0 k1 k2 k3 hsz
  go_upto_region 2 with (fail)
  generalize ((((w.alloc _).alloc _).alloc _).alloc _) = W4 at *
  have Hb4 := Lib.hid hb4
  have K0 := Lib.hid k0
  have K1 := Lib.hid k1
  have K2 := Lib.hid k2
  have K3 := Lib.hid k3
  have Hsz := Lib.hid hsz
  have hbe : Below W4.heap.size W4 (W4.alloc (.cells #[] 68)) := (Below.refl _ _).alloc (Nat.le_refl _) _
  have hown := World.ownsRow_made (w := W4) (base := W4.heap.size) (e := 68) (size := 3) #[] 0 (Nat.le_refl _) (Nat.zero_le _) rfl
  have Hown := Lib.hid hown
  have Hbe := Lib.hid hbe
  obtain ⟨c0, f0, l0⟩ := k0
  clear hown hbe hb4 k1 k2 k3 hsz
  go_wp2_with (at_builtin; refine wpList_append_own _ rfl _ _ 25 rfl W4.heap.size 68 i0 (.agg #[.int .i64 0, .int .i64 0, .slice none 0 0]) 3 40 under25 hi hz0 hz1 hz2 rfl (by decide) _ 0 [] rfl Hown.out ⟨b, o, none⟩ B.players.length B.pCap (pcells B.players) rfl (pcells_len B.players) (fun j u hu => cell_below (below_then Hb4.out Hb4.out.size Hbe.out) (Hcc.out j u hu)) (by intro u hu; simp only [pcells, List.mem_flatMap, List.mem_cons, List.not_mem_nil, or_false] at hu; obtain ⟨p, _, h⟩ := hu; rcases h with rfl | rfl | rfl <;> rfl) (by unfold maxLen; omega) (by omega) (by simp) ?_)
  intro v' w5 ho hg hn
  obtain ⟨h1, h2⟩ := ho
  have hb5 : Below W4.heap.size W4 w5 := Hbe.out.grown hg (by simp) (by rintro k ⟨⟩; exact Nat.le_refl _)
  rcases h2 with ⟨rfl, hz⟩ | ⟨g, cap, cur, rfl, hgw, hbl, hcap, hmax, hs, ht⟩
  · have := Hl.out; omega
  have hP : PBox w5 g B.players := by
    refine ⟨cur, _, hbl, fun j hj => ?_⟩
    have key : ∀ i, i < B.players.length * 3 → cur[i]? = (pcells B.players)[i]? := by
      intro i hi
      rw [← ht, List.getElem?_take, if_pos hi, Array.getElem?_toList]
    obtain ⟨g0, g1, g2⟩ := pcells_get B.players j hj
    exact ⟨(key _ (by omega)).trans g0, (key _ (by omega)).trans g1, (key _ (by omega)).trans g2⟩
  have HP := Lib.hid hP
  have Hb5 := Lib.hid hb5
  clear hg hn h1 hbl hs ht hP hb5 c0 f0 l0
  obtain ⟨c3, f3, l3⟩ := K3.out.below Hb5.out
  go_upto_region 3 with (fail)
  have k3 := (K3.out.below Hb5.out).put 10 (.slice (some ⟨g, 0, none⟩) B.players.length cap) (by simp)
  have hk : Keep (fun k => k = w.heap.size + 1 + 1 + 1) w5 (w5.setCell ⟨w.heap.size + 1 + 1 + 1, 10, none⟩ (.slice (some ⟨g, 0, none⟩) B.players.length cap)) :=
    Keep.setCell (M := fun k => k = w.heap.size + 1 + 1 + 1) (Keep.refl _ _) (p := ⟨w.heap.size + 1 + 1 + 1, 10, none⟩) (.inl rfl) _
  have k0 := (K0.out.below Hb5.out).keep hk (by omega)
  have k1 := (K1.out.below Hb5.out).keep hk (by omega)
  have k2 := (K2.out.below Hb5.out).keep hk (by omega)
  have p6 := HP.out.keep hk (by have := Hsz.out; omega)
  have hw6 : Below w.heap.size w (w5.setCell ⟨w.heap.size + 1 + 1 + 1, 10, none⟩ (.slice (some ⟨g, 0, none⟩) B.players.length cap)) :=
    (below_then Hb4.out Hb4.out.size Hb5.out).setCell (p := ⟨w.heap.size + 1 + 1 + 1, 10, none⟩) (show w.heap.size ≤ w.heap.size + 1 + 1 + 1 by omega) _
  generalize World.setCell _ _ _ = W6 at *
  have Hw6 := Lib.hid hw6
  have P6 := Lib.hid p6
  have Hg : Hid (w.heap.size + 1 + 1 + 1 + 1 ≤ g) := by have := Hsz.out; unfold Hid; omega
  have K26 := Lib.hid k2
  have K36 := Lib.hid k3
  obtain ⟨c0, f0, l0⟩ := k0
  obtain ⟨c1, f1, l1⟩ := k1
  obtain ⟨c3, f3, l3⟩ := k3
  simp only [List.setIfInBounds_toArray, List.set_cons_zero, List.set_cons_succ] at c3
  have hc2 := cell_below hw6 Hcs.out.2.2
  have bl := World.block_lt_of_cell? _ _ hc2
  simp only at bl
  obtain ⟨cur, tt, hgh, hgc⟩ := p6
  obtain ⟨q0, q1, q2⟩ := hgc j hj
  have gcell : ∀ i, W6.cell? ⟨g, i, none⟩ = cur[i]? := fun i => by simp [World.cell?, hgh]
  have gfr : ∀ i, W6.frozen? ⟨g, i, none⟩ = false := fun i => by simp [World.frozen?, hgh]
  have z0 : W6.cell? ⟨g, j * 3, none⟩ = _ := (gcell _).trans q0
  have z1 : W6.cell? ⟨g, j * 3 + 1, none⟩ = _ := (gcell _).trans q1
  have z2 : W6.cell? ⟨g, j * 3 + 2, none⟩ = _ := (gcell _).trans q2
  have gl := (Array.getElem?_eq_some_iff.1 hgh).1
  clear gcell q0 q1 q2 hgc hgh k2 hk hw6 hl left
  go_still_tail 12, (by kernel_rfl)
  change wpList _ _ _ _ _ W6.drew
  go_upto_region 4 with (fail)
  have hk7 : Keep (fun k => k = g) W6 (((W6.setCell ⟨g, j * 3, none⟩ (.int .i64 lo)).setCell ⟨g, j * 3 + 1, none⟩ (.int .i64 up)).setCell ⟨g, j * 3 + 2, none⟩ (.slice (gp B.players j).cA (gp B.players j).catches.length (gp B.players j).cCap)) :=
    Keep.setCell (M := fun k => k = g) (Keep.setCell (M := fun k => k = g) (Keep.setCell (M := fun k => k = g) (Keep.refl _ _) (p := ⟨g, j * 3, none⟩) (.inl rfl) _) (p := ⟨g, j * 3 + 1, none⟩) (.inl rfl) _) (p := ⟨g, j * 3 + 2, none⟩) (.inl rfl) _
  have hdr : ∀ W : World, Below W.heap.size W W.drew := fun W => (Below.refl _ _).drew
  have p7 := (P6.out.set3 j hj lo up).below (hdr _)
  have k27 := (K26.out.keep hk7 (by have := Hg.out; omega)).below (hdr _)
  have k37 := (K36.out.keep hk7 (by have := Hg.out; omega)).below (hdr _)
  have hw7 := below_then (Hw6.out.trans (hk7.below (fun k _ e => by have := Hg.out; omega) Hw6.out.size)) (Nat.le_trans Hw6.out.size hk7.size) (hdr _)
  have Hw7 := Lib.hid hw7
  have P7 := Lib.hid p7
  have K27 := Lib.hid k27
  clear c0 f0 l0 c1 f1 l1 c3 f3 l3 z0 z1 z2 gl gfr hc2 bl hk7 hw7 p7 hdr
  generalize World.drew _ = W7 at *
  obtain ⟨c3, f3, l3⟩ := k37
  obtain ⟨c2, f2, l2⟩ := k27
  simp only [List.setIfInBounds_toArray, List.set_cons_zero, List.set_cons_succ] at c3
  have hs := put11_box K27.out rfl (.int .i64 B.parts) (.int .i64 B.size) (.slice B.bA B.beats.length B.bCap) (.int .i64 B.start) (.int .i64 B.fin) (.int .i64 B.tlo) (.int .i64 B.thi) (.int .i64 B.slo) (.int .i64 B.shi) (.int .i64 B.notice) (.slice (some ⟨g, 0, none⟩) B.players.length cap)
  have hkp := put11_keep W7 (w.heap.size + 1 + 1) (.int .i64 B.parts) (.int .i64 B.size) (.slice B.bA B.beats.length B.bCap) (.int .i64 B.start) (.int .i64 B.fin) (.int .i64 B.tlo) (.int .i64 B.thi) (.int .i64 B.slo) (.int .i64 B.shi) (.int .i64 B.notice) (.slice (some ⟨g, 0, none⟩) B.players.length cap)
  have Hs := Lib.hid hs
  have Hkp := Lib.hid hkp
  clear hs hkp
  go_wp2
  change bodyPost _ _ _ _ _ (put11 W7 (w.heap.size + 1 + 1) (.int .i64 B.parts) (.int .i64 B.size) (.slice B.bA B.beats.length B.bCap) (.int .i64 B.start) (.int .i64 B.fin) (.int .i64 B.tlo) (.int .i64 B.thi) (.int .i64 B.slo) (.int .i64 B.shi) (.int .i64 B.notice) (.slice (some ⟨g, 0, none⟩) B.players.length cap))
  have hs := Hs.out
  have hkp := Hkp.out
  clear Hs Hkp
  generalize put11 W7 (w.heap.size + 1 + 1) (.int .i64 B.parts) (.int .i64 B.size) (.slice B.bA B.beats.length B.bCap) (.int .i64 B.start) (.int .i64 B.fin) (.int .i64 B.tlo) (.int .i64 B.thi) (.int .i64 B.slo) (.int .i64 B.shi) (.int .i64 B.notice) (.slice (some ⟨g, 0, none⟩) B.players.length cap) = W8 at *
  have ka := hs.1.cell
  have hfin : Below w.heap.size w W8 := Hw7.out.trans (hs.2.mono (by omega))
  refine bodyPost_ret (v := (bookHeld B g cap j lo up).val) (by rw [bookHeld_val]; simp [results, Tryd.results52, go_sem, ka]) rfl ⟨⟨g, cap, rfl, bookHeld_reads HB.out hfin hj (P7.out.keep hkp (by have := Hg.out; omega))⟩, hfin⟩
end Go.Proofs.YtljikigmfkfkiaaDoor
