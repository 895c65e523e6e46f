import Derived.Test.YtljikigmfkfkiaaDoorCU
import Derived.Test.YtljikigmfkfkiaaDoorCR
import Derived.Test.YtljikigmfkfkiaaDoorBR
namespace Go.Proofs.YtljikigmfkfkiaaDoor
open Go.RowKit Go.Shelf
attribute [local go_sem] Oper.semAt_some
set_option linter.unusedSimpArgs false
set_option linter.unusedVariables false

theorem arr4 {cs : Array Value} (h : cs.size = 4) : ∃ x0 x1 x2 x3, cs = #[x0, x1, x2, x3] := by
  obtain ⟨l⟩ := cs
  match l, h with
  | [x0, x1, x2, x3], _ => exact ⟨_, _, _, _, rfl⟩
theorem isPlanR_ok' {B : BookV} (g : B.Good) {path : List Int} (ip : IsPath B path) : isPlanR B path = .tuple #[.bool (isPlanS B path), .int .i64 0] := by
  unfold isPlanR; rw [(goodB_iff B).2 g, (isPathS_iff g path).2 ip]; rfl
/-- the easier book, as the cut holds it -/
def CutX (B : BookV) (w : World) (n7 : Nat) (wc : World) : Prop := ∃ X : BookV, Easier B X ∧ X.Good ∧ BoxAt wc n7 X.cells ∧ X.Reads wc ∧ BoxAt wc w.heap.size B.cells ∧ Below w.heap.size w wc
theorem CutX.drew {B : BookV} {w W : World} {n7 : Nat} (h : CutX B w n7 W) : CutX B w n7 W.drew := by
  obtain ⟨X, h1, h2, h3, h4, h5, h6⟩ := h
  have hd : Below W.heap.size W W.drew := (Below.refl _ _).drew
  exact ⟨X, h1, h2, h3.below hd, h4.below hd, h5.below hd, h6.drew⟩
theorem bookX_reads {B : BookV} {w W : World} (hB : B.Reads w) (hb : Below w.heap.size w W) {g c : Nat} {ps : List PlayerV} {slo shi tlo thi : Int} (hp : PBox W g ps) (hl : ps.length ≤ B.players.length)
    (hs : ∀ p ∈ ps, SpansAt W p.cA p.catches ∧ p.catches.length ≤ p.cCap) : (bookX B (some ⟨g, 0, none⟩) c ps slo shi tlo thi).Reads W :=
  ⟨hB.1.below hb, hp.players (Nat.le_trans hl hB.2.1) hs⟩
def boxX (B : BookV) (g c n : Nat) : Array Value := #[.int .i64 B.parts, .int .i64 B.size, .slice B.bA B.beats.length B.bCap, .int .i64 B.start, .int .i64 B.fin, .int .i64 B.tlo, .int .i64 B.thi, .int .i64 B.slo, .int .i64 B.shi, .int .i64 B.notice, .slice (some ⟨g, 0, none⟩) n c]
theorem two_keep (w : World) (n i : Nat) (x y : Value) : Keep (fun k => k = n) w ((w.setCell ⟨n, i, none⟩ x).setCell ⟨n, i + 1, none⟩ y) :=
  Keep.setCell (M := fun k => k = n) (Keep.setCell (M := fun k => k = n) (Keep.refl _ _) (p := ⟨n, i, none⟩) (.inl rfl) _) (p := ⟨n, i + 1, none⟩) (.inl rfl) _
theorem cut_slip {B : BookV} {w W : World} {n7 g cap : Nat} {x y : Int} (hB : B.Reads w) (gd : B.Good) (hb : Below w.heap.size w W) (k7 : BoxAt W n7 (boxX B g cap B.players.length)) (k3 : BoxAt W w.heap.size B.cells) (p : PBox W g B.players) (hn : w.heap.size < n7) (hg : n7 ≠ g)
    (hx : 0 ≤ x ∧ x ≤ y ∧ y ≤ B.shi) : CutX B w n7 ((W.setCell ⟨n7, 7, none⟩ (.int .i64 x)).setCell ⟨n7, 8, none⟩ (.int .i64 y)) := by
  have hk := two_keep W n7 7 (.int .i64 x) (.int .i64 y)
  have hw := hb.trans (hk.below (n := w.heap.size) (fun k _ e => by omega) hb.size)
  have g2 := gd.time
  have g3 := gd.many
  have ht : 0 ≤ B.tlo ∧ B.tlo ≤ B.tlo ∧ B.thi ≤ B.thi ∧ B.thi ≤ 128000 := by omega
  refine ⟨bookX B (some ⟨g, 0, none⟩) cap B.players x y B.tlo B.thi, bookX_easier hx ht ⟨g3.1, Nat.le_refl _⟩ (fun j hj => PlBet.refl gd hj), bookX_good gd hx ht ⟨g3.1, Nat.le_refl _⟩ (fun j hj => PlBet.refl gd hj), ?_, bookX_reads hB hw (p.keep hk (by omega)) (Nat.le_refl _) (fun p hp => (hB.2.below hw).2.2 p hp), k3.keep hk (by omega), hw⟩
  exact (k7.put 7 (.int .i64 x) (by simp [boxX])).put 8 (.int .i64 y) (by simp [boxX])
theorem cut_time {B : BookV} {w W : World} {n7 g cap : Nat} {x y : Int} (hB : B.Reads w) (gd : B.Good) (hb : Below w.heap.size w W) (k7 : BoxAt W n7 (boxX B g cap B.players.length)) (k3 : BoxAt W w.heap.size B.cells) (p : PBox W g B.players) (hn : w.heap.size < n7) (hg : n7 ≠ g)
    (hx : 0 ≤ x ∧ x ≤ B.tlo ∧ B.thi ≤ y ∧ y ≤ 128000) : CutX B w n7 ((W.setCell ⟨n7, 5, none⟩ (.int .i64 x)).setCell ⟨n7, 6, none⟩ (.int .i64 y)) := by
  have hk := two_keep W n7 5 (.int .i64 x) (.int .i64 y)
  have hw := hb.trans (hk.below (n := w.heap.size) (fun k _ e => by omega) hb.size)
  have g2 := gd.slip
  have g3 := gd.many
  have hs : 0 ≤ B.slo ∧ B.slo ≤ B.shi ∧ B.shi ≤ B.shi := by omega
  refine ⟨bookX B (some ⟨g, 0, none⟩) cap B.players B.slo B.shi x y, bookX_easier hs hx ⟨g3.1, Nat.le_refl _⟩ (fun j hj => PlBet.refl gd hj), bookX_good gd hs hx ⟨g3.1, Nat.le_refl _⟩ (fun j hj => PlBet.refl gd hj), ?_, bookX_reads hB hw (p.keep hk (by omega)) (Nat.le_refl _) (fun p hp => (hB.2.below hw).2.2 p hp), k3.keep hk (by omega), hw⟩
  exact (k7.put 5 (.int .i64 x) (by simp [boxX])).put 6 (.int .i64 y) (by simp [boxX])
theorem cut_take {B : BookV} {w W : World} {n7 g cap m : Nat} (hB : B.Reads w) (gd : B.Good) (hb : Below w.heap.size w W) (k7 : BoxAt W n7 (boxX B g cap B.players.length)) (k3 : BoxAt W w.heap.size B.cells) (p : PBox W g B.players) (hn : w.heap.size < n7) (hg : n7 ≠ g)
    (hm : 1 ≤ m ∧ m ≤ B.players.length) : CutX B w n7 (W.setCell ⟨n7, 10, none⟩ (.slice (some ⟨g, 0, none⟩) m cap)) := by
  have hk : Keep (fun k => k = n7) W (W.setCell ⟨n7, 10, none⟩ (.slice (some ⟨g, 0, none⟩) m cap)) := Keep.setCell (M := fun k => k = n7) (Keep.refl _ _) (p := ⟨n7, 10, none⟩) (.inl rfl) _
  have hw := hb.trans (hk.below (n := w.heap.size) (fun k _ e => by omega) hb.size)
  have g2 := gd.slip
  have g4 := gd.time
  have hs : 0 ≤ B.slo ∧ B.slo ≤ B.shi ∧ B.shi ≤ B.shi := by omega
  have ht : 0 ≤ B.tlo ∧ B.tlo ≤ B.tlo ∧ B.thi ≤ B.thi ∧ B.thi ≤ 128000 := by omega
  have hl : (B.players.take m).length = m := by rw [List.length_take]; omega
  have hbet : ∀ j, j < (B.players.take m).length → PlBet (gp B.players j) (gp (B.players.take m) j) := by
    intro j hj
    rw [hl] at hj
    rw [gp_take _ hj]
    exact PlBet.refl gd (by omega)
  refine ⟨bookX B (some ⟨g, 0, none⟩) cap (B.players.take m) B.slo B.shi B.tlo B.thi, bookX_easier hs ht (by rw [hl]; exact hm) hbet, bookX_good gd hs ht (by rw [hl]; exact hm) hbet, ?_, bookX_reads hB hw ((p.take m).keep hk (by omega)) (by rw [hl]; exact hm.2) (fun p hp => (hB.2.below hw).2.2 p (List.mem_of_mem_take hp)), k3.keep hk (by omega), hw⟩
  have h := k7.put 10 (.slice (some ⟨g, 0, none⟩) m cap) (by simp [boxX])
  show BoxAt _ n7 #[.int .i64 B.parts, .int .i64 B.size, .slice B.bA B.beats.length B.bCap, .int .i64 B.start, .int .i64 B.fin, .int .i64 B.tlo, .int .i64 B.thi, .int .i64 B.slo, .int .i64 B.shi, .int .i64 B.notice, .slice (some ⟨g, 0, none⟩) (B.players.take m).length cap]
  rw [hl]
  exact h
theorem cut_same {B : BookV} {w W : World} {n7 g cap : Nat} (hB : B.Reads w) (gd : B.Good) (hb : Below w.heap.size w W) (k7 : BoxAt W n7 (boxX B g cap B.players.length)) (k3 : BoxAt W w.heap.size B.cells) (p : PBox W g B.players) : CutX B w n7 W := by
  have g2 := gd.slip
  have g3 := gd.many
  have g4 := gd.time
  have hs : 0 ≤ B.slo ∧ B.slo ≤ B.shi ∧ B.shi ≤ B.shi := by omega
  have ht : 0 ≤ B.tlo ∧ B.tlo ≤ B.tlo ∧ B.thi ≤ B.thi ∧ B.thi ≤ 128000 := by omega
  exact ⟨bookX B (some ⟨g, 0, none⟩) cap B.players B.slo B.shi B.tlo B.thi, bookX_easier hs ht ⟨g3.1, Nat.le_refl _⟩ (fun j hj => PlBet.refl gd hj), bookX_good gd hs ht ⟨g3.1, Nat.le_refl _⟩ (fun j hj => PlBet.refl gd hj), k7, bookX_reads hB hb p (Nat.le_refl _) (fun p hp => (hB.2.below hb).2.2 p hp), k3, hb⟩
theorem cut_player {B : BookV} {w W : World} {n7 g cap j : Nat} {q : PlayerV} (hB : B.Reads w) (gd : B.Good) (hb : Below w.heap.size w W) (k7 : BoxAt W n7 (boxX B g cap B.players.length)) (k3 : BoxAt W w.heap.size B.cells) (p : PBox W g B.players) (hn : w.heap.size < n7) (hg : n7 ≠ g) (hgw : w.heap.size < g)
    (hj : j < B.players.length) (hq : PlBet (gp B.players j) q) (hs : ∀ W', Keep (fun k => k = g) W W' → SpansAt W' q.cA q.catches ∧ q.catches.length ≤ q.cCap) :
    CutX B w n7 (((W.setCell ⟨g, j * 3, none⟩ (.int .i64 q.lo)).setCell ⟨g, j * 3 + 1, none⟩ (.int .i64 q.hi)).setCell ⟨g, j * 3 + 2, none⟩ (.slice q.cA q.catches.length q.cCap)) := by
  have hk : Keep (fun k => k = g) W (((W.setCell ⟨g, j * 3, none⟩ (.int .i64 q.lo)).setCell ⟨g, j * 3 + 1, none⟩ (.int .i64 q.hi)).setCell ⟨g, j * 3 + 2, none⟩ (.slice q.cA q.catches.length q.cCap)) :=
    Keep.setCell (M := fun k => k = g) (two_keep W g (j * 3) (.int .i64 q.lo) (.int .i64 q.hi)) (p := ⟨g, j * 3 + 2, none⟩) (.inl rfl) _
  have hw := hb.trans (hk.below (n := w.heap.size) (fun k _ e => by omega) hb.size)
  have g2 := gd.slip
  have g3 := gd.many
  have g4 := gd.time
  have hs0 : 0 ≤ B.slo ∧ B.slo ≤ B.shi ∧ B.shi ≤ B.shi := by omega
  have ht : 0 ≤ B.tlo ∧ B.tlo ≤ B.tlo ∧ B.thi ≤ B.thi ∧ B.thi ≤ 128000 := by omega
  have hl : (B.players.set j q).length = B.players.length := by simp
  refine ⟨bookX B (some ⟨g, 0, none⟩) cap (B.players.set j q) B.slo B.shi B.tlo B.thi, bookX_easier hs0 ht (by rw [hl]; exact ⟨g3.1, Nat.le_refl _⟩) (bet_set gd hj hq), bookX_good gd hs0 ht (by rw [hl]; exact ⟨g3.1, Nat.le_refl _⟩) (bet_set gd hj hq), ?_, bookX_reads hB hw (p.setQ j hj q) (by rw [hl]; exact Nat.le_refl _) (fun p hp => ?_), k3.keep hk (by omega), hw⟩
  · show BoxAt _ n7 #[.int .i64 B.parts, .int .i64 B.size, .slice B.bA B.beats.length B.bCap, .int .i64 B.start, .int .i64 B.fin, .int .i64 B.tlo, .int .i64 B.thi, .int .i64 B.slo, .int .i64 B.shi, .int .i64 B.notice, .slice (some ⟨g, 0, none⟩) (B.players.set j q).length cap]
    rw [hl]
    exact k7.keep hk hg
  · rcases List.mem_or_eq_of_mem_set hp with h1 | rfl
    · exact (hB.2.below hw).2.2 p h1
    · exact hs _ hk
set_option maxRecDepth 100000 in
set_option maxHeartbeats 16000000 in
theorem DrumEasier_calls (B : BookV) (A : Option Addr) (c : Nat) (bits : List Int) (n0 n1 n2 n3 : Int) (w : World) (hB : B.Reads w) (hp : IntsAt w A bits) (hM : MarksAt w) :
    Calls Tryd.prog 12 #[B.val, .slice A bits.length c, .agg #[.int .i64 n0, .int .i64 n1, .int .i64 n2, .int .i64 n3]] w fun e w' => e = .returned (.bool true) ∧ Below w.heap.size w w' := by
  have HB := Lib.hid hB
  have HP := Lib.hid hp
  have HM := Lib.hid hM
  have Hb : Below w.heap.size w ((w.alloc (.cells B.cells 27)).alloc (.cells #[.int .i64 n0, .int .i64 n1, .int .i64 n2, .int .i64 n3] 70)) := ((Below.refl _ _).alloc (Nat.le_refl _) _).alloc (by simp) _
  have k3 := (BoxAt.new w B.cells 27).alloc (.cells #[.int .i64 n0, .int .i64 n1, .int .i64 n2, .int .i64 n3] 70)
  have k5 := BoxAt.new (w.alloc (.cells B.cells 27)) #[.int .i64 n0, .int .i64 n1, .int .i64 n2, .int .i64 n3] 70
  rw [World.size_alloc] at k5
  clear hB hp hM
  unfold BookV.val BookV.cells
  go_enter Tryd.func12, Tryd.ntmps12
  unfold BookV.cells at Hb k3 k5
  go_upto_region 1 with (fail)
  generalize (w.alloc _).alloc _ = w0 at *
  have H := Hb
  have K3 := Lib.hid k3
  have K5 := Lib.hid k5
  clear Hb k3 k5
  obtain ⟨c3, f3, l3⟩ := K3.out
  go_wp2_with fail
  refine (eq0_1 (v' := B.val) (by unfold BookV.val BookV.cells; rfl) (sound_calls B _ (HB.out.below H))).mono ?_
  rintro e w1 ⟨rfl, hb⟩
  replace H := below_then H H.size hb
  replace K3 := Lib.hid (K3.out.below hb)
  replace K5 := Lib.hid (K5.out.below hb)
  clear hb c3 f3 l3
  cases hg : goodB B with
  | false =>
    have HH := Lib.hid H
    clear H hg
    go_wp2_with fail
    refine (works_calls _ (HM.out.below HH.out)).mono ?_
    rintro e w2 ⟨rfl, hb⟩
    have hfin := below_then HH.out HH.out.size hb
    clear hb
    go_wp2
    go_ret
    exact ⟨rfl, hfin⟩
  | true =>
    have Hgg := Lib.hid hg
    have g := Lib.hid ((goodB_iff B).1 hg)
    have hmany := g.out.many
    have H1 := Lib.hid H
    clear hg H
    obtain ⟨c3, f3, l3⟩ := K3.out
    go_upto_region 4 with (fail)
    have h7 : w.heap.size < w1.heap.size ∧ w.heap.size + 1 < w1.heap.size := ⟨K3.out.lt, K5.out.lt⟩
    have k7 := BoxAt.new w1 #[.int .i64 B.parts, .int .i64 B.size, .slice B.bA B.beats.length B.bCap, .int .i64 B.start, .int .i64 B.fin, .int .i64 B.tlo, .int .i64 B.thi, .int .i64 B.slo, .int .i64 B.shi, .int .i64 B.notice, .slice B.pA B.players.length B.pCap] 27
    have H2 := Lib.hid (H1.out.alloc H1.out.size (.cells #[.int .i64 B.parts, .int .i64 B.size, .slice B.bA B.beats.length B.bCap, .int .i64 B.start, .int .i64 B.fin, .int .i64 B.tlo, .int .i64 B.thi, .int .i64 B.slo, .int .i64 B.shi, .int .i64 B.notice, .slice B.pA B.players.length B.pCap] 27))
    replace K3 := Lib.hid (K3.out.alloc (.cells #[.int .i64 B.parts, .int .i64 B.size, .slice B.bA B.beats.length B.bCap, .int .i64 B.start, .int .i64 B.fin, .int .i64 B.tlo, .int .i64 B.thi, .int .i64 B.slo, .int .i64 B.shi, .int .i64 B.notice, .slice B.pA B.players.length B.pCap] 27))
    replace K5 := Lib.hid (K5.out.alloc (.cells #[.int .i64 B.parts, .int .i64 B.size, .slice B.bA B.beats.length B.bCap, .int .i64 B.start, .int .i64 B.fin, .int .i64 B.tlo, .int .i64 B.thi, .int .i64 B.slo, .int .i64 B.shi, .int .i64 B.notice, .slice B.pA B.players.length B.pCap] 27))
    clear c3 f3 l3
    generalize w1.alloc _ = w2 at *
    generalize w1.heap.size = n7 at *
    have K7 := Lib.hid k7
    have Hn7 := Lib.hid h7
    clear k7 h7
    obtain ⟨c3, f3, l3⟩ := K3.out
    obtain ⟨c5, f5, l5⟩ := K5.out
    refine region_plain (S := fun w' => Below w2.heap.size w2 w') 15 (by kernel_rfl) ?_ (fun hHeld => ?_)
    · exact (Below.refl _ _).drew
    first | (refine anyT_take 0 (some 29) (v := ?_) rfl rfl (by kernel_rfl) (by kernel_rfl) (by kernel_rfl) (by kernel_rfl) (fun _ _ _ h => h) (Or.inl ⟨by rfl, ?_⟩) hHeld ?_; rotate_left; focus (intro wq hSw; obtain ⟨hcq, hfq⟩ := bcell hSw; go_simp; (try with_reducible rfl); done))
    (try simp only [Act.put, List.setIfInBounds_toArray, List.set_cons_zero, List.set_cons_succ])
    first | (refine anyT_take 1 (some 30) (v := ?_) rfl rfl (by kernel_rfl) (by kernel_rfl) (by kernel_rfl) (by kernel_rfl) (fun _ _ _ h => h) (Or.inl ⟨by rfl, ?_⟩) hHeld ?_; rotate_left; focus (intro wq hSw; obtain ⟨hcq, hfq⟩ := bcell hSw; go_simp; (try with_reducible rfl); done))
    (try simp only [Act.put, List.setIfInBounds_toArray, List.set_cons_zero, List.set_cons_succ])
    first | (refine anyT_take 2 (some 31) (v := ?_) rfl rfl (by kernel_rfl) (by kernel_rfl) (by kernel_rfl) (by kernel_rfl) (fun _ _ _ h => h) (Or.inl ⟨by rfl, ?_⟩) hHeld ?_; rotate_left; focus (intro wq hSw; obtain ⟨hcq, hfq⟩ := bcell hSw; go_simp; (try with_reducible rfl); done))
    (try simp only [Act.put, List.setIfInBounds_toArray, List.set_cons_zero, List.set_cons_succ])
    first | (refine anyT_take 3 (some 32) (v := ?_) rfl rfl (by kernel_rfl) (by kernel_rfl) (by kernel_rfl) (by kernel_rfl) (fun _ _ _ h => h) (Or.inl ⟨by rfl, ?_⟩) hHeld ?_; rotate_left; focus (intro wq hSw; obtain ⟨hcq, hfq⟩ := bcell hSw; go_simp; (try with_reducible rfl); done))
    (try simp only [Act.put, List.setIfInBounds_toArray, List.set_cons_zero, List.set_cons_succ])
    first | (refine anyT_take 4 (some 33) (v := ?_) rfl rfl (by kernel_rfl) (by kernel_rfl) (by kernel_rfl) (by kernel_rfl) (fun _ _ _ h => h) (Or.inl ⟨by rfl, ?_⟩) hHeld ?_; rotate_left; focus (intro wq hSw; obtain ⟨hcq, hfq⟩ := bcell hSw; go_simp; (try with_reducible rfl); done))
    (try simp only [Act.put, List.setIfInBounds_toArray, List.set_cons_zero, List.set_cons_succ])
    first | (refine anyT_take 6 (some 35) (v := ?_) rfl rfl (by kernel_rfl) (by kernel_rfl) (by kernel_rfl) (by kernel_rfl) (fun _ _ _ h => h) (Or.inl ⟨by rfl, ?_⟩) hHeld ?_; rotate_left; focus (intro wq hSw; obtain ⟨hcq, hfq⟩ := bcell hSw; go_simp; (try with_reducible rfl); done))
    (try simp only [Act.put, List.setIfInBounds_toArray, List.set_cons_zero, List.set_cons_succ])
    first | (refine anyT_take 7 (some 36) (v := ?_) rfl rfl (by kernel_rfl) (by kernel_rfl) (by kernel_rfl) (by kernel_rfl) (fun _ _ _ h => h) (Or.inl ⟨by rfl, ?_⟩) hHeld ?_; rotate_left; focus (intro wq hSw; obtain ⟨hcq, hfq⟩ := bcell hSw; go_simp; (try with_reducible rfl); done))
    (try simp only [Act.put, List.setIfInBounds_toArray, List.set_cons_zero, List.set_cons_succ])
    first | (refine anyT_take 9 (some 38) (v := ?_) rfl rfl (by kernel_rfl) (by kernel_rfl) (by kernel_rfl) (by kernel_rfl) (fun _ _ _ h => h) (Or.inl ⟨by rfl, ?_⟩) hHeld ?_; rotate_left; focus (intro wq hSw; obtain ⟨hcq, hfq⟩ := bcell hSw; go_simp; (try with_reducible rfl); done))
    (try simp only [Act.put, List.setIfInBounds_toArray, List.set_cons_zero, List.set_cons_succ])
    first | (refine anyT_take 10 (some 39) (v := ?_) rfl rfl (by kernel_rfl) (by kernel_rfl) (by kernel_rfl) (by kernel_rfl) (fun _ _ _ h => h) (Or.inl ⟨by rfl, ?_⟩) hHeld ?_; rotate_left; focus (intro wq hSw; obtain ⟨hcq, hfq⟩ := bcell hSw; go_simp; (try with_reducible rfl); done))
    (try simp only [Act.put, List.setIfInBounds_toArray, List.set_cons_zero, List.set_cons_succ])
    refine anyT_one 5 (by kernel_rfl) rfl (fun K hK => ?_)
    go_simp
    refine (Turn_calls n1 B.players.length _ (by omega)).mono ?_; rintro e w3 ⟨rfl, rfl⟩
    refine hK.out _ _ ?_ (fun hHeld => ?_)
    · exact hHeld
    clear hK K
    (try simp only [Act.put, List.setIfInBounds_toArray, List.set_cons_zero, List.set_cons_succ])
    refine anyT_one 8 (by kernel_rfl) rfl (fun K hK => ?_)
    go_simp
    refine (Turn_calls n2 9 _ (by omega)).mono ?_; rintro e w3 ⟨rfl, rfl⟩
    refine hK.out _ _ ?_ (fun hHeld => ?_)
    · exact hHeld
    clear hK K
    (try simp only [Act.put, List.setIfInBounds_toArray, List.set_cons_zero, List.set_cons_succ])
    refine anyT_one 11 (by kernel_rfl) rfl (fun K hK => ?_)
    go_simp
    refine (Turn_calls n3 4 _ (by omega)).mono ?_; rintro e w3 ⟨rfl, rfl⟩
    refine hK.out _ _ ?_ (fun hHeld => ?_)
    · exact hHeld
    clear hK K
    (try simp only [Act.put, List.setIfInBounds_toArray, List.set_cons_zero, List.set_cons_succ])
    first | (refine anyT_take 12 (some 8) (v := ?_) rfl rfl (by kernel_rfl) (by kernel_rfl) (by kernel_rfl) (by kernel_rfl) (fun _ _ _ h => h) (Or.inl ⟨by rfl, ?_⟩) hHeld ?_; rotate_left; focus (intro wq hSw; obtain ⟨hcq, hfq⟩ := bcell hSw; go_simp; (try with_reducible rfl); done))
    (try simp only [Act.put, List.setIfInBounds_toArray, List.set_cons_zero, List.set_cons_succ])
    first | (refine anyT_take 13 (some 9) (v := ?_) rfl rfl (by kernel_rfl) (by kernel_rfl) (by kernel_rfl) (by kernel_rfl) (fun _ _ _ h => h) (Or.inl ⟨by rfl, ?_⟩) hHeld ?_; rotate_left; focus (intro wq hSw; obtain ⟨hcq, hfq⟩ := bcell hSw; go_simp; (try with_reducible rfl); done))
    (try simp only [Act.put, List.setIfInBounds_toArray, List.set_cons_zero, List.set_cons_succ])
    first | (refine anyT_take 14 (some 10) (v := ?_) rfl rfl (by kernel_rfl) (by kernel_rfl) (by kernel_rfl) (by kernel_rfl) (fun _ _ _ h => h) (Or.inl ⟨by rfl, ?_⟩) hHeld ?_; rotate_left; focus (intro wq hSw; obtain ⟨hcq, hfq⟩ := bcell hSw; go_simp; (try with_reducible rfl); done))
    (try simp only [Act.put, List.setIfInBounds_toArray, List.set_cons_zero, List.set_cons_succ])
    refine anyT_done (by kernel_rfl) ?_ _
    have hj0 := turnZ_bd (n := n1) (b := B.players.length) (by omega)
    have hb0 := turnZ_bd (n := n2) (b := 9) (by omega)
    have hl0 := turnZ_bd (n := n3) (b := 4) (by omega)
    obtain ⟨j, hj⟩ := Int.eq_ofNat_of_zero_le hj0.1
    obtain ⟨lv, hlv⟩ := Int.eq_ofNat_of_zero_le hl0.1
    rw [hj, hlv]
    have Hj : Hid (j < B.players.length) := by unfold Hid; omega
    have Hlv : Hid (lv < 4) := by unfold Hid; omega
    generalize turnZ n2 9 = by_ at *
    have Hby := Lib.hid hb0
    have H3 := Lib.hid (below_then H2.out H2.out.size hHeld)
    replace K3 := Lib.hid (K3.out.below hHeld)
    replace K5 := Lib.hid (K5.out.below hHeld)
    replace K7 := Lib.hid (K7.out.below hHeld)
    clear hj hlv hj0 hl0 hb0 hHeld c3 f3 l3 c5 f5 l5 H1 H2
    generalize World.drew w2 = w3 at *
    obtain ⟨left, hc, hcat⟩ := HB.out.2
    obtain ⟨b, o, hpA, hcs⟩ := hc.resolve_left (by intro h; rw [h] at hmany; simp at hmany)
    have hcc := pcells_at hcs
    have Hcc := Lib.hid hcc
    have Hcs := Lib.hid hcs
    have Hcat := Lib.hid hcat
    have HpA := Lib.hid hpA
    obtain ⟨i0, hi, hz0, hz1, hz2⟩ := info_parts info68
    rw [hpA] at K3 K7
    clear hc hcs hcc hcat hpA left
    -- the players of its own
    obtain ⟨c3, f3, l3⟩ := K3.out
    go_upto_region 5 with (fail)
    have hbe1 : Below w3.heap.size w3 (w3.alloc (.cells #[] 68)) := (Below.refl _ _).alloc (Nat.le_refl _) _
    have hown := World.ownsRow_made (w := w3) (base := w3.heap.size) (e := 68) (size := 3) #[] 0 (Nat.le_refl _) (Nat.zero_le _) rfl
    have Hown := Lib.hid hown
    have Hbe1 := Lib.hid hbe1
    clear hown hbe1
    go_wp2_with (at_builtin; refine wpList_append_own _ rfl _ _ 25 rfl w3.heap.size 68 i0 (.agg #[.int .i64 0, .int .i64 0, .slice none 0 0]) 3 40 under25 hi hz0 hz1 hz2 rfl (by decide) _ 0 [] rfl Hown.out ⟨b, o, none⟩ B.players.length B.pCap (pcells B.players) rfl (pcells_len B.players) (fun j u hu => cell_below (below_then H3.out H3.out.size Hbe1.out) (Hcc.out j u hu)) (by intro u hu; simp only [pcells, List.mem_flatMap, List.mem_cons, List.not_mem_nil, or_false] at hu; obtain ⟨p, _, h⟩ := hu; rcases h with rfl | rfl | rfl <;> rfl) (by unfold maxLen; omega) (by omega) (by simp) ?_)
    intro v' w5 ho hg hn
    obtain ⟨h1, h2⟩ := ho
    have hb5 : Below w3.heap.size w3 w5 := Hbe1.out.grown hg (by simp) (by rintro k ⟨⟩; exact Nat.le_refl _)
    rcases h2 with ⟨rfl, hz⟩ | ⟨g', cap, cur, rfl, hgw, hbl, hcap, hmax, hs, ht⟩
    · omega
    have hP : PBox w5 g' B.players := by
      refine ⟨cur, _, hbl, fun j hj => ?_⟩
      have key : ∀ i, i < B.players.length * 3 → cur[i]? = (pcells B.players)[i]? := by
        intro i hi
        rw [← ht, List.getElem?_take, if_pos hi, Array.getElem?_toList]
      obtain ⟨g0, g1, g2⟩ := pcells_get B.players j hj
      exact ⟨(key _ (by omega)).trans g0, (key _ (by omega)).trans g1, (key _ (by omega)).trans g2⟩
    have HP5 := Lib.hid hP
    have Hb5 := Lib.hid hb5
    have Hg' : Hid (w3.heap.size ≤ g') := hgw
    have Hcap : Hid (B.players.length ≤ cap ∧ cap ≤ 9223372036854775807) := ⟨by omega, by unfold maxLen at hmax; omega⟩
    clear hg hn h1 hbl hs ht hP hb5 c3 f3 l3 hgw hcap hmax
    obtain ⟨c7, f7, l7⟩ := K7.out.below Hb5.out
    go_upto_region 6 with (fail)
    have hk : Keep (fun k => k = n7) w5 (w5.setCell ⟨n7, 10, none⟩ (.slice (some ⟨g', 0, none⟩) B.players.length cap)) :=
      Keep.setCell (M := fun k => k = n7) (Keep.refl _ _) (p := ⟨n7, 10, none⟩) (.inl rfl) _
    have k7 := (K7.out.below Hb5.out).put 10 (.slice (some ⟨g', 0, none⟩) B.players.length cap) (by simp)
    simp only [List.setIfInBounds_toArray, List.set_cons_zero, List.set_cons_succ] at k7
    have h7w := K7.out.lt
    have h7n := Hn7.out
    have k3 := (K3.out.below Hb5.out).keep hk (by omega)
    have k5 := (K5.out.below Hb5.out).keep hk (by omega)
    have p6 := HP5.out.keep hk (by have := Hg'.out; omega)
    have hb6 : Below w.heap.size w (w5.setCell ⟨n7, 10, none⟩ (.slice (some ⟨g', 0, none⟩) B.players.length cap)) :=
      (below_then H3.out H3.out.size Hb5.out).setCell (p := ⟨n7, 10, none⟩) (show w.heap.size ≤ n7 by omega) _
    have Hgn : Hid (n7 ≠ g') := by have := Hg'.out; unfold Hid; omega
    have Hgw0 : Hid (w.heap.size < g') := by have := Hg'.out; unfold Hid; omega
    clear c7 f7 l7 hk K3 K5 K7 HP5 Hb5 Hg' H3 Hown Hbe1
    generalize World.setCell _ _ _ = w6 at *
    have K3 := Lib.hid k3
    have K3c : Hid (BoxAt w6 w.heap.size B.cells) := by unfold Hid BookV.cells; rw [HpA.out]; exact k3
    have K7 := Lib.hid k7
    have P6 := Lib.hid p6
    have Hgw : Hid (w.heap.size < g') := by have := Hgw0.out; unfold Hid; omega
    have H6 := Lib.hid hb6
    have HgL : Hid (g' < w6.heap.size ∧ n7 < w6.heap.size) := ⟨p6.lt, k7.lt⟩
    obtain ⟨c5, f5, l5⟩ := k5
    clear k3 k7 p6 hb6 h7w
    go_wp2_with fail
    refine (Turn_calls n0 5 _ (by omega)).mono ?_
    rintro e w6' ⟨rfl, rfl⟩
    have ht := turnZ_bd (n := n0) (b := 5) (by omega)
    generalize turnZ n0 5 = kind at *
    clear c5 f5 l5
    go_upto_block 0 with (fail)
    go_cut [65] (fun s wc => CutX B w n7 wc)
    case first =>
      have hk5 : kind = 0 ∨ kind = 1 ∨ kind = 2 ∨ kind = 3 ∨ kind = 4 := by omega
      clear ht
      obtain ⟨c3, f3, l3⟩ := K3.out
      have hby := Hby.out
      have g1 := g.out.slip
      have g2 := g.out.time
      have hpj := Hcs.out j Hj.out
      have hji : (j : Int) < B.players.length := by have := Hj.out; omega
      have hlj := g.out.late j Hj.out
      rcases hk5 with rfl | rfl | rfl | rfl | rfl
      · as_aux_lemma =>
          obtain ⟨cs, hcs⟩ : ∃ cs, cs = (gp B.players j).catches := ⟨_, rfl⟩
          have hc4 : cs.length = 4 := by rw [hcs]; exact g.out.catchLen j Hj.out
          have hsp := (Hcat.out _ (gp_mem Hj.out)).1
          rw [← hcs] at hsp
          obtain ⟨cb, co, hcA, hcc⟩ := hsp.2.resolve_left (by intro e; rw [e] at hc4; simp at hc4)
          have Hlc := Lib.hid (g.out.catches j Hj.out lv Hlv.out)
          rw [← hcs] at Hlc
          have p2 := cell_below H6.out hpj.2.2
          rw [hcA, ← hcs] at p2
          have bp := World.block_lt_of_cell? _ _ p2
          simp only at bp
          have Hsp := Lib.hid hsp
          have Hcs0 := Lib.hid hcs
          obtain ⟨i1, hi1, hy0, hy1, hy2⟩ := info_parts info24
          have hcell : ∀ q u, (pairs cs)[q]? = some u → w.cell? ((⟨cb, co, none⟩ : Addr).add q) = some u := pairs_at hcc
          have Hcell := Lib.hid hcell
          have Hc4 := Lib.hid hc4
          clear hcs hsp hcA hcc hcell hc4
          go_upto_region 9 with (fail)
          have hbe1 : Below w6.heap.size w6 (w6.alloc (.cells #[] 24)) := (Below.refl _ _).alloc (Nat.le_refl _) _
          have hown := World.ownsRow_made (w := w6) (base := w6.heap.size) (e := 24) (size := 2) #[] 0 (Nat.le_refl _) (Nat.zero_le _) rfl
          have Hown := Lib.hid hown
          have Hbe1 := Lib.hid hbe1
          clear hown hbe1
          go_wp2_with (at_builtin; refine wpList_append_own _ rfl _ _ 66 rfl w6.heap.size 24 i1 (.agg #[.int .i64 0, .int .i64 0]) 2 16 under66 hi1 hy0 hy1 hy2 rfl (by decide) _ 0 [] rfl Hown.out ⟨cb, co, none⟩ cs.length _ (pairs cs) rfl (pairs_len cs) (fun q u hu => cell_below (below_then H6.out H6.out.size Hbe1.out) (Hcell.out q u hu)) (by intro u hu; simp only [pairs, List.mem_flatMap, List.mem_cons, List.not_mem_nil, or_false] at hu; obtain ⟨p, _, h⟩ := hu; rcases h with rfl | rfl <;> rfl) (by have := Hc4.out; unfold maxLen; omega) (by have := Hc4.out; omega) (by simp) ?_)
          intro v' w7 ho hg hn
          have hc4 := Hc4.out
          have ho2 : OwnSpans w7 w6.heap.size v' cs := by unfold OwnSpans; simpa using ho
          have hb7 : Below w6.heap.size w6 w7 := Hbe1.out.grown hg (by simp) (by rintro k ⟨⟩; exact Nat.le_refl _)
          obtain ⟨g2, c2, rfl, hsp2, hc2, hg2, hg2s⟩ := ho2.reads (by omega)
          obtain ⟨cur2, hcur2⟩ : ∃ cur, w7.heap[g2]? = some (.cells cur 24 (0, 0)) := by
            rcases ho2.2 with ⟨h, _⟩ | ⟨g3, cap3, cur3, e, _, h3, _⟩
            · cases h
            · cases e; exact ⟨cur3, h3⟩
          have Hb7 := Lib.hid hb7
          have Hsp2 := Lib.hid hsp2
          have Hcur2 := Lib.hid hcur2
          have Hg2 := Lib.hid (show w6.heap.size ≤ g2 ∧ g2 < w7.heap.size ∧ cs.length ≤ c2 from ⟨hg2, hg2s, hc2⟩)
          have hr0 := hsp2.2.resolve_left (by intro e; rw [e] at hc4; simp at hc4)
          obtain ⟨_, _, e2, hr⟩ := hr0
          cases e2
          have hx0 := (hr lv (by have := Hlv.out; omega)).1
          have hx1 := (hr lv (by have := Hlv.out; omega)).2
          rw [Nat.zero_add] at hx0 hx1
          have hlvi : (lv : Int) < cs.length := by have := Hlv.out; omega
          clear hc4
          have hgf : ∀ i, w7.frozen? ⟨g2, i, none⟩ = false := fun i => by simp [World.frozen?, hcur2]
          have hlc := Hlc.out
          clear ho ho2 hg hn hb7 hsp2 hcur2 hg2 hc2 hr p2 bp c3 f3 l3
          have hw1 : IntKind.i64.wrap ((gs cs lv).1 + by_) = (gs cs lv).1 + by_ := wrap_in (by omega) (by omega)
          have hw2 : IntKind.i64.wrap ((gs cs lv).2 + by_) = (gs cs lv).2 + by_ := wrap_in (by omega) (by omega)
          go_upto_region 10 with (fail)
          have h3 : ((gs cs lv).1 + by_ < 100 ∧ (gs cs lv).2 + by_ < 100) ∨ ((gs cs lv).1 + by_ < 100 ∧ 100 ≤ (gs cs lv).2 + by_) ∨ (100 ≤ (gs cs lv).1 + by_ ∧ 100 ≤ (gs cs lv).2 + by_) := by omega
          rcases h3 with ⟨h1, h2⟩ | ⟨h1, h2⟩ | ⟨h1, h2⟩
          all_goals
            refine region_plain (S := fun w' => Below w7.heap.size w7 w') 20 (by kernel_rfl) ?_ (fun hHeld => ?_)
            · exact (Below.refl _ _).drew
            first | (refine anyT_take 0 (some 75) (v := ?_) rfl rfl (by kernel_rfl) (by kernel_rfl) (by kernel_rfl) (by kernel_rfl) (fun _ _ _ h => h) (Or.inl ⟨by rfl, ?_⟩) hHeld ?_; rotate_left; focus (intro wq hSw; obtain ⟨hcq, hfq⟩ := bcell hSw; go_simp; (try with_reducible rfl); done))
            (try simp only [Act.put, List.setIfInBounds_toArray, List.set_cons_zero, List.set_cons_succ])
            first | (refine anyT_take 1 (some 76) (v := ?_) rfl rfl (by kernel_rfl) (by kernel_rfl) (by kernel_rfl) (by kernel_rfl) (fun _ _ _ h => h) (Or.inl ⟨by rfl, ?_⟩) hHeld ?_; rotate_left; focus (intro wq hSw; obtain ⟨hcq, hfq⟩ := bcell hSw; go_simp; (try with_reducible rfl); done))
            (try simp only [Act.put, List.setIfInBounds_toArray, List.set_cons_zero, List.set_cons_succ])
            first | (refine anyT_take 2 (some 77) (v := ?_) rfl rfl (by kernel_rfl) (by kernel_rfl) (by kernel_rfl) (by kernel_rfl) (fun _ _ _ h => h) (Or.inl ⟨by rfl, ?_⟩) hHeld ?_; rotate_left; focus (intro wq hSw; obtain ⟨hcq, hfq⟩ := bcell hSw; go_simp; (try with_reducible rfl); done))
            (try simp only [Act.put, List.setIfInBounds_toArray, List.set_cons_zero, List.set_cons_succ])
            first | (refine anyT_take 3 (some 78) (v := ?_) rfl rfl (by kernel_rfl) (by kernel_rfl) (by kernel_rfl) (by kernel_rfl) (fun _ _ _ h => h) (Or.inl ⟨by rfl, ?_⟩) hHeld ?_; rotate_left; focus (intro wq hSw; obtain ⟨hcq, hfq⟩ := bcell hSw; go_simp; (try with_reducible rfl); done))
            (try simp only [Act.put, List.setIfInBounds_toArray, List.set_cons_zero, List.set_cons_succ])
            first | (refine anyT_take 4 (some 79) (v := ?_) rfl rfl (by kernel_rfl) (by kernel_rfl) (by kernel_rfl) (by kernel_rfl) (fun _ _ _ h => h) (Or.inl ⟨by rfl, ?_⟩) hHeld ?_; rotate_left; focus (intro wq hSw; obtain ⟨hcq, hfq⟩ := bcell hSw; go_simp; (try with_reducible rfl); done))
            (try simp only [Act.put, List.setIfInBounds_toArray, List.set_cons_zero, List.set_cons_succ])
            first | (refine anyT_take 5 (some 80) (v := ?_) rfl rfl (by kernel_rfl) (by kernel_rfl) (by kernel_rfl) (by kernel_rfl) (fun _ _ _ h => h) (Or.inl ⟨by rfl, ?_⟩) hHeld ?_; rotate_left; focus (intro wq hSw; obtain ⟨hcq, hfq⟩ := bcell hSw; go_simp; (try with_reducible rfl); done))
            (try simp only [Act.put, List.setIfInBounds_toArray, List.set_cons_zero, List.set_cons_succ])
            first | (refine anyT_take 6 (some 81) (v := ?_) rfl rfl (by kernel_rfl) (by kernel_rfl) (by kernel_rfl) (by kernel_rfl) (fun _ _ _ h => h) (Or.inl ⟨by rfl, ?_⟩) hHeld ?_; rotate_left; focus (intro wq hSw; obtain ⟨hcq, hfq⟩ := bcell hSw; go_simp; (try with_reducible rfl); done))
            (try simp only [Act.put, List.setIfInBounds_toArray, List.set_cons_zero, List.set_cons_succ])
            first | (refine anyT_take 7 (some 82) (v := ?_) rfl rfl (by kernel_rfl) (by kernel_rfl) (by kernel_rfl) (by kernel_rfl) (fun _ _ _ h => h) (Or.inl ⟨by rfl, ?_⟩) hHeld ?_; rotate_left; focus (intro wq hSw; obtain ⟨hcq, hfq⟩ := bcell hSw; go_simp; (try with_reducible rfl); done))
            (try simp only [Act.put, List.setIfInBounds_toArray, List.set_cons_zero, List.set_cons_succ])
            first | (refine anyT_take 8 (some 83) (v := ?_) rfl rfl (by kernel_rfl) (by kernel_rfl) (by kernel_rfl) (by kernel_rfl) (fun _ _ _ h => h) (Or.inl ⟨by rfl, ?_⟩) hHeld ?_; rotate_left; focus (intro wq hSw; obtain ⟨hcq, hfq⟩ := bcell hSw; go_simp; (try with_reducible rfl); done))
            (try simp only [Act.put, List.setIfInBounds_toArray, List.set_cons_zero, List.set_cons_succ])
            first | (refine anyT_take 9 (some 84) (v := ?_) rfl rfl (by kernel_rfl) (by kernel_rfl) (by kernel_rfl) (by kernel_rfl) (fun _ _ _ h => h) (Or.inl ⟨by rfl, ?_⟩) hHeld ?_; rotate_left; focus (intro wq hSw; obtain ⟨hcq, hfq⟩ := bcell hSw; go_simp; (try with_reducible rfl); done))
            (try simp only [Act.put, List.setIfInBounds_toArray, List.set_cons_zero, List.set_cons_succ])
            first | (refine anyT_take 10 (some 85) (v := ?_) rfl rfl (by kernel_rfl) (by kernel_rfl) (by kernel_rfl) (by kernel_rfl) (fun _ _ _ h => h) (Or.inl ⟨by rfl, ?_⟩) hHeld ?_; rotate_left; focus (intro wq hSw; obtain ⟨hcq, hfq⟩ := bcell hSw; go_simp; (try with_reducible rfl); done))
            (try simp only [Act.put, List.setIfInBounds_toArray, List.set_cons_zero, List.set_cons_succ])
            first | (refine anyT_take 11 (some 86) (v := ?_) rfl rfl (by kernel_rfl) (by kernel_rfl) (by kernel_rfl) (by kernel_rfl) (fun _ _ _ h => h) (Or.inl ⟨by rfl, ?_⟩) hHeld ?_; rotate_left; focus (intro wq hSw; obtain ⟨hcq, hfq⟩ := bcell hSw; go_simp; (try with_reducible rfl); done))
            (try simp only [Act.put, List.setIfInBounds_toArray, List.set_cons_zero, List.set_cons_succ])
            first | (refine anyT_take 12 (some 87) (v := ?_) rfl rfl (by kernel_rfl) (by kernel_rfl) (by kernel_rfl) (by kernel_rfl) (fun _ _ _ h => h) (Or.inl ⟨by rfl, ?_⟩) hHeld ?_; rotate_left; focus (intro wq hSw; obtain ⟨hcq, hfq⟩ := bcell hSw; go_simp; (try with_reducible rfl); done))
            (try simp only [Act.put, List.setIfInBounds_toArray, List.set_cons_zero, List.set_cons_succ])
            first | (refine anyT_take 13 (some 88) (v := ?_) rfl rfl (by kernel_rfl) (by kernel_rfl) (by kernel_rfl) (by kernel_rfl) (fun _ _ _ h => h) (Or.inl ⟨by rfl, ?_⟩) hHeld ?_; rotate_left; focus (intro wq hSw; obtain ⟨hcq, hfq⟩ := bcell hSw; go_simp; (try with_reducible rfl); done))
            (try simp only [Act.put, List.setIfInBounds_toArray, List.set_cons_zero, List.set_cons_succ])
            first | (refine anyT_take 14 (some 89) (v := ?_) rfl rfl (by kernel_rfl) (by kernel_rfl) (by kernel_rfl) (by kernel_rfl) (fun _ _ _ h => h) (Or.inl ⟨by rfl, ?_⟩) hHeld ?_; rotate_left; focus (intro wq hSw; obtain ⟨hcq, hfq⟩ := bcell hSw; go_simp; (try with_reducible rfl); done))
            (try simp only [Act.put, List.setIfInBounds_toArray, List.set_cons_zero, List.set_cons_succ])
            first | (refine anyT_take 15 (some 90) (v := ?_) rfl rfl (by kernel_rfl) (by kernel_rfl) (by kernel_rfl) (by kernel_rfl) (fun _ _ _ h => h) (Or.inl ⟨by rfl, ?_⟩) hHeld ?_; rotate_left; focus (intro wq hSw; obtain ⟨hcq, hfq⟩ := bcell hSw; go_simp; (try with_reducible rfl); done))
            (try simp only [Act.put, List.setIfInBounds_toArray, List.set_cons_zero, List.set_cons_succ])
            first | (refine anyT_take 16 (some 91) (v := ?_) rfl rfl (by kernel_rfl) (by kernel_rfl) (by kernel_rfl) (by kernel_rfl) (fun _ _ _ h => h) (Or.inl ⟨by rfl, ?_⟩) hHeld ?_; rotate_left; focus (intro wq hSw; obtain ⟨hcq, hfq⟩ := bcell hSw; go_simp; (try with_reducible rfl); done))
            (try simp only [Act.put, List.setIfInBounds_toArray, List.set_cons_zero, List.set_cons_succ])
            first | (refine anyT_take 17 (some 92) (v := ?_) rfl rfl (by kernel_rfl) (by kernel_rfl) (by kernel_rfl) (by kernel_rfl) (fun _ _ _ h => h) (Or.inl ⟨by rfl, ?_⟩) hHeld ?_; rotate_left; focus (intro wq hSw; obtain ⟨hcq, hfq⟩ := bcell hSw; go_simp; (try with_reducible rfl); done))
            (try simp only [Act.put, List.setIfInBounds_toArray, List.set_cons_zero, List.set_cons_succ])
            refine anyT_one 18 (by kernel_rfl) rfl (fun K hK => ?_)
            go_simp
            refine (Band_calls _ _ _).mono ?_; rintro e w8 ⟨rfl, hb8⟩
            refine hK.out _ _ ?_ (fun hHeld => ?_)
            · exact below_then hHeld hHeld.size hb8
            clear hK K
            (try simp only [Act.put, List.setIfInBounds_toArray, List.set_cons_zero, List.set_cons_succ])
            first | (refine anyT_take 19 (some 94) (v := ?_) rfl rfl (by kernel_rfl) (by kernel_rfl) (by kernel_rfl) (by kernel_rfl) (fun _ _ _ h => h) (Or.inl ⟨by rfl, ?_⟩) hHeld ?_; rotate_left; focus (intro wq hSw; obtain ⟨hcq, hfq⟩ := bcell hSw; go_simp; (try with_reducible rfl); done))
            (try simp only [Act.put, List.setIfInBounds_toArray, List.set_cons_zero, List.set_cons_succ])
            refine anyT_last (by kernel_rfl) rfl (fun K hK => ?_)
            obtain ⟨hcq, hfq⟩ := bcell hHeld
            go_simp
            refine hK.out _ _ ?_
            clear hK K
            (try simp only [Act.put, List.setIfInBounds_toArray, List.set_cons_zero, List.set_cons_succ])
            refine anyT_done (by kernel_rfl) ?_ _
            generalize hW9 : World.setCell (World.setCell w8 _ _) _ _ = W9 at *
            have hk9 : Keep (fun k => k = g2) w8 W9 := by rw [← hW9]; exact two_keep _ _ _ _ _
            have hsp9 : ∃ x y, SpansAt W9 (some ⟨g2, 0, none⟩) (cs.set lv (x, y)) ∧ (gs cs lv).1 ≤ x ∧ x ≤ y ∧ y ≤ 100 := by
              rw [← hW9]
              exact ⟨_, _, (Hsp2.out.below hHeld).setQ ((hHeld.block g2 Hg2.out.2.1).trans Hcur2.out) lv (by have := Hlv.out; have := Hc4.out; omega) _ _, by omega⟩
            obtain ⟨x, y, hsp9, hxy⟩ := hsp9
            have hw7 := below_then H6.out H6.out.size Hb7.out
            have hw8 := below_then hw7 hw7.size hHeld
            have hg26 := Hg2.out.1
            have hgl6 := HgL.out
            have h6s := H6.out.size
            have hw9 := hw8.trans (hk9.below (n := w.heap.size) (fun k _ e => by omega) hw8.size)
            have k39 := ((K3c.out.below Hb7.out).below hHeld).keep hk9 (by have := K3.out.lt; omega)
            have k39' := ((K3.out.below Hb7.out).below hHeld).keep hk9 (by have := K3.out.lt; omega)
            have k79 := ((K7.out.below Hb7.out).below hHeld).keep hk9 (by omega)
            have p69 := ((P6.out.below Hb7.out).below hHeld).keep hk9 (by omega)
            have P69 := Lib.hid p69
            have K79 := Lib.hid k79
            have K39 := Lib.hid k39
            have Hw9 := Lib.hid hw9
            have Hsp9 := Lib.hid hsp9
            have Hxy := Lib.hid hxy
            have Hg2g := Lib.hid (show g2 ≠ g' by omega)
            clear hW9 hk9 hHeld hx0 hx1 hgf hw7 hw8 hsp9 hxy p69 k39
            obtain ⟨c3, f3, l3⟩ := k39'
            obtain ⟨c7, f7, l7⟩ := k79
            have p0 := cell_below hw9 hpj.1
            have p1 := cell_below hw9 hpj.2.1
            have bp := World.block_lt_of_cell? _ _ p0
            have hgl := P69.out.lt
            simp only at bp
            clear hw9 hpj
            go_upto_region 11 with (fail)
            refine region_plain (S := fun w' => Below W9.heap.size W9 w') 12 (by kernel_rfl) ?_ (fun hHeld => ?_)
            · exact (Below.refl _ _).drew
            first | (refine anyT_take 0 (some 95) (v := ?_) rfl rfl (by kernel_rfl) (by kernel_rfl) (by kernel_rfl) (by kernel_rfl) (fun _ _ _ h => h) (Or.inl ⟨by rfl, ?_⟩) hHeld ?_; rotate_left; focus (intro wq hSw; obtain ⟨hcq, hfq⟩ := bcell hSw; go_simp; (try with_reducible rfl); done))
            (try simp only [Act.put, List.setIfInBounds_toArray, List.set_cons_zero, List.set_cons_succ])
            first | (refine anyT_take 1 (some 96) (v := ?_) rfl rfl (by kernel_rfl) (by kernel_rfl) (by kernel_rfl) (by kernel_rfl) (fun _ _ _ h => h) (Or.inl ⟨by rfl, ?_⟩) hHeld ?_; rotate_left; focus (intro wq hSw; obtain ⟨hcq, hfq⟩ := bcell hSw; go_simp; (try with_reducible rfl); done))
            (try simp only [Act.put, List.setIfInBounds_toArray, List.set_cons_zero, List.set_cons_succ])
            first | (refine anyT_take 2 (some 97) (v := ?_) rfl rfl (by kernel_rfl) (by kernel_rfl) (by kernel_rfl) (by kernel_rfl) (fun _ _ _ h => h) (Or.inl ⟨by rfl, ?_⟩) hHeld ?_; rotate_left; focus (intro wq hSw; obtain ⟨hcq, hfq⟩ := bcell hSw; go_simp; (try with_reducible rfl); done))
            (try simp only [Act.put, List.setIfInBounds_toArray, List.set_cons_zero, List.set_cons_succ])
            first | (refine anyT_take 3 (some 98) (v := ?_) rfl rfl (by kernel_rfl) (by kernel_rfl) (by kernel_rfl) (by kernel_rfl) (fun _ _ _ h => h) (Or.inl ⟨by rfl, ?_⟩) hHeld ?_; rotate_left; focus (intro wq hSw; obtain ⟨hcq, hfq⟩ := bcell hSw; go_simp; (try with_reducible rfl); done))
            (try simp only [Act.put, List.setIfInBounds_toArray, List.set_cons_zero, List.set_cons_succ])
            first | (refine anyT_take 4 (some 99) (v := ?_) rfl rfl (by kernel_rfl) (by kernel_rfl) (by kernel_rfl) (by kernel_rfl) (fun _ _ _ h => h) (Or.inl ⟨by rfl, ?_⟩) hHeld ?_; rotate_left; focus (intro wq hSw; obtain ⟨hcq, hfq⟩ := bcell hSw; go_simp; (try with_reducible rfl); done))
            (try simp only [Act.put, List.setIfInBounds_toArray, List.set_cons_zero, List.set_cons_succ])
            first | (refine anyT_take 5 (some 100) (v := ?_) rfl rfl (by kernel_rfl) (by kernel_rfl) (by kernel_rfl) (by kernel_rfl) (fun _ _ _ h => h) (Or.inl ⟨by rfl, ?_⟩) hHeld ?_; rotate_left; focus (intro wq hSw; obtain ⟨hcq, hfq⟩ := bcell hSw; go_simp; (try with_reducible rfl); done))
            (try simp only [Act.put, List.setIfInBounds_toArray, List.set_cons_zero, List.set_cons_succ])
            first | (refine anyT_take 6 (some 101) (v := ?_) rfl rfl (by kernel_rfl) (by kernel_rfl) (by kernel_rfl) (by kernel_rfl) (fun _ _ _ h => h) (Or.inl ⟨by rfl, ?_⟩) hHeld ?_; rotate_left; focus (intro wq hSw; obtain ⟨hcq, hfq⟩ := bcell hSw; go_simp; (try with_reducible rfl); done))
            (try simp only [Act.put, List.setIfInBounds_toArray, List.set_cons_zero, List.set_cons_succ])
            first | (refine anyT_take 7 (some 102) (v := ?_) rfl rfl (by kernel_rfl) (by kernel_rfl) (by kernel_rfl) (by kernel_rfl) (fun _ _ _ h => h) (Or.inl ⟨by rfl, ?_⟩) hHeld ?_; rotate_left; focus (intro wq hSw; obtain ⟨hcq, hfq⟩ := bcell hSw; go_simp; (try with_reducible rfl); done))
            (try simp only [Act.put, List.setIfInBounds_toArray, List.set_cons_zero, List.set_cons_succ])
            first | (refine anyT_take 8 (some 103) (v := ?_) rfl rfl (by kernel_rfl) (by kernel_rfl) (by kernel_rfl) (by kernel_rfl) (fun _ _ _ h => h) (Or.inl ⟨by rfl, ?_⟩) hHeld ?_; rotate_left; focus (intro wq hSw; obtain ⟨hcq, hfq⟩ := bcell hSw; go_simp; (try with_reducible rfl); done))
            (try simp only [Act.put, List.setIfInBounds_toArray, List.set_cons_zero, List.set_cons_succ])
            first | (refine anyT_take 9 (some 104) (v := ?_) rfl rfl (by kernel_rfl) (by kernel_rfl) (by kernel_rfl) (by kernel_rfl) (fun _ _ _ h => h) (Or.inl ⟨by rfl, ?_⟩) hHeld ?_; rotate_left; focus (intro wq hSw; obtain ⟨hcq, hfq⟩ := bcell hSw; go_simp; (try with_reducible rfl); done))
            (try simp only [Act.put, List.setIfInBounds_toArray, List.set_cons_zero, List.set_cons_succ])
            first | (refine anyT_take 10 (some 105) (v := ?_) rfl rfl (by kernel_rfl) (by kernel_rfl) (by kernel_rfl) (by kernel_rfl) (fun _ _ _ h => h) (Or.inl ⟨by rfl, ?_⟩) hHeld ?_; rotate_left; focus (intro wq hSw; obtain ⟨hcq, hfq⟩ := bcell hSw; go_simp; (try with_reducible rfl); done))
            (try simp only [Act.put, List.setIfInBounds_toArray, List.set_cons_zero, List.set_cons_succ])
            first | (refine anyT_take 11 (some 106) (v := ?_) rfl rfl (by kernel_rfl) (by kernel_rfl) (by kernel_rfl) (by kernel_rfl) (fun _ _ _ h => h) (Or.inl ⟨by rfl, ?_⟩) hHeld ?_; rotate_left; focus (intro wq hSw; obtain ⟨hcq, hfq⟩ := bcell hSw; go_simp; (try with_reducible rfl); done))
            (try simp only [Act.put, List.setIfInBounds_toArray, List.set_cons_zero, List.set_cons_succ])
            refine anyT_last (by kernel_rfl) rfl (fun K hK => ?_)
            obtain ⟨cur7, tt, hgh, hgc⟩ := P69.out; obtain ⟨q0, q1, q2⟩ := hgc j Hj.out; have gcell : ∀ i, W9.cell? ⟨g', i, none⟩ = cur7[i]? := fun i => (by simp [World.cell?, hgh]); have gfr : ∀ i, W9.frozen? ⟨g', i, none⟩ = false := fun i => (by simp [World.frozen?, hgh]); have z0 : W9.cell? ⟨g', j * 3, none⟩ = _ := (gcell _).trans q0; have z1 : W9.cell? ⟨g', j * 3 + 1, none⟩ = _ := (gcell _).trans q1; have z2 : W9.cell? ⟨g', j * 3 + 2, none⟩ = _ := (gcell _).trans q2; have gl := (Array.getElem?_eq_some_iff.1 hgh).1; clear hgh hgc q0 q1 q2 gcell
            go_simp
            refine hK.out _ _ ?_
            clear hK K
            (try simp only [Act.put, List.setIfInBounds_toArray, List.set_cons_zero, List.set_cons_succ])
            refine anyT_done (by kernel_rfl) ?_ _
            go_wp2
            go_meet
            have hs := Hcs0.out
            have hbx := bet_catch g.out Hj.out Hlv.out (some ⟨g2, 0, none⟩) c2 (x := x) (y := y) (by rw [← hs]; exact Hxy.out)
            rw [← hs] at hbx
            have := cut_player (q := ⟨(gp B.players j).lo, (gp B.players j).hi, some ⟨g2, 0, none⟩, c2, cs.set lv (x, y)⟩) HB.out g.out Hw9.out K79.out K39.out P69.out (by omega) Hgn.out Hgw0.out Hj.out hbx
              (fun W' hk => ⟨Hsp9.out.keepG hk (fun e => Hg2g.out e), by have := Hg2.out.2.2; simp only [List.length_set]; exact this⟩)
            simp only [List.length_set] at this
            first | exact this | exact this.drew
      · as_aux_lemma =>
          have p0 := cell_below H6.out hpj.1
          have p1 := cell_below H6.out hpj.2.1
          have bp := World.block_lt_of_cell? _ _ p0
          simp only at bp
          go_upto_region 14 with (fail)
          have k12 := BoxAt.new w6 #[.int .i64 (gp B.players j).lo, .int .i64 (gp B.players j).hi] 24
          have hb7 : Below w6.heap.size w6 (w6.alloc (.cells #[.int .i64 (gp B.players j).lo, .int .i64 (gp B.players j).hi] 24)) := (Below.refl _ _).alloc (Nat.le_refl _) _
          clear c3 f3 l3 p0 p1 bp
          generalize w6.alloc _ = w7 at *
          generalize w6.heap.size = n12 at k12 ⊢
          have Hb7 := Lib.hid hb7
          have H7 := Lib.hid (below_then H6.out H6.out.size hb7)
          obtain ⟨c12, f12, l12⟩ := k12
          obtain ⟨c3, f3, l3⟩ := K3.out.below hb7
          obtain ⟨c7, f7, l7⟩ := K7.out.below hb7
          have p2 := cell_below H7.out hpj.2.2
          have bp := World.block_lt_of_cell? _ _ p2
          simp only at bp
          have hgl := (P6.out.below hb7).lt
          have hw1 : IntKind.i64.wrap ((gp B.players j).lo - by_) = (gp B.players j).lo - by_ := wrap_in (by omega) (by omega)
          have hw2 : IntKind.i64.wrap ((gp B.players j).hi - by_) = (gp B.players j).hi - by_ := wrap_in (by omega) (by omega)
          have h3 : (by_ < (gp B.players j).lo ∧ by_ < (gp B.players j).hi) ∨ ((gp B.players j).lo ≤ by_ ∧ by_ < (gp B.players j).hi) ∨ ((gp B.players j).lo ≤ by_ ∧ (gp B.players j).hi ≤ by_) := by omega
          clear hpj hb7
          rcases h3 with ⟨h1, h2⟩ | ⟨h1, h2⟩ | ⟨h1, h2⟩
          all_goals
            refine region_plain (S := fun w' => Below w7.heap.size w7 w') 22 (by kernel_rfl) ?_ (fun hHeld => ?_)
            · exact (Below.refl _ _).drew
            first | (refine anyT_take 0 (some 115) (v := ?_) rfl rfl (by kernel_rfl) (by kernel_rfl) (by kernel_rfl) (by kernel_rfl) (fun _ _ _ h => h) (Or.inl ⟨by rfl, ?_⟩) hHeld ?_; rotate_left; focus (intro wq hSw; obtain ⟨hcq, hfq⟩ := bcell hSw; go_simp; (try with_reducible rfl); done))
            (try simp only [Act.put, List.setIfInBounds_toArray, List.set_cons_zero, List.set_cons_succ])
            first | (refine anyT_take 1 (some 116) (v := ?_) rfl rfl (by kernel_rfl) (by kernel_rfl) (by kernel_rfl) (by kernel_rfl) (fun _ _ _ h => h) (Or.inl ⟨by rfl, ?_⟩) hHeld ?_; rotate_left; focus (intro wq hSw; obtain ⟨hcq, hfq⟩ := bcell hSw; go_simp; (try with_reducible rfl); done))
            (try simp only [Act.put, List.setIfInBounds_toArray, List.set_cons_zero, List.set_cons_succ])
            first | (refine anyT_take 2 (some 117) (v := ?_) rfl rfl (by kernel_rfl) (by kernel_rfl) (by kernel_rfl) (by kernel_rfl) (fun _ _ _ h => h) (Or.inl ⟨by rfl, ?_⟩) hHeld ?_; rotate_left; focus (intro wq hSw; obtain ⟨hcq, hfq⟩ := bcell hSw; go_simp; (try with_reducible rfl); done))
            (try simp only [Act.put, List.setIfInBounds_toArray, List.set_cons_zero, List.set_cons_succ])
            first | (refine anyT_take 3 (some 118) (v := ?_) rfl rfl (by kernel_rfl) (by kernel_rfl) (by kernel_rfl) (by kernel_rfl) (fun _ _ _ h => h) (Or.inl ⟨by rfl, ?_⟩) hHeld ?_; rotate_left; focus (intro wq hSw; obtain ⟨hcq, hfq⟩ := bcell hSw; go_simp; (try with_reducible rfl); done))
            (try simp only [Act.put, List.setIfInBounds_toArray, List.set_cons_zero, List.set_cons_succ])
            first | (refine anyT_take 4 (some 119) (v := ?_) rfl rfl (by kernel_rfl) (by kernel_rfl) (by kernel_rfl) (by kernel_rfl) (fun _ _ _ h => h) (Or.inl ⟨by rfl, ?_⟩) hHeld ?_; rotate_left; focus (intro wq hSw; obtain ⟨hcq, hfq⟩ := bcell hSw; go_simp; (try with_reducible rfl); done))
            (try simp only [Act.put, List.setIfInBounds_toArray, List.set_cons_zero, List.set_cons_succ])
            first | (refine anyT_take 5 (some 120) (v := ?_) rfl rfl (by kernel_rfl) (by kernel_rfl) (by kernel_rfl) (by kernel_rfl) (fun _ _ _ h => h) (Or.inl ⟨by rfl, ?_⟩) hHeld ?_; rotate_left; focus (intro wq hSw; obtain ⟨hcq, hfq⟩ := bcell hSw; go_simp; (try with_reducible rfl); done))
            (try simp only [Act.put, List.setIfInBounds_toArray, List.set_cons_zero, List.set_cons_succ])
            first | (refine anyT_take 6 (some 121) (v := ?_) rfl rfl (by kernel_rfl) (by kernel_rfl) (by kernel_rfl) (by kernel_rfl) (fun _ _ _ h => h) (Or.inl ⟨by rfl, ?_⟩) hHeld ?_; rotate_left; focus (intro wq hSw; obtain ⟨hcq, hfq⟩ := bcell hSw; go_simp; (try with_reducible rfl); done))
            (try simp only [Act.put, List.setIfInBounds_toArray, List.set_cons_zero, List.set_cons_succ])
            first | (refine anyT_take 7 (some 122) (v := ?_) rfl rfl (by kernel_rfl) (by kernel_rfl) (by kernel_rfl) (by kernel_rfl) (fun _ _ _ h => h) (Or.inl ⟨by rfl, ?_⟩) hHeld ?_; rotate_left; focus (intro wq hSw; obtain ⟨hcq, hfq⟩ := bcell hSw; go_simp; (try with_reducible rfl); done))
            (try simp only [Act.put, List.setIfInBounds_toArray, List.set_cons_zero, List.set_cons_succ])
            first | (refine anyT_take 8 (some 123) (v := ?_) rfl rfl (by kernel_rfl) (by kernel_rfl) (by kernel_rfl) (by kernel_rfl) (fun _ _ _ h => h) (Or.inl ⟨by rfl, ?_⟩) hHeld ?_; rotate_left; focus (intro wq hSw; obtain ⟨hcq, hfq⟩ := bcell hSw; go_simp; (try with_reducible rfl); done))
            (try simp only [Act.put, List.setIfInBounds_toArray, List.set_cons_zero, List.set_cons_succ])
            first | (refine anyT_take 9 (some 124) (v := ?_) rfl rfl (by kernel_rfl) (by kernel_rfl) (by kernel_rfl) (by kernel_rfl) (fun _ _ _ h => h) (Or.inl ⟨by rfl, ?_⟩) hHeld ?_; rotate_left; focus (intro wq hSw; obtain ⟨hcq, hfq⟩ := bcell hSw; go_simp; (try with_reducible rfl); done))
            (try simp only [Act.put, List.setIfInBounds_toArray, List.set_cons_zero, List.set_cons_succ])
            first | (refine anyT_take 10 (some 125) (v := ?_) rfl rfl (by kernel_rfl) (by kernel_rfl) (by kernel_rfl) (by kernel_rfl) (fun _ _ _ h => h) (Or.inl ⟨by rfl, ?_⟩) hHeld ?_; rotate_left; focus (intro wq hSw; obtain ⟨hcq, hfq⟩ := bcell hSw; go_simp; (try with_reducible rfl); done))
            (try simp only [Act.put, List.setIfInBounds_toArray, List.set_cons_zero, List.set_cons_succ])
            first | (refine anyT_take 11 (some 126) (v := ?_) rfl rfl (by kernel_rfl) (by kernel_rfl) (by kernel_rfl) (by kernel_rfl) (fun _ _ _ h => h) (Or.inl ⟨by rfl, ?_⟩) hHeld ?_; rotate_left; focus (intro wq hSw; obtain ⟨hcq, hfq⟩ := bcell hSw; go_simp; (try with_reducible rfl); done))
            (try simp only [Act.put, List.setIfInBounds_toArray, List.set_cons_zero, List.set_cons_succ])
            first | (refine anyT_take 12 (some 127) (v := ?_) rfl rfl (by kernel_rfl) (by kernel_rfl) (by kernel_rfl) (by kernel_rfl) (fun _ _ _ h => h) (Or.inl ⟨by rfl, ?_⟩) hHeld ?_; rotate_left; focus (intro wq hSw; obtain ⟨hcq, hfq⟩ := bcell hSw; go_simp; (try with_reducible rfl); done))
            (try simp only [Act.put, List.setIfInBounds_toArray, List.set_cons_zero, List.set_cons_succ])
            first | (refine anyT_take 14 (some 129) (v := ?_) rfl rfl (by kernel_rfl) (by kernel_rfl) (by kernel_rfl) (by kernel_rfl) (fun _ _ _ h => h) (Or.inl ⟨by rfl, ?_⟩) hHeld ?_; rotate_left; focus (intro wq hSw; obtain ⟨hcq, hfq⟩ := bcell hSw; go_simp; (try with_reducible rfl); done))
            (try simp only [Act.put, List.setIfInBounds_toArray, List.set_cons_zero, List.set_cons_succ])
            first | (refine anyT_take 15 (some 130) (v := ?_) rfl rfl (by kernel_rfl) (by kernel_rfl) (by kernel_rfl) (by kernel_rfl) (fun _ _ _ h => h) (Or.inl ⟨by rfl, ?_⟩) hHeld ?_; rotate_left; focus (intro wq hSw; obtain ⟨hcq, hfq⟩ := bcell hSw; go_simp; (try with_reducible rfl); done))
            (try simp only [Act.put, List.setIfInBounds_toArray, List.set_cons_zero, List.set_cons_succ])
            first | (refine anyT_take 16 (some 131) (v := ?_) rfl rfl (by kernel_rfl) (by kernel_rfl) (by kernel_rfl) (by kernel_rfl) (fun _ _ _ h => h) (Or.inl ⟨by rfl, ?_⟩) hHeld ?_; rotate_left; focus (intro wq hSw; obtain ⟨hcq, hfq⟩ := bcell hSw; go_simp; (try with_reducible rfl); done))
            (try simp only [Act.put, List.setIfInBounds_toArray, List.set_cons_zero, List.set_cons_succ])
            first | (refine anyT_take 17 (some 132) (v := ?_) rfl rfl (by kernel_rfl) (by kernel_rfl) (by kernel_rfl) (by kernel_rfl) (fun _ _ _ h => h) (Or.inl ⟨by rfl, ?_⟩) hHeld ?_; rotate_left; focus (intro wq hSw; obtain ⟨hcq, hfq⟩ := bcell hSw; go_simp; (try with_reducible rfl); done))
            (try simp only [Act.put, List.setIfInBounds_toArray, List.set_cons_zero, List.set_cons_succ])
            first | (refine anyT_take 18 (some 133) (v := ?_) rfl rfl (by kernel_rfl) (by kernel_rfl) (by kernel_rfl) (by kernel_rfl) (fun _ _ _ h => h) (Or.inl ⟨by rfl, ?_⟩) hHeld ?_; rotate_left; focus (intro wq hSw; obtain ⟨hcq, hfq⟩ := bcell hSw; go_simp; (try with_reducible rfl); done))
            (try simp only [Act.put, List.setIfInBounds_toArray, List.set_cons_zero, List.set_cons_succ])
            first | (refine anyT_take 19 (some 134) (v := ?_) rfl rfl (by kernel_rfl) (by kernel_rfl) (by kernel_rfl) (by kernel_rfl) (fun _ _ _ h => h) (Or.inl ⟨by rfl, ?_⟩) hHeld ?_; rotate_left; focus (intro wq hSw; obtain ⟨hcq, hfq⟩ := bcell hSw; go_simp; (try with_reducible rfl); done))
            (try simp only [Act.put, List.setIfInBounds_toArray, List.set_cons_zero, List.set_cons_succ])
            refine anyT_one 13 (by kernel_rfl) rfl (fun K hK => ?_)
            go_simp
            refine (Band_calls _ _ _).mono ?_; rintro e w8 ⟨rfl, hb8⟩
            refine hK.out _ _ ?_ (fun hHeld => ?_)
            · exact below_then hHeld hHeld.size hb8
            clear hK K
            (try simp only [Act.put, List.setIfInBounds_toArray, List.set_cons_zero, List.set_cons_succ])
            first | (refine anyT_take 20 (some 135) (v := ?_) rfl rfl (by kernel_rfl) (by kernel_rfl) (by kernel_rfl) (by kernel_rfl) (fun _ _ _ h => h) (Or.inl ⟨by rfl, ?_⟩) hHeld ?_; rotate_left; focus (intro wq hSw; obtain ⟨hcq, hfq⟩ := bcell hSw; go_simp; (try with_reducible rfl); done))
            (try simp only [Act.put, List.setIfInBounds_toArray, List.set_cons_zero, List.set_cons_succ])
            first | (refine anyT_take 21 (some 136) (v := ?_) rfl rfl (by kernel_rfl) (by kernel_rfl) (by kernel_rfl) (by kernel_rfl) (fun _ _ _ h => h) (Or.inl ⟨by rfl, ?_⟩) hHeld ?_; rotate_left; focus (intro wq hSw; obtain ⟨hcq, hfq⟩ := bcell hSw; go_simp; (try with_reducible rfl); done))
            (try simp only [Act.put, List.setIfInBounds_toArray, List.set_cons_zero, List.set_cons_succ])
            refine anyT_last (by kernel_rfl) rfl (fun K hK => ?_)
            obtain ⟨cur7, tt, hgh, hgc⟩ := (P6.out.below Hb7.out).below hHeld; obtain ⟨q0, q1, q2⟩ := hgc j Hj.out; have gcell : ∀ i, w8.cell? ⟨g', i, none⟩ = cur7[i]? := fun i => (by simp [World.cell?, hgh]); have gfr : ∀ i, w8.frozen? ⟨g', i, none⟩ = false := fun i => (by simp [World.frozen?, hgh]); have z0 : w8.cell? ⟨g', j * 3, none⟩ = _ := (gcell _).trans q0; have z1 : w8.cell? ⟨g', j * 3 + 1, none⟩ = _ := (gcell _).trans q1; have z2 : w8.cell? ⟨g', j * 3 + 2, none⟩ = _ := (gcell _).trans q2; have gl := (Array.getElem?_eq_some_iff.1 hgh).1; clear hgh hgc q0 q1 q2 gcell
            go_simp
            refine hK.out _ _ ?_
            clear hK K
            (try simp only [Act.put, List.setIfInBounds_toArray, List.set_cons_zero, List.set_cons_succ])
            refine anyT_done (by kernel_rfl) ?_ _
            go_wp2
            go_meet
            have hb8' := below_then H7.out H7.out.size hHeld
            exact cut_player (q := { gp B.players j with lo := _, hi := _ }) HB.out g.out hb8' ((K7.out.below Hb7.out).below hHeld) ((K3c.out.below Hb7.out).below hHeld) ((P6.out.below Hb7.out).below hHeld) (by omega) Hgn.out Hgw0.out Hj.out (bet_late g.out Hj.out (by omega))
              (fun W' hk => (HB.out.2.below (hb8'.trans (hk.below (n := w.heap.size) (fun k _ e => by have := Hgw0.out; omega) hb8'.size))).2.2 (gp B.players j) (gp_mem Hj.out))
      · as_aux_lemma =>
          have hw1 : IntKind.i64.wrap (B.slo - by_) = B.slo - by_ := wrap_in (by omega) (by omega)
          have hw2 : IntKind.i64.wrap (B.shi - by_) = B.shi - by_ := wrap_in (by omega) (by omega)
          have h3 : (by_ < B.slo ∧ by_ < B.shi) ∨ (B.slo ≤ by_ ∧ by_ < B.shi) ∨ (B.slo ≤ by_ ∧ B.shi ≤ by_) := by omega
          rcases h3 with ⟨h1, h2⟩ | ⟨h1, h2⟩ | ⟨h1, h2⟩
          all_goals
            go_wp2_with fail
            refine (Band_calls _ _ _).mono ?_
            rintro e w7 ⟨rfl, hb⟩
            clear c3 f3 l3
            obtain ⟨c7, f7, l7⟩ := K7.out.below hb
            go_wp2
            go_meet
            exact cut_slip HB.out g.out (below_then H6.out H6.out.size hb) (K7.out.below hb) (K3c.out.below hb) (P6.out.below hb) (by omega) Hgn.out (by omega)
      · as_aux_lemma =>
          obtain ⟨c7, f7, l7⟩ := K7.out
          by_cases hl1 : 1 < B.players.length
          · have hl1i : (1 : Int) < B.players.length := by omega
            have hwl : IntKind.i64.wrap ((B.players.length : Int) - 1) = (B.players.length : Int) - 1 := wrap_in (by omega) (by omega)
            have hcp := Hcap.out
            have hs0 : (0 : Int) ≤ (B.players.length : Int) - 1 := by omega
            have hs1 : (B.players.length : Int) - 1 ≤ cap := by omega
            have hsn : ((B.players.length : Int) - 1).toNat = B.players.length - 1 := by omega
            go_wp2
            go_meet
            exact cut_take HB.out g.out H6.out K7.out K3c.out P6.out (by omega) Hgn.out (by omega)
          · have hl1i : ¬ (1 : Int) < B.players.length := by omega
            go_wp2
            go_meet
            exact cut_same HB.out g.out H6.out K7.out K3c.out P6.out
      · as_aux_lemma =>
          have hw0 : IntKind.i64.wrap (10 * by_) = 10 * by_ := wrap_in (by omega) (by omega)
          have hw1 : IntKind.i64.wrap (B.tlo - 10 * by_) = B.tlo - 10 * by_ := wrap_in (by omega) (by omega)
          have hw2 : IntKind.i64.wrap (B.thi + 10 * by_) = B.thi + 10 * by_ := wrap_in (by omega) (by omega)
          rcases Int.lt_or_le (10 * by_) B.tlo with h1 | h1 <;> rcases Int.lt_or_le (B.thi + 10 * by_) 128000 with h2 | h2
          all_goals
            go_wp2_with fail
            refine (Band_calls _ _ _).mono ?_
            rintro e w7 ⟨rfl, hb⟩
            clear c3 f3 l3
            obtain ⟨c7, f7, l7⟩ := K7.out.below hb
            go_wp2
            go_meet
            exact cut_time HB.out g.out (below_then H6.out H6.out.size hb) (K7.out.below hb) (K3c.out.below hb) (P6.out.below hb) (by omega) Hgn.out (by omega)
    case rest =>
      as_aux_lemma =>
        obtain ⟨X, hE, gX, k7, hX, k3, hb8⟩ := hcut
        generalize wc = w8 at *
        unfold BookV.cells at k7 k3
        have HE := Lib.hid hE
        have GX := Lib.hid gX
        have HX := Lib.hid hX
        have H8 := Lib.hid hb8
        have K7x := Lib.hid k7
        have K3x := Lib.hid k3
        clear hE gX hX hb8 k7 K3 K7 P6 H6 Hcs Hcc Hcat HpA
        obtain ⟨c3, f3, l3⟩ := k3
        go_wp2_with fail
        refine (eq0_2 (v' := B.val) (by unfold BookV.val BookV.cells; rfl) (chosen_calls B g.out A c bits _ (HP.out.below H8.out))).mono ?_
        rintro e w9 ⟨⟨A2, cc2, rfl, hi2, hc2⟩, hb⟩
        have ip := Lib.hid (chosenP_path g.out bits)
        generalize chosenP B bits = path at *
        have H9 := Lib.hid (below_then H8.out H8.out.size hb)
        replace K3x := Lib.hid (K3x.out.below hb)
        replace K7x := Lib.hid (K7x.out.below hb)
        replace HX := Lib.hid (HX.out.below hb)
        have Hi2 := Lib.hid hi2
        clear hb hi2 hc2 c3 f3 l3 H8
        obtain ⟨pB, hpB⟩ : ∃ p, p = isPlanS B path := ⟨_, rfl⟩
        obtain ⟨pX, hpX⟩ : ∃ p, p = isPlanS X path := ⟨_, rfl⟩
        have HRB : Hid (isPlanR B path = .tuple #[.bool pB, .int .i64 0]) := by rw [hpB]; exact isPlanR_ok' g.out ip.out
        have HRX : Hid (isPlanR X path = .tuple #[.bool pX, .int .i64 0]) := by rw [hpX]; exact isPlanR_ok' GX.out (HE.out.path ip.out)
        have Himp : Hid (pB = true → pX = true) := fun h => by rw [hpX]; exact easier_plan HE.out g.out GX.out ip.out (by rw [← hpB]; exact h)
        have HNB : Hid (plansR B = .tuple #[.int .i64 (allPlans B).length, .int .i64 0]) := by unfold Hid plansR; rw [Hgg.out]; rfl
        have HNX : Hid (plansR X = .tuple #[.int .i64 (allPlans X).length, .int .i64 0]) := by unfold Hid plansR; rw [(goodB_iff X).2 GX.out]; rfl
        have hle := easier_plans HE.out g.out GX.out
        have hnl : ¬ (((allPlans X).length : Int) < (allPlans B).length) := by omega
        obtain ⟨kB, kX, eB, eX, hRB, hRX, hcase⟩ := easier_bound HE.out g.out GX.out
        have HQB := Lib.hid hRB
        have HQX := Lib.hid hRX
        have Hcase := Lib.hid hcase
        clear hpB hpX hle hRB hRX hcase
        generalize allPlans X = LX at *
        generalize allPlans B = LB at *
        obtain ⟨c3, f3, l3⟩ := K3x.out
        go_wp2_with fail
        refine (eq0_2 (v' := B.val) (by unfold BookV.val BookV.cells; rfl) (IsPlan_calls B A2 cc2 path _ (HB.out.below H9.out) Hi2.out (HM.out.below H9.out))).mono ?_
        rintro e w10 ⟨rfl, hb⟩
        rw [HRB.out]
        have H10 := Lib.hid (below_then H9.out H9.out.size hb)
        replace K3x := Lib.hid (K3x.out.below hb)
        replace K7x := Lib.hid (K7x.out.below hb)
        replace HX := Lib.hid (HX.out.below hb)
        replace Hi2 := Lib.hid (Hi2.out.below hb)
        clear hb c3 f3 l3
        obtain ⟨c7, f7, l7⟩ := K7x.out
        go_wp2_with fail
        refine (eq0_2 (v' := X.val) (by unfold BookV.val BookV.cells; rfl) (IsPlan_calls X A2 cc2 path _ HX.out Hi2.out (HM.out.below H10.out))).mono ?_
        rintro e w11 ⟨rfl, hb⟩
        rw [HRX.out]
        have H11 := Lib.hid (below_then H10.out H10.out.size hb)
        replace K3x := Lib.hid (K3x.out.below hb)
        replace K7x := Lib.hid (K7x.out.below hb)
        replace HX := Lib.hid (HX.out.below hb)
        clear hb c7 f7 l7
        obtain ⟨c3, f3, l3⟩ := K3x.out
        go_wp2_with fail
        refine (eq0_1 (v' := B.val) (by unfold BookV.val BookV.cells; rfl) (Plans_calls B _ (HB.out.below H11.out) (HM.out.below H11.out))).mono ?_
        rintro e w12 ⟨rfl, hb⟩
        rw [HNB.out]
        have H12 := Lib.hid (below_then H11.out H11.out.size hb)
        replace K3x := Lib.hid (K3x.out.below hb)
        replace K7x := Lib.hid (K7x.out.below hb)
        replace HX := Lib.hid (HX.out.below hb)
        clear hb c3 f3 l3
        obtain ⟨c7, f7, l7⟩ := K7x.out
        go_wp2_with fail
        refine (eq0_1 (v' := X.val) (by unfold BookV.val BookV.cells; rfl) (Plans_calls X _ HX.out (HM.out.below H12.out))).mono ?_
        rintro e w13 ⟨rfl, hb⟩
        rw [HNX.out]
        have H13 := Lib.hid (below_then H12.out H12.out.size hb)
        replace K3x := Lib.hid (K3x.out.below hb)
        replace K7x := Lib.hid (K7x.out.below hb)
        replace HX := Lib.hid (HX.out.below hb)
        clear hb c7 f7 l7
        go_upto_region 25 with (fail)
        go_cut [217] (fun s w14 => s = .bool false ∧ w13 = w14)
        case first =>
          have himp := Himp.out
          cases pB with
          | true =>
            obtain rfl := himp rfl
            go_wp2
            go_meet
            exact ⟨by rw [decide_eq_false (by omega)], rfl⟩
          | false =>
            clear himp
            go_wp2
            go_meet
            exact ⟨by rw [decide_eq_false (by omega)], rfl⟩
        case rest =>
          obtain ⟨rfl, rfl⟩ := hcut
          obtain ⟨c3, f3, l3⟩ := K3x.out
          go_wp2_with fail
          refine (eq0_2 (v' := B.val) (by unfold BookV.val BookV.cells; rfl) (Bound_calls B 0 _ (HB.out.below H13.out) (HM.out.below H13.out))).mono ?_
          rintro e w14 ⟨rfl, hb⟩
          rw [HQB.out]
          unfold two
          have H14 := Lib.hid (below_then H13.out H13.out.size hb)
          replace K7x := Lib.hid (K7x.out.below hb)
          replace HX := Lib.hid (HX.out.below hb)
          clear hb c3 f3 l3
          obtain ⟨c7, f7, l7⟩ := K7x.out
          go_wp2_with fail
          refine (eq0_2 (v' := X.val) (by unfold BookV.val BookV.cells; rfl) (Bound_calls X 0 _ HX.out (HM.out.below H14.out))).mono ?_
          rintro e w15 ⟨rfl, hb⟩
          rw [HQX.out]
          unfold two
          have H15 := Lib.hid (below_then H14.out H14.out.size hb)
          clear hb c7 f7 l7
          rcases Hcase.out with ⟨rfl, rfl, hkm⟩ | ⟨rfl, rfl | rfl⟩
          · go_wp2_with fail
            refine (works_calls _ (HM.out.below H15.out)).mono ?_
            rintro e w16 ⟨rfl, hb⟩
            have hfin := below_then H15.out H15.out.size hb
            clear hb
            go_wp2
            go_ret
            exact ⟨rfl, hfin⟩
          all_goals
            go_wp2_with fail
            refine (works_calls _ (HM.out.below H15.out)).mono ?_
            rintro e w16 ⟨rfl, hb⟩
            have hfin := below_then H15.out H15.out.size hb
            clear hb
            go_wp2
            go_ret
            exact ⟨rfl, hfin⟩
end Go.Proofs.YtljikigmfkfkiaaDoor
