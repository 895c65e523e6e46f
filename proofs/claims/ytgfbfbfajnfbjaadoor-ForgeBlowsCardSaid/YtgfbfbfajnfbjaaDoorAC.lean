import Derived.Test.YtgfbfbfajnfbjaaDoorL
import Derived.Test.YtgfbfbfajnfbjaaDoorU
import Derived.LoopNIn
namespace Go.Proofs.YtgfbfbfajnfbjaaDoor
section
open Go.RowKit Go.Shelf
set_option linter.unusedSimpArgs false
set_option linter.unusedVariables false
/-- Marks of ranges over functions, that a function has gathered: each one's block holds no calls. -/
def Marks (lo : Nat) : List Deferred → World → Prop
  | [], _ => True
  | d :: ds, W => (∃ D, d = { target := .collected D, args := #[] } ∧ lo ≤ D ∧ W.heap[D]? = some (.deferred (some [])) ∧ ∀ d', d' ∈ ds → d'.target ≠ .collected D) ∧ Marks lo ds W
theorem Marks.keep {lo : Nat} : ∀ {ds : List Deferred} {W W' : World}, Marks lo ds W → Keep (fun k => W.heap.size ≤ k ∨ ∀ d, d ∈ ds → d.target ≠ .collected k) W W' → Marks lo ds W'
  | [], _, _, _, _ => trivial
  | d :: ds, W, W', h, k => by
    obtain ⟨⟨D, rfl, h1, h2, h3⟩, h4⟩ := h
    have hl := (Array.getElem?_eq_some_iff.1 h2).1
    refine ⟨⟨D, rfl, h1, (k.block D hl (by
      rintro (h | h)
      · omega
      · exact h _ List.mem_cons_self rfl)).trans h2, h3⟩, Marks.keep h4 (k.mono fun q hq e => e.imp id fun e d' hd' => e d' (by simp [hd']))⟩
theorem Marks.lt {lo : Nat} : ∀ {ds : List Deferred} {W : World}, Marks lo ds W → ∀ d, d ∈ ds → ∀ D, d.target = .collected D → lo ≤ D ∧ D < W.heap.size
  | d :: ds, W, h, d', hd, D, hD => by
    obtain ⟨⟨D0, rfl, h1, h2, h3⟩, h4⟩ := h
    rcases List.mem_cons.1 hd with rfl | hd
    · simp at hD; subst hD; exact ⟨h1, (Array.getElem?_eq_some_iff.1 h2).1⟩
    · exact Marks.lt h4 d' hd D hD
theorem Marks.below {lo : Nat} {ds : List Deferred} {W W' : World} (h : Marks lo ds W) (k : Below W.heap.size W W') : Marks lo ds W' := h.keep (Keep.of_below k)
/-- A function leaves with its marks. -/
theorem leaves_marks {F : Fence} {n : Nat} {P : Program} {fn : Func} {tmps : Array Value} {R : Ending → World → Prop} {lo : Nat} : ∀ (ds : List Deferred) (W : World), Marks lo ds W →
    (∀ W', Keep (fun k => lo ≤ k ∧ ∃ d, d ∈ ds ∧ d.target = .collected k) W W' → ∃ v, (results fn tmps).run P W' = .ok v W' ∧ R (.returned v) W') → LeavesInM F n P fn tmps R ds .returning W
  | [], W, _, h => by
    obtain ⟨v, h1, h2⟩ := h W (Keep.refl _ _)
    exact ⟨v, h1, h2⟩
  | d :: ds, W, hm, h => by
    obtain ⟨⟨D, rfl, h1, h2, h3⟩, h4⟩ := hm
    refine ⟨by simp, .inl ⟨D, _, rfl, run_takeDeferred h2, leaves_marks ds _ (h4.keep ((Keep.putObj W D _).mono fun k _ e => .inr fun d' hd' e' => h3 d' hd' (e ▸ e'))) fun W' hk => h W' ?_⟩⟩
    exact ((Keep.putObj W D (.deferred none)).mono fun k _ e => ⟨by omega, _, List.mem_cons_self, by rw [e]⟩).trans (hk.mono fun k _ e => ⟨e.1, e.2.imp fun d hd => ⟨List.mem_cons_of_mem _ hd.1, hd.2⟩⟩)
/-- A loop whose rounds are counted down. -/
theorem loop_down {F : Fence} {n : Nat} {P : Program} {c : Code} {Q : Exit → Act → World → Prop} (I : Nat → Act → World → Prop)
    (h : ∀ m a w, I m a w → c.wpIn F n P (Exit.then (fun a' w' => ∃ m', m = m' + 1 ∧ I m' a' w') Q) a w) : ∀ m a w, I m a w → Code.roundsIn F n P c Q (m + 1) a w
  | 0, a, w, hI => by
    rw [roundsIn_succ]
    refine wpIn_mono (h 0 a w hI) ?_
    intro e a' w' h1
    cases e <;> first | exact h1 | (obtain ⟨m', hm, _⟩ := h1; omega)
  | m + 1, a, w, hI => by
    rw [roundsIn_succ]
    refine wpIn_mono (h (m + 1) a w hI) ?_
    intro e a' w' h1
    cases e <;> first | exact h1 | (obtain ⟨m', hm, h2⟩ := h1; obtain rfl : m' = m := (by omega); exact loop_down I h _ a' w' h2)
end
section
open Go.RowKit Go.Shelf
attribute [local go_sem] Oper.semAt_some
set_option linter.unusedSimpArgs false
set_option linter.unusedVariables false
def mostR (B : ForgeV) : Value := bif goodF B then (if mostS B 24 = 0 then .tuple #[.int .i64 0, .int .i64 4] else .tuple #[.int .i64 (mostS B 24 : Nat), .int .i64 0]) else .tuple #[.int .i64 0, .int .i64 20]
theorem most_end {a : Act} {W : World} {n2 n3 : Nat} {x y : Value} (k2 : BoxAt W n2 #[x]) (k3 : BoxAt W n3 #[y]) (h2 : a.tmps.getD 2 undef = .pointer (some ⟨n2, 0, none⟩)) (h3 : a.tmps.getD 3 undef = .pointer (some ⟨n3, 0, none⟩)) :
    (results Tryd.f25 a.tmps).run Tryd.prog W = .ok (.tuple #[x, y]) W := by
  obtain ⟨c2, f2, l2⟩ := k2
  obtain ⟨c3, f3, l3⟩ := k3
  simp only [Array.getD_eq_getD_getElem?] at h2 h3
  simp [results, Tryd.results25, h2, h3, go_sem, c2, c3]
structure MostAt (B : ForgeV) (w : World) (n2 n3 n5 m n6 : Nat) (ds : List Deferred) (W : World) : Prop where
  le : m ≤ 24
  most : mostS B 24 = mostS B m
  lt : n5 < n6
  k6 : BoxAt W n6 #[.int .i64 m]
  k2 : BoxAt W n2 #[.int .i64 0]
  k3 : BoxAt W n3 #[.int .i64 0]
  k5 : BoxAt W n5 B.cells
  old : Below w.heap.size w W
  marks : Marks n5 ds W
set_option maxRecDepth 100000 in
set_option maxHeartbeats 4000000 in
theorem Most_calls (B : ForgeV) (w : World) (hB : B.Reads w) (hM : EndsAt w) :
    Calls Tryd.prog 25 #[B.val] w fun e w' => e = .returned (mostR B) ∧ Below w.heap.size w w' := by
  have HB := Lib.hid hB
  have HM := Lib.hid hM
  have k1 := ((BoxAt.new w B.cells 28).alloc (.cells #[.int .i64 0] 3)).alloc (.cells #[.int .i64 0] 30)
  have k2 := (BoxAt.new (w.alloc (.cells B.cells 28)) #[.int .i64 0] 3).alloc (.cells #[.int .i64 0] 30)
  have k3 := BoxAt.new ((w.alloc (.cells B.cells 28)).alloc (.cells #[.int .i64 0] 3)) #[.int .i64 0] 30
  have Hb : Below w.heap.size w (((w.alloc (.cells B.cells 28)).alloc (.cells #[.int .i64 0] 3)).alloc (.cells #[.int .i64 0] 30)) := (((Below.refl _ _).alloc (Nat.le_refl _) _).alloc (by simp) _).alloc (by simp; omega) _
  simp only [World.size_alloc] at k2 k3
  have hR : Hid (mostR B = bif goodF B then (if mostS B 24 = 0 then .tuple #[.int .i64 0, .int .i64 4] else .tuple #[.int .i64 (mostS B 24 : Nat), .int .i64 0]) else .tuple #[.int .i64 0, .int .i64 20]) := Lib.hid rfl
  clear hB hM
  unfold ForgeV.val
  unfold ForgeV.cells at k1 k2 k3 Hb ⊢
  cases hg : goodF B with
  | false =>
    go_enter Tryd.func25, Tryd.ntmps25
    go_upto_region 1 with (fail)
    generalize World.alloc (World.alloc (World.alloc w _) _) _ = W at *
    have hns : w.heap.size < w.heap.size + 1 ∧ w.heap.size + 1 < w.heap.size + 1 + 1 := by omega
    generalize w.heap.size + 1 + 1 = n3 at *
    generalize w.heap.size + 1 = n2 at *
    have K2 := Lib.hid k2
    have K3 := Lib.hid k3
    obtain ⟨c1, f1, l1⟩ := k1
    clear k2 k3
    go_wp2_with fail
    refine (eq0_1 (v' := B.val) (by unfold ForgeV.val ForgeV.cells; rfl) (Check_calls B _ (HB.out.below Hb))).mono ?_
    rintro e w1 ⟨rfl, hb⟩
    clear c1 f1 l1
    have H2 := below_then Hb Hb.size hb
    have k2 := K2.out.below hb
    have k3 := K3.out.below hb
    rw [hg, cond_false]
    have hz := Lib.hid (hR.out.trans (by rw [hg, cond_false]))
    have hks : Keep (fun q => q = n2 ∨ q = n3) w1 ((w1.setCell ⟨n2, 0, none⟩ (.int .i64 0)).setCell ⟨n3, 0, none⟩ (.int .i64 20)) := Keep.setCell (Keep.setCell (Keep.refl _ _) (p := ⟨n2, 0, none⟩) (.inl (.inl rfl)) _) (p := ⟨n3, 0, none⟩) (.inl (.inr rfl)) _
    have hs2 := (k2.set1 (.int .i64 0)).keep (Keep.setCell (M := fun k => k = n3) (Keep.refl _ _) (p := ⟨n3, 0, none⟩) (.inl rfl) (.int .i64 20)) (by omega)
    have hs3 := BoxAt.set1 (k3.keep (Keep.setCell (M := fun k => k = n2) (Keep.refl _ _) (p := ⟨n2, 0, none⟩) (.inl rfl) (.int .i64 0)) (by omega)) (.int .i64 20)
    have HF := Lib.hid (H2.trans (hks.below (fun k _ e => by omega) H2.size))
    have Hs2 := Lib.hid hs2
    have Hs3 := Lib.hid hs3
    obtain ⟨c2, f2, l2⟩ := k2
    obtain ⟨c3, f3, l3⟩ := k3
    clear hs2 hs3 hb hg hks H2 K2 K3
    go_wp2
    exact bodyPost_ret (most_end Hs2.out Hs3.out rfl rfl) rfl ⟨by rw [hz.out], HF.out⟩
  | true =>
    have g := (goodF_iff B).1 hg
    have Hg := Lib.hid g
    have hz := Lib.hid (hR.out.trans (by rw [hg, cond_true]))
    refine (callsIn_wide (n := 0)).1 ?_
    refine callsIn_of_wp_marks Tryd.func25 rfl trivial ?_ rfl
    simp only [Tryd.ntmps25, List.size_toArray, List.length_cons, List.length_nil, Nat.reduceAdd, Nat.reduceSub, Array.replicate_succ, Array.replicate_zero, List.push_toArray, List.append_toArray, List.nil_append, List.cons_append]
    gi_upto_region 1 with (fail)
    generalize World.alloc (World.alloc (World.alloc w _) _) _ = W at *
    have hns : w.heap.size < w.heap.size + 1 ∧ w.heap.size + 1 < w.heap.size + 1 + 1 := by omega
    generalize w.heap.size + 1 + 1 = n3 at *
    generalize w.heap.size + 1 = n2 at *
    have K2 := Lib.hid k2
    have K3 := Lib.hid k3
    have K1 := Lib.hid k1
    obtain ⟨c1, f1, l1⟩ := k1
    clear k2 k3
    gi_wp2_with fail
    refine ⟨trivial, rfl, ?_⟩
    refine (callsIn_wide.2 (eq0_1 (v' := B.val) (by unfold ForgeV.val ForgeV.cells; rfl) (Check_calls B _ (HB.out.below Hb)))).mono ?_
    rintro e w1 ⟨rfl, hb⟩
    clear c1 f1 l1
    have H2 := below_then Hb Hb.size hb
    replace K2 := Lib.hid (K2.out.below hb)
    replace K3 := Lib.hid (K3.out.below hb)
    obtain ⟨c1, f1, l1⟩ := K1.out.below hb
    have hn3 := K3.out.lt
    rw [hg, cond_true]
    clear hb hg hR Hb g
    have k5 := (BoxAt.new w1 B.cells 87).alloc (.cells #[.int .i64 24] 3)
    have k6 := BoxAt.new (w1.alloc (.cells B.cells 87)) #[.int .i64 24] 3
    have hb6 : Below w1.heap.size w1 ((w1.alloc (.cells B.cells 87)).alloc (.cells #[.int .i64 24] 3)) := ((Below.refl _ _).alloc (Nat.le_refl _) _).alloc (by simp) _
    rw [World.size_alloc] at k6
    unfold ForgeV.cells at k5 k6 hb6
    gi_wp2_with fail
    clear c1 f1 l1
    generalize (w1.alloc _).alloc _ = W6 at *
    have H6 := Lib.hid (below_then H2 H2.size hb6)
    replace K2 := Lib.hid (K2.out.below hb6)
    replace K3 := Lib.hid (K3.out.below hb6)
    have hn56 : n3 < w1.heap.size ∧ w1.heap.size < w1.heap.size + 1 := by omega
    clear hb6 H2 hn3
    generalize w1.heap.size + 1 = n6 at *
    generalize w1.heap.size = n5 at *
    have K5 := Lib.hid k5
    have K6 := Lib.hid k6
    clear k5 k6
    refine wpIn_loop_rounds 25 (loop_down (fun m a W => ∃ n6 ds u14 u15 u16 u17 u18 u19 u20 u21 u22 u23 u24 u25, a = { tmps := #[.agg #[.slice B.lA B.lots.length B.lCap, .int .i64 B.tlo, .int .i64 B.thi, .int .i64 B.thick, .int .i64 B.crack, .int .i64 B.glo, .int .i64 B.ghi, .slice B.sA B.thins.length B.sCap, .int .i64 B.hot, .int .i64 B.least, .int .i64 B.clo, .int .i64 B.chi, .int .i64 B.coal, .slice B.kA B.looks.length B.kCap], .pointer (some ⟨w.heap.size, 0, none⟩), .pointer (some ⟨n2, 0, none⟩), .pointer (some ⟨n3, 0, none⟩), .int .i64 0, .pointer (some ⟨n5, 0, none⟩), .pointer (some ⟨n6, 0, none⟩), .agg #[.slice B.lA B.lots.length B.lCap, .int .i64 B.tlo, .int .i64 B.thi, .int .i64 B.thick, .int .i64 B.crack, .int .i64 B.glo, .int .i64 B.ghi, .slice B.sA B.thins.length B.sCap, .int .i64 B.hot, .int .i64 B.least, .int .i64 B.clo, .int .i64 B.chi, .int .i64 B.coal, .slice B.kA B.looks.length B.kCap], .int .i64 0, .int .i64 0, .bool false, undef, .agg #[.slice B.lA B.lots.length B.lCap, .int .i64 B.tlo, .int .i64 B.thi, .int .i64 B.thick, .int .i64 B.crack, .int .i64 B.glo, .int .i64 B.ghi, .slice B.sA B.thins.length B.sCap, .int .i64 B.hot, .int .i64 B.least, .int .i64 B.clo, .int .i64 B.chi, .int .i64 B.coal, .slice B.kA B.looks.length B.kCap], .agg #[.slice B.lA B.lots.length B.lCap, .int .i64 B.tlo, .int .i64 B.thi, .int .i64 B.thick, .int .i64 B.crack, .int .i64 B.glo, .int .i64 B.ghi, .slice B.sA B.thins.length B.sCap, .int .i64 B.hot, .int .i64 B.least, .int .i64 B.clo, .int .i64 B.chi, .int .i64 B.coal, .slice B.kA B.looks.length B.kCap], u14, u15, u16, u17, u18, u19, u20, u21, u22, u23, u24, u25], defers := ds } ∧ Hid (MostAt B w n2 n3 n5 m n6 ds W)) ?_ 24 _ _ ⟨n6, [], _, _, _, _, _, _, _, _, _, _, _, _, rfl, Lib.hid ⟨Nat.le_refl _, rfl, hn56.2, K6.out, K2.out, K3.out, K5.out, H6.out, trivial⟩⟩)
    clear K2 K3 K5 K6 H6
    rintro m a0 W ⟨n6, ds, u14, u15, u16, u17, u18, u19, u20, u21, u22, u23, u24, u25, rfl, HI⟩
    have hi := HI.out
    obtain ⟨c6, f6, l6⟩ := hi.k6
    have hn6 := hi.lt
    cases m with
    | zero =>
      have hk2 := hi.k2
      have hk3 := hi.k3
      have hks : Keep (fun q => q = n2 ∨ q = n3) W ((W.setCell ⟨n2, 0, none⟩ (.int .i64 0)).setCell ⟨n3, 0, none⟩ (.int .i64 4)) := Keep.setCell (Keep.setCell (Keep.refl _ _) (p := ⟨n2, 0, none⟩) (.inl (.inl rfl)) _) (p := ⟨n3, 0, none⟩) (.inl (.inr rfl)) _
      have Hs2 := Lib.hid ((hk2.set1 (.int .i64 0)).keep (Keep.setCell (M := fun k => k = n3) (Keep.refl _ _) (p := ⟨n3, 0, none⟩) (.inl rfl) (.int .i64 4)) (by omega))
      have Hs3 := Lib.hid (BoxAt.set1 (hk3.keep (Keep.setCell (M := fun k => k = n2) (Keep.refl _ _) (p := ⟨n2, 0, none⟩) (.inl rfl) (.int .i64 0)) (by omega)) (.int .i64 4))
      have HF := Lib.hid (hi.old.trans (hks.below (fun k _ e => by omega) hi.old.size))
      have HMk := Lib.hid (hi.marks.keep (hks.mono fun k _ e => .inr fun d hd ht => by have := hi.marks.lt d hd k ht; omega))
      have Hres := Lib.hid (show mostR B = .tuple #[.int .i64 0, .int .i64 4] by rw [hz.out, hi.most]; rfl)
      have hF0 := HF.out.size
      obtain ⟨c2, f2, l2⟩ := hk2
      obtain ⟨c3, f3, l3⟩ := hk3
      clear hks hi
      gi_wp2
      refine leaves_marks (lo := n5) _ _ HMk.out fun W' hk' => ⟨_, most_end (Hs2.out.keep hk' (by omega)) (Hs3.out.keep hk' (by omega)) rfl rfl, by rw [Hres.out], HF.out.trans (hk'.below (fun k _ e => by omega) hF0)⟩
    | succ m =>
      have hm1 : ((m + 1 : Nat) : Int) = (m : Int) + 1 := by omega
      have hk6 := hi.k6
      rw [hm1] at c6 hk6
      have hpos : (0 : Int) < (m : Int) + 1 := by omega
      have hm24 : (m : Int) + 1 ≤ 24 := by have := hi.le; omega
      have hmost : mostS B (m + 1) = if (meltsS B (stockS B) ((m : Int) + 1)).isEmpty then mostS B m else m + 1 := rfl
      have hmo := hi.most
      rw [hmost] at hmo
      have Hmo := Lib.hid hmo
      have K6 := Lib.hid hk6
      have k5 := hi.k5
      have K5 := Lib.hid k5
      have K2 := Lib.hid hi.k2
      have K3 := Lib.hid hi.k3
      have HW := Lib.hid hi.old
      have HMk := Lib.hid hi.marks
      have hs5 := k5.lt
      unfold ForgeV.cells at k5
      obtain ⟨c5, f5, l5⟩ := k5
      clear hm1 hmost hmo hi HI hk6
      gi_upto_region 8 with (fail)
      clear c5 f5 l5 c6 f6
      unfold ForgeV.cells at K5
      refine region_wideN (S := fun w' => BoxAt w' n5 #[.slice B.lA B.lots.length B.lCap, .int .i64 B.tlo, .int .i64 B.thi, .int .i64 B.thick, .int .i64 B.crack, .int .i64 B.glo, .int .i64 B.ghi, .slice B.sA B.thins.length B.sCap, .int .i64 B.hot, .int .i64 B.least, .int .i64 B.clo, .int .i64 B.chi, .int .i64 B.coal, .slice B.kA B.looks.length B.kCap] ∧ BoxAt w' n6 #[.int .i64 ((m : Int) + 1)] ∧ Below W.heap.size W w') 5 (by kernel_rfl) ?_ (fun hHeld => ?_)
      · exact ⟨K5.out.below ((Below.refl _ _).drew), K6.out.below ((Below.refl _ _).drew), (Below.refl _ _).drew⟩
      first | (refine anyT_take 0 (some 18) (v := ?_) rfl rfl (by kernel_rfl) (by kernel_rfl) (by kernel_rfl) (by kernel_rfl) (fun _ _ _ h => h) (Or.inl ⟨by rfl, ?_⟩) hHeld ?_; rotate_left; focus (intro wq hSw; obtain ⟨⟨c5, f5, l5⟩, ⟨c6, f6, l6⟩, _⟩ := hSw; go_simp; (try with_reducible rfl); done))
      (try simp only [Act.put, List.setIfInBounds_toArray, List.set_cons_zero, List.set_cons_succ])
      first | (refine anyT_take 1 (some 19) (v := ?_) rfl rfl (by kernel_rfl) (by kernel_rfl) (by kernel_rfl) (by kernel_rfl) (fun _ _ _ h => h) (Or.inl ⟨by rfl, ?_⟩) hHeld ?_; rotate_left; focus (intro wq hSw; obtain ⟨⟨c5, f5, l5⟩, ⟨c6, f6, l6⟩, _⟩ := hSw; go_simp; (try with_reducible rfl); done))
      (try simp only [Act.put, List.setIfInBounds_toArray, List.set_cons_zero, List.set_cons_succ])
      first | (refine anyT_take 3 (some 21) (v := ?_) rfl rfl (by kernel_rfl) (by kernel_rfl) (by kernel_rfl) (by kernel_rfl) (fun _ _ _ h => h) (Or.inl ⟨by rfl, ?_⟩) hHeld ?_; rotate_left; focus (intro wq hSw; obtain ⟨⟨c5, f5, l5⟩, ⟨c6, f6, l6⟩, _⟩ := hSw; go_simp; (try with_reducible rfl); done))
      (try simp only [Act.put, List.setIfInBounds_toArray, List.set_cons_zero, List.set_cons_succ])
      refine anyT_one 2 (by kernel_rfl) rfl (fun K hK => ?_)
      go_simp
      refine (eq0_1 (v' := B.val) (by unfold ForgeV.val ForgeV.cells; rfl) (stock_calls B Hg.out _ (HB.out.below (below_then HW.out HW.out.size hHeld.2.2)))).mono ?_; rintro e w7 ⟨rfl, hb7⟩
      refine hK.out _ _ ?_ (fun hHeld => ?_)
      · exact ⟨hHeld.1.below hb7, hHeld.2.1.below hb7, below_then hHeld.2.2 hHeld.2.2.size hb7⟩
      clear hK K
      (try simp only [Act.put, List.setIfInBounds_toArray, List.set_cons_zero, List.set_cons_succ])
      refine anyT_one 4 (by kernel_rfl) rfl (fun K hK => ?_)
      go_simp
      refine (eq0_3 (v' := B.val) (by unfold ForgeV.val ForgeV.cells; rfl) (melts_calls B (stockS B) ((m : Int) + 1) _)).mono ?_; rintro e w9 ⟨bB, bH, bm, rfl, ⟨kB, kH, km⟩, hle, hb9⟩; have hHb := hHeld
      refine hK.out _ _ ?_ (fun hHeld => ?_)
      · exact ⟨hHeld.1.below hb9, hHeld.2.1.below hb9, below_then hHeld.2.2 hHeld.2.2.size hb9⟩
      clear hK K
      (try simp only [Act.put, List.setIfInBounds_toArray, List.set_cons_zero, List.set_cons_succ])
      refine anyT_done (by kernel_rfl) ?_ _
      rw [NP_normal]
      have H9 := Lib.hid (below_then HW.out HW.out.size hHeld.2.2)
      have K29 := Lib.hid (K2.out.below hHeld.2.2)
      have K39 := Lib.hid (K3.out.below hHeld.2.2)
      have K59 := Lib.hid hHeld.1
      have K69 := Lib.hid hHeld.2.1
      have HMk9 := Lib.hid (HMk.out.below hHeld.2.2)
      have hl2 := K29.out.lt
      have hl3 := K39.out.lt
      have hl5 := K59.out.lt
      have hl6 := K69.out.lt
      have hs9 := H9.out.size
      clear hHeld hHb hle hb9 hb7 K2 K3 K5 K6 HW HMk
      gi_wp2_with fail
      refine wpIn_range_p (gf := 102) (lb := #[.pointer (some ⟨bB, 0, none⟩), .pointer (some ⟨bH, 0, none⟩), .pointer (some ⟨bm, 0, none⟩)]) rfl entersMelts1
        (melts_seq B Hg.out (stockS B) (by simp [stockS]) (fun k => by have := stock_bd Hg.out k; omega) ((m : Int) + 1) (by omega) w HB.out HM.out bB bH bm (fun _ => False) w9 H9.out kB kH km (fun _ h => h.elim)) (fun k => k = n2 ∨ k = n3) (fun _ h => h.elim) (fun k h => by omega) (fun x vs W hE => by rw [hE]; rfl)
        (fun pre Pv W => pre = [] ∧ Keep (fun k => w9.heap.size ≤ k) w9 W) (fun c pre W => c = .ret ∧ pre ≠ [] ∧ BoxAt W n2 #[.int .i64 ((m : Int) + 1)] ∧ BoxAt W n3 #[.int .i64 0])
        (fun Pv l s X Y r hl hr hk hI => ⟨hI.1, hI.2.trans (hk.mono fun k _ e => by omega)⟩)
        (fun s Pv Pv' X Y hI hk hp _ => ⟨hI.1, hI.2.trans (hk.mono fun k _ h => by have := hp _ h; omega)⟩)
        (fun c l s X Y r hl hr hk hI => ⟨hI.1, hI.2.1, hI.2.2.1.keep hk (by omega), hI.2.2.2.keep hk (by omega)⟩) (fun c s X Y hI hb => ⟨hI.1, hI.2.1, hI.2.2.1.below hb, hI.2.2.2.below hb⟩)
        ⟨rfl, Keep.refl _ _⟩ ?round ?done ?stop
      case stop =>
        rintro D c pre W2 hD hK hpre ⟨rfl, hne, k2', k3'⟩ hd
        have hb := H9.out.trans (hK.below (fun k _ h => by rcases h with (h | h) | h; exact h.elim; omega; omega) H9.out.size)
        have hmk := HMk9.out.keep (hK.mono fun k hk h => by
          rcases h with (h | h) | h
          · exact h.elim
          · exact .inr fun d hd ht => by have := HMk9.out.lt d hd k ht; omega
          · exact .inl h)
        have hmks : Marks n5 ({ target := .collected D, args := #[] } :: ds) W2 := ⟨⟨D, rfl, by omega, hd, fun d hd' ht => by have := HMk9.out.lt d hd' D ht; omega⟩, hmk⟩
        have hres : Hid (mostR B = .tuple #[.int .i64 ((m : Int) + 1), .int .i64 0]) := by
          have h1 := Hmo.out
          rw [if_neg (by intro he; rw [List.isEmpty_iff] at he; rw [he] at hpre; exact hne (List.prefix_nil.1 hpre))] at h1
          refine Lib.hid ?_
          rw [hz.out, h1, if_neg (by omega)]
          congr 2
        have Hb := Lib.hid hb
        have HM2 := Lib.hid hmks
        have K2' := Lib.hid k2'
        have K3' := Lib.hid k3'
        have hF0 := hb.size
        clear hb hmk hmks hd hpre hne k2' k3' hK
        gi_wp2
        refine leaves_marks (lo := n5) _ _ HM2.out fun W' hk' => ⟨_, most_end (K2'.out.keep hk' (by omega)) (K3'.out.keep hk' (by omega)) rfl rfl, by rw [hres.out], Hb.out.trans (hk'.below (fun k _ e => by omega) hF0)⟩
      case done =>
        rintro D W2 hD hK ⟨Pv, ⟨hN, hK2⟩⟩ hd
        have hb := H9.out.trans (hK.below (fun k _ h => by rcases h with h | h; exact h.elim; omega) H9.out.size)
        have hmk := HMk9.out.keep (hK.mono fun k hk h => by
          rcases h with h | h
          · exact h.elim
          · exact .inl h)
        have hmks : Marks n5 ({ target := .collected D, args := #[] } :: ds) W2 := ⟨⟨D, rfl, by omega, hd, fun d hd' ht => by have := HMk9.out.lt d hd' D ht; omega⟩, hmk⟩
        have Hmost := Lib.hid (show mostS B 24 = mostS B m by rw [Hmo.out, hN]; rfl)
        have k62 := K69.out.keep hK2 (by omega)
        have k22 := K29.out.keep hK2 (by omega)
        have k32 := K39.out.keep hK2 (by omega)
        have k52 := K59.out.keep hK2 (by omega)
        have h62 := k62.lt
        have hb9 : Below W2.heap.size W2 (W2.alloc (.cells #[.int .i64 m] 3)) := (Below.refl _ _).alloc (Nat.le_refl _) _
        have k69 := BoxAt.new W2 #[.int .i64 m] 3
        have HM9 := Lib.hid (show MostAt B w n2 n3 n5 m W2.heap.size ({ target := .collected D, args := #[] } :: ds) (W2.alloc (.cells #[.int .i64 m] 3)) from
          ⟨by omega, Hmost.out, by omega, k69, k22.below hb9, k32.below hb9, k52.below hb9, below_then hb hb.size hb9, hmks.below hb9⟩)
        have hw : IntKind.i64.wrap ((m : Int) + 1 - 1) = m := by rw [wrap_in (by omega) (by omega)]; omega
        obtain ⟨c6, f6, l6⟩ := k62
        clear hb hmk hmks hN k22 k32 k52 hb9 k69 hK hK2 hd
        gi_wp2
        exact ⟨m, rfl, W2.heap.size, _, _, _, _, _, _, _, _, _, _, _, _, _, rfl, HM9⟩
      case round =>
        rintro l Pv pre x rest vs W2 hxs hl hle hpv ⟨hN, hK⟩ hE
        unfold EncMelt at hE
        subst hE
        unfold pad4
        gi_wp2
        refine ⟨Keep.refl _ _, ?_⟩
        rintro W3 r hlr hk2
        have hK3 : Keep (fun k => w9.heap.size ≤ k) w9 W3 := hK.trans (hk2.mono fun k _ e => by omega)
        obtain ⟨c6, f6, l6⟩ := K69.out.keep hK3 (by omega)
        have k2 := K29.out.keep hK3 (by omega)
        have k3 := K39.out.keep hK3 (by omega)
        have Hs2 := Lib.hid ((k2.set1 (.int .i64 ((m : Int) + 1))).keep (Keep.setCell (M := fun k => k = n3) (Keep.refl _ _) (p := ⟨n3, 0, none⟩) (.inl rfl) (.int .i64 0)) (by omega))
        have Hs3 := Lib.hid (BoxAt.set1 (k3.keep (Keep.setCell (M := fun k => k = n2) (Keep.refl _ _) (p := ⟨n2, 0, none⟩) (.inl rfl) (.int .i64 ((m : Int) + 1))) (by omega)) (.int .i64 0))
        have Hks : Hid (Keep (fun q => q = n2 ∨ q = n3) W3 ((W3.setCell ⟨n2, 0, none⟩ (.int .i64 ((m : Int) + 1))).setCell ⟨n3, 0, none⟩ (.int .i64 0))) := Keep.setCell (Keep.setCell (Keep.refl _ _) (p := ⟨n2, 0, none⟩) (.inl (.inl rfl)) _) (p := ⟨n3, 0, none⟩) (.inl (.inr rfl)) _
        obtain ⟨c2, f2, l2⟩ := k2
        obtain ⟨c3, f3, l3⟩ := k3
        clear hlr hk2 hK hK3
        gi_wp2
        exact ⟨Hks.out, rfl, by simp, Hs2.out, Hs3.out⟩
end
end Go.Proofs.YtgfbfbfajnfbjaaDoor
