import Derived.Test.YtgfbfbfajnfbjaaDoorT
namespace Go.Proofs.YtgfbfbfajnfbjaaDoor
section
open Go.RowKit Go.Shelf
attribute [local go_sem] Oper.semAt_some
set_option linter.unusedSimpArgs false
set_option linter.unusedVariables false
/-- from the least to the greatest thickness of the disc, over a list of truths -/
def spanStep (B : ForgeV) (n : Int) (s : Option (Int × Int)) (t : List Int) : Option (Int × Int) := match s with
  | none => some (afterS B t n, afterS B t n)
  | some (lo, hi) => some (if lo ≤ afterS B t n then lo else afterS B t n, if afterS B t n ≤ hi then hi else afterS B t n)
def spanOf (B : ForgeV) (n : Int) (l : List (List Int)) : Option (Int × Int) := l.foldl (spanStep B n) none
theorem spanOf_snoc (B : ForgeV) (n : Int) (l : List (List Int)) (t : List Int) : spanOf B n (l ++ [t]) = spanStep B n (spanOf B n l) t := by unfold spanOf; rw [List.foldl_append]; rfl
def betweenS (B : ForgeV) (n : Int) : Int × Int := (spanOf B n (truthsS B 0)).getD (B.thick, B.thick - 1)
/-- a truth's numbers are small -/
theorem truthsFrom_mem {B : ForgeV} (g : B.Good) (left : Int) : ∀ (n : Nat) (x t : List Int), x.length + n = 3 → (∀ k, 0 ≤ gi x k ∧ gi x k ≤ 20) → t ∈ truthsFrom B left n x → t.length = 3 ∧ ∀ k, 0 ≤ gi t k ∧ gi t k ≤ 20
  | 0, x, t, hn, hx, h => by
    unfold truthsFrom at h
    split at h
    · simp at h; subst h; exact ⟨by omega, hx⟩
    · simp at h
  | n + 1, x, t, hn, hx, h => by
    rw [truthsFrom_succ, List.mem_flatMap] at h
    obtain ⟨k, hk, ht⟩ := h
    rw [List.mem_range] at hk
    have hs := g.thin x.length (by omega)
    exact truthsFrom_mem g left n (x ++ [(gs B.thins x.length).1 + (k : Int)]) t (by simp; omega) (fun j => by
      rw [gi_snoc]
      split
      · omega
      · exact hx j) ht
theorem truthsS_mem {B : ForgeV} (g : B.Good) {left : Int} {t : List Int} (h : t ∈ truthsS B left) : t.length = 3 ∧ ∀ k, 0 ≤ gi t k ∧ gi t k ≤ 20 :=
  truthsFrom_mem g left 3 [] t rfl (fun k => by simp [gi]) h
/-- what the two blocks of 'between' hold behind some truths -/
def BetwAt (B : ForgeV) (n : Int) (n5 n6 : Nat) (pre : List (List Int)) (W : World) : Prop :=
  (spanOf B n pre = none ∧ BoxAt W n6 #[.bool true] ∧ BoxAt W n5 #[.int .i64 B.thick, .int .i64 (B.thick - 1)]) ∨
  ∃ lo hi, spanOf B n pre = some (lo, hi) ∧ BoxAt W n6 #[.bool false] ∧ BoxAt W n5 #[.int .i64 lo, .int .i64 hi]
theorem BetwAt.keep {B : ForgeV} {n : Int} {n5 n6 : Nat} {pre : List (List Int)} {M : Nat → Prop} {W W' : World} (h : BetwAt B n n5 n6 pre W) (k : Keep M W W') (h5 : ¬ M n5) (h6 : ¬ M n6) : BetwAt B n n5 n6 pre W' := by
  rcases h with ⟨h, a, b⟩ | ⟨lo, hi, h, a, b⟩
  · exact .inl ⟨h, a.keep k h6, b.keep k h5⟩
  · exact .inr ⟨lo, hi, h, a.keep k h6, b.keep k h5⟩
theorem BetwAt.lt {B : ForgeV} {n : Int} {n5 n6 : Nat} {pre : List (List Int)} {W : World} (h : BetwAt B n n5 n6 pre W) : n5 < W.heap.size ∧ n6 < W.heap.size := by
  rcases h with ⟨h, a, b⟩ | ⟨lo, hi, h, a, b⟩
  · exact ⟨b.lt, a.lt⟩
  · exact ⟨b.lt, a.lt⟩
theorem betw_storeA {W : World} {n5 n6 : Nat} {x y v : Value} (k5 : BoxAt W n5 #[x, y]) (k6 : BoxAt W n6 #[v]) (hne : n5 ≠ n6) (a a' u b b' : Value) :
    BoxAt (((((W.setCell ⟨n5, 0, none⟩ a).setCell ⟨n5, 1, none⟩ a').setCell ⟨n6, 0, none⟩ u).setCell ⟨n5, 0, none⟩ b).setCell ⟨n5, 1, none⟩ b') n6 #[u] ∧
    BoxAt (((((W.setCell ⟨n5, 0, none⟩ a).setCell ⟨n5, 1, none⟩ a').setCell ⟨n6, 0, none⟩ u).setCell ⟨n5, 0, none⟩ b).setCell ⟨n5, 1, none⟩ b') n5 #[b, b'] ∧
    Keep (fun k => k = n5 ∨ k = n6) W (((((W.setCell ⟨n5, 0, none⟩ a).setCell ⟨n5, 1, none⟩ a').setCell ⟨n6, 0, none⟩ u).setCell ⟨n5, 0, none⟩ b).setCell ⟨n5, 1, none⟩ b') := by
  have e5 : ∀ (A : World) (o : Nat) (z : Value), Keep (fun k => k = n5) A (A.setCell ⟨n5, o, none⟩ z) := fun A o z => Keep.setCell (M := fun k => k = n5) (Keep.refl _ _) (p := ⟨n5, o, none⟩) (.inl rfl) z
  have e6 : ∀ (A : World) (o : Nat) (z : Value), Keep (fun k => k = n6) A (A.setCell ⟨n6, o, none⟩ z) := fun A o z => Keep.setCell (M := fun k => k = n6) (Keep.refl _ _) (p := ⟨n6, o, none⟩) (.inl rfl) z
  have k5' : BoxAt ((((W.setCell ⟨n5, 0, none⟩ a).setCell ⟨n5, 1, none⟩ a').setCell ⟨n6, 0, none⟩ u)) n5 #[a, a'] := ((k5.put 0 a (by simp)).put 1 a' (by simp)).keep (e6 _ _ _) hne
  have k6' : BoxAt ((((W.setCell ⟨n5, 0, none⟩ a).setCell ⟨n5, 1, none⟩ a').setCell ⟨n6, 0, none⟩ u)) n6 #[u] := BoxAt.set1 ((k6.keep (e5 _ _ _) (Ne.symm hne)).keep (e5 _ _ _) (Ne.symm hne)) u
  refine ⟨(k6'.keep (e5 _ _ _) (Ne.symm hne)).keep (e5 _ _ _) (Ne.symm hne), (k5'.put 0 b (by simp)).put 1 b' (by simp), ?_⟩
  refine Keep.setCell (Keep.setCell (Keep.setCell (Keep.setCell (Keep.setCell (Keep.refl _ _) ?_ _) ?_ _) ?_ _) ?_ _) ?_ _ <;> first | exact .inl (.inl rfl) | exact .inl (.inr rfl)
theorem betw_storeB {W : World} {n5 n6 : Nat} {x y v : Value} (k5 : BoxAt W n5 #[x, y]) (k6 : BoxAt W n6 #[v]) (hne : n5 ≠ n6) (b b' : Value) :
    BoxAt ((W.setCell ⟨n5, 0, none⟩ b).setCell ⟨n5, 1, none⟩ b') n6 #[v] ∧ BoxAt ((W.setCell ⟨n5, 0, none⟩ b).setCell ⟨n5, 1, none⟩ b') n5 #[b, b'] ∧
    Keep (fun k => k = n5 ∨ k = n6) W ((W.setCell ⟨n5, 0, none⟩ b).setCell ⟨n5, 1, none⟩ b') := by
  have e5 : ∀ (A : World) (o : Nat) (z : Value), Keep (fun k => k = n5) A (A.setCell ⟨n5, o, none⟩ z) := fun A o z => Keep.setCell (M := fun k => k = n5) (Keep.refl _ _) (p := ⟨n5, o, none⟩) (.inl rfl) z
  refine ⟨(k6.keep (e5 _ _ _) (Ne.symm hne)).keep (e5 _ _ _) (Ne.symm hne), (k5.put 0 b (by simp)).put 1 b' (by simp), ?_⟩
  refine Keep.setCell (Keep.setCell (Keep.refl _ _) ?_ _) ?_ _ <;> first | exact .inl (.inl rfl) | exact .inl (.inr rfl)
set_option maxRecDepth 100000 in
set_option maxHeartbeats 4000000 in
theorem between_calls (B : ForgeV) (g : B.Good) (n : Int) (hn : 0 ≤ n ∧ n ≤ 300) (w : World) (hB : B.Reads w) :
    Calls Tryd.prog 83 #[B.val, .int .i64 n] w fun e w' => e = .returned (.agg #[.int .i64 (betweenS B n).1, .int .i64 (betweenS B n).2]) ∧ Below w.heap.size w w' := by
  have HB := Lib.hid hB
  have Hg := Lib.hid g
  have Hn := Lib.hid hn
  have hth := g.thick
  have k2 := (((((BoxAt.new w B.cells 87).alloc (.cells #[.int .i64 n] 3)).alloc (.cells #[.int .i64 0, .int .i64 0] 24)).alloc (.cells #[.int .i64 B.thick, .int .i64 (B.thick - 1)] 24)).alloc (.cells #[.bool true] 4))
  have k3 := ((((BoxAt.new (w.alloc (.cells B.cells 87)) #[.int .i64 n] 3)).alloc (.cells #[.int .i64 0, .int .i64 0] 24)).alloc (.cells #[.int .i64 B.thick, .int .i64 (B.thick - 1)] 24)).alloc (.cells #[.bool true] 4)
  have k4 := ((BoxAt.new ((w.alloc (.cells B.cells 87)).alloc (.cells #[.int .i64 n] 3)) #[.int .i64 0, .int .i64 0] 24).alloc (.cells #[.int .i64 B.thick, .int .i64 (B.thick - 1)] 24)).alloc (.cells #[.bool true] 4)
  have k5 := (BoxAt.new (((w.alloc (.cells B.cells 87)).alloc (.cells #[.int .i64 n] 3)).alloc (.cells #[.int .i64 0, .int .i64 0] 24)) #[.int .i64 B.thick, .int .i64 (B.thick - 1)] 24).alloc (.cells #[.bool true] 4)
  have k6 := BoxAt.new ((((w.alloc (.cells B.cells 87)).alloc (.cells #[.int .i64 n] 3)).alloc (.cells #[.int .i64 0, .int .i64 0] 24)).alloc (.cells #[.int .i64 B.thick, .int .i64 (B.thick - 1)] 24)) #[.bool true] 4
  have Hb : Below w.heap.size w (((((w.alloc (.cells B.cells 87)).alloc (.cells #[.int .i64 n] 3)).alloc (.cells #[.int .i64 0, .int .i64 0] 24)).alloc (.cells #[.int .i64 B.thick, .int .i64 (B.thick - 1)] 24)).alloc (.cells #[.bool true] 4)) :=
    (((((Below.refl _ _).alloc (Nat.le_refl _) _).alloc (by simp) _).alloc (by simp; omega) _).alloc (by simp; omega) _).alloc (by simp; omega) _
  simp only [World.size_alloc] at k3 k4 k5 k6
  have hw1 : IntKind.i64.wrap (B.thick - 1) = B.thick - 1 := wrap_in (by omega) (by omega)
  clear hB g hn hth
  unfold ForgeV.val
  unfold ForgeV.cells at k2 k3 k4 k5 k6 Hb ⊢
  refine (callsIn_wide (n := 0)).1 ?_
  refine callsIn_of_wp_marks Tryd.func83 rfl trivial ?_ rfl
  simp only [Tryd.ntmps83, List.size_toArray, List.length_cons, List.length_nil, Nat.reduceAdd, Nat.reduceSub, Array.replicate_succ, Array.replicate_zero, List.push_toArray, List.append_toArray, List.nil_append, List.cons_append]
  gi_upto_region 3 with (fail)
  generalize World.alloc (World.alloc (World.alloc (World.alloc (World.alloc w _) _) _) _) _ = W at *
  have hns : w.heap.size < w.heap.size + 1 ∧ w.heap.size + 1 < w.heap.size + 1 + 1 ∧ w.heap.size + 1 + 1 < w.heap.size + 1 + 1 + 1 ∧ w.heap.size + 1 + 1 + 1 < w.heap.size + 1 + 1 + 1 + 1 := by omega
  generalize w.heap.size + 1 + 1 + 1 + 1 = n6 at *
  generalize w.heap.size + 1 + 1 + 1 = n5 at *
  generalize w.heap.size + 1 + 1 = n4 at *
  generalize w.heap.size + 1 = n3 at *
  have hn2 : w.heap.size ≤ w.heap.size := Nat.le_refl _
  generalize hn2e : w.heap.size = n2 at k2 hns hn2 ⊢
  have H1 := Lib.hid Hb
  have K2 := Lib.hid k2
  have K3 := Lib.hid k3
  have K4 := Lib.hid k4
  have K5 := Lib.hid k5
  have K6 := Lib.hid k6
  have Hns := Lib.hid hns
  have Hn2 := Lib.hid hn2e
  obtain ⟨c2, f2, l2⟩ := k2
  clear Hb k3 k4 k5 k6 hn2e hn2 hns
  gi_wp2_with fail
  refine ⟨trivial, rfl, ?_⟩
  refine (callsIn_wide.2 (eq0_2 (v' := B.val) (by unfold ForgeV.val ForgeV.cells; rfl) (truths_calls B 0 _))).mono ?_
  rintro e w2 ⟨bB, bL, rfl, ⟨kB, kL⟩, hle, hb2⟩
  have H2 := below_then H1.out H1.out.size hb2
  replace K2 := Lib.hid (K2.out.below hb2)
  replace K3 := Lib.hid (K3.out.below hb2)
  replace K4 := Lib.hid (K4.out.below hb2)
  have hlt6 := K6.out.lt
  replace K5 := Lib.hid (K5.out.below hb2)
  replace K6 := Lib.hid (K6.out.below hb2)
  have hnB : n6 < bB ∧ n6 < bL := by omega
  have hns := Hns.out
  have hn2 := Hn2.out
  have hl6 := K6.out.lt
  clear hb2 c2 f2 l2 hle H1 hlt6
  gi_wp2_with fail
  refine wpIn_range_p (gf := 105) (lb := #[.pointer (some ⟨bB, 0, none⟩), .pointer (some ⟨bL, 0, none⟩)]) rfl entersTruths1
    (truths_seq B Hg.out 0 (by decide) w HB.out bB bL (fun k => k = n5 ∨ k = n6) w2 H2 kB kL (fun k h => ⟨by omega, by omega, by omega, by omega⟩)) (fun _ => False) (fun k h => by omega) (fun _ h => h.elim) (fun x vs W hE => by rw [hE]; rfl)
    (fun pre Pv W => BetwAt B n n5 n6 pre W ∧ Keep (fun k => k = n5 ∨ k = n6 ∨ w2.heap.size ≤ k) w2 W) (fun _ _ _ => False)
    (fun Pv l s X Y r hl hr hk hI => ⟨hI.1.keep hk (by omega) (by omega), hI.2.trans (hk.mono fun k _ e => .inr (.inr (by omega)))⟩)
    (fun s Pv Pv' X Y hI hk hp _ => ⟨hI.1.keep hk (fun h => by have := hp _ h; omega) (fun h => by have := hp _ h; omega), hI.2.trans (hk.mono fun k _ h => .inr (.inr (by have := hp k h; omega)))⟩)
    (fun _ _ _ _ _ _ _ _ _ h => h) (fun _ _ _ _ h _ => h)
    ⟨.inl ⟨rfl, K6.out, K5.out⟩, Keep.refl _ _⟩ ?round ?done ?stop
  case stop => rintro D c pre W _ _ _ h; exact h.elim
  case done =>
    rintro D W2 hD hK ⟨Pv, hN, _⟩ hd
    have hb := H2.trans (hK.below (fun k _ h => by omega) H2.size)
    have k4 := K4.out.keep hK (by have := K4.out.lt; omega)
    have hDn : n6 < D ∧ w.heap.size ≤ D := by omega
    obtain ⟨lo, hi, Hlh, k5⟩ : ∃ lo hi, Hid (betweenS B n = (lo, hi)) ∧ BoxAt W2 n5 #[.int .i64 lo, .int .i64 hi] := by
      rcases hN with ⟨h, a, b⟩ | ⟨lo, hi, h, a, b⟩
      · exact ⟨_, _, Lib.hid (by unfold betweenS; rw [h]; rfl), b⟩
      · exact ⟨_, _, Lib.hid (by unfold betweenS; rw [h]; rfl), b⟩
    obtain ⟨hs4, hbk⟩ := box_store2 k4 rfl (.int .i64 lo) (.int .i64 hi)
    have hks : Keep (fun q => q = n4) W2 ((W2.setCell ⟨n4, 0, none⟩ (.int .i64 lo)).setCell ⟨n4, 1, none⟩ (.int .i64 hi)) := Keep.setCell (M := fun q => q = n4) (Keep.setCell (M := fun q => q = n4) (Keep.refl _ _) (p := ⟨n4, 0, none⟩) (.inl rfl) _) (p := ⟨n4, 1, none⟩) (.inl rfl) _
    have hd2 := (hks.block D (Array.getElem?_eq_some_iff.1 hd).1 (by omega)).trans hd
    have hpd : Keep (fun k => k = D) ((W2.setCell ⟨n4, 0, none⟩ (.int .i64 lo)).setCell ⟨n4, 1, none⟩ (.int .i64 hi)) (((W2.setCell ⟨n4, 0, none⟩ (.int .i64 lo)).setCell ⟨n4, 1, none⟩ (.int .i64 hi)).putObj D (.deferred none)) := Keep.putObj _ _ _
    have HF := Lib.hid ((hb.trans (hks.below (fun k _ e => by omega) hb.size)).trans (hpd.below (fun k _ e => by omega) (by have := hb.size; have := hks.size; omega)))
    have k9 := hs4.keep hpd (by omega)
    have Hd := Lib.hid hd2
    obtain ⟨c4, f4, l4⟩ := k4
    obtain ⟨c5, f5, l5⟩ := k5
    obtain ⟨c9, f9, l9⟩ := k9
    clear hpd hb hd hK hd2 hks hs4 hbk hN
    gi_wp2
    refine ⟨by simp, .inl ⟨_, _, rfl, run_takeDeferred Hd.out, ?_⟩⟩
    exact ⟨.agg #[.int .i64 lo, .int .i64 hi], by simp [results, Tryd.results83, go_sem, c9], by rw [Hlh.out], HF.out⟩
  case round =>
    rintro l Pv pre x rest vs W2 hxs hl hle hpv ⟨hN, hK⟩ hE
    unfold EncThins at hE
    subst hE
    have hxm := truthsS_mem Hg.out (show x ∈ truthsS B 0 by rw [hxs]; simp)
    have HX := Lib.hid hxm.2
    have hb7 : Below W2.heap.size W2 (W2.alloc (.cells (pad3 x) 108)) := (Below.refl _ _).alloc (Nat.le_refl _) _
    have k7 := BoxAt.new W2 (pad3 x) 108
    have hNl := hN.lt
    clear hxs hxm
    unfold pad3
    gi_wp2
    change Keep _ W2 (W2.alloc (.cells (pad3 x) 108)) ∧ _
    refine ⟨Keep.of_below hb7, ?_⟩
    rintro W3 r hlr hk2
    have hn7 : W2.heap.size ≠ l := fun e => by
      have := cell_ne_loop hlr (p := ⟨W2.heap.size, 0, none⟩) (v := .int .i64 (gi x 0)) (by exact k7.cell 0)
      exact this e
    have k7' := k7.keep hk2 hn7
    have HN3 := Lib.hid ((hN.keep (Keep.of_below (M := fun _ => False) hb7) (fun h => h) (fun h => h)).keep hk2 (by omega) (by omega))
    have HK3 := Lib.hid ((hK.trans (Keep.of_below hb7)).trans (hk2.mono fun k _ e => .inr (.inr (by omega))))
    obtain ⟨c2, f2, l2⟩ := K2.out.keep HK3.out (by have := K2.out.lt; omega)
    obtain ⟨c3, f3, l3⟩ := K3.out.keep HK3.out (by have := K3.out.lt; omega)
    have hlt7 : n6 < W2.heap.size := by omega
    generalize W2.heap.size = n7 at *
    obtain ⟨c7, f7, l7⟩ := k7'
    unfold pad3 at c7
    clear hb7 k7 hlr hk2 hN hK
    gi_wp2_with fail
    refine ⟨trivial, rfl, ?_⟩
    have hB3 := HB.out.below (H2.trans (HK3.out.below (fun k _ e => by omega) H2.size))
    refine ((callsIn_wide.2 (eq0_3 (v' := B.val) (by unfold ForgeV.val ForgeV.cells; rfl) (after_calls B Hg.out x HX.out n Hn.out _))).inRound l).mono ?_
    rintro e W4 ⟨rfl, hb4⟩
    have Hb4 := Lib.hid hb4
    have hab := afterTo_bd Hg.out HX.out Hn.out 3 (by omega)
    rw [afterTo_three] at hab
    have Hstep := Lib.hid (spanOf_snoc B n pre x)
    have Hq : ∀ s, Hid (spanStep B n s x = match s with | none => some (afterS B x n, afterS B x n) | some (lo, hi) => some (if lo ≤ afterS B x n then lo else afterS B x n, if afterS B x n ≤ hi then hi else afterS B x n)) := fun s => Lib.hid (by cases s <;> rfl)
    generalize afterS B x n = a at *
    clear hb4 c2 f2 l2 c3 f3 l3 c7 f7 l7 hB3
    have hne : n5 ≠ n6 := by omega
    have HN4 := Lib.hid (HN3.out.keep (Keep.of_below (M := fun _ => False) Hb4.out) (fun h => h) (fun h => h))
    rcases HN4.out with ⟨hs, k6, k5⟩ | ⟨lo, hi, hs, k6, k5⟩
    · have Hsn := Lib.hid (show spanOf B n (pre ++ [x]) = some (a, a) by rw [Hstep.out, hs, (Hq none).out])
      have Hst := Lib.hid (betw_storeA k5 k6 hne (.int .i64 a) (.int .i64 a) (.bool false) (.int .i64 a) (.int .i64 a))
      obtain ⟨c5, f5, l5⟩ := k5
      obtain ⟨c6, f6, l6⟩ := k6
      clear hs Hq Hstep
      gi_wp2
      refine ⟨(Keep.of_below Hb4.out).trans (Hst.out.2.2), .inr ⟨_, _, Hsn.out, Hst.out.1, Hst.out.2.1⟩, (HK3.out.trans (Keep.of_below Hb4.out)).trans (Hst.out.2.2.mono fun k _ e => by rcases e with e | e; exact .inl e; exact .inr (.inl e))⟩
    · by_cases h1 : lo ≤ a <;> by_cases h2 : a ≤ hi
      · have Hsn := Lib.hid (show spanOf B n (pre ++ [x]) = some (lo, hi) by rw [Hstep.out, hs, (Hq (some (lo, hi))).out]; simp only [if_pos h1, if_pos h2])
        have Hst := Lib.hid (betw_storeB k5 k6 hne (.int .i64 lo) (.int .i64 hi))
        skip
        obtain ⟨c5, f5, l5⟩ := k5
        obtain ⟨c6, f6, l6⟩ := k6
        clear hs Hq Hstep
        gi_wp2
        refine ⟨(Keep.of_below Hb4.out).trans (Hst.out.2.2), .inr ⟨_, _, Hsn.out, Hst.out.1, Hst.out.2.1⟩, (HK3.out.trans (Keep.of_below Hb4.out)).trans (Hst.out.2.2.mono fun k _ e => by rcases e with e | e; exact .inl e; exact .inr (.inl e))⟩
      · have Hsn := Lib.hid (show spanOf B n (pre ++ [x]) = some (lo, a) by rw [Hstep.out, hs, (Hq (some (lo, hi))).out]; simp only [if_pos h1, if_neg h2])
        have Hst := Lib.hid (betw_storeB k5 k6 hne (.int .i64 lo) (.int .i64 a))
        have h2 : hi < a := by omega
        skip
        obtain ⟨c5, f5, l5⟩ := k5
        obtain ⟨c6, f6, l6⟩ := k6
        clear hs Hq Hstep
        gi_wp2
        refine ⟨(Keep.of_below Hb4.out).trans (Hst.out.2.2), .inr ⟨_, _, Hsn.out, Hst.out.1, Hst.out.2.1⟩, (HK3.out.trans (Keep.of_below Hb4.out)).trans (Hst.out.2.2.mono fun k _ e => by rcases e with e | e; exact .inl e; exact .inr (.inl e))⟩
      · have Hsn := Lib.hid (show spanOf B n (pre ++ [x]) = some (a, hi) by rw [Hstep.out, hs, (Hq (some (lo, hi))).out]; simp only [if_neg h1, if_pos h2])
        have Hst := Lib.hid (betw_storeB k5 k6 hne (.int .i64 a) (.int .i64 hi))
        have h1 : a < lo := by omega
        skip
        obtain ⟨c5, f5, l5⟩ := k5
        obtain ⟨c6, f6, l6⟩ := k6
        clear hs Hq Hstep
        gi_wp2
        refine ⟨(Keep.of_below Hb4.out).trans (Hst.out.2.2), .inr ⟨_, _, Hsn.out, Hst.out.1, Hst.out.2.1⟩, (HK3.out.trans (Keep.of_below Hb4.out)).trans (Hst.out.2.2.mono fun k _ e => by rcases e with e | e; exact .inl e; exact .inr (.inl e))⟩
      · have Hsn := Lib.hid (show spanOf B n (pre ++ [x]) = some (a, a) by rw [Hstep.out, hs, (Hq (some (lo, hi))).out]; simp only [if_neg h1, if_neg h2])
        have Hst := Lib.hid (betw_storeB k5 k6 hne (.int .i64 a) (.int .i64 a))
        have h1 : a < lo := by omega
        have h2 : hi < a := by omega
        skip
        obtain ⟨c5, f5, l5⟩ := k5
        obtain ⟨c6, f6, l6⟩ := k6
        clear hs Hq Hstep
        gi_wp2
        refine ⟨(Keep.of_below Hb4.out).trans (Hst.out.2.2), .inr ⟨_, _, Hsn.out, Hst.out.1, Hst.out.2.1⟩, (HK3.out.trans (Keep.of_below Hb4.out)).trans (Hst.out.2.2.mono fun k _ e => by rcases e with e | e; exact .inl e; exact .inr (.inl e))⟩
end
end Go.Proofs.YtgfbfbfajnfbjaaDoor
