import Derived.Test.YtgfbfbfajnfbjaaDoorR
namespace Go.Proofs.YtgfbfbfajnfbjaaDoor
section
open Go.RowKit Go.Shelf
attribute [local go_sem] Oper.semAt_some
set_option linter.unusedSimpArgs false
set_option linter.unusedVariables false
set_option maxRecDepth 100000 in
set_option maxHeartbeats 4000000 in
theorem can_calls (B : ForgeV) (g : B.Good) (left : Int) (hleft : 0 ≤ left ∧ left < 256) (w : World) (hB : B.Reads w) :
    Calls Tryd.prog 85 #[B.val, .int .i64 left] w fun e w' => e = .returned (.bool (canS B left)) ∧ Below w.heap.size w w' := by
  have HB := Lib.hid hB
  have Hg := Lib.hid g
  have Hleft := Lib.hid hleft
  have hcan : Hid (canS B left = !(truthsS B left).isEmpty) := Lib.hid rfl
  have k2 := (BoxAt.new w B.cells 87).alloc (.cells #[.bool false] 4)
  have k4 := BoxAt.new (w.alloc (.cells B.cells 87)) #[.bool false] 4
  have Hb : Below w.heap.size w ((w.alloc (.cells B.cells 87)).alloc (.cells #[.bool false] 4)) := ((Below.refl _ _).alloc (Nat.le_refl _) _).alloc (by simp) _
  rw [World.size_alloc] at k4
  clear hB g hleft
  unfold ForgeV.val
  unfold ForgeV.cells at k2 k4 Hb ⊢
  refine (callsIn_wide (n := 0)).1 ?_
  refine callsIn_of_wp_marks Tryd.func85 rfl trivial ?_ rfl
  simp only [Tryd.ntmps85, List.size_toArray, List.length_cons, List.length_nil, Nat.reduceAdd, Nat.reduceSub, Array.replicate_succ, Array.replicate_zero, List.push_toArray, List.append_toArray, List.nil_append, List.cons_append]
  gi_upto_region 1 with (fail)
  generalize (w.alloc _).alloc _ = W at *
  have hn4 : w.heap.size ≤ w.heap.size + 1 := by omega
  generalize w.heap.size + 1 = n4 at *
  have H1 := Lib.hid Hb
  have K4 := Lib.hid k4
  obtain ⟨c2, f2, l2⟩ := k2
  clear Hb k4
  gi_wp2_with fail
  refine ⟨trivial, rfl, ?_⟩
  refine (callsIn_wide.2 (eq0_2 (v' := B.val) (by unfold ForgeV.val ForgeV.cells; rfl) (truths_calls B left _))).mono ?_
  rintro e w2 ⟨bB, bL, rfl, ⟨kB, kL⟩, hle, hb2⟩
  have H2 := below_then H1.out H1.out.size hb2
  have k4 := K4.out.below hb2
  clear K4 hb2 c2 f2 l2 hle H1
  gi_wp2_with fail
  refine wpIn_range_p (gf := 105) (lb := #[.pointer (some ⟨bB, 0, none⟩), .pointer (some ⟨bL, 0, none⟩)]) rfl entersTruths1
    (truths_seq B Hg.out left Hleft.out w HB.out bB bL (fun _ => False) w2 H2 kB kL (fun _ h => h.elim)) (fun k => k = n4) (fun _ h => h.elim) (by rintro k rfl; exact k4.lt) (fun x vs W hE => by rw [hE]; rfl)
    (fun pre Pv W => pre = [] ∧ BoxAt W n4 #[.bool false]) (fun c pre W => c = .ret ∧ pre ≠ [] ∧ BoxAt W n4 #[.bool true])
    (fun Pv l s X Y r hl hr hk hI => ⟨hI.1, hI.2.keep hk (by have := k4.lt; omega)⟩)
    (fun s Pv Pv' X Y hI hk hp _ => ⟨hI.1, hI.2.keep hk (fun h => by have := hp _ h; have := k4.lt; omega)⟩)
    (fun c l s X Y r hl hr hk hI => ⟨hI.1, hI.2.1, hI.2.2.keep hk (by have := k4.lt; omega)⟩) (fun c s X Y hI hb => ⟨hI.1, hI.2.1, hI.2.2.below hb⟩)
    ⟨rfl, k4⟩ ?round ?done ?stop
  case stop =>
    rintro D c pre W2 hD hK hpre ⟨rfl, hne, k4'⟩ hd
    have hb := H2.trans (hK.below (fun k _ h => by have := H2.size; rcases h with (h | h) | h; exact h.elim; omega; omega) H2.size)
    have hDw : w.heap.size ≤ D := by have := H2.size; omega
    have hpd : Keep (fun k => k = D) W2 (W2.putObj D (.deferred none)) := Keep.putObj _ _ _
    have k5 := k4'.keep hpd (by have := k4.lt; omega)
    have hcn : canS B left = true := by rw [hcan.out]; cases hx : truthsS B left with | nil => rw [hx] at hpre; exact absurd (List.prefix_nil.1 hpre) hne | cons _ _ => rfl
    have Hcn := Lib.hid hcn
    have HF := Lib.hid (hb.trans (hpd.below (fun k _ e => by omega) hb.size))
    have Hd := Lib.hid hd
    obtain ⟨c5, f5, l5⟩ := k5
    clear hcn hpd hb hd hK hpre hne k4'
    gi_wp2
    refine ⟨by simp, .inl ⟨_, _, rfl, run_takeDeferred Hd.out, ?_⟩⟩
    exact ⟨.bool true, by simp [results, Tryd.results85, go_sem, c5], by rw [Hcn.out], HF.out⟩
  case done =>
    rintro D W2 hD hK ⟨Pv, hN, k4'⟩ hd
    have hb := H2.trans (hK.below (fun k _ h => by have := H2.size; rcases h with h | h; exact h.elim; omega) H2.size)
    have hDw : w.heap.size ≤ D := by have := H2.size; omega
    have hcn : canS B left = false := by rw [hcan.out, hN]; rfl
    have hs := k4'.set1 (.bool false)
    have hks : Keep (fun q => q = n4) W2 (W2.setCell ⟨n4, 0, none⟩ (.bool false)) := Keep.setCell (M := fun q => q = n4) (Keep.refl _ _) (p := ⟨n4, 0, none⟩) (.inl rfl) _
    have hd2 := (hks.block D (Array.getElem?_eq_some_iff.1 hd).1 (by have := k4.lt; omega)).trans hd
    have hpd : Keep (fun k => k = D) (W2.setCell ⟨n4, 0, none⟩ (.bool false)) ((W2.setCell ⟨n4, 0, none⟩ (.bool false)).putObj D (.deferred none)) := Keep.putObj _ _ _
    have HF := Lib.hid ((hb.trans (hks.below (fun k _ e => by omega) hb.size)).trans (hpd.below (fun k _ e => by omega) (by have := hb.size; have := hks.size; omega)))
    have k5 := hs.keep hpd (by have := k4.lt; omega)
    have Hcn := Lib.hid hcn
    have Hd := Lib.hid hd2
    obtain ⟨c4, f4, l4⟩ := k4'
    obtain ⟨c5, f5, l5⟩ := k5
    clear hcn hpd hb hd hK hd2 hks hs
    gi_wp2
    refine ⟨by simp, .inl ⟨_, _, rfl, run_takeDeferred Hd.out, ?_⟩⟩
    exact ⟨.bool false, by simp [results, Tryd.results85, go_sem, c5], by rw [Hcn.out], HF.out⟩
  case round =>
    rintro l Pv pre x rest vs W2 hxs hl hle hpv ⟨hN, k4'⟩ hE
    unfold EncThins at hE
    subst hE
    have k4l := k4.lt
    gi_wp2
    refine ⟨Keep.refl _ _, ?_⟩
    rintro W3 r hlr hk2
    have k5 := k4'.keep hk2 (by omega)
    have hs := k5.set1 (.bool true)
    have hks : Keep (fun q => q = n4) W3 (W3.setCell ⟨n4, 0, none⟩ (.bool true)) := Keep.setCell (M := fun q => q = n4) (Keep.refl _ _) (p := ⟨n4, 0, none⟩) (.inl rfl) _
    obtain ⟨c4, f4, l4⟩ := k5
    gi_wp2
    exact ⟨hks, rfl, by simp, hs⟩
end
end Go.Proofs.YtgfbfbfajnfbjaaDoor
