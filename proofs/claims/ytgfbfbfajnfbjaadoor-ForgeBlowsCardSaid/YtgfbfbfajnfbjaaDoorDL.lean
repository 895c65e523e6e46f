/- PROVED: ForgeBlows (the walk): the law returns true, whatever the book and the number. -/
import Derived.Test.YtgfbfbfajnfbjaaDoorDE
import Derived.Test.YtgfbfbfajnfbjaaDoorCP
import Derived.Test.YtgfbfbfajnfbjaaDoorBP
import Derived.Test.YtgfbfbfajnfbjaaDoorBF
namespace Go.Proofs.YtgfbfbfajnfbjaaDoor
section
open Go.RowKit Go.Shelf
set_option linter.unusedSimpArgs false
set_option linter.unusedVariables false
/-! The reference's Blows, Sound and Heats; with no program in sight. -/
theorem span_betw {B : ForgeV} {n : Int} {p : Int × Int} (h : spanOf B n (truthsS B 0) = some p) : betweenS B n = p := by unfold betweenS; rw [h]; rfl
theorem idx_first {p : Int → Int → Bool} {B : ForgeV} (hc : canS B 0 = true) {n : Nat} (hn : n < 301) (hy : p (betweenS B n).1 (betweenS B n).2 = true) (hno : ∀ m : Nat, m < n → p (betweenS B m).1 (betweenS B m).2 = false) : idxS p (spansS B) 0 = n := by
  rcases idxS_spec p (spansS B) 0 with ⟨_, h⟩ | ⟨j, hj, e, ht, hf⟩
  · have := h n (by rw [spansS_len]; exact hn)
    rw [spansS_get hc n hn, hy] at this; cases this
  · rw [spansS_len] at hj
    rw [spansS_get hc j hj] at ht
    rw [e, Nat.zero_add]
    rcases Nat.lt_trichotomy j n with h | h | h
    · rw [hno j h] at ht; cases ht
    · rw [h]
    · have := hf n h
      rw [spansS_get hc n hn, hy] at this; cases this
theorem idx_none {p : Int → Int → Bool} {B : ForgeV} (hc : canS B 0 = true) (hno : ∀ m : Nat, m < 301 → p (betweenS B m).1 (betweenS B m).2 = false) : idxS p (spansS B) 0 = -1 := by
  rcases idxS_spec p (spansS B) 0 with ⟨e, _⟩ | ⟨j, hj, e, ht, hf⟩
  · exact e
  · rw [spansS_len] at hj
    rw [spansS_get hc j hj, hno j hj] at ht; cases ht
theorem blows_at {B : ForgeV} (ha : askedE B true = 0) (hc : canS B 0 = true) {n : Nat} (hn : n < 301) (hy : readyB B (betweenS B n).1 (betweenS B n).2 = true) (hno : ∀ m : Nat, m < n → readyB B (betweenS B m).1 (betweenS B m).2 = false) : blowsR B = .tuple #[.int .i64 n, .int .i64 0] := by
  unfold blowsR
  rw [if_pos ha, idx_first hc hn hy hno]
  unfold blowsP
  rw [if_neg (by omega)]
theorem blows_no {B : ForgeV} (ha : askedE B true = 0) (hc : canS B 0 = true) (hno : ∀ m : Nat, m < 301 → readyB B (betweenS B m).1 (betweenS B m).2 = false) : blowsR B = .tuple #[.int .i64 0, .int .i64 4] := by
  unfold blowsR
  rw [if_pos ha, idx_none hc hno]
  rfl
theorem sound_at {B : ForgeV} (g : B.Good) (ha : askedE B true = 0) (hc : canS B 0 = true) {n : Nat} (hn : n < 301) (hy : B.crack ≤ (betweenS B n).1) (hno : ∀ m : Nat, n < m → m < 301 → (betweenS B m).1 < B.crack) : soundR B = .tuple #[.int .i64 n, .int .i64 0] := by
  unfold soundR
  rw [if_pos ha]
  have hlow : ∀ m : Nat, m ≤ n → crackB B (betweenS B m).1 (betweenS B m).2 = false := fun m hm => by
    rw [Bool.eq_false_iff]; intro h
    have h1 := crackB_iff.1 h
    have h2 := low_anti g hc (n := m) (m := n) (by omega)
    omega
  by_cases h : n = 300
  · subst h
    rw [idx_none hc (fun m hm => hlow m (by omega))]
    rfl
  · rw [idx_first hc (n := n + 1) (by omega) (crackB_iff.2 (hno (n + 1) (by omega) (by omega))) (fun m hm => hlow m (by omega))]
    unfold soundP
    rw [if_neg (by omega), if_neg (by omega), show ((n + 1 : Nat) : Int) - 1 = n by omega]
theorem sound_no {B : ForgeV} (ha : askedE B true = 0) (hc : canS B 0 = true) (hno : ∀ m : Nat, m < 301 → (betweenS B m).1 < B.crack) : soundR B = .tuple #[.int .i64 0, .int .i64 4] := by
  unfold soundR
  rw [if_pos ha, idx_first hc (n := 0) (by omega) (crackB_iff.2 (hno 0 (by omega))) (fun m hm => absurd hm (Nat.not_lt_zero _))]
  rfl
theorem asked_true {B : ForgeV} (h : askedE B true = 0) : goodF B = true ∧ canS B 0 = true := by
  unfold askedE at h
  revert h
  cases goodF B <;> cases canS B 0 <;> simp
end
section
open Go.RowKit Go.Shelf
attribute [local go_sem] Oper.semAt_some
set_option linter.unusedSimpArgs false
set_option linter.unusedVariables false
def underZ (a b c d : Int) : Bool := decide (c ≤ a) && decide (b ≤ d)
theorem refUnder_calls (a b c d : Int) (w : World) : Calls Tryd.prog 58 #[.agg #[.int .i64 a, .int .i64 b], .agg #[.int .i64 c, .int .i64 d]] w fun e w' => e = .returned (.bool (underZ a b c d)) ∧ Below w.heap.size w w' := by
  have hb : Below w.heap.size w ((w.alloc (.cells #[.int .i64 a, .int .i64 b] 24)).alloc (.cells #[.int .i64 c, .int .i64 d] 24)) := ((Below.refl _ _).alloc (Nat.le_refl _) _).alloc (by simp) _
  have HF := Lib.hid hb
  clear hb
  go_enter Tryd.func58, Tryd.ntmps58
  by_cases h1 : c ≤ a
  all_goals
    go_wp2
    go_ret
    exact ⟨by (simp [underZ, h1] <;> (intros; omega)), HF.out⟩
set_option maxRecDepth 100000 in
set_option maxHeartbeats 4000000 in
theorem refBlows_calls (B : ForgeV) (w : World) (hB : B.Reads w) :
    Calls Tryd.prog 38 #[B.val] w fun e w' => e = .returned (blowsR B) ∧ Below w.heap.size w w' := by
  have HB := Lib.hid hB
  have hR : Hid (askedE B true ≠ 0 → blowsR B = .tuple #[.int .i64 0, .int .i64 (askedE B true)]) := Lib.hid (fun h => by unfold blowsR; rw [if_neg h])
  have k2 := BoxAt.new w B.cells 28
  have Hb : Below w.heap.size w (w.alloc (.cells B.cells 28)) := (Below.refl _ _).alloc (Nat.le_refl _) _
  clear hB
  have hcells : B.val = .agg B.cells := rfl
  rw [hcells]
  unfold ForgeV.cells at k2 Hb ⊢
  go_enter Tryd.func38, Tryd.ntmps38
  go_upto_region 1 with (fail)
  generalize w.alloc _ = W1 at *
  have K2 := Lib.hid k2
  have HW1 := Lib.hid Hb
  obtain ⟨c2, f2, l2⟩ := k2
  clear Hb
  go_wp2_with fail
  refine (eq0_2 (v' := B.val) (by unfold ForgeV.val ForgeV.cells; rfl) (refAsked_calls B true _ (HB.out.below HW1.out))).mono ?_
  rintro e w2 ⟨⟨TA, tn, tc, rfl, hta⟩, hb2⟩
  have HW2 := Lib.hid (below_then HW1.out HW1.out.size hb2)
  have K22 := Lib.hid (K2.out.below hb2)
  have Hta := Lib.hid hta
  have Haz := Lib.hid (fun (h : askedE B true = 0) => asked_true h)
  clear hb2 hta c2 f2 l2
  generalize hfe : askedE B true = f at *
  have Hfe := Lib.hid hfe
  clear hfe
  by_cases hf : f = 0
  · subst hf
    obtain ⟨rfl, hta⟩ := Hta.out rfl
    obtain ⟨hg, hcan⟩ := Haz.out rfl
    have g := (goodF_iff B).1 hg
    have Hg := Lib.hid g
    have hpos : 0 < (truthsS B 0).length := by rw [can_len] at hcan; exact of_decide_eq_true hcan
    have Hpos := Lib.hid hpos
    have Htr := Lib.hid hta
    have Hl8 := Lib.hid (truthsS_len g 0)
    have Hmem := Lib.hid (fun t (ht : t ∈ truthsS B 0) => (truthsS_mem g ht).2)
    have Hbs := Lib.hid (fun (n : Int) p (h : spanOf B n (truthsS B 0) = some p) => span_betw h)
    have Hat := Lib.hid (fun (n : Nat) h1 h2 h3 => blows_at (B := B) Hfe.out hcan (n := n) h1 h2 h3)
    have Hno := Lib.hid (fun h => blows_no (B := B) Hfe.out hcan h)
    have Hrd := Lib.hid (fun lo hi => readyB_iff (B := B) (lo := lo) (hi := hi))
    clear hg hcan g hpos hta hR Hta Haz
    generalize truthsS B 0 = l at *
    go_wp2
    go_loopg [6] 301 (fun gq i wr => ∃ k : Nat, k ≤ 301 ∧ gq = 301 - k ∧ i = .int .i64 k ∧ (∀ m : Nat, m < k → readyB B (betweenS B m).1 (betweenS B m).2 = false) ∧ Below w2.heap.size w2 wr)
    case atStart => exact ⟨0, Nat.zero_le _, rfl, rfl, fun m h => absurd h (Nat.not_lt_zero _), Below.refl _ _⟩
    case round =>
      obtain ⟨k, hk, hgk, rfl, hal, hbe⟩ := hrel
      have Hgk := Lib.hid hgk
      have Hal := Lib.hid hal
      have Hbe := Lib.hid hbe
      have HBr := Lib.hid (below_then HW2.out HW2.out.size hbe)
      obtain ⟨c2, f2, l2⟩ := K22.out.below hbe
      clear hgk hal hbe
      by_cases hlt : k < 301
      · have hki : (k : Int) ≤ 300 := by omega
        have Hk3 : Hid (0 ≤ (k : Int) ∧ (k : Int) ≤ 300) := Lib.hid (by omega)
        go_wp2_with fail
        refine (eq0_3 (v' := B.val) (by unfold ForgeV.val ForgeV.cells; rfl) (refBetween_calls B Hg.out (k : Int) Hk3.out l Hpos.out Hl8.out Hmem.out TA tc _ (Htr.out.below Hbe.out))).mono ?_
        rintro e w3 ⟨⟨p, hp, rfl⟩, hb3⟩
        have hbp := Hbs.out _ _ hp
        obtain ⟨lo, hi⟩ := p
        have Hbp := Lib.hid hbp
        have Hbe3 := Lib.hid (below_then Hbe.out Hbe.out.size hb3)
        clear hp hb3 hbp c2 f2 l2
        obtain ⟨c2, f2, l2⟩ := K22.out.below Hbe3.out
        go_upto_region 8 with (fail)
        have k7 := BoxAt.new w3 #[.int .i64 lo, .int .i64 hi] 24
        have hb4 : Below w3.heap.size w3 (w3.alloc (.cells #[.int .i64 lo, .int .i64 hi] 24)) := (Below.refl _ _).alloc (Nat.le_refl _) _
        generalize w3.alloc _ = w4 at *
        have Hbe4 := Lib.hid (below_then Hbe3.out Hbe3.out.size hb4)
        have HB4 := Lib.hid (below_then HW2.out HW2.out.size Hbe4.out)
        generalize w3.heap.size = n7 at *
        have K7 := Lib.hid k7
        clear hb4 k7 c2 f2 l2
        obtain ⟨c2, f2, l2⟩ := K22.out.below Hbe4.out
        obtain ⟨c7, f7, l7⟩ := K7.out
        have hrk := Hrd.out lo hi
        by_cases hu : B.glo ≤ lo ∧ hi ≤ B.ghi
        · have hun : underZ lo hi B.glo B.ghi = true := by unfold underZ; simp [hu.1, hu.2]
          have Hun := Lib.hid hun
          by_cases hck : B.crack ≤ lo
          · have Hr := Lib.hid (Hat.out k (by omega) (by rw [Hbp.out]; exact hrk.2 ⟨hu.1, hck, hu.2⟩) Hal.out)
            clear hun hu hrk
            go_wp2_with (go_at_call 58; refine (refUnder_calls _ _ _ _ _).mono ?_; rintro e w5 ⟨rfl, hb5⟩; rw [Hun.out]; have HB5 := Lib.hid (below_then HB4.out HB4.out.size hb5); have k27 := K22.out.below (below_then Hbe4.out Hbe4.out.size hb5); have k77 := K7.out.below hb5; clear hb5 c2 f2 l2 c7 f7 l7; obtain ⟨c2, f2, l2⟩ := k27; obtain ⟨c7, f7, l7⟩ := k77)
            go_ret2
            exact ⟨by rw [Hr.out] <;> rfl, HB5.out⟩
          · have Hr : Hid (readyB B (betweenS B k).1 (betweenS B k).2 = false) := Lib.hid (by rw [Hbp.out, Bool.eq_false_iff]; intro h; exact hck (hrk.1 h).2.1)
            clear hun hu hrk
            go_wp2_with (go_at_call 58; refine (refUnder_calls _ _ _ _ _).mono ?_; rintro e w5 ⟨rfl, hb5⟩; rw [Hun.out]; have Hbe5 := Lib.hid (below_then Hbe4.out Hbe4.out.size hb5); have k27 := K22.out.below Hbe5.out; have k77 := K7.out.below hb5; clear hb5 c2 f2 l2 c7 f7 l7; obtain ⟨c2, f2, l2⟩ := k27; obtain ⟨c7, f7, l7⟩ := k77)
            go_roundg (301 - (k + 1))
            case measure => have := Hgk.out; omega
            case rel => exact ⟨k + 1, by omega, rfl, by go_num, fun m hm => by rcases Nat.lt_or_eq_of_le (Nat.le_of_lt_succ hm) with h | h; exact Hal.out m h; rw [h]; exact Hr.out, Hbe5.out⟩
        · have hun : underZ lo hi B.glo B.ghi = false := by
            unfold underZ; rw [Bool.and_eq_false_iff, decide_eq_false_iff_not, decide_eq_false_iff_not]
            by_cases h : B.glo ≤ lo
            · exact .inr fun h' => hu ⟨h, h'⟩
            · exact .inl h
          have Hun := Lib.hid hun
          have Hr : Hid (readyB B (betweenS B k).1 (betweenS B k).2 = false) := Lib.hid (by rw [Hbp.out, Bool.eq_false_iff]; intro h; exact hu ⟨(hrk.1 h).1, (hrk.1 h).2.2⟩)
          clear hun hu hrk
          go_wp2_with (go_at_call 58; refine (refUnder_calls _ _ _ _ _).mono ?_; rintro e w5 ⟨rfl, hb5⟩; rw [Hun.out]; have Hbe5 := Lib.hid (below_then Hbe4.out Hbe4.out.size hb5); clear hb5 c2 f2 l2 c7 f7 l7)
          go_roundg (301 - (k + 1))
          case measure => have := Hgk.out; omega
          case rel => exact ⟨k + 1, by omega, rfl, by go_num, fun m hm => by rcases Nat.lt_or_eq_of_le (Nat.le_of_lt_succ hm) with h | h; exact Hal.out m h; rw [h]; exact Hr.out, Hbe5.out⟩
      · obtain rfl : k = 301 := by omega
        have hki : ¬ ((301 : Nat) : Int) ≤ 300 := by decide
        have Hr := Lib.hid (Hno.out Hal.out)
        go_wp2
        go_ret2
        exact ⟨by rw [Hr.out] <;> rfl, HBr.out⟩
  · have hfb : (f != 0) = true := by simpa using hf
    have Hr := Lib.hid (hR.out hf)
    go_wp2
    go_ret2
    exact ⟨by rw [Hr.out] <;> rfl, HW2.out⟩
@[local go_sem] theorem field_span0 (a b : Int) (w : World) : Sem.run Tryd.prog (Instr.field 24 (.agg #[.int .i64 a, .int .i64 b]) 0) w = .ok (.int .i64 a) w := by kernel_rfl
set_option maxRecDepth 100000 in
set_option maxHeartbeats 4000000 in
theorem refSound_calls (B : ForgeV) (w : World) (hB : B.Reads w) :
    Calls Tryd.prog 40 #[B.val] w fun e w' => e = .returned (soundR B) ∧ Below w.heap.size w w' := by
  have HB := Lib.hid hB
  have hR : Hid (askedE B true ≠ 0 → soundR B = .tuple #[.int .i64 0, .int .i64 (askedE B true)]) := Lib.hid (fun h => by unfold soundR; rw [if_neg h])
  have k2 := BoxAt.new w B.cells 28
  have Hb : Below w.heap.size w (w.alloc (.cells B.cells 28)) := (Below.refl _ _).alloc (Nat.le_refl _) _
  clear hB
  have hcells : B.val = .agg B.cells := rfl
  rw [hcells]
  unfold ForgeV.cells at k2 Hb ⊢
  go_enter Tryd.func40, Tryd.ntmps40
  go_upto_region 1 with (fail)
  generalize w.alloc _ = W1 at *
  have K2 := Lib.hid k2
  have HW1 := Lib.hid Hb
  obtain ⟨c2, f2, l2⟩ := k2
  clear Hb
  go_wp2_with fail
  refine (eq0_2 (v' := B.val) (by unfold ForgeV.val ForgeV.cells; rfl) (refAsked_calls B true _ (HB.out.below HW1.out))).mono ?_
  rintro e w2 ⟨⟨TA, tn, tc, rfl, hta⟩, hb2⟩
  have HW2 := Lib.hid (below_then HW1.out HW1.out.size hb2)
  have K22 := Lib.hid (K2.out.below hb2)
  have Hta := Lib.hid hta
  have Haz := Lib.hid (fun (h : askedE B true = 0) => asked_true h)
  clear hb2 hta c2 f2 l2
  generalize hfe : askedE B true = f at *
  have Hfe := Lib.hid hfe
  clear hfe
  by_cases hf : f = 0
  · subst hf
    obtain ⟨rfl, hta⟩ := Hta.out rfl
    obtain ⟨hg, hcan⟩ := Haz.out rfl
    have g := (goodF_iff B).1 hg
    have Hg := Lib.hid g
    have hpos : 0 < (truthsS B 0).length := by rw [can_len] at hcan; exact of_decide_eq_true hcan
    have Hpos := Lib.hid hpos
    have Htr := Lib.hid hta
    have Hl8 := Lib.hid (truthsS_len g 0)
    have Hmem := Lib.hid (fun t (ht : t ∈ truthsS B 0) => (truthsS_mem g ht).2)
    have Hbs := Lib.hid (fun (n : Int) p (h : spanOf B n (truthsS B 0) = some p) => span_betw h)
    have Hat := Lib.hid (fun (n : Nat) h1 h2 h3 => sound_at (B := B) g Hfe.out hcan (n := n) h1 h2 h3)
    have Hno := Lib.hid (fun h => sound_no (B := B) Hfe.out hcan h)
    clear hg hcan g hpos hta hR Hta Haz
    generalize truthsS B 0 = l at *
    go_wp2
    go_loopg [6] 301 (fun gq i wr => ∃ k : Nat, k ≤ 301 ∧ gq = k ∧ i = .int .i64 ((k : Int) - 1) ∧ (∀ m : Nat, k ≤ m → m < 301 → (betweenS B m).1 < B.crack) ∧ Below w2.heap.size w2 wr)
    case atStart => exact ⟨301, Nat.le_refl _, rfl, rfl, fun m h h' => absurd h' (by omega), Below.refl _ _⟩
    case round =>
      obtain ⟨k, hk, hgk, rfl, hal, hbe⟩ := hrel
      have Hgk := Lib.hid hgk
      have Hal := Lib.hid hal
      have Hbe := Lib.hid hbe
      have HBr := Lib.hid (below_then HW2.out HW2.out.size hbe)
      obtain ⟨c2, f2, l2⟩ := K22.out.below hbe
      clear hgk hal hbe
      by_cases h0 : k = 0
      · subst h0
        have hki : ¬ (0 : Int) ≤ ((0 : Nat) : Int) - 1 := by decide
        have Hr := Lib.hid (Hno.out (fun m hm => Hal.out m (Nat.zero_le _) hm))
        go_wp2
        go_ret2
        exact ⟨by rw [Hr.out] <;> rfl, HBr.out⟩
      · obtain ⟨j, rfl⟩ : ∃ j, k = j + 1 := ⟨k - 1, by omega⟩
        have hjj : (((j + 1 : Nat) : Int) - 1) = (j : Int) := by omega
        rw [hjj]
        have hki : (0 : Int) ≤ (j : Int) := by omega
        have hwj : IntKind.i64.wrap ((j : Int) - 1) = (j : Int) - 1 := wrap_in (by omega) (by omega)
        have Hk3 : Hid (0 ≤ (j : Int) ∧ (j : Int) ≤ 300) := Lib.hid (by omega)
        clear hjj h0
        go_upto_region 7 with (fail)
        refine region_plain (S := fun w' => Below wr.heap.size wr w') 8 (by kernel_rfl) ?_ (fun hHeld => ?_)
        · exact (Below.refl _ _).drew
        first | (refine anyT_take 0 (some 19) (v := ?_) rfl rfl (by kernel_rfl) (by kernel_rfl) (by kernel_rfl) (by kernel_rfl) (fun _ _ _ h => h) (Or.inl ⟨by rfl, ?_⟩) hHeld ?_; rotate_left; focus (intro wq hSw; obtain ⟨hcq, hfq⟩ := bcell hSw; go_simp; (try with_reducible rfl); done))
        (try simp only [Act.put, List.setIfInBounds_toArray, List.set_cons_zero, List.set_cons_succ])
        first | (refine anyT_take 1 (some 20) (v := ?_) rfl rfl (by kernel_rfl) (by kernel_rfl) (by kernel_rfl) (by kernel_rfl) (fun _ _ _ h => h) (Or.inl ⟨by rfl, ?_⟩) hHeld ?_; rotate_left; focus (intro wq hSw; obtain ⟨hcq, hfq⟩ := bcell hSw; go_simp; (try with_reducible rfl); done))
        (try simp only [Act.put, List.setIfInBounds_toArray, List.set_cons_zero, List.set_cons_succ])
        first | (refine anyT_take 2 (some 21) (v := ?_) rfl rfl (by kernel_rfl) (by kernel_rfl) (by kernel_rfl) (by kernel_rfl) (fun _ _ _ h => h) (Or.inl ⟨by rfl, ?_⟩) hHeld ?_; rotate_left; focus (intro wq hSw; obtain ⟨hcq, hfq⟩ := bcell hSw; go_simp; (try with_reducible rfl); done))
        (try simp only [Act.put, List.setIfInBounds_toArray, List.set_cons_zero, List.set_cons_succ])
        first | (refine anyT_take 5 (some 24) (v := ?_) rfl rfl (by kernel_rfl) (by kernel_rfl) (by kernel_rfl) (by kernel_rfl) (fun _ _ _ h => h) (Or.inl ⟨by rfl, ?_⟩) hHeld ?_; rotate_left; focus (intro wq hSw; obtain ⟨hcq, hfq⟩ := bcell hSw; go_simp; (try with_reducible rfl); done))
        (try simp only [Act.put, List.setIfInBounds_toArray, List.set_cons_zero, List.set_cons_succ])
        first | (refine anyT_take 6 (some 25) (v := ?_) rfl rfl (by kernel_rfl) (by kernel_rfl) (by kernel_rfl) (by kernel_rfl) (fun _ _ _ h => h) (Or.inl ⟨by rfl, ?_⟩) hHeld ?_; rotate_left; focus (intro wq hSw; obtain ⟨hcq, hfq⟩ := bcell hSw; go_simp; (try with_reducible rfl); done))
        (try simp only [Act.put, List.setIfInBounds_toArray, List.set_cons_zero, List.set_cons_succ])
        refine anyT_one 3 (by kernel_rfl) rfl (fun K hK => ?_)
        go_simp
        refine (eq0_3 (v' := B.val) (by unfold ForgeV.val ForgeV.cells; rfl) (refBetween_calls B Hg.out (j : Int) Hk3.out l Hpos.out Hl8.out Hmem.out TA tc _ ((Htr.out.below Hbe.out).below hHeld))).mono ?_; rintro e w3 ⟨⟨p, hp, rfl⟩, hb3⟩; have hbp := Hbs.out _ _ hp; obtain ⟨lo, hi⟩ := p; have Hbp := Lib.hid hbp; clear hp hbp
        refine hK.out _ _ ?_ (fun hHeld => ?_)
        · exact below_then hHeld hHeld.size hb3
        clear hK K
        (try simp only [Act.put, List.setIfInBounds_toArray, List.set_cons_zero, List.set_cons_succ])
        first | (refine anyT_take 4 (some 23) (v := ?_) rfl rfl (by kernel_rfl) (by kernel_rfl) (by kernel_rfl) (by kernel_rfl) (fun _ _ _ h => h) (Or.inl ⟨by rfl, ?_⟩) hHeld ?_; rotate_left; focus (intro wq hSw; obtain ⟨hcq, hfq⟩ := bcell hSw; go_simp; (try with_reducible rfl); done))
        (try simp only [Act.put, List.setIfInBounds_toArray, List.set_cons_zero, List.set_cons_succ])
        first | (refine anyT_take 7 (some 26) (v := ?_) rfl rfl (by kernel_rfl) (by kernel_rfl) (by kernel_rfl) (by kernel_rfl) (fun _ _ _ h => h) (Or.inl ⟨by rfl, ?_⟩) hHeld ?_; rotate_left; focus (intro wq hSw; obtain ⟨hcq, hfq⟩ := bcell hSw; go_simp; (try with_reducible rfl); done))
        (try simp only [Act.put, List.setIfInBounds_toArray, List.set_cons_zero, List.set_cons_succ])
        refine anyT_done (by kernel_rfl) ?_ _
        have Hbe3 := Lib.hid (below_then Hbe.out Hbe.out.size hHeld)
        have HB3 := Lib.hid (below_then HBr.out HBr.out.size hHeld)
        clear hHeld hb3 c2 f2 l2
        by_cases hck : B.crack ≤ lo
        · have Hr := Lib.hid (Hat.out j (by omega) (by rw [Hbp.out]; exact hck) (fun m hm h' => Hal.out m (by omega) h'))
          go_wp2
          go_ret2
          exact ⟨by rw [Hr.out] <;> rfl, HB3.out⟩
        · have Hr : Hid ((betweenS B j).1 < B.crack) := Lib.hid (by rw [Hbp.out]; simp only; omega)
          go_wp2
          go_roundg j
          case measure => have := Hgk.out; omega
          case rel => exact ⟨j, by omega, rfl, by first | rfl | rw [hwj], fun m hm h' => by rcases Nat.lt_or_eq_of_le hm with h | h; exact Hal.out m h h'; rw [← h]; exact Hr.out, Hbe3.out⟩
  · have hfb : (f != 0) = true := by simpa using hf
    have Hr := Lib.hid (hR.out hf)
    go_wp2
    go_ret2
    exact ⟨by rw [Hr.out] <;> rfl, HW2.out⟩
theorem zero_two {W : World} {n4 n5 : Nat} {w0 : Nat} (k4 : BoxAt W n4 #[.int .i64 0, .int .i64 0]) (k5 : BoxAt W n5 #[.int .i64 0, .int .i64 0]) (hnn : n4 ≠ n5 ∧ w0 ≤ n4 ∧ w0 ≤ n5) :
    BoxAt ((((W.setCell ⟨n4, 0, none⟩ (.int .i64 0)).setCell ⟨n4, 1, none⟩ (.int .i64 0)).setCell ⟨n5, 0, none⟩ (.int .i64 0)).setCell ⟨n5, 1, none⟩ (.int .i64 0)) n4 #[.int .i64 0, .int .i64 0] ∧
    BoxAt ((((W.setCell ⟨n4, 0, none⟩ (.int .i64 0)).setCell ⟨n4, 1, none⟩ (.int .i64 0)).setCell ⟨n5, 0, none⟩ (.int .i64 0)).setCell ⟨n5, 1, none⟩ (.int .i64 0)) n5 #[.int .i64 0, .int .i64 0] ∧
    ∀ m, m ≤ n4 → m ≤ n5 → Below m W ((((W.setCell ⟨n4, 0, none⟩ (.int .i64 0)).setCell ⟨n4, 1, none⟩ (.int .i64 0)).setCell ⟨n5, 0, none⟩ (.int .i64 0)).setCell ⟨n5, 1, none⟩ (.int .i64 0)) := by
  have s4 := box_store2 k4 rfl (.int .i64 0) (.int .i64 0)
  have k5' := box2_keep k5 (Ne.symm hnn.1) (.int .i64 0) (.int .i64 0)
  have s5 := box_store2 k5' rfl (.int .i64 0) (.int .i64 0)
  exact ⟨box2_keep s4.1 hnn.1 _ _, s5.1, fun m h4 h5 => (s4.2 m h4).trans (s5.2 m h5)⟩
theorem refHeats_end {a : Act} {W w : World} {n4 n5 : Nat} {x0 x1 y0 y1 e r : Value} (k4 : BoxAt W n4 #[x0, x1]) (k5 : BoxAt W n5 #[y0, y1]) (h4 : a.tmps.getD 4 undef = .pointer (some ⟨n4, 0, none⟩)) (h5 : a.tmps.getD 5 undef = .pointer (some ⟨n5, 0, none⟩)) (h6 : a.tmps.getD 6 undef = e) (hd : a.defers = [])
    (hv : r = .tuple #[.agg #[x0, x1], .agg #[y0, y1], e]) (hb : Below w.heap.size w W) :
    bodyPost Tryd.prog Tryd.f42 (fun e w' => e = .returned r ∧ Below w.heap.size w w') .ret a W := by
  obtain ⟨c4, f4, l4⟩ := k4
  obtain ⟨c5, f5, l5⟩ := k5
  refine bodyPost_ret (v := .tuple #[.agg #[x0, x1], .agg #[y0, y1], e]) ?_ hd ⟨by rw [hv], hb⟩
  rw [← h6]
  simp only [Array.getD_eq_getD_getElem?] at h4 h5
  simp [results, Tryd.results42, h4, h5, go_sem, c4, c5]
set_option maxRecDepth 100000 in
set_option maxHeartbeats 8000000 in
theorem refHeats_calls (B : ForgeV) (n : Int) (w : World) (hB : B.Reads w) :
    Calls Tryd.prog 42 #[B.val, .int .i64 n] w fun e w' => e = .returned (heatsR B n) ∧ Below w.heap.size w w' := by
  have HB := Lib.hid hB
  have k2 := ((BoxAt.new w B.cells 28).alloc (.cells #[.int .i64 0, .int .i64 0] 24)).alloc (.cells #[.int .i64 0, .int .i64 0] 24)
  have k4 := (BoxAt.new (w.alloc (.cells B.cells 28)) #[.int .i64 0, .int .i64 0] 24).alloc (.cells #[.int .i64 0, .int .i64 0] 24)
  have k5 := BoxAt.new ((w.alloc (.cells B.cells 28)).alloc (.cells #[.int .i64 0, .int .i64 0] 24)) #[.int .i64 0, .int .i64 0] 24
  have Hb : Below w.heap.size w (((w.alloc (.cells B.cells 28)).alloc (.cells #[.int .i64 0, .int .i64 0] 24)).alloc (.cells #[.int .i64 0, .int .i64 0] 24)) := (((Below.refl _ _).alloc (Nat.le_refl _) _).alloc (by simp) _).alloc (by simp; omega) _
  simp only [World.size_alloc] at k4 k5
  have hR : Hid (heatsR B n = bif goodF B then (bif inB n 0 300 then .tuple #[.agg #[.int .i64 (hLo B n), .int .i64 (hHi B n)], .agg #[.int .i64 (hLo B n * B.coal), .int .i64 (hHi B n * B.coal)], .int .i64 0]
    else .tuple #[.agg #[.int .i64 0, .int .i64 0], .agg #[.int .i64 0, .int .i64 0], .int .i64 21]) else .tuple #[.agg #[.int .i64 0, .int .i64 0], .agg #[.int .i64 0, .int .i64 0], .int .i64 20]) := Lib.hid rfl
  clear hB
  have hcells : B.val = .agg B.cells := rfl
  rw [hcells]
  unfold ForgeV.cells at k2 k4 k5 Hb ⊢
  go_enter Tryd.func42, Tryd.ntmps42
  go_upto_region 1 with (fail)
  generalize World.alloc (World.alloc (World.alloc w _) _) _ = W at *
  have hns : w.heap.size < w.heap.size + 1 ∧ w.heap.size + 1 < w.heap.size + 1 + 1 := by omega
  generalize w.heap.size + 1 + 1 = n5 at *
  generalize w.heap.size + 1 = n4 at *
  have H1 := Lib.hid Hb
  have K4 := Lib.hid k4
  have K5 := Lib.hid k5
  have K2 := Lib.hid k2
  obtain ⟨c2, f2, l2⟩ := k2
  clear Hb k4 k5
  go_wp2_with fail
  refine (eq0_1 (v' := B.val) (by unfold ForgeV.val ForgeV.cells; rfl) (refCheck_calls B _ (HB.out.below H1.out))).mono ?_
  rintro e w1 ⟨rfl, hb⟩
  clear c2 f2 l2
  have H2 := Lib.hid (below_then H1.out H1.out.size hb)
  replace K4 := Lib.hid (K4.out.below hb)
  replace K5 := Lib.hid (K5.out.below hb)
  replace K2 := Lib.hid (K2.out.below hb)
  clear hb H1
  have hnn : n4 ≠ n5 ∧ w.heap.size ≤ n4 ∧ w.heap.size ≤ n5 := by omega
  have zstore := fun (W : World) (k4 : BoxAt W n4 #[.int .i64 0, .int .i64 0]) (k5 : BoxAt W n5 #[.int .i64 0, .int .i64 0]) => zero_two k4 k5 hnn
  have Zs := Lib.hid zstore
  clear zstore
  cases hg : goodF B with
  | false =>
    have hz := Lib.hid (show heatsR B n = _ from hR.out.trans (by rw [hg, cond_false]))
    have hzs := Zs.out _ K4.out K5.out
    have Hzs := Lib.hid hzs
    clear hg hzs
    obtain ⟨c4, f4, l4⟩ := K4.out
    obtain ⟨c5, f5, l5⟩ := K5.out
    go_wp2
    exact refHeats_end Hzs.out.1 Hzs.out.2.1 rfl rfl rfl rfl hz.out (H2.out.trans (Hzs.out.2.2 w.heap.size hnn.2.1 hnn.2.2))
  | true =>
    have Hgg := Lib.hid hg
    have Hg := Lib.hid ((goodF_iff B).1 hg)
    clear hg
    cases hin : inB n 0 300 with
    | false =>
      have hz := Lib.hid (show heatsR B n = _ from hR.out.trans (by rw [Hgg.out, hin, cond_true, cond_false]))
      have hzs := Zs.out _ K4.out K5.out
      have Hzs := Lib.hid hzs
      have Hin := Lib.hid hin
      clear hin hzs
      obtain ⟨c4, f4, l4⟩ := K4.out
      obtain ⟨c5, f5, l5⟩ := K5.out
      go_wp2_with (go_at_call 48; refine (Sits_calls _ _ _ _).mono ?_; rintro e w' ⟨rfl, rfl⟩; rw [Hin.out])
      exact refHeats_end Hzs.out.1 Hzs.out.2.1 rfl rfl rfl rfl hz.out (H2.out.trans (Hzs.out.2.2 w.heap.size hnn.2.1 hnn.2.2))
    | true =>
      have hz := Lib.hid (show heatsR B n = _ from hR.out.trans (by rw [Hgg.out, hin, cond_true, cond_true]))
      have Hin := Lib.hid hin
      have hn := inB_iff.1 hin
      have Hn := Lib.hid hn
      have g := Hg.out
      have hcl := heatsS_bd g hn (cool := B.clo) (by have := g.cool; omega)
      have hch := heatsS_bd g hn (cool := B.chi) (by have := g.cool; omega)
      have hco := g.coal
      have hc1 := Lib.hid (show 1 ≤ B.clo ∧ B.clo ≤ 300 by have := g.cool; omega)
      have hc2 := Lib.hid (show 1 ≤ B.chi ∧ B.chi ≤ 300 by have := g.cool; omega)
      have m1 : 0 ≤ hLo B n * B.coal := Int.mul_nonneg hcl.1 hco.1
      have m2 : 0 ≤ hHi B n * B.coal := Int.mul_nonneg hch.1 hco.1
      have m3 : hLo B n * B.coal ≤ 300 * 100 := Int.mul_le_mul hcl.2 hco.2 hco.1 (by decide)
      have m4 : hHi B n * B.coal ≤ 300 * 100 := Int.mul_le_mul hch.2 hco.2 hco.1 (by decide)
      have hw1 : IntKind.i64.wrap (hLo B n * B.coal) = hLo B n * B.coal := wrap_in (by omega) (by omega)
      have hw2 : IntKind.i64.wrap (hHi B n * B.coal) = hHi B n * B.coal := wrap_in (by omega) (by omega)
      have hl : Hid ((n + eachS B B.clo - 1) / eachS B B.clo = hLo B n) := Lib.hid rfl
      have hh : Hid ((n + eachS B B.chi - 1) / eachS B B.chi = hHi B n) := Lib.hid rfl
      clear hin hn g hcl hch hco m1 m2 m3 m4
      obtain ⟨c2, f2, l2⟩ := K2.out
      go_upto_region 6 with (go_at_call 48; refine (Sits_calls _ _ _ _).mono ?_; rintro e w' ⟨rfl, rfl⟩; rw [Hin.out])
      generalize hlo : hLo B n = lo at *
      generalize hhi : hHi B n = hi at *
      clear hlo hhi
      apply region_told0 (S := fun w' => Below w1.heap.size w1 w') (F := fun m w' => w1.heap.size ≤ m ∧ BoxAt w' m #[.int .i64 lo, .int .i64 hi] ∧ Below w1.heap.size w1 w') 15 (by kernel_rfl)
      case k0 => exact (Below.refl _ _).drew
      case reg =>
        intro hHeld
        generalize hWd : World.drew w1 = Wd at *
        first | (refine anyT_take 0 (some 21) (v := ?_) rfl rfl (by kernel_rfl) (by kernel_rfl) (by kernel_rfl) (by kernel_rfl) (fun _ _ _ h => h) (Or.inl ⟨by rfl, ?_⟩) hHeld ?_; rotate_left; focus (intro wq hSw; obtain ⟨hcq, hfq⟩ := bcell hSw; go_simp; (try with_reducible rfl); done))
        (try simp only [Act.put, List.setIfInBounds_toArray, List.set_cons_zero, List.set_cons_succ])
        first | (refine anyT_take 1 (some 22) (v := ?_) rfl rfl (by kernel_rfl) (by kernel_rfl) (by kernel_rfl) (by kernel_rfl) (fun _ _ _ h => h) (Or.inl ⟨by rfl, ?_⟩) hHeld ?_; rotate_left; focus (intro wq hSw; obtain ⟨hcq, hfq⟩ := bcell hSw; go_simp; (try with_reducible rfl); done))
        (try simp only [Act.put, List.setIfInBounds_toArray, List.set_cons_zero, List.set_cons_succ])
        first | (refine anyT_take 2 (some 23) (v := ?_) rfl rfl (by kernel_rfl) (by kernel_rfl) (by kernel_rfl) (by kernel_rfl) (fun _ _ _ h => h) (Or.inl ⟨by rfl, ?_⟩) hHeld ?_; rotate_left; focus (intro wq hSw; obtain ⟨hcq, hfq⟩ := bcell hSw; go_simp; (try with_reducible rfl); done))
        (try simp only [Act.put, List.setIfInBounds_toArray, List.set_cons_zero, List.set_cons_succ])
        first | (refine anyT_take 3 (some 24) (v := ?_) rfl rfl (by kernel_rfl) (by kernel_rfl) (by kernel_rfl) (by kernel_rfl) (fun _ _ _ h => h) (Or.inl ⟨by rfl, ?_⟩) hHeld ?_; rotate_left; focus (intro wq hSw; obtain ⟨hcq, hfq⟩ := bcell hSw; go_simp; (try with_reducible rfl); done))
        (try simp only [Act.put, List.setIfInBounds_toArray, List.set_cons_zero, List.set_cons_succ])
        first | (refine anyT_take 4 (some 25) (v := ?_) rfl rfl (by kernel_rfl) (by kernel_rfl) (by kernel_rfl) (by kernel_rfl) (fun _ _ _ h => h) (Or.inl ⟨by rfl, ?_⟩) hHeld ?_; rotate_left; focus (intro wq hSw; obtain ⟨hcq, hfq⟩ := bcell hSw; go_simp; (try with_reducible rfl); done))
        (try simp only [Act.put, List.setIfInBounds_toArray, List.set_cons_zero, List.set_cons_succ])
        first | (refine anyT_take 6 (some 27) (v := ?_) rfl rfl (by kernel_rfl) (by kernel_rfl) (by kernel_rfl) (by kernel_rfl) (fun _ _ _ h => h) (Or.inl ⟨by rfl, ?_⟩) hHeld ?_; rotate_left; focus (intro wq hSw; obtain ⟨hcq, hfq⟩ := bcell hSw; go_simp; (try with_reducible rfl); done))
        (try simp only [Act.put, List.setIfInBounds_toArray, List.set_cons_zero, List.set_cons_succ])
        first | (refine anyT_take 7 (some 28) (v := ?_) rfl rfl (by kernel_rfl) (by kernel_rfl) (by kernel_rfl) (by kernel_rfl) (fun _ _ _ h => h) (Or.inl ⟨by rfl, ?_⟩) hHeld ?_; rotate_left; focus (intro wq hSw; obtain ⟨hcq, hfq⟩ := bcell hSw; go_simp; (try with_reducible rfl); done))
        (try simp only [Act.put, List.setIfInBounds_toArray, List.set_cons_zero, List.set_cons_succ])
        first | (refine anyT_take 8 (some 29) (v := ?_) rfl rfl (by kernel_rfl) (by kernel_rfl) (by kernel_rfl) (by kernel_rfl) (fun _ _ _ h => h) (Or.inl ⟨by rfl, ?_⟩) hHeld ?_; rotate_left; focus (intro wq hSw; obtain ⟨hcq, hfq⟩ := bcell hSw; go_simp; (try with_reducible rfl); done))
        (try simp only [Act.put, List.setIfInBounds_toArray, List.set_cons_zero, List.set_cons_succ])
        first | (refine anyT_take 9 (some 30) (v := ?_) rfl rfl (by kernel_rfl) (by kernel_rfl) (by kernel_rfl) (by kernel_rfl) (fun _ _ _ h => h) (Or.inl ⟨by rfl, ?_⟩) hHeld ?_; rotate_left; focus (intro wq hSw; obtain ⟨hcq, hfq⟩ := bcell hSw; go_simp; (try with_reducible rfl); done))
        (try simp only [Act.put, List.setIfInBounds_toArray, List.set_cons_zero, List.set_cons_succ])
        first | (refine anyT_take 10 (some 31) (v := ?_) rfl rfl (by kernel_rfl) (by kernel_rfl) (by kernel_rfl) (by kernel_rfl) (fun _ _ _ h => h) (Or.inl ⟨by rfl, ?_⟩) hHeld ?_; rotate_left; focus (intro wq hSw; obtain ⟨hcq, hfq⟩ := bcell hSw; go_simp; (try with_reducible rfl); done))
        (try simp only [Act.put, List.setIfInBounds_toArray, List.set_cons_zero, List.set_cons_succ])
        refine anyT_two 5 13 (by kernel_rfl) rfl rfl (fun K hK => ?_) (fun K hK => ?_)
        · go_simp
          refine (eq0_3 (v' := B.val) (by unfold ForgeV.val ForgeV.cells; rfl) (refStruck_calls B Hg.out n Hn.out B.clo hc1.out _)).mono ?_; rintro e w5 ⟨rfl, hb5⟩; (try replace k8 := k8.below hb5); rw [hl.out]
          refine hK.out _ _ ?_ (fun hHeld => ?_)
          · exact below_then hHeld hHeld.size hb5
          clear hK K
          (try simp only [Act.put, List.setIfInBounds_toArray, List.set_cons_zero, List.set_cons_succ])
          refine anyT_two 11 13 (by kernel_rfl) rfl rfl (fun K hK => ?_) (fun K hK => ?_)
          · go_simp
            refine (eq0_3 (v' := B.val) (by unfold ForgeV.val ForgeV.cells; rfl) (refStruck_calls B Hg.out n Hn.out B.chi hc2.out _)).mono ?_; rintro e w6 ⟨rfl, hb6⟩; (try replace k8 := k8.below hb6); rw [hh.out]
            refine hK.out _ _ ?_ (fun hHeld => ?_)
            · exact below_then hHeld hHeld.size hb6
            clear hK K
            (try simp only [Act.put, List.setIfInBounds_toArray, List.set_cons_zero, List.set_cons_succ])
            refine anyT_two 12 13 (by kernel_rfl) rfl rfl (fun K hK => ?_) (fun K hK => ?_)
            · go_simp
              refine (Band_calls _ _ _).mono ?_; rintro e w7 ⟨rfl, hb7⟩; (try replace k8 := k8.below hb7)
              refine hK.out _ _ ?_ (fun hHeld => ?_)
              · exact below_then hHeld hHeld.size hb7
              clear hK K
              (try simp only [Act.put, List.setIfInBounds_toArray, List.set_cons_zero, List.set_cons_succ])
              refine anyT_one 13 (by kernel_rfl) rfl (fun K hK => ?_)
              go_simp
              have hn8 := hHeld.size; first | (have k8 := BoxAt.new w7 #[.int .i64 0, .int .i64 0] 24; have hb8 : Below w7.heap.size w7 (w7.alloc (.cells #[.int .i64 0, .int .i64 0] 24)) := (Below.refl _ _).alloc (Nat.le_refl _) _; generalize w7.alloc _ = W8 at *; have hS8 := below_then hHeld hHeld.size hb8; generalize w7.heap.size = n8 at *) | (have k8 := BoxAt.new w6 #[.int .i64 0, .int .i64 0] 24; have hb8 : Below w6.heap.size w6 (w6.alloc (.cells #[.int .i64 0, .int .i64 0] 24)) := (Below.refl _ _).alloc (Nat.le_refl _) _; generalize w6.alloc _ = W8 at *; have hS8 := below_then hHeld hHeld.size hb8; generalize w6.heap.size = n8 at *) | (have k8 := BoxAt.new w5 #[.int .i64 0, .int .i64 0] 24; have hb8 : Below w5.heap.size w5 (w5.alloc (.cells #[.int .i64 0, .int .i64 0] 24)) := (Below.refl _ _).alloc (Nat.le_refl _) _; generalize w5.alloc _ = W8 at *; have hS8 := below_then hHeld hHeld.size hb8; generalize w5.heap.size = n8 at *) | (have k8 := BoxAt.new Wd #[.int .i64 0, .int .i64 0] 24; have hb8 : Below Wd.heap.size Wd (Wd.alloc (.cells #[.int .i64 0, .int .i64 0] 24)) := (Below.refl _ _).alloc (Nat.le_refl _) _; generalize Wd.alloc _ = W8 at *; have hS8 := below_then hHeld hHeld.size hb8; generalize Wd.heap.size = n8 at *)
              refine hK.out _ _ ?_ (fun hHeld => ?_)
              · exact hS8
              clear hK K
              (try simp only [Act.put, List.setIfInBounds_toArray, List.set_cons_zero, List.set_cons_succ])
              refine anyT_one 14 (by kernel_rfl) rfl (fun K hK => ?_)
              have k8' := k8; obtain ⟨c8, f8, l8⟩ := k8
              go_simp
              have k9 := box_store2 k8' rfl (.int .i64 lo) (.int .i64 hi); have hS9 := hHeld.trans (k9.2 _ hn8); have k9 := k9.1; generalize World.setCell (World.setCell _ ⟨n8, 0, none⟩ _) ⟨n8, 1, none⟩ _ = W9 at *
              refine hK.out _ _ ?_ (fun hHeld => ?_)
              · exact hS9
              clear hK K
              (try simp only [Act.put, List.setIfInBounds_toArray, List.set_cons_zero, List.set_cons_succ])
              refine anyT_done (by kernel_rfl) ?_ _
              exact ⟨n8, rfl, hn8, k9, hHeld⟩
            · go_simp
              have hn8 := hHeld.size; first | (have k8 := BoxAt.new w7 #[.int .i64 0, .int .i64 0] 24; have hb8 : Below w7.heap.size w7 (w7.alloc (.cells #[.int .i64 0, .int .i64 0] 24)) := (Below.refl _ _).alloc (Nat.le_refl _) _; generalize w7.alloc _ = W8 at *; have hS8 := below_then hHeld hHeld.size hb8; generalize w7.heap.size = n8 at *) | (have k8 := BoxAt.new w6 #[.int .i64 0, .int .i64 0] 24; have hb8 : Below w6.heap.size w6 (w6.alloc (.cells #[.int .i64 0, .int .i64 0] 24)) := (Below.refl _ _).alloc (Nat.le_refl _) _; generalize w6.alloc _ = W8 at *; have hS8 := below_then hHeld hHeld.size hb8; generalize w6.heap.size = n8 at *) | (have k8 := BoxAt.new w5 #[.int .i64 0, .int .i64 0] 24; have hb8 : Below w5.heap.size w5 (w5.alloc (.cells #[.int .i64 0, .int .i64 0] 24)) := (Below.refl _ _).alloc (Nat.le_refl _) _; generalize w5.alloc _ = W8 at *; have hS8 := below_then hHeld hHeld.size hb8; generalize w5.heap.size = n8 at *) | (have k8 := BoxAt.new Wd #[.int .i64 0, .int .i64 0] 24; have hb8 : Below Wd.heap.size Wd (Wd.alloc (.cells #[.int .i64 0, .int .i64 0] 24)) := (Below.refl _ _).alloc (Nat.le_refl _) _; generalize Wd.alloc _ = W8 at *; have hS8 := below_then hHeld hHeld.size hb8; generalize Wd.heap.size = n8 at *)
              refine hK.out _ _ ?_ (fun hHeld => ?_)
              · exact hS8
              clear hK K
              (try simp only [Act.put, List.setIfInBounds_toArray, List.set_cons_zero, List.set_cons_succ])
              refine anyT_one 12 (by kernel_rfl) rfl (fun K hK => ?_)
              go_simp
              refine (Band_calls _ _ _).mono ?_; rintro e w7 ⟨rfl, hb7⟩; (try replace k8 := k8.below hb7)
              refine hK.out _ _ ?_ (fun hHeld => ?_)
              · exact below_then hHeld hHeld.size hb7
              clear hK K
              (try simp only [Act.put, List.setIfInBounds_toArray, List.set_cons_zero, List.set_cons_succ])
              refine anyT_one 14 (by kernel_rfl) rfl (fun K hK => ?_)
              have k8' := k8; obtain ⟨c8, f8, l8⟩ := k8
              go_simp
              have k9 := box_store2 k8' rfl (.int .i64 lo) (.int .i64 hi); have hS9 := hHeld.trans (k9.2 _ hn8); have k9 := k9.1; generalize World.setCell (World.setCell _ ⟨n8, 0, none⟩ _) ⟨n8, 1, none⟩ _ = W9 at *
              refine hK.out _ _ ?_ (fun hHeld => ?_)
              · exact hS9
              clear hK K
              (try simp only [Act.put, List.setIfInBounds_toArray, List.set_cons_zero, List.set_cons_succ])
              refine anyT_done (by kernel_rfl) ?_ _
              exact ⟨n8, rfl, hn8, k9, hHeld⟩
          · go_simp
            have hn8 := hHeld.size; first | (have k8 := BoxAt.new w7 #[.int .i64 0, .int .i64 0] 24; have hb8 : Below w7.heap.size w7 (w7.alloc (.cells #[.int .i64 0, .int .i64 0] 24)) := (Below.refl _ _).alloc (Nat.le_refl _) _; generalize w7.alloc _ = W8 at *; have hS8 := below_then hHeld hHeld.size hb8; generalize w7.heap.size = n8 at *) | (have k8 := BoxAt.new w6 #[.int .i64 0, .int .i64 0] 24; have hb8 : Below w6.heap.size w6 (w6.alloc (.cells #[.int .i64 0, .int .i64 0] 24)) := (Below.refl _ _).alloc (Nat.le_refl _) _; generalize w6.alloc _ = W8 at *; have hS8 := below_then hHeld hHeld.size hb8; generalize w6.heap.size = n8 at *) | (have k8 := BoxAt.new w5 #[.int .i64 0, .int .i64 0] 24; have hb8 : Below w5.heap.size w5 (w5.alloc (.cells #[.int .i64 0, .int .i64 0] 24)) := (Below.refl _ _).alloc (Nat.le_refl _) _; generalize w5.alloc _ = W8 at *; have hS8 := below_then hHeld hHeld.size hb8; generalize w5.heap.size = n8 at *) | (have k8 := BoxAt.new Wd #[.int .i64 0, .int .i64 0] 24; have hb8 : Below Wd.heap.size Wd (Wd.alloc (.cells #[.int .i64 0, .int .i64 0] 24)) := (Below.refl _ _).alloc (Nat.le_refl _) _; generalize Wd.alloc _ = W8 at *; have hS8 := below_then hHeld hHeld.size hb8; generalize Wd.heap.size = n8 at *)
            refine hK.out _ _ ?_ (fun hHeld => ?_)
            · exact hS8
            clear hK K
            (try simp only [Act.put, List.setIfInBounds_toArray, List.set_cons_zero, List.set_cons_succ])
            refine anyT_one 11 (by kernel_rfl) rfl (fun K hK => ?_)
            go_simp
            refine (eq0_3 (v' := B.val) (by unfold ForgeV.val ForgeV.cells; rfl) (refStruck_calls B Hg.out n Hn.out B.chi hc2.out _)).mono ?_; rintro e w6 ⟨rfl, hb6⟩; (try replace k8 := k8.below hb6); rw [hh.out]
            refine hK.out _ _ ?_ (fun hHeld => ?_)
            · exact below_then hHeld hHeld.size hb6
            clear hK K
            (try simp only [Act.put, List.setIfInBounds_toArray, List.set_cons_zero, List.set_cons_succ])
            refine anyT_one 12 (by kernel_rfl) rfl (fun K hK => ?_)
            go_simp
            refine (Band_calls _ _ _).mono ?_; rintro e w7 ⟨rfl, hb7⟩; (try replace k8 := k8.below hb7)
            refine hK.out _ _ ?_ (fun hHeld => ?_)
            · exact below_then hHeld hHeld.size hb7
            clear hK K
            (try simp only [Act.put, List.setIfInBounds_toArray, List.set_cons_zero, List.set_cons_succ])
            refine anyT_one 14 (by kernel_rfl) rfl (fun K hK => ?_)
            have k8' := k8; obtain ⟨c8, f8, l8⟩ := k8
            go_simp
            have k9 := box_store2 k8' rfl (.int .i64 lo) (.int .i64 hi); have hS9 := hHeld.trans (k9.2 _ hn8); have k9 := k9.1; generalize World.setCell (World.setCell _ ⟨n8, 0, none⟩ _) ⟨n8, 1, none⟩ _ = W9 at *
            refine hK.out _ _ ?_ (fun hHeld => ?_)
            · exact hS9
            clear hK K
            (try simp only [Act.put, List.setIfInBounds_toArray, List.set_cons_zero, List.set_cons_succ])
            refine anyT_done (by kernel_rfl) ?_ _
            exact ⟨n8, rfl, hn8, k9, hHeld⟩
        · go_simp
          have hn8 := hHeld.size; first | (have k8 := BoxAt.new w7 #[.int .i64 0, .int .i64 0] 24; have hb8 : Below w7.heap.size w7 (w7.alloc (.cells #[.int .i64 0, .int .i64 0] 24)) := (Below.refl _ _).alloc (Nat.le_refl _) _; generalize w7.alloc _ = W8 at *; have hS8 := below_then hHeld hHeld.size hb8; generalize w7.heap.size = n8 at *) | (have k8 := BoxAt.new w6 #[.int .i64 0, .int .i64 0] 24; have hb8 : Below w6.heap.size w6 (w6.alloc (.cells #[.int .i64 0, .int .i64 0] 24)) := (Below.refl _ _).alloc (Nat.le_refl _) _; generalize w6.alloc _ = W8 at *; have hS8 := below_then hHeld hHeld.size hb8; generalize w6.heap.size = n8 at *) | (have k8 := BoxAt.new w5 #[.int .i64 0, .int .i64 0] 24; have hb8 : Below w5.heap.size w5 (w5.alloc (.cells #[.int .i64 0, .int .i64 0] 24)) := (Below.refl _ _).alloc (Nat.le_refl _) _; generalize w5.alloc _ = W8 at *; have hS8 := below_then hHeld hHeld.size hb8; generalize w5.heap.size = n8 at *) | (have k8 := BoxAt.new Wd #[.int .i64 0, .int .i64 0] 24; have hb8 : Below Wd.heap.size Wd (Wd.alloc (.cells #[.int .i64 0, .int .i64 0] 24)) := (Below.refl _ _).alloc (Nat.le_refl _) _; generalize Wd.alloc _ = W8 at *; have hS8 := below_then hHeld hHeld.size hb8; generalize Wd.heap.size = n8 at *)
          refine hK.out _ _ ?_ (fun hHeld => ?_)
          · exact hS8
          clear hK K
          (try simp only [Act.put, List.setIfInBounds_toArray, List.set_cons_zero, List.set_cons_succ])
          refine anyT_one 5 (by kernel_rfl) rfl (fun K hK => ?_)
          go_simp
          refine (eq0_3 (v' := B.val) (by unfold ForgeV.val ForgeV.cells; rfl) (refStruck_calls B Hg.out n Hn.out B.clo hc1.out _)).mono ?_; rintro e w5 ⟨rfl, hb5⟩; (try replace k8 := k8.below hb5); rw [hl.out]
          refine hK.out _ _ ?_ (fun hHeld => ?_)
          · exact below_then hHeld hHeld.size hb5
          clear hK K
          (try simp only [Act.put, List.setIfInBounds_toArray, List.set_cons_zero, List.set_cons_succ])
          refine anyT_one 11 (by kernel_rfl) rfl (fun K hK => ?_)
          go_simp
          refine (eq0_3 (v' := B.val) (by unfold ForgeV.val ForgeV.cells; rfl) (refStruck_calls B Hg.out n Hn.out B.chi hc2.out _)).mono ?_; rintro e w6 ⟨rfl, hb6⟩; (try replace k8 := k8.below hb6); rw [hh.out]
          refine hK.out _ _ ?_ (fun hHeld => ?_)
          · exact below_then hHeld hHeld.size hb6
          clear hK K
          (try simp only [Act.put, List.setIfInBounds_toArray, List.set_cons_zero, List.set_cons_succ])
          refine anyT_one 12 (by kernel_rfl) rfl (fun K hK => ?_)
          go_simp
          refine (Band_calls _ _ _).mono ?_; rintro e w7 ⟨rfl, hb7⟩; (try replace k8 := k8.below hb7)
          refine hK.out _ _ ?_ (fun hHeld => ?_)
          · exact below_then hHeld hHeld.size hb7
          clear hK K
          (try simp only [Act.put, List.setIfInBounds_toArray, List.set_cons_zero, List.set_cons_succ])
          refine anyT_one 14 (by kernel_rfl) rfl (fun K hK => ?_)
          have k8' := k8; obtain ⟨c8, f8, l8⟩ := k8
          go_simp
          have k9 := box_store2 k8' rfl (.int .i64 lo) (.int .i64 hi); have hS9 := hHeld.trans (k9.2 _ hn8); have k9 := k9.1; generalize World.setCell (World.setCell _ ⟨n8, 0, none⟩ _) ⟨n8, 1, none⟩ _ = W9 at *
          refine hK.out _ _ ?_ (fun hHeld => ?_)
          · exact hS9
          clear hK K
          (try simp only [Act.put, List.setIfInBounds_toArray, List.set_cons_zero, List.set_cons_succ])
          refine anyT_done (by kernel_rfl) ?_ _
          exact ⟨n8, rfl, hn8, k9, hHeld⟩
      rintro n8 W3 ⟨hn8, k8, hb3⟩
      have H3 := Lib.hid (below_then H2.out H2.out.size hb3)
      have K43 := Lib.hid (K4.out.below hb3)
      have K53 := Lib.hid (K5.out.below hb3)
      have K23 := Lib.hid (K2.out.below hb3)
      have hd8 : n4 ≠ n8 ∧ n5 ≠ n8 ∧ n4 ≠ w.heap.size ∧ n5 ≠ w.heap.size := by have := K4.out.lt; have := K5.out.lt; omega
      have K8 := Lib.hid k8
      clear hb3 k8 c2 f2 l2
      go_upto_region 7 with (fail)
      refine region_plain (S := fun w' => (∃ x y, BoxAt w' n4 #[x, y]) ∧ (∃ x y, BoxAt w' n5 #[x, y]) ∧ BoxAt w' n8 #[.int .i64 lo, .int .i64 hi] ∧ BoxAt w' w.heap.size #[.slice B.lA B.lots.length B.lCap, .int .i64 B.tlo, .int .i64 B.thi, .int .i64 B.thick, .int .i64 B.crack, .int .i64 B.glo, .int .i64 B.ghi, .slice B.sA B.thins.length B.sCap, .int .i64 B.hot, .int .i64 B.least, .int .i64 B.clo, .int .i64 B.chi, .int .i64 B.coal, .slice B.kA B.looks.length B.kCap] ∧ Below w.heap.size w w') 15 (by kernel_rfl) ?_ (fun hHeld => ?_)
      · exact ⟨⟨_, _, K43.out.below ((Below.refl _ _).drew)⟩, ⟨_, _, K53.out.below ((Below.refl _ _).drew)⟩, K8.out.below ((Below.refl _ _).drew), K23.out.below ((Below.refl _ _).drew), H3.out.drew⟩
      generalize World.drew W3 = Wd at *
      first | (refine anyT_take 0 (some 34) (v := ?_) rfl rfl (by kernel_rfl) (by kernel_rfl) (by kernel_rfl) (by kernel_rfl) (fun _ _ _ h => h) (Or.inl ⟨by rfl, ?_⟩) hHeld ?_; rotate_left; focus (intro wq hSw; obtain ⟨_, _, ⟨c8, f8, l8⟩, ⟨c2, f2, l2⟩, _⟩ := hSw; go_simp; (try with_reducible rfl); done))
      (try simp only [Act.put, List.setIfInBounds_toArray, List.set_cons_zero, List.set_cons_succ])
      first | (refine anyT_take 1 (some 35) (v := ?_) rfl rfl (by kernel_rfl) (by kernel_rfl) (by kernel_rfl) (by kernel_rfl) (fun _ _ _ h => h) (Or.inl ⟨by rfl, ?_⟩) hHeld ?_; rotate_left; focus (intro wq hSw; obtain ⟨_, _, ⟨c8, f8, l8⟩, ⟨c2, f2, l2⟩, _⟩ := hSw; go_simp; (try with_reducible rfl); done))
      (try simp only [Act.put, List.setIfInBounds_toArray, List.set_cons_zero, List.set_cons_succ])
      first | (refine anyT_take 2 (some 36) (v := ?_) rfl rfl (by kernel_rfl) (by kernel_rfl) (by kernel_rfl) (by kernel_rfl) (fun _ _ _ h => h) (Or.inl ⟨by rfl, ?_⟩) hHeld ?_; rotate_left; focus (intro wq hSw; obtain ⟨_, _, ⟨c8, f8, l8⟩, ⟨c2, f2, l2⟩, _⟩ := hSw; go_simp; (try with_reducible rfl); done))
      (try simp only [Act.put, List.setIfInBounds_toArray, List.set_cons_zero, List.set_cons_succ])
      first | (refine anyT_take 3 (some 37) (v := ?_) rfl rfl (by kernel_rfl) (by kernel_rfl) (by kernel_rfl) (by kernel_rfl) (fun _ _ _ h => h) (Or.inl ⟨by rfl, ?_⟩) hHeld ?_; rotate_left; focus (intro wq hSw; obtain ⟨_, _, ⟨c8, f8, l8⟩, ⟨c2, f2, l2⟩, _⟩ := hSw; go_simp; (try with_reducible rfl); done))
      (try simp only [Act.put, List.setIfInBounds_toArray, List.set_cons_zero, List.set_cons_succ])
      first | (refine anyT_take 4 (some 38) (v := ?_) rfl rfl (by kernel_rfl) (by kernel_rfl) (by kernel_rfl) (by kernel_rfl) (fun _ _ _ h => h) (Or.inl ⟨by rfl, ?_⟩) hHeld ?_; rotate_left; focus (intro wq hSw; obtain ⟨_, _, ⟨c8, f8, l8⟩, ⟨c2, f2, l2⟩, _⟩ := hSw; go_simp; (try with_reducible rfl); done))
      (try simp only [Act.put, List.setIfInBounds_toArray, List.set_cons_zero, List.set_cons_succ])
      first | (refine anyT_take 5 (some 39) (v := ?_) rfl rfl (by kernel_rfl) (by kernel_rfl) (by kernel_rfl) (by kernel_rfl) (fun _ _ _ h => h) (Or.inl ⟨by rfl, ?_⟩) hHeld ?_; rotate_left; focus (intro wq hSw; obtain ⟨_, _, ⟨c8, f8, l8⟩, ⟨c2, f2, l2⟩, _⟩ := hSw; go_simp; (try with_reducible rfl); done))
      (try simp only [Act.put, List.setIfInBounds_toArray, List.set_cons_zero, List.set_cons_succ])
      first | (refine anyT_take 6 (some 40) (v := ?_) rfl rfl (by kernel_rfl) (by kernel_rfl) (by kernel_rfl) (by kernel_rfl) (fun _ _ _ h => h) (Or.inl ⟨by rfl, ?_⟩) hHeld ?_; rotate_left; focus (intro wq hSw; obtain ⟨_, _, ⟨c8, f8, l8⟩, ⟨c2, f2, l2⟩, _⟩ := hSw; go_simp; (try with_reducible rfl); done))
      (try simp only [Act.put, List.setIfInBounds_toArray, List.set_cons_zero, List.set_cons_succ])
      first | (refine anyT_take 7 (some 41) (v := ?_) rfl rfl (by kernel_rfl) (by kernel_rfl) (by kernel_rfl) (by kernel_rfl) (fun _ _ _ h => h) (Or.inl ⟨by rfl, ?_⟩) hHeld ?_; rotate_left; focus (intro wq hSw; obtain ⟨_, _, ⟨c8, f8, l8⟩, ⟨c2, f2, l2⟩, _⟩ := hSw; go_simp; (try with_reducible rfl); done))
      (try simp only [Act.put, List.setIfInBounds_toArray, List.set_cons_zero, List.set_cons_succ])
      first | (refine anyT_take 8 (some 42) (v := ?_) rfl rfl (by kernel_rfl) (by kernel_rfl) (by kernel_rfl) (by kernel_rfl) (fun _ _ _ h => h) (Or.inl ⟨by rfl, ?_⟩) hHeld ?_; rotate_left; focus (intro wq hSw; obtain ⟨_, _, ⟨c8, f8, l8⟩, ⟨c2, f2, l2⟩, _⟩ := hSw; go_simp; (try with_reducible rfl); done))
      (try simp only [Act.put, List.setIfInBounds_toArray, List.set_cons_zero, List.set_cons_succ])
      first | (refine anyT_take 9 (some 43) (v := ?_) rfl rfl (by kernel_rfl) (by kernel_rfl) (by kernel_rfl) (by kernel_rfl) (fun _ _ _ h => h) (Or.inl ⟨by rfl, ?_⟩) hHeld ?_; rotate_left; focus (intro wq hSw; obtain ⟨_, _, ⟨c8, f8, l8⟩, ⟨c2, f2, l2⟩, _⟩ := hSw; go_simp; (try with_reducible rfl); done))
      (try simp only [Act.put, List.setIfInBounds_toArray, List.set_cons_zero, List.set_cons_succ])
      first | (refine anyT_take 10 (some 44) (v := ?_) rfl rfl (by kernel_rfl) (by kernel_rfl) (by kernel_rfl) (by kernel_rfl) (fun _ _ _ h => h) (Or.inl ⟨by rfl, ?_⟩) hHeld ?_; rotate_left; focus (intro wq hSw; obtain ⟨_, _, ⟨c8, f8, l8⟩, ⟨c2, f2, l2⟩, _⟩ := hSw; go_simp; (try with_reducible rfl); done))
      (try simp only [Act.put, List.setIfInBounds_toArray, List.set_cons_zero, List.set_cons_succ])
      refine anyT_one 11 (by kernel_rfl) rfl (fun K hK => ?_)
      go_simp
      refine (Band_calls _ _ _).mono ?_; rintro e w7 ⟨rfl, hb7⟩
      refine hK.out _ _ ?_ (fun hHeld => ?_)
      · exact (by obtain ⟨⟨x4, y4, h4⟩, ⟨x5, y5, h5⟩, h8, h2, hw⟩ := hHeld; exact ⟨⟨x4, y4, h4.below hb7⟩, ⟨x5, y5, h5.below hb7⟩, h8.below hb7, h2.below hb7, below_then hw hw.size hb7⟩)
      clear hK K
      (try simp only [Act.put, List.setIfInBounds_toArray, List.set_cons_zero, List.set_cons_succ])
      refine anyT_one 12 (by kernel_rfl) rfl (fun K hK => ?_)
      obtain ⟨⟨x4, y4, h4⟩, ⟨x5, y5, h5⟩, h8, h2, hw⟩ := hHeld; have hs := box_store2 h4 rfl (.int .i64 lo) (.int .i64 hi); have k49 := hs.1; have hS := And.intro (⟨_, _, hs.1⟩ : ∃ x y, BoxAt _ n4 #[x, y]) (And.intro (⟨x5, y5, box2_keep h5 (Ne.symm hnn.1) (.int .i64 lo) (.int .i64 hi)⟩ : ∃ x y, BoxAt _ n5 #[x, y]) (And.intro (box2_keep h8 (Ne.symm hd8.1) (.int .i64 lo) (.int .i64 hi)) (And.intro (box2_keep h2 (Ne.symm hd8.2.2.1) (.int .i64 lo) (.int .i64 hi)) (hw.trans (hs.2 w.heap.size hnn.2.1))))); clear hs h5 h8 h2 hw; obtain ⟨c4, f4, l4⟩ := h4
      go_simp
      refine hK.out _ _ ?_ (fun hHeld => ?_)
      · exact hS
      clear hK K
      (try simp only [Act.put, List.setIfInBounds_toArray, List.set_cons_zero, List.set_cons_succ])
      refine anyT_one 13 (by kernel_rfl) rfl (fun K hK => ?_)
      clear hS; obtain ⟨⟨x4', y4', h4⟩, ⟨x5', y5', h5⟩, h8, h2, hw⟩ := hHeld; have hs := box_store2 h5 rfl (.int .i64 (lo * B.coal)) (.int .i64 (hi * B.coal)); have k59 := hs.1; replace k49 := box2_keep k49 hnn.1 (.int .i64 (lo * B.coal)) (.int .i64 (hi * B.coal)); have hS := And.intro (⟨_, _, k49⟩ : ∃ x y, BoxAt _ n4 #[x, y]) (And.intro (⟨_, _, hs.1⟩ : ∃ x y, BoxAt _ n5 #[x, y]) (And.intro (box2_keep h8 (Ne.symm hd8.2.1) (.int .i64 (lo * B.coal)) (.int .i64 (hi * B.coal))) (And.intro (box2_keep h2 (Ne.symm hd8.2.2.2) (.int .i64 (lo * B.coal)) (.int .i64 (hi * B.coal))) (hw.trans (hs.2 w.heap.size hnn.2.2))))); clear hs h4 h8 h2 hw; obtain ⟨c5, f5, l5⟩ := h5
      go_simp
      refine hK.out _ _ ?_ (fun hHeld => ?_)
      · exact hS
      clear hK K
      (try simp only [Act.put, List.setIfInBounds_toArray, List.set_cons_zero, List.set_cons_succ])
      first | (refine anyT_take 14 (some 6) (v := ?_) rfl rfl (by kernel_rfl) (by kernel_rfl) (by kernel_rfl) (by kernel_rfl) (fun _ _ _ h => h) (Or.inl ⟨by rfl, ?_⟩) hHeld ?_; rotate_left; focus (intro wq hSw; obtain ⟨_, _, ⟨c8, f8, l8⟩, ⟨c2, f2, l2⟩, _⟩ := hSw; go_simp; (try with_reducible rfl); done))
      (try simp only [Act.put, List.setIfInBounds_toArray, List.set_cons_zero, List.set_cons_succ])
      refine anyT_done (by kernel_rfl) ?_ _
      go_wp2
      exact refHeats_end k49 k59 rfl rfl rfl rfl hz.out hHeld.2.2.2.2
theorem blowsR_two (B : ForgeV) : ∃ n f, blowsR B = .tuple #[.int .i64 n, .int .i64 f] := by
  unfold blowsR blowsP
  split
  · split
    · exact ⟨_, _, rfl⟩
    · exact ⟨_, _, rfl⟩
  · exact ⟨_, _, rfl⟩
theorem soundR_two (B : ForgeV) : ∃ n f, soundR B = .tuple #[.int .i64 n, .int .i64 f] := by
  unfold soundR soundP
  split
  · split
    · exact ⟨_, _, rfl⟩
    · split
      · exact ⟨_, _, rfl⟩
      · exact ⟨_, _, rfl⟩
  · exact ⟨_, _, rfl⟩
theorem heatsR_five (B : ForgeV) (n : Int) : ∃ a b c d f, heatsR B n = .tuple #[.agg #[.int .i64 a, .int .i64 b], .agg #[.int .i64 c, .int .i64 d], .int .i64 f] := by
  unfold heatsR
  cases goodF B
  · exact ⟨_, _, _, _, _, rfl⟩
  · cases inB n 0 300
    · exact ⟨_, _, _, _, _, rfl⟩
    · exact ⟨_, _, _, _, _, rfl⟩
attribute [local go_sem] eqSpan
set_option maxRecDepth 100000 in
set_option maxHeartbeats 4000000 in
theorem ForgeBlows_calls (B : ForgeV) (n : Int) (w : World) (hB : B.Reads w) (hM : EndsAt w) :
    Calls Tryd.prog 6 #[B.val, .int .i64 n] w fun e w' => e = .returned (.bool true) ∧ Below w.heap.size w w' := by
  have HB0 := Lib.hid hB
  have HM0 := Lib.hid hM
  clear hB hM
  have hcells : B.val = .agg B.cells := rfl
  rw [hcells]
  unfold ForgeV.cells
  go_enter Tryd.func6, Tryd.ntmps6
  go_upto_region 1 with fail
  have k3 := BoxAt.new w B.cells 28
  have H1 : Below w.heap.size w (w.alloc (.cells B.cells 28)) := (Below.refl _ _).alloc (Nat.le_refl _) _
  unfold ForgeV.cells at k3 H1
  generalize w.alloc _ = w1 at *
  have H2 := Lib.hid H1
  have K3 := Lib.hid k3
  obtain ⟨c3, f3, l3⟩ := k3
  clear H1
  obtain ⟨b0, e0, hb0⟩ := blowsR_two B
  obtain ⟨s0, g0, hs0⟩ := soundR_two B
  obtain ⟨a, b, c, d, f, hh0⟩ := heatsR_five B n
  have Hb0 := Lib.hid hb0
  have Hs0 := Lib.hid hs0
  have Hh0 := Lib.hid hh0
  clear hb0 hs0 hh0
  have q1 : (b0 != b0) = false := by simp
  have q2 : (e0 != e0) = false := by simp
  have q3 : (s0 != s0) = false := by simp
  have q4 : (g0 != g0) = false := by simp
  have q5 : (f == f) = true := by simp
  go_wp2_with fail
  refine (eq0_1 (v' := B.val) (by unfold ForgeV.val ForgeV.cells; rfl) (Blows_calls B _ (HB0.out.below H2.out))).mono ?_
  rintro e w2 ⟨rfl, hb⟩
  rw [Hb0.out]
  replace K3 := Lib.hid (K3.out.below hb)
  replace H2 := Lib.hid (below_then H2.out H2.out.size hb)
  clear hb c3 f3 l3
  obtain ⟨c3, f3, l3⟩ := K3.out
  go_wp2_with fail
  refine (eq0_1 (v' := B.val) (by unfold ForgeV.val ForgeV.cells; rfl) (refBlows_calls B _ (HB0.out.below H2.out))).mono ?_
  rintro e w3 ⟨rfl, hb⟩
  rw [Hb0.out]
  replace K3 := Lib.hid (K3.out.below hb)
  replace H2 := Lib.hid (below_then H2.out H2.out.size hb)
  clear hb c3 f3 l3
  obtain ⟨c3, f3, l3⟩ := K3.out
  go_wp2_with fail
  refine (eq0_1 (v' := B.val) (by unfold ForgeV.val ForgeV.cells; rfl) (Sound_calls B _ (HB0.out.below H2.out))).mono ?_
  rintro e w4 ⟨rfl, hb⟩
  rw [Hs0.out]
  replace K3 := Lib.hid (K3.out.below hb)
  replace H2 := Lib.hid (below_then H2.out H2.out.size hb)
  clear hb c3 f3 l3
  obtain ⟨c3, f3, l3⟩ := K3.out
  go_wp2_with fail
  refine (eq0_1 (v' := B.val) (by unfold ForgeV.val ForgeV.cells; rfl) (refSound_calls B _ (HB0.out.below H2.out))).mono ?_
  rintro e w5 ⟨rfl, hb⟩
  rw [Hs0.out]
  replace K3 := Lib.hid (K3.out.below hb)
  replace H2 := Lib.hid (below_then H2.out H2.out.size hb)
  clear hb c3 f3 l3
  obtain ⟨c3, f3, l3⟩ := K3.out
  go_wp2_with fail
  refine (eq0_2 (v' := B.val) (by unfold ForgeV.val ForgeV.cells; rfl) (Heats_calls B n _ (HB0.out.below H2.out))).mono ?_
  rintro e w6 ⟨rfl, hb⟩
  rw [Hh0.out]
  replace K3 := Lib.hid (K3.out.below hb)
  replace H2 := Lib.hid (below_then H2.out H2.out.size hb)
  clear hb c3 f3 l3
  obtain ⟨c3, f3, l3⟩ := K3.out
  go_upto_region 10 with (fail)
  have hb : Below w6.heap.size w6 ((w6.alloc (.cells #[.int .i64 a, .int .i64 b] 24)).alloc (.cells #[.int .i64 c, .int .i64 d] 24)) := ((Below.refl _ _).alloc (Nat.le_refl _) _).alloc (by simp) _
  have k9 := (BoxAt.new w6 #[.int .i64 a, .int .i64 b] 24).alloc (.cells #[.int .i64 c, .int .i64 d] 24)
  have k10 := BoxAt.new (w6.alloc (.cells #[.int .i64 a, .int .i64 b] 24)) #[.int .i64 c, .int .i64 d] 24
  rw [World.size_alloc] at k10
  generalize World.alloc (World.alloc w6 _) _ = w7 at *
  replace K3 := Lib.hid (K3.out.below hb)
  replace H2 := Lib.hid (below_then H2.out H2.out.size hb)
  generalize w6.heap.size + 1 = n10 at *
  generalize w6.heap.size = n9 at *
  have K9 := Lib.hid k9
  have K10 := Lib.hid k10
  clear hb c3 f3 l3 k9 k10
  obtain ⟨c3, f3, l3⟩ := K3.out
  go_wp2_with fail
  refine (eq0_2 (v' := B.val) (by unfold ForgeV.val ForgeV.cells; rfl) (refHeats_calls B n _ (HB0.out.below H2.out))).mono ?_
  rintro e w8 ⟨rfl, hb⟩
  rw [Hh0.out]
  replace K9 := Lib.hid (K9.out.below hb)
  replace K10 := Lib.hid (K10.out.below hb)
  replace H2 := Lib.hid (below_then H2.out H2.out.size hb)
  clear hb c3 f3 l3 K3
  go_upto_region 11 with (fail)
  have hb : Below w8.heap.size w8 ((w8.alloc (.cells #[.int .i64 a, .int .i64 b] 24)).alloc (.cells #[.int .i64 c, .int .i64 d] 24)) := ((Below.refl _ _).alloc (Nat.le_refl _) _).alloc (by simp) _
  have k11 := (BoxAt.new w8 #[.int .i64 a, .int .i64 b] 24).alloc (.cells #[.int .i64 c, .int .i64 d] 24)
  have k12 := BoxAt.new (w8.alloc (.cells #[.int .i64 a, .int .i64 b] 24)) #[.int .i64 c, .int .i64 d] 24
  rw [World.size_alloc] at k12
  generalize World.alloc (World.alloc w8 _) _ = w9 at *
  have k9 := K9.out.below hb
  have k10 := K10.out.below hb
  replace H2 := Lib.hid (below_then H2.out H2.out.size hb)
  generalize w8.heap.size + 1 = n12 at *
  generalize w8.heap.size = n11 at *
  clear hb
  obtain ⟨c9, f9, l9⟩ := k9
  obtain ⟨c10, f10, l10⟩ := k10
  obtain ⟨c11, f11, l11⟩ := k11
  obtain ⟨c12, f12, l12⟩ := k12
  go_wp2_with fail
  refine (works_calls _ (HM0.out.below H2.out)).mono ?_
  rintro e w10 ⟨rfl, hb⟩
  go_wp2
  go_ret
  exact ⟨rfl, below_then H2.out H2.out.size hb⟩
end
end Go.Proofs.YtgfbfbfajnfbjaaDoor
