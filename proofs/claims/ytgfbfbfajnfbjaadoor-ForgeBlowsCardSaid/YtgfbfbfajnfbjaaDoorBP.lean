import Derived.Test.YtgfbfbfajnfbjaaDoorAG
import Derived.Test.YtgfbfbfajnfbjaaDoorBB
import Derived.Test.YtgfbfbfajnfbjaaDoorY
import Derived.Test.YtgfbfbfajnfbjaaDoorBC
import Derived.Test.YtgfbfbfajnfbjaaDoorAD
import Derived.Deep.DeepAppendWide
namespace Go.Proofs.YtgfbfbfajnfbjaaDoor
section
open Go.RowKit Go.Shelf
set_option linter.unusedSimpArgs false
set_option linter.unusedVariables false
/-! What truths are, with no program in sight: members, ends, and where a span first is so. -/
theorem mem_between {lo hi v : Int} : v ∈ between lo hi ↔ lo ≤ v ∧ v ≤ hi := by
  unfold between
  simp only [List.mem_map, List.mem_range]
  constructor
  · rintro ⟨k, hk, rfl⟩; omega
  · intro h; exact ⟨(v - lo).toNat, by omega, by omega⟩
theorem take_gi (t : List Int) (k : Nat) (h : k < t.length) : t.take (k + 1) = t.take k ++ [gi t k] := by
  rw [List.take_add_one, gi, List.getD_eq_getElem?_getD, List.getElem?_eq_getElem h]; rfl
theorem mem_truthsFrom (B : ForgeV) (left : Int) : ∀ (n : Nat) (x t : List Int), t ∈ truthsFrom B left n x ↔
    t.length = x.length + n ∧ t.take x.length = x ∧ (∀ k, x.length ≤ k → k < x.length + n → (gs B.thins k).1 ≤ gi t k ∧ gi t k ≤ (gs B.thins k).2) ∧ seenTo B t left B.looks.length = true
  | 0, x, t => by
    rw [truthsFrom]
    constructor
    · intro h
      split at h
      · rename_i hs
        obtain rfl := List.mem_singleton.1 h
        exact ⟨rfl, List.take_length, fun k h1 h2 => by omega, hs⟩
      · cases h
    · rintro ⟨hl, ht, _, hs⟩
      obtain rfl : x = t := by rw [← ht, List.take_of_length_le (by omega)]
      rw [if_pos hs]; exact List.mem_singleton.2 rfl
  | n + 1, x, t => by
    rw [truthsFrom]
    simp only [List.mem_flatMap, mem_between, mem_truthsFrom B left n, List.length_append, List.length_cons, List.length_nil]
    constructor
    · rintro ⟨v, hv, hl, ht, hk, hs⟩
      have h0 : gi t x.length = v := by
        have h1 := take_gi t x.length (by omega)
        rw [ht] at h1
        have h2 := List.append_inj_right' h1 rfl
        simpa using h2.symm
      refine ⟨by omega, ?_, fun k h1 h2 => ?_, hs⟩
      · have h1 := take_gi t x.length (by omega)
        rw [ht] at h1
        exact (List.append_inj_left' h1 rfl).symm
      · rcases Nat.eq_or_lt_of_le h1 with e | e
        · rw [← e, h0]; exact hv
        · exact hk k (by omega) (by omega)
    · rintro ⟨hl, ht, hk, hs⟩
      exact ⟨gi t x.length, hk _ (Nat.le_refl _) (by omega), by omega, by rw [take_gi t _ (by omega), ht], fun k h1 h2 => hk k (by omega) (by omega), hs⟩
theorem mem_truthsS {B : ForgeV} {left : Int} {t : List Int} : t ∈ truthsS B left ↔
    t.length = 3 ∧ (∀ k, k < 3 → (gs B.thins k).1 ≤ gi t k ∧ gi t k ≤ (gs B.thins k).2) ∧ seenTo B t left B.looks.length = true := by
  unfold truthsS
  rw [mem_truthsFrom]
  simp only [List.length_nil, Nat.zero_add, List.take_zero, true_and]
  exact ⟨fun ⟨a, b, c⟩ => ⟨a, fun k h => b k (Nat.zero_le _) h, c⟩, fun ⟨a, b, c⟩ => ⟨a, fun k _ h => b k h, c⟩⟩
theorem canS_iff {B : ForgeV} {left : Int} : canS B left = true ↔ ∃ t, t ∈ truthsS B left := by
  unfold canS
  cases truthsS B left with
  | nil => simp
  | cons t l => simp
theorem seenTo_iff {B : ForgeV} {x : List Int} {left : Int} {k : Nat} : seenTo B x left k = true ↔ ∀ i, i < k → missB B x left i = false := by
  unfold seenTo
  simp [List.all_eq_true]
theorem spanF (B : ForgeV) (n : Int) : ∀ (l : List (List Int)) (q : Int × Int), q.1 ≤ q.2 → ∃ p, l.foldl (spanStep B n) (some q) = some p ∧ p.1 ≤ q.1 ∧ q.2 ≤ p.2 ∧ (∀ t, t ∈ l → p.1 ≤ afterS B t n ∧ afterS B t n ≤ p.2) ∧
    (p.1 = q.1 ∨ ∃ t, t ∈ l ∧ afterS B t n = p.1) ∧ (p.2 = q.2 ∨ ∃ t, t ∈ l ∧ afterS B t n = p.2)
  | [], q, _ => ⟨q, rfl, Int.le_refl _, Int.le_refl _, fun t h => (by cases h), .inl rfl, .inl rfl⟩
  | t :: l, q, hq => by
    obtain ⟨lo, hi⟩ := q
    simp only at hq
    have hs : ∃ q', spanStep B n (some (lo, hi)) t = some q' ∧ q'.1 ≤ q'.2 ∧ q'.1 ≤ lo ∧ hi ≤ q'.2 ∧ q'.1 ≤ afterS B t n ∧ afterS B t n ≤ q'.2 ∧ (q'.1 = lo ∨ q'.1 = afterS B t n) ∧ (q'.2 = hi ∨ q'.2 = afterS B t n) := by
      refine ⟨_, rfl, ?_⟩
      simp only
      split <;> split <;> omega
    obtain ⟨q', e, h0, h1, h2, h3, h4, h5, h6⟩ := hs
    obtain ⟨p, ep, p1, p2, p3, p4, p5⟩ := spanF B n l q' h0
    refine ⟨p, by rw [List.foldl_cons, e, ep], by omega, by omega, fun u hu => ?_, ?_, ?_⟩
    · rcases List.mem_cons.1 hu with rfl | hu
      · omega
      · exact p3 u hu
    · rcases p4 with h | ⟨u, hu, h⟩
      · rcases h5 with h5 | h5
        · left; simp only; omega
        · exact .inr ⟨t, .head _, by omega⟩
      · exact .inr ⟨u, .tail _ hu, h⟩
    · rcases p5 with h | ⟨u, hu, h⟩
      · rcases h6 with h6 | h6
        · left; simp only; omega
        · exact .inr ⟨t, .head _, by omega⟩
      · exact .inr ⟨u, .tail _ hu, h⟩
/-- the ends of the thickness are some truths', and all lie between them -/
theorem between_ok {B : ForgeV} (hc : canS B 0 = true) (n : Int) : (∀ t, t ∈ truthsS B 0 → (betweenS B n).1 ≤ afterS B t n ∧ afterS B t n ≤ (betweenS B n).2) ∧
    (∃ t, t ∈ truthsS B 0 ∧ afterS B t n = (betweenS B n).1) ∧ (∃ t, t ∈ truthsS B 0 ∧ afterS B t n = (betweenS B n).2) ∧ spanOf B n (truthsS B 0) = some (betweenS B n) := by
  unfold betweenS
  obtain ⟨t0, h0⟩ := canS_iff.1 hc
  generalize truthsS B 0 = l at *
  cases l with
  | nil => cases h0
  | cons t l =>
    obtain ⟨p, ep, p1, p2, p3, p4, p5⟩ := spanF B n l (afterS B t n, afterS B t n) (Int.le_refl _)
    have e : spanOf B n (t :: l) = some p := ep
    rw [e]
    simp only [Option.getD_some] at *
    refine ⟨fun u hu => ?_, ?_, ?_, trivial⟩
    · rcases List.mem_cons.1 hu with rfl | hu
      · exact ⟨p1, p2⟩
      · exact p3 u hu
    · rcases p4 with h | ⟨u, hu, h⟩
      · exact ⟨t, .head _, h.symm⟩
      · exact ⟨u, .tail _ hu, h⟩
    · rcases p5 with h | ⟨u, hu, h⟩
      · exact ⟨t, .head _, h.symm⟩
      · exact ⟨u, .tail _ hu, h⟩
theorem fullS_eq {B : ForgeV} (hc : canS B 0 = true) (n : Nat) : fullS B n = betweenS B n := by
  unfold fullS; rw [(between_ok hc n).2.2.2]; rfl
theorem spansS_len (B : ForgeV) : (spansS B).length = 301 := by unfold spansS; simp
theorem spansS_get {B : ForgeV} (hc : canS B 0 = true) (j : Nat) (h : j < 301) : gs (spansS B) j = betweenS B j := by
  unfold spansS gs
  rw [List.getD_eq_getElem?_getD, List.getElem?_map, List.getElem?_range h]
  exact fullS_eq hc j
theorem idxS_spec (p : Int → Int → Bool) : ∀ (l : List (Int × Int)) (k : Nat), (idxS p l k = -1 ∧ ∀ j, j < l.length → p (gs l j).1 (gs l j).2 = false) ∨
    (∃ j, j < l.length ∧ idxS p l k = ((k + j : Nat) : Int) ∧ p (gs l j).1 (gs l j).2 = true ∧ ∀ i, i < j → p (gs l i).1 (gs l i).2 = false)
  | [], k => .inl ⟨rfl, fun j h => absurd h (Nat.not_lt_zero _)⟩
  | s :: l, k => by
    unfold idxS
    have g0 : gs (s :: l) 0 = s := rfl
    have gS : ∀ j, gs (s :: l) (j + 1) = gs l j := fun j => rfl
    split
    · rename_i h
      exact .inr ⟨0, by simp, rfl, by rw [g0]; exact h, fun i h => absurd h (Nat.not_lt_zero _)⟩
    · rename_i h
      have h' : p s.1 s.2 = false := by simpa using h
      rcases idxS_spec p l (k + 1) with ⟨e, hn⟩ | ⟨j, hj, e, ht, hf⟩
      · refine .inl ⟨e, fun j hj => ?_⟩
        cases j with
        | zero => exact h'
        | succ j => rw [gS]; exact hn j (by simpa using hj)
      · refine .inr ⟨j + 1, by simpa using hj, by rw [e]; omega, by rw [gS]; exact ht, fun i hi => ?_⟩
        cases i with
        | zero => exact h'
        | succ i => rw [gS]; exact hf i (by omega)
theorem struckS_mono {n m : Int} (h : n ≤ m) (k : Int) : struckS n k ≤ struckS m k := by unfold struckS; omega
theorem afterS_anti {B : ForgeV} {t : List Int} (h0 : 0 ≤ gi t 0) (h1 : 0 ≤ gi t 1) (h2 : 0 ≤ gi t 2) {n m : Int} (h : n ≤ m) : afterS B t m ≤ afterS B t n := by
  unfold afterS
  have a0 := Int.mul_le_mul_of_nonneg_left (struckS_mono h 0) h0
  have a1 := Int.mul_le_mul_of_nonneg_left (struckS_mono h 1) h1
  have a2 := Int.mul_le_mul_of_nonneg_left (struckS_mono h 2) h2
  omega
theorem low_anti {B : ForgeV} (g : B.Good) (hc : canS B 0 = true) {n m : Int} (h : n ≤ m) : (betweenS B m).1 ≤ (betweenS B n).1 := by
  obtain ⟨t, ht, e⟩ := (between_ok hc n).2.1
  have h1 := ((between_ok hc m).1 t ht).1
  have h2 := (truthsS_mem g ht).2
  have := afterS_anti (B := B) (h2 0).1 (h2 1).1 (h2 2).1 h
  omega
theorem between_zero {B : ForgeV} (hc : canS B 0 = true) : (betweenS B 0).1 = B.thick := by
  obtain ⟨t, ht, e⟩ := (between_ok hc 0).2.1
  rw [← e]
  unfold afterS struckS
  simp
/-- what the law of the blows asks, of a book that can be true: N where the disc is ready, K where it can crack -/
structure ReadyOk (B : ForgeV) (N K : Int) : Prop where
  n : -1 ≤ N ∧ N ≤ 300
  k : -1 ≤ K ∧ K ≤ 300
  ready : 0 ≤ N → B.glo ≤ (betweenS B N).1 ∧ (betweenS B N).2 ≤ B.ghi ∧ B.crack ≤ (betweenS B N).1 ∧ (K = -1 ∨ N < K)
  fewer : ∀ m, 0 ≤ m → m ≤ 300 → (0 ≤ N → m < N) → B.glo ≤ (betweenS B m).1 → (betweenS B m).2 ≤ B.ghi → ¬ B.crack ≤ (betweenS B m).1
  zero : K = 0 → B.thick < B.crack
  some : 0 < K → B.crack ≤ (betweenS B (K - 1)).1 ∧ (betweenS B K).1 < B.crack
  all : K = -1 → B.crack ≤ (betweenS B 300).1
theorem readyB_iff {B : ForgeV} {lo hi : Int} : readyB B lo hi = true ↔ B.glo ≤ lo ∧ B.crack ≤ lo ∧ hi ≤ B.ghi := by unfold readyB; simp
theorem crackB_iff {B : ForgeV} {lo hi : Int} : crackB B lo hi = true ↔ lo < B.crack := by unfold crackB; simp
theorem ready_ok {B : ForgeV} (g : B.Good) (hc : canS B 0 = true) : ReadyOk B (idxS (readyB B) (spansS B) 0) (idxS (crackB B) (spansS B) 0) := by
  have hl := spansS_len B
  have hg := fun j h => spansS_get hc j h
  rcases idxS_spec (readyB B) (spansS B) 0 with ⟨eN, hN⟩ | ⟨jN, hjN, eN, htN, hfN⟩ <;> rcases idxS_spec (crackB B) (spansS B) 0 with ⟨eK, hK⟩ | ⟨jK, hjK, eK, htK, hfK⟩ <;> rw [eN, eK] <;> rw [hl] at *
  · refine ⟨by omega, by omega, fun h => by omega, fun m m0 m1 _ h1 h2 h3 => ?_, fun h => by omega, fun h => by omega, fun _ => ?_⟩
    · have := hN m.toNat (by omega)
      rw [hg _ (by omega), Int.toNat_of_nonneg m0] at this
      exact absurd (readyB_iff.2 ⟨h1, h3, h2⟩) (by rw [this]; simp)
    · have := hK 300 (by omega)
      rw [hg _ (by omega)] at this
      have h2 := mt crackB_iff.2 (by rw [this]; simp)
      simpa using h2
  · rw [hg _ hjK] at htK
    have hk := crackB_iff.1 htK
    simp only [Nat.zero_add] at *
    refine ⟨by omega, by omega, fun h => by omega, fun m m0 m1 _ h1 h2 h3 => ?_, fun h => ?_, fun h => ⟨?_, hk⟩, fun h => by omega⟩
    · have := hN m.toNat (by omega)
      rw [hg _ (by omega), Int.toNat_of_nonneg m0] at this
      exact absurd (readyB_iff.2 ⟨h1, h3, h2⟩) (by rw [this]; simp)
    · rw [h, between_zero hc] at hk; exact hk
    · have := hfK (jK - 1) (by omega)
      rw [hg _ (by omega), show ((jK - 1 : Nat) : Int) = (jK : Int) - 1 by omega] at this
      have h2 := mt crackB_iff.2 (by rw [this]; simp)
      simpa using h2
  · rw [hg _ hjN] at htN
    have hn := readyB_iff.1 htN
    simp only [Nat.zero_add] at *
    refine ⟨by omega, by omega, fun _ => ⟨hn.1, hn.2.2, hn.2.1, .inl rfl⟩, fun m m0 m1 hm h1 h2 h3 => ?_, fun h => by omega, fun h => by omega, fun _ => ?_⟩
    · have := hfN m.toNat (by have := hm (by omega); omega)
      rw [hg _ (by omega), Int.toNat_of_nonneg m0] at this
      exact absurd (readyB_iff.2 ⟨h1, h3, h2⟩) (by rw [this]; simp)
    · have := hK 300 (by omega)
      rw [hg _ (by omega)] at this
      have h2 := mt crackB_iff.2 (by rw [this]; simp)
      simpa using h2
  · rw [hg _ hjK] at htK
    have hk := crackB_iff.1 htK
    rw [hg _ hjN] at htN
    have hn := readyB_iff.1 htN
    simp only [Nat.zero_add] at *
    refine ⟨by omega, by omega, fun _ => ⟨hn.1, hn.2.2, hn.2.1, .inr ?_⟩, fun m m0 m1 hm h1 h2 h3 => ?_, fun h => ?_, fun h => ⟨?_, hk⟩, fun h => by omega⟩
    · rcases Int.lt_or_le (jN : Int) jK with h | h
      · exact h
      · have := low_anti g hc h
        omega
    · have := hfN m.toNat (by have := hm (by omega); omega)
      rw [hg _ (by omega), Int.toNat_of_nonneg m0] at this
      exact absurd (readyB_iff.2 ⟨h1, h3, h2⟩) (by rw [this]; simp)
    · rw [h, between_zero hc] at hk; exact hk
    · have := hfK (jK - 1) (by omega)
      rw [hg _ (by omega), show ((jK - 1 : Nat) : Int) = (jK : Int) - 1 by omega] at this
      have h2 := mt crackB_iff.2 (by rw [this]; simp)
      simpa using h2
/-- until u the disc is not ready surely -/
def ReadyU (B : ForgeV) (u : Int) : Prop := 0 ≤ u ∧ u ≤ 301 ∧ ∀ m, 0 ≤ m → m < u → B.glo ≤ (betweenS B m).1 → (betweenS B m).2 ≤ B.ghi → ¬ B.crack ≤ (betweenS B m).1
def SoundU (B : ForgeV) (k : Int) : Prop := (0 ≤ k ∧ k ≤ 300) ∧ B.crack ≤ (betweenS B k).1 ∧ (k ≠ 300 → (betweenS B (k + 1)).1 < B.crack)
def ReadyN (B : ForgeV) (N k : Int) : Prop := (0 ≤ N ∧ N ≤ 300) ∧ B.glo ≤ (betweenS B N).1 ∧ (betweenS B N).2 ≤ B.ghi ∧ B.crack ≤ (betweenS B N).1 ∧ N ≤ k
theorem ready_parts {B : ForgeV} (g : B.Good) : (canS B 0 = false ∧ blowsR B = .tuple #[.int .i64 0, .int .i64 22] ∧ soundR B = .tuple #[.int .i64 0, .int .i64 22]) ∨ (canS B 0 = true ∧ (
        (∃ N kk, ReadyU B N ∧ blowsR B = .tuple #[.int .i64 N, .int .i64 0] ∧ soundR B = .tuple #[.int .i64 kk, .int .i64 0] ∧ SoundU B kk ∧ ReadyN B N kk) ∨
        (∃ kk, ReadyU B 301 ∧ blowsR B = .tuple #[.int .i64 0, .int .i64 4] ∧ soundR B = .tuple #[.int .i64 kk, .int .i64 0] ∧ SoundU B kk) ∨
        (ReadyU B 301 ∧ blowsR B = .tuple #[.int .i64 0, .int .i64 4] ∧ soundR B = .tuple #[.int .i64 0, .int .i64 4] ∧ B.thick < B.crack))) := by
  have hg := (goodF_iff B).2 g
  cases hc : canS B 0 with
  | false =>
    have ha : askedE B true = 22 := by unfold askedE; rw [hg, hc]; rfl
    exact .inl ⟨rfl, by unfold blowsR; rw [ha]; rfl, by unfold soundR; rw [ha]; rfl⟩
  | true =>
    have ha : askedE B true = 0 := by unfold askedE; rw [hg, hc]; rfl
    have R := ready_ok g hc
    have hb : blowsR B = blowsP (idxS (readyB B) (spansS B) 0) := by unfold blowsR; rw [if_pos ha]
    have hs : soundR B = soundP (idxS (crackB B) (spansS B) 0) := by unfold soundR; rw [if_pos ha]
    rw [hb, hs]
    generalize idxS (readyB B) (spansS B) 0 = N at *
    generalize idxS (crackB B) (spansS B) 0 = K at *
    refine .inr ⟨rfl, ?_⟩
    obtain ⟨r1, r2, r3, r4, r5, r6, r7⟩ := R
    have hS : K ≠ 0 → ∃ kk, soundP K = .tuple #[.int .i64 kk, .int .i64 0] ∧ SoundU B kk ∧ (0 ≤ N → N ≤ kk) := by
      intro h0
      by_cases h1 : K = -1
      · exact ⟨300, by unfold soundP; rw [if_pos h1], ⟨by omega, r7 h1, fun h => absurd rfl h⟩, fun _ => by omega⟩
      · have h6 := r6 (by omega)
        refine ⟨K - 1, by unfold soundP; rw [if_neg h1, if_neg h0], ⟨by omega, h6.1, fun _ => ?_⟩, fun h => ?_⟩
        · rw [show K - 1 + 1 = K by omega]; exact h6.2
        · have := (r3 h).2.2.2; omega
    have hU : 0 ≤ N → ReadyU B N := fun h => ⟨h, by omega, fun m h1 h2 => r4 m h1 (by omega) (fun _ => h2)⟩
    have hU' : N < 0 → ReadyU B 301 := fun h => ⟨by omega, by omega, fun m h1 h2 => r4 m h1 (by omega) (fun h' => by omega)⟩
    by_cases hn : N < 0
    · have e : blowsP N = .tuple #[.int .i64 0, .int .i64 4] := by unfold blowsP; rw [if_pos hn]
      rw [e]
      by_cases h0 : K = 0
      · exact .inr (.inr ⟨hU' hn, rfl, by unfold soundP; rw [if_neg (by omega), if_pos h0], r5 h0⟩)
      · obtain ⟨kk, h1, h2, _⟩ := hS h0
        exact .inr (.inl ⟨kk, hU' hn, rfl, h1, h2⟩)
    · have e : blowsP N = .tuple #[.int .i64 N, .int .i64 0] := by unfold blowsP; rw [if_neg hn]
      rw [e]
      have h3 := r3 (by omega)
      have h0 : K ≠ 0 := by
        intro h
        have := h3.2.2.2
        omega
      obtain ⟨kk, h1, h2, h4⟩ := hS h0
      exact .inl ⟨N, kk, hU (by omega), rfl, h1, h2, by omega, h3.1, h3.2.1, h3.2.2.1, h4 (by omega)⟩
/-- the ends are small numbers -/
theorem between_bd {B : ForgeV} (g : B.Good) (hc : canS B 0 = true) {n : Int} (hn : 0 ≤ n ∧ n ≤ 300) : -6060 ≤ (betweenS B n).1 ∧ (betweenS B n).1 ≤ (betweenS B n).2 ∧ (betweenS B n).2 ≤ 3000 := by
  obtain ⟨t, ht, e⟩ := (between_ok hc n).2.1
  obtain ⟨u, hu, f⟩ := (between_ok hc n).2.2.1
  have h1 := afterTo_bd g (truthsS_mem g ht).2 hn 3 (Nat.le_refl _)
  have h2 := afterTo_bd g (truthsS_mem g hu).2 hn 3 (Nat.le_refl _)
  have h3 := (between_ok hc n).1 t ht
  rw [afterTo_three] at h1 h2
  omega
end
end Go.Proofs.YtgfbfbfajnfbjaaDoor

namespace Go.Proofs.YtgfbfbfajnfbjaaDoor
section
set_option linter.unusedSimpArgs false
set_option linter.unusedVariables false
/-! Books with one look more, with another look, or with one striker known: what is true of them, with no program in sight. -/
theorem miss0 (B : ForgeV) (t : List Int) (i : Nat) : missB B t 0 i = false ↔ (glk B.looks i).thick - (glk B.looks i).err ≤ afterS B t (glk B.looks i).blows ∧ afterS B t (glk B.looks i).blows ≤ (glk B.looks i).thick + (glk B.looks i).err := by
  have h0 : (0 : Int) / 2 ^ i % 2 = 0 := by simp
  unfold missB
  rw [h0]
  simp [inB_iff]
theorem mem0 {B : ForgeV} {t : List Int} : t ∈ truthsS B 0 ↔ t.length = 3 ∧ (∀ k, k < 3 → (gs B.thins k).1 ≤ gi t k ∧ gi t k ≤ (gs B.thins k).2) ∧
    ∀ i, i < B.looks.length → (glk B.looks i).thick - (glk B.looks i).err ≤ afterS B t (glk B.looks i).blows ∧ afterS B t (glk B.looks i).blows ≤ (glk B.looks i).thick + (glk B.looks i).err := by
  rw [mem_truthsS, seenTo_iff]
  simp only [miss0]
def lookOk (l : LookV) : Prop := (0 ≤ l.blows ∧ l.blows ≤ 300) ∧ (0 ≤ l.thick ∧ l.thick ≤ 3000) ∧ 0 ≤ l.err ∧ l.err ≤ 50
theorem glk_app (l : List LookV) (x : LookV) (i : Nat) (h : i < l.length + 1) : glk (l ++ [x]) i = if i < l.length then glk l i else x := by
  unfold glk
  rw [List.getD_eq_getElem?_getD, List.getD_eq_getElem?_getD]
  split
  · rw [List.getElem?_append_left (by assumption)]
  · rw [List.getElem?_append_right (by omega), show i - l.length = 0 by omega]; rfl
/-- a book with one look more -/
def withLook (B : ForgeV) (A : Option Addr) (c : Nat) (l : LookV) : ForgeV := { B with kA := A, kCap := c, looks := B.looks ++ [l] }
theorem withLook_good {B : ForgeV} (g : B.Good) (A : Option Addr) (c : Nat) (l : LookV) : (withLook B A c l).Good ↔ B.looks.length < 8 ∧ lookOk l := by
  constructor
  · intro h
    have h1 := h.looksLen
    simp only [withLook, List.length_append, List.length_cons, List.length_nil] at h1
    have h2 := h.look B.looks.length (by simp [withLook])
    simp only [withLook] at h2
    rw [glk_app _ _ _ (by omega), if_neg (by omega)] at h2
    exact ⟨by omega, h2⟩
  · rintro ⟨h1, h2⟩
    refine ⟨g.many, g.tin, g.thick, g.crack, g.goal, g.thinsLen, g.hot, g.least, g.cool, g.coal, ?_, g.lot, g.thin, fun j hj => ?_⟩
    · simp only [withLook, List.length_append, List.length_cons, List.length_nil]; omega
    · simp only [withLook, List.length_append, List.length_cons, List.length_nil] at hj ⊢
      rw [glk_app _ _ _ (by omega)]
      split
      · exact g.look j (by assumption)
      · exact h2
theorem mem_withLook {B : ForgeV} {A : Option Addr} {c : Nat} {l : LookV} {t : List Int} : t ∈ truthsS (withLook B A c l) 0 ↔ t ∈ truthsS B 0 ∧ l.thick - l.err ≤ afterS B t l.blows ∧ afterS B t l.blows ≤ l.thick + l.err := by
  rw [mem0, mem0]
  have ha : ∀ n, afterS (withLook B A c l) t n = afterS B t n := fun n => rfl
  simp only [ha]
  simp only [withLook, List.length_append, List.length_cons, List.length_nil]
  constructor
  · rintro ⟨h1, h2, h3⟩
    refine ⟨⟨h1, h2, fun i hi => ?_⟩, ?_⟩
    · have := h3 i (by omega)
      rw [glk_app _ _ _ (by omega), if_pos hi] at this
      exact this
    · have := h3 B.looks.length (by omega)
      rw [glk_app _ _ _ (by omega), if_neg (by omega)] at this
      exact this
  · rintro ⟨⟨h1, h2, h3⟩, h4⟩
    refine ⟨h1, h2, fun i hi => ?_⟩
    rw [glk_app _ _ _ (by omega)]
    split
    · exact h3 i (by assumption)
    · exact h4
theorem can_withLook {B : ForgeV} {A : Option Addr} {c : Nat} {l : LookV} : canS (withLook B A c l) 0 = true ↔ ∃ t, t ∈ truthsS B 0 ∧ l.thick - l.err ≤ afterS B t l.blows ∧ afterS B t l.blows ≤ l.thick + l.err := by
  rw [canS_iff]; simp only [mem_withLook]
/-- a book of which one striker is known -/
def withThin (B : ForgeV) (A : Option Addr) (c : Nat) (k : Nat) (v : Int) : ForgeV := { B with sA := A, sCap := c, thins := B.thins.set k (v, v) }
theorem gs_set (l : List (Int × Int)) (k : Nat) (x : Int × Int) (h : k < l.length) (j : Nat) : gs (l.set k x) j = if j = k then x else gs l j := by
  unfold gs
  rw [List.getD_eq_getElem?_getD, List.getD_eq_getElem?_getD, List.getElem?_set]
  by_cases e : k = j
  · subst e; rw [if_pos rfl, if_pos rfl, if_pos h]; rfl
  · rw [if_neg e, if_neg (fun h => e h.symm)]
theorem withThin_good {B : ForgeV} (g : B.Good) (A : Option Addr) (c : Nat) {k : Nat} (hk : k < 3) (v : Int) : (withThin B A c k v).Good ↔ 1 ≤ v ∧ v ≤ 20 := by
  have hl := g.thinsLen
  constructor
  · intro h
    have h2 := h.thin k hk
    simp only [withThin] at h2
    rw [gs_set _ _ _ (by omega), if_pos rfl] at h2
    exact ⟨h2.1, h2.2.2⟩
  · intro h
    refine ⟨g.many, g.tin, g.thick, g.crack, g.goal, ?_, g.hot, g.least, g.cool, g.coal, g.looksLen, g.lot, fun j hj => ?_, g.look⟩
    · simp only [withThin, List.length_set]; exact hl
    · simp only [withThin]
      rw [gs_set _ _ _ (by omega)]
      split
      · exact ⟨h.1, Int.le_refl _, h.2⟩
      · exact g.thin j hj
theorem mem_withThin {B : ForgeV} (g : B.Good) {A : Option Addr} {c : Nat} {k : Nat} (hk : k < 3) {v : Int} (hv : (gs B.thins k).1 ≤ v ∧ v ≤ (gs B.thins k).2) {t : List Int} : t ∈ truthsS (withThin B A c k v) 0 ↔ t ∈ truthsS B 0 ∧ gi t k = v := by
  have hl := g.thinsLen
  rw [mem0, mem0]
  have ha : ∀ n, afterS (withThin B A c k v) t n = afterS B t n := fun n => rfl
  simp only [ha]
  simp only [withThin]
  constructor
  · rintro ⟨h1, h2, h3⟩
    have h0 := h2 k hk
    rw [gs_set _ _ _ (by omega), if_pos rfl] at h0
    refine ⟨⟨h1, fun j hj => ?_, h3⟩, by simp only at h0; omega⟩
    have := h2 j hj
    rw [gs_set _ _ _ (by omega)] at this
    split at this
    · subst j; simp only at this; omega
    · exact this
  · rintro ⟨⟨h1, h2, h3⟩, h4⟩
    refine ⟨h1, fun j hj => ?_, h3⟩
    rw [gs_set _ _ _ (by omega)]
    split
    · subst j; simp only; omega
    · exact h2 j hj
theorem mem_strengthS {B : ForgeV} (g : B.Good) {s : Nat} {n : Int} : n ∈ strengthS B s ↔ ∃ t, t ∈ truthsS B 0 ∧ gi t s = n := by
  unfold strengthS
  rw [mem_strengthTo]
  simp only [Int.toNat_natCast]
  constructor
  · exact fun h => h.2
  · rintro ⟨t, ht, e⟩
    have := (truthsS_mem g ht).2 s
    exact ⟨by omega, t, ht, e⟩
theorem can_withThin {B : ForgeV} (g : B.Good) {A : Option Addr} {c : Nat} {k : Nat} (hk : k < 3) {v : Int} (hv : (gs B.thins k).1 ≤ v ∧ v ≤ (gs B.thins k).2) : canS (withThin B A c k v) 0 = true ↔ v ∈ strengthS B k := by
  rw [canS_iff, mem_strengthS g]; simp only [mem_withThin g hk hv]
theorem strength_in {B : ForgeV} (g : B.Good) {k : Nat} (hk : k < 3) {v : Int} (h : v ∈ strengthS B k) : (gs B.thins k).1 ≤ v ∧ v ≤ (gs B.thins k).2 := by
  obtain ⟨t, ht, e⟩ := (mem_strengthS g).1 h
  have := (mem0.1 ht).2.1 k hk
  omega
/-- a book that lets more be true -/
structure Wider (B X : ForgeV) : Prop where
  thick : X.thick = B.thick
  all : ∀ t, t ∈ truthsS B 0 → t ∈ truthsS X 0
theorem Wider.after {B X : ForgeV} (h : Wider B X) (t : List Int) (n : Int) : afterS X t n = afterS B t n := by unfold afterS; rw [h.thick]
theorem Wider.can {B X : ForgeV} (h : Wider B X) (hc : canS B 0 = true) : canS X 0 = true := by
  obtain ⟨t, ht⟩ := canS_iff.1 hc
  exact canS_iff.2 ⟨t, h.all t ht⟩
theorem Wider.between {B X : ForgeV} (h : Wider B X) (hc : canS B 0 = true) (n : Int) : (betweenS X n).1 ≤ (betweenS B n).1 ∧ (betweenS B n).2 ≤ (betweenS X n).2 := by
  have hx := h.can hc
  obtain ⟨t, ht, e⟩ := (between_ok hc n).2.1
  obtain ⟨u, hu, f⟩ := (between_ok hc n).2.2.1
  have h1 := ((between_ok hx n).1 t (h.all t ht)).1
  have h2 := ((between_ok hx n).1 u (h.all u hu)).2
  rw [h.after] at h1 h2
  omega
theorem Wider.strength {B X : ForgeV} (h : Wider B X) (g : B.Good) (gx : X.Good) (s : Nat) (v : Int) (hv : v ∈ strengthS B s) : v ∈ strengthS X s := by
  obtain ⟨t, ht, e⟩ := (mem_strengthS g).1 hv
  exact (mem_strengthS gx).2 ⟨t, h.all t ht, e⟩
theorem wider_withLook (B : ForgeV) (A : Option Addr) (c : Nat) (l : LookV) : Wider (withLook B A c l) B := ⟨rfl, fun t h => (mem_withLook.1 h).1⟩
/-- a book of which one look can be wrong by more -/
def looserLook (B : ForgeV) (A : Option Addr) (c : Nat) (k : Nat) (e : Int) : ForgeV := { B with kA := A, kCap := c, looks := B.looks.set k ⟨(glk B.looks k).blows, (glk B.looks k).thick, e⟩ }
theorem glk_set (l : List LookV) (k : Nat) (x : LookV) (h : k < l.length) (j : Nat) : glk (l.set k x) j = if j = k then x else glk l j := by
  unfold glk
  rw [List.getD_eq_getElem?_getD, List.getD_eq_getElem?_getD, List.getElem?_set]
  by_cases e : k = j
  · subst e; rw [if_pos rfl, if_pos rfl, if_pos h]; rfl
  · rw [if_neg e, if_neg (fun h => e h.symm)]
theorem looser_good {B : ForgeV} (g : B.Good) (A : Option Addr) (c : Nat) {k : Nat} (hk : k < B.looks.length) {e : Int} (he : 0 ≤ e ∧ e ≤ 50) : (looserLook B A c k e).Good := by
  refine ⟨g.many, g.tin, g.thick, g.crack, g.goal, g.thinsLen, g.hot, g.least, g.cool, g.coal, ?_, g.lot, g.thin, fun j hj => ?_⟩
  · simp only [looserLook, List.length_set]; exact g.looksLen
  · simp only [looserLook, List.length_set] at hj ⊢
    rw [glk_set _ _ _ hk]
    split
    · have := g.look k hk; exact ⟨this.1, this.2.1, he⟩
    · exact g.look j hj
theorem wider_looser {B : ForgeV} (A : Option Addr) (c : Nat) {k : Nat} (hk : k < B.looks.length) {e : Int} (he : (glk B.looks k).err ≤ e) : Wider B (looserLook B A c k e) := by
  refine ⟨rfl, fun t h => ?_⟩
  rw [mem0] at h ⊢
  obtain ⟨h1, h2, h3⟩ := h
  refine ⟨h1, h2, fun i hi => ?_⟩
  have ha : ∀ n, afterS (looserLook B A c k e) t n = afterS B t n := fun n => rfl
  rw [ha]
  simp only [looserLook, List.length_set] at hi ⊢
  rw [glk_set _ _ _ hk]
  split
  · subst i; have := h3 k hk; simp only; omega
  · exact h3 i hi
end
end Go.Proofs.YtgfbfbfajnfbjaaDoor

namespace Go.Proofs.YtgfbfbfajnfbjaaDoor
section
open Go.RowKit Go.Shelf
set_option linter.unusedSimpArgs false
set_option linter.unusedVariables false
/-! A book's looks and spans, laid anew: slices that the call itself has made, appended to. -/
theorem run_app_none {w : World} (base : Nat) (t ty e : TypeId) (i : TypeInfo) (size : Nat) (ht : Tryd.prog.underlying t = some (.slice e)) (hi : Tryd.prog.info? e = some i)
    (v : Value) (n c : Nat) (xs : List Value) (hown : w.ownsRow base e size v n xs) :
    (Builtin.append_ #[t, t] ty #[v, .slice none 0 c]).run Tryd.prog w = .ok v w := by
  rcases hown.2 with ⟨rfl, rfl⟩ | ⟨g, cap, cur, rfl, _, _, hnc, _⟩
  · simp [Builtin.append_, run_underlying ht, sizeOf, typeInfo, hi, Builtin.lenOf, Builtin.firstCells]
  · simp [Builtin.append_, run_underlying ht, sizeOf, typeInfo, hi, Builtin.lenOf, Builtin.firstCells, hnc, storeCells]
/-- append of what was handed in, or laid meanwhile, to a slice of one's own -/
theorem run_app_any (w : World) (base : Nat) (t ty e : TypeId) (i : TypeInfo) (z : Value) (size bytes : Nat) (ht : Tryd.prog.underlying t = some (.slice e)) (hi : Tryd.prog.info? e = some i) (hz : i.zero = some z)
    (hsize : i.size = size) (hby : i.bytes = bytes) (hzs : z.cells.size = size) (hsz : 0 < size) (hb24 : bytes ≤ 24)
    (v : Value) (n : Nat) (xs : List Value) (hown : w.ownsRow base e size v n xs)
    (A : Option Addr) (m c : Nat) (news : List Value) (hl : news.length = m * size) (hnews : m = 0 ∨ ∃ ad, A = some ad ∧ ∀ j u, news[j]? = some u → w.cell? (ad.add j) = some u) (h1 : ∀ u ∈ news, u.oneCell' = true)
    (hn : n + m ≤ 1000000) (hbase : base ≤ w.heap.size) :
    ∃ v' w', (Builtin.append_ #[t, t] ty #[v, .slice A m c]).run Tryd.prog w = .ok v' w' ∧ w'.ownsRow base e size v' (n + m) (xs ++ news) ∧ Below base w w' ∧ Keep (fun q => v.ownBlock = some q) w w' := by
  have go : ∀ ad, A = some ad → (∀ j u, news[j]? = some u → w.cell? (ad.add j) = some u) → ∃ v' w', (Builtin.append_ #[t, t] ty #[v, .slice A m c]).run Tryd.prog w = .ok v' w' ∧ w'.ownsRow base e size v' (n + m) (xs ++ news) ∧ Below base w w' ∧ Keep (fun q => v.ownBlock = some q) w w' := by
    rintro ad rfl hc
    obtain ⟨v', w', hr, r1, r2, _⟩ := run_append_own_wide (P := Tryd.prog) w base t ty e i z size bytes ht hi hz hsize hby hzs hsz v n xs hown ad m c news hl hc h1 (by unfold maxLen; omega) (by
      have h3 : ((n + m) + (n + m) / 4 + 192) * bytes ≤ ((n + m) + (n + m) / 4 + 192) * 24 := Nat.mul_le_mul_left _ hb24
      omega) hbase
    exact ⟨v', w', hr, r1, (Below.refl _ _).grown r2 hbase fun k hk => (World.ownsRow.lt hown k hk).1, ⟨r2.os, r2.tape, r2.output, r2.size, fun i hi hn => r2.block i hi (fun e => hn e.symm)⟩⟩
  rcases hnews with rfl | ⟨ad, e1, hc⟩
  · have hnil : news = [] := List.eq_nil_of_length_eq_zero (by simpa using hl)
    subst hnil
    cases A with
    | none => exact ⟨v, w, run_app_none base t ty e i size ht hi v n c xs hown, by simpa using hown, Below.refl _ _, Keep.refl _ _⟩
    | some ad => exact go ad rfl (fun j u h => by simp at h)
  · exact go ad e1 hc
def OwnLooks (w : World) (base : Nat) (v : Value) (l : List LookV) : Prop := w.ownsRow base 75 3 v l.length (lookCells l)
theorem lookCells_app (l m : List LookV) : lookCells (l ++ m) = lookCells l ++ lookCells m := by unfold lookCells; rw [List.flatMap_append]
theorem lookCells_one {l : List LookV} : ∀ u ∈ lookCells l, u.oneCell' = true := by
  intro u hu
  unfold lookCells at hu
  obtain ⟨x, _, h⟩ := List.mem_flatMap.1 hu
  simp at h
  rcases h with rfl | rfl | rfl <;> rfl
theorem OwnLooks.nil (w : World) (base : Nat) : OwnLooks w base (.slice none 0 0) [] := World.ownsRow_nil _ _ _ _
theorem OwnLooks.lit (w : World) (base : Nat) (h : base ≤ w.heap.size) : OwnLooks (w.alloc (.cells #[] 75)) base (.slice (some ⟨w.heap.size, 0, none⟩) 0 0) [] := World.ownsRow_lit w #[] 0 h (by unfold maxLen; omega) rfl
theorem OwnLooks.alloc {w : World} {base : Nat} {v : Value} {l : List LookV} (h : OwnLooks w base v l) (o : Obj) : OwnLooks (w.alloc o) base v l := World.ownsRow.alloc h o
theorem OwnLooks.below {w w' : World} {base : Nat} {v : Value} {l : List LookV} (h : OwnLooks w base v l) (k : Below w.heap.size w w') : OwnLooks w' base v l := by
  have hlt := World.ownsRow.lt h
  obtain ⟨h1, h2⟩ := h
  refine ⟨h1, h2.imp id ?_⟩
  rintro ⟨g, cap, cur, e1, e2, e3, e4⟩
  exact ⟨g, cap, cur, e1, e2, (k.block g (hlt g (by rw [e1]; rfl)).2).trans e3, e4⟩
theorem OwnLooks.reads {w : World} {base : Nat} {v : Value} {l : List LookV} (h : OwnLooks w base v l) (hl : l.length ≤ 1000000) : ∃ A c, v = .slice A l.length c ∧ LooksAt w A l ∧ ∀ b o, A = some ⟨b, o, none⟩ → base ≤ b := by
  have hcs := fun g => World.ownsRow.cells (w := w) (g := g) h
  obtain ⟨h1, h2⟩ := h
  rcases h2 with ⟨rfl, hn⟩ | ⟨g, cap, cur, rfl, hbg, _⟩
  · exact ⟨none, 0, by rw [hn], ⟨by omega, .inl (List.eq_nil_of_length_eq_zero hn)⟩, fun b o e => by cases e⟩
  · refine ⟨_, cap, rfl, ⟨by omega, .inr ⟨g, 0, rfl, fun j hj => ?_⟩⟩, fun b o e => by cases e; exact hbg⟩
    have h3 := lookCells_get l j hj
    have a0 := hcs g rfl _ _ h3.1
    have a1 := hcs g rfl _ _ h3.2.1
    have a2 := hcs g rfl _ _ h3.2.2
    rw [addr_add'] at a0 a1 a2
    exact ⟨a0, a1, a2⟩
theorem run_appLooks (w : World) (ty : TypeId) (base : Nat) (v : Value) (l : List LookV) (hown : OwnLooks w base v l) (A : Option Addr) (c : Nat) (m : List LookV) (hm : LooksAt w A m) (hlen : l.length + m.length ≤ 1000000) (hb : base ≤ w.heap.size) :
    ∃ v' w', (Builtin.append_ #[26, 26] ty #[v, .slice A m.length c]).run Tryd.prog w = .ok v' w' ∧ OwnLooks w' base v' (l ++ m) ∧ Below base w w' ∧ Keep (fun q => v.ownBlock = some q) w w' := by
  obtain ⟨i0, hi, hz0, hz1, hz2⟩ := info_parts infoLk
  obtain ⟨v', w', hr, r1, r2⟩ := run_app_any w base 26 ty 75 i0 _ 3 24 underLk hi hz0 hz1 hz2 rfl (by decide) (by decide) v l.length (lookCells l) hown A m.length c (lookCells m) (lookCells_len m) (by
    rcases hm.2 with e | ⟨b, o, e, h⟩
    · left; rw [e]; rfl
    · subst e; exact .inr ⟨_, rfl, hm.cells⟩) lookCells_one hlen hb
  refine ⟨v', w', hr, ?_, r2⟩
  unfold OwnLooks
  rw [lookCells_app, List.length_append]
  exact r1
theorem wp_appLooks {o : Oper} {a : Act} {K : Act → World → Prop} {Q : Exit → Act → World → Prop} (w : World) (s x : Operand)
    (ho : o.op = .call { callee := .builtin .append, args := #[s, x], argTypes := #[26, 26] })
    (base : Nat) (v : Value) (l : List LookV) (hs : a.eval s = v) (hown : OwnLooks w base v l) (A : Option Addr) (c : Nat) (m : List LookV) (hx : a.eval x = .slice A m.length c) (hm : LooksAt w A m) (hlen : l.length + m.length ≤ 1000000) (hb : base ≤ w.heap.size)
    (h : ∀ v' w', OwnLooks w' base v' (l ++ m) → Below base w w' → Keep (fun q => v.ownBlock = some q) w w' → K (a.put o.dst v') w') : o.wp Tryd.prog a w K Q := by
  obtain ⟨v', w', hr, r1, r2⟩ := run_appLooks w o.type base v l hown A c m hm hlen hb
  unfold Oper.wp
  simp [execOp, ho, resolve, invoke, builtin, hs, hx, hr, Result.andThen]
  exact h v' w' r1 r2.1 r2.2
theorem wpList_appLooks {ops : Array Oper} {rest : List Oper} {o : Oper} {a : Act} {Q : Exit → Act → World → Prop} (w : World) (hgd : o.guard = none) (s x : Operand)
    (ho : o.op = .call { callee := .builtin .append, args := #[s, x], argTypes := #[26, 26] })
    (base : Nat) (v : Value) (l : List LookV) (hs : a.eval s = v) (hown : OwnLooks w base v l) (A : Option Addr) (c : Nat) (m : List LookV) (hx : a.eval x = .slice A m.length c) (hm : LooksAt w A m) (hlen : l.length + m.length ≤ 1000000) (hb : base ≤ w.heap.size)
    (h : ∀ v' w', OwnLooks w' base v' (l ++ m) → Below base w w' → Keep (fun q => v.ownBlock = some q) w w' → wpList Tryd.prog ops Q rest (a.put o.dst v') w') : wpList Tryd.prog ops Q (o :: rest) a w :=
  wpList_plain hgd fun _ hK => wp_appLooks w s x ho base v l hs hown A c m hx hm hlen hb fun v' w' h1 h2 h3 => hK _ _ (h v' w' h1 h2 h3)
/-! Spans. -/
theorem infoSp' : (Tryd.prog.info? 24).map (fun i => (i.zero, i.size, i.bytes)) = some (some (.agg #[.int .i64 0, .int .i64 0]), 2, 16) := by kernel_rfl
theorem underSp' : Tryd.prog.underlying 25 = some (.slice 24) := by kernel_rfl
def spanCells (l : List (Int × Int)) : List Value := l.flatMap fun t => [.int .i64 t.1, .int .i64 t.2]
theorem spanCells_len (l : List (Int × Int)) : (spanCells l).length = l.length * 2 := by
  induction l with
  | nil => rfl
  | cons t l ih => unfold spanCells at *; rw [List.flatMap_cons, List.length_append, ih]; simp; omega
theorem spanCells_get (l : List (Int × Int)) (j : Nat) (hj : j < l.length) : (spanCells l)[j * 2]? = some (.int .i64 (gs l j).1) ∧ (spanCells l)[j * 2 + 1]? = some (.int .i64 (gs l j).2) := by
  induction l generalizing j with
  | nil => simp at hj
  | cons t l ih =>
    cases j with
    | zero => exact ⟨rfl, rfl⟩
    | succ j =>
      have h := ih j (by simpa using hj)
      have e : ∀ k, (spanCells (t :: l))[k + 2]? = (spanCells l)[k]? := fun k => by unfold spanCells; rw [List.flatMap_cons]; simp
      rw [show (j + 1) * 2 = j * 2 + 2 by omega, show j * 2 + 2 + 1 = j * 2 + 1 + 2 by omega, e, e]
      exact h
theorem SpansAt.cells {w : World} {b o : Nat} {l : List (Int × Int)} (h : SpansAt w (some ⟨b, o, none⟩) l) : ∀ j u, (spanCells l)[j]? = some u → w.cell? ((⟨b, o, none⟩ : Addr).add j) = some u := by
  intro j u hu
  rw [addr_add']
  have hj : j < l.length * 2 := by have := (List.getElem?_eq_some_iff.1 hu).1; rwa [spanCells_len] at this
  have h2 := spanCells_get l (j / 2) (by omega)
  have h1 : w.cell? ⟨b, o + j / 2 * 2, none⟩ = some (.int .i64 (gs l (j / 2)).1) ∧ w.cell? ⟨b, o + j / 2 * 2 + 1, none⟩ = some (.int .i64 (gs l (j / 2)).2) := by
    rcases h.2 with e | ⟨b', o', e, h⟩
    · rw [e] at hj; simp at hj
    · cases e; exact h _ (by omega)
  have : j = j / 2 * 2 ∨ j = j / 2 * 2 + 1 := by omega
  rcases this with e | e
  · rw [e] at hu ⊢; rw [← hu, h2.1]; simpa using h1.1
  · rw [e] at hu ⊢; rw [← hu, h2.2]; exact h1.2
theorem spanCells_one {l : List (Int × Int)} : ∀ u ∈ spanCells l, u.oneCell' = true := by
  intro u hu
  unfold spanCells at hu
  obtain ⟨x, _, h⟩ := List.mem_flatMap.1 hu
  simp at h
  rcases h with rfl | rfl <;> rfl
/-- a copy of spans: a block of one's own -/
theorem wpList_copySpans {ops : Array Oper} {rest : List Oper} {o : Oper} {a : Act} {Q : Exit → Act → World → Prop} (w : World) (hgd : o.guard = none) (s x : Operand)
    (ho : o.op = .call { callee := .builtin .append, args := #[s, x], argTypes := #[25, 25] })
    (W0 : World) (hw : w = W0.alloc (.cells #[] 24)) (hs : a.eval s = .slice (some ⟨W0.heap.size, 0, none⟩) 0 0) (A : Option Addr) (c : Nat) (m : List (Int × Int)) (hx : a.eval x = .slice A m.length c) (hm : SpansAt w A m) (hm0 : 0 < m.length) (hlen : m.length ≤ 1000000)
    (h : ∀ g c' cur w', w'.heap[g]? = some (.cells cur 24 (0, 0)) → m.length * 2 ≤ cur.size → SpansAt w' (some ⟨g, 0, none⟩) m → W0.heap.size ≤ g → Below W0.heap.size W0 w' → wpList Tryd.prog ops Q rest (a.put o.dst (.slice (some ⟨g, 0, none⟩) m.length c')) w') : wpList Tryd.prog ops Q (o :: rest) a w := by
  obtain ⟨i0, hi, hz0, hz1, hz2⟩ := info_parts infoSp'
  obtain ⟨b, og, rfl⟩ := hm.some_ hm0
  have hown : w.ownsRow W0.heap.size 24 2 (.slice (some ⟨W0.heap.size, 0, none⟩) 0 0) 0 [] := by rw [hw]; exact World.ownsRow_lit W0 #[] 0 (Nat.le_refl _) (by unfold maxLen; omega) rfl
  have hbw : Below W0.heap.size W0 w := by rw [hw]; exact (Below.refl _ _).alloc (Nat.le_refl _) _
  obtain ⟨v', w', hr, r1, r2⟩ := run_app_any w W0.heap.size 25 o.type 24 i0 _ 2 16 underSp' hi hz0 hz1 hz2 rfl (by decide) (by decide) (.slice (some ⟨W0.heap.size, 0, none⟩) 0 0) 0 [] hown (some ⟨b, og, none⟩) m.length c (spanCells m) (spanCells_len m) (.inr ⟨_, rfl, hm.cells⟩) spanCells_one (by omega) hbw.size
  have r2 := r2.1
  have hcs := fun g => World.ownsRow.cells (w := w') (g := g) r1
  obtain ⟨g1, g2⟩ := r1
  rcases g2 with ⟨_, hn⟩ | ⟨g, cap, cur, rfl, hbg, hg, hnc, hcm, hsz, ht⟩
  · omega
  · refine wpList_plain hgd fun K hK => ?_
    unfold Oper.wp
    simp [execOp, ho, resolve, invoke, builtin, hs, hx, hr, Result.andThen]
    rw [Nat.zero_add] at hnc
    refine hK _ _ (h g cap cur w' hg (by rw [hsz]; exact Nat.mul_le_mul_right _ hnc) ⟨by omega, .inr ⟨g, 0, rfl, fun j hj => ?_⟩⟩ hbg (hbw.trans r2))
    have h3 := spanCells_get m j hj
    have a0 := hcs g rfl _ _ h3.1
    have a1 := hcs g rfl _ _ h3.2
    rw [addr_add'] at a0 a1
    exact ⟨a0, a1⟩
/-- one span stored into a block of one's own -/
theorem spans_put {w : World} {g : Nat} {cur : Array Value} {l : List (Int × Int)} (kg : BoxAt w g cur) (hs : SpansAt w (some ⟨g, 0, none⟩) l) {k : Nat} (hk : k < l.length) (a b : Int) :
    SpansAt ((w.setCell ⟨g, k * 2, none⟩ (.int .i64 a)).setCell ⟨g, k * 2 + 1, none⟩ (.int .i64 b)) (some ⟨g, 0, none⟩) (l.set k (a, b)) := by
  have hat : ∀ j, j < l.length → cur[j * 2]? = some (.int .i64 (gs l j).1) ∧ cur[j * 2 + 1]? = some (.int .i64 (gs l j).2) := fun j hj => by
    rcases hs.2 with e | ⟨b', o', e, h⟩
    · rw [e] at hk; simp at hk
    · cases e
      have h1 := h j hj
      rw [Nat.zero_add] at h1
      exact ⟨(kg.cell _).symm.trans h1.1, (kg.cell _).symm.trans h1.2⟩
  have hsz : ∀ j, j < l.length → j * 2 + 1 < cur.size := fun j hj => (Array.getElem?_eq_some_iff.1 (hat j hj).2).1
  have k1 := kg.put (k * 2) (.int .i64 a) (by have := hsz k hk; omega)
  have k2 := k1.put (k * 2 + 1) (.int .i64 b) (by have := hsz k hk; simp; omega)
  refine ⟨by rw [List.length_set]; exact hs.1, .inr ⟨g, 0, rfl, fun j hj => ?_⟩⟩
  rw [List.length_set] at hj
  rw [Nat.zero_add, k2.cell, k2.cell, gs_set _ _ _ hk]
  have h1 := hat j hj
  have h2 := hsz j hj
  simp only [Array.getElem?_setIfInBounds, Array.size_setIfInBounds]
  by_cases e : j = k
  · subst e
    rw [if_neg (by omega), if_pos rfl, if_pos (by omega), if_pos rfl, if_pos rfl, if_pos (by omega)]
    exact ⟨rfl, rfl⟩
  · repeat rw [if_neg (by omega)]
    exact h1
theorem gs_pair (l : List (Int × Int)) (k : Nat) : gs l k = ((gs l k).1, (gs l k).2) := rfl
theorem lookOk_mk {a b c : Int} (h1 : 0 ≤ a ∧ a ≤ 300) (h2 : 0 ≤ b ∧ b ≤ 3000) (h3 : 0 ≤ c ∧ c ≤ 50) : lookOk ⟨a, b, c⟩ := ⟨h1, h2, h3⟩
theorem withLook_cells (B : ForgeV) (A : Option Addr) (c : Nat) (l : LookV) : (withLook B A c l).cells = #[.slice B.lA B.lots.length B.lCap, .int .i64 B.tlo, .int .i64 B.thi, .int .i64 B.thick, .int .i64 B.crack, .int .i64 B.glo, .int .i64 B.ghi, .slice B.sA B.thins.length B.sCap,
    .int .i64 B.hot, .int .i64 B.least, .int .i64 B.clo, .int .i64 B.chi, .int .i64 B.coal, .slice A (B.looks.length + 1) c] := by
  unfold ForgeV.cells withLook
  simp only [List.length_append, List.length_cons, List.length_nil, Nat.zero_add]
theorem withThin_cells (B : ForgeV) (A : Option Addr) (c k : Nat) (v : Int) : (withThin B A c k v).cells = #[.slice B.lA B.lots.length B.lCap, .int .i64 B.tlo, .int .i64 B.thi, .int .i64 B.thick, .int .i64 B.crack, .int .i64 B.glo, .int .i64 B.ghi, .slice A B.thins.length c,
    .int .i64 B.hot, .int .i64 B.least, .int .i64 B.clo, .int .i64 B.chi, .int .i64 B.coal, .slice B.kA B.looks.length B.kCap] := by
  unfold ForgeV.cells withThin
  simp only [List.length_set]
theorem gi_mem {l : List Int} {i : Nat} (h : i < l.length) : gi l i ∈ l := by
  unfold gi
  rw [List.getD_eq_getElem?_getD, List.getElem?_eq_getElem h]
  exact List.getElem_mem h
end
section
open Go.RowKit Go.Shelf
attribute [local go_sem] Oper.semAt_some
set_option linter.unusedSimpArgs false
set_option linter.unusedVariables false
set_option maxRecDepth 100000 in
set_option maxHeartbeats 2000000 in
theorem Where_calls (A : Option Addr) (c : Nat) (l : List Int) (n : Int) (w : World) (hp : IntsAt w A l) :
    Calls Tryd.prog 56 #[.slice A l.length c, .int .i64 n] w fun e w' => (∃ r : Int, e = .returned (.int .i64 r) ∧ ((0 ≤ r ∧ n ∈ l) ∨ (r < 0 ∧ n ∉ l))) ∧ w = w' := by
  rcases Nat.eq_zero_or_pos l.length with h0 | h0
  · have hz : ¬ (0 : Int) < l.length := by omega
    have hnil := Lib.hid (List.eq_nil_of_length_eq_zero h0)
    clear hp h0
    go_enter Tryd.func56, Tryd.ntmps56
    go_wp2
    refine wp_loop_rounds 1 ?_
    rw [rounds_succ]
    go_wp2
    go_ret
    exact ⟨⟨-1, rfl, .inr ⟨by omega, by rw [hnil.out]; simp⟩⟩, rfl⟩
  · obtain ⟨b, o, rfl, hc⟩ := hp.2.resolve_left (by intro e; rw [e] at h0; simp at h0)
    have hle := hp.1
    have Hc := Lib.hid hc
    clear hc hp h0
    go_enter Tryd.func56, Tryd.ntmps56
    go_wp2
    go_loop [5] (fun i => ∃ k : Nat, k ≤ l.length ∧ i = .int .i64 k ∧ ∀ j, j < k → gi l j ≠ n) (fun i => l.length - (intOf i).toNat)
    case atStart => exact ⟨0, Nat.zero_le _, rfl, fun j hj => absurd hj (by omega)⟩
    case round =>
      obtain ⟨k, hk, rfl, hx⟩ := hrel
      have Hx := Lib.hid hx
      clear hx
      by_cases hlt : k < l.length
      · have hck := Hc.out k hlt
        have bk := World.block_lt_of_cell? _ _ hck
        have hki : (k : Int) < l.length := by omega
        simp only at bk
        by_cases he : gi l k = n
        · have hbe : (gi l k == n) = true := by rw [beq_iff_eq]; exact he
          have Hm : Hid (n ∈ l) := by unfold Hid; rw [← he]; exact gi_mem hlt
          clear he
          go_wp2
          go_ret
          exact ⟨⟨_, rfl, .inl ⟨by omega, Hm.out⟩⟩, rfl⟩
        · have hbe : (gi l k == n) = false := by rw [beq_eq_false_iff_ne]; exact he
          have He := Lib.hid he
          clear he
          go_wp2
          go_round
          case rel => exact ⟨k + 1, by omega, by go_num, fun j hj => (by rcases Nat.lt_or_eq_of_le (Nat.le_of_lt_succ hj) with h | h; exact Hx.out j h; rw [h]; exact He.out)⟩
          case measure => simp [intOf]; omega
      · obtain rfl : k = l.length := by omega
        have Hno : Hid (n ∉ l) := by
          intro hm
          obtain ⟨j, hj, e⟩ := List.mem_iff_getElem.1 hm
          exact Hx.out j hj (by unfold gi; rw [List.getD_eq_getElem?_getD, List.getElem?_eq_getElem hj]; exact e)
        go_wp2
        go_ret
        exact ⟨⟨-1, rfl, .inr ⟨by omega, Hno.out⟩⟩, rfl⟩
end
end Go.Proofs.YtgfbfbfajnfbjaaDoor
