import Derived.Test.YtgfbfbfajnfbjaaDoorAG
import Derived.Test.YtgfbfbfajnfbjaaDoorBB
namespace Go.Proofs.YtgfbfbfajnfbjaaDoor
section
open Go.RowKit Go.Shelf
set_option linter.unusedSimpArgs false
set_option linter.unusedVariables false
/-! What truths are, with no program in sight: members, ends, and where a span first is so. -/
theorem mem_between {lo hi v : Int} : v ∈ between lo hi ↔ lo ≤ v ∧ v ≤ hi := by
  unfold between
  simp only [List.mem_map, List.mem_range]
  constructor
  · rintro ⟨k, hk, rfl⟩; omega
  · intro h; exact ⟨(v - lo).toNat, by omega, by omega⟩
theorem take_gi (t : List Int) (k : Nat) (h : k < t.length) : t.take (k + 1) = t.take k ++ [gi t k] := by
  rw [List.take_add_one, gi, List.getD_eq_getElem?_getD, List.getElem?_eq_getElem h]; rfl
theorem mem_truthsFrom (B : ForgeV) (left : Int) : ∀ (n : Nat) (x t : List Int), t ∈ truthsFrom B left n x ↔
    t.length = x.length + n ∧ t.take x.length = x ∧ (∀ k, x.length ≤ k → k < x.length + n → (gs B.thins k).1 ≤ gi t k ∧ gi t k ≤ (gs B.thins k).2) ∧ seenTo B t left B.looks.length = true
  | 0, x, t => by
    rw [truthsFrom]
    constructor
    · intro h
      split at h
      · rename_i hs
        obtain rfl := List.mem_singleton.1 h
        exact ⟨rfl, List.take_length, fun k h1 h2 => by omega, hs⟩
      · cases h
    · rintro ⟨hl, ht, _, hs⟩
      obtain rfl : x = t := by rw [← ht, List.take_of_length_le (by omega)]
      rw [if_pos hs]; exact List.mem_singleton.2 rfl
  | n + 1, x, t => by
    rw [truthsFrom]
    simp only [List.mem_flatMap, mem_between, mem_truthsFrom B left n, List.length_append, List.length_cons, List.length_nil]
    constructor
    · rintro ⟨v, hv, hl, ht, hk, hs⟩
      have h0 : gi t x.length = v := by
        have h1 := take_gi t x.length (by omega)
        rw [ht] at h1
        have h2 := List.append_inj_right' h1 rfl
        simpa using h2.symm
      refine ⟨by omega, ?_, fun k h1 h2 => ?_, hs⟩
      · have h1 := take_gi t x.length (by omega)
        rw [ht] at h1
        exact (List.append_inj_left' h1 rfl).symm
      · rcases Nat.eq_or_lt_of_le h1 with e | e
        · rw [← e, h0]; exact hv
        · exact hk k (by omega) (by omega)
    · rintro ⟨hl, ht, hk, hs⟩
      exact ⟨gi t x.length, hk _ (Nat.le_refl _) (by omega), by omega, by rw [take_gi t _ (by omega), ht], fun k h1 h2 => hk k (by omega) (by omega), hs⟩
theorem mem_truthsS {B : ForgeV} {left : Int} {t : List Int} : t ∈ truthsS B left ↔
    t.length = 3 ∧ (∀ k, k < 3 → (gs B.thins k).1 ≤ gi t k ∧ gi t k ≤ (gs B.thins k).2) ∧ seenTo B t left B.looks.length = true := by
  unfold truthsS
  rw [mem_truthsFrom]
  simp only [List.length_nil, Nat.zero_add, List.take_zero, true_and]
  exact ⟨fun ⟨a, b, c⟩ => ⟨a, fun k h => b k (Nat.zero_le _) h, c⟩, fun ⟨a, b, c⟩ => ⟨a, fun k _ h => b k h, c⟩⟩
theorem canS_iff {B : ForgeV} {left : Int} : canS B left = true ↔ ∃ t, t ∈ truthsS B left := by
  unfold canS
  cases truthsS B left with
  | nil => simp
  | cons t l => simp
theorem seenTo_iff {B : ForgeV} {x : List Int} {left : Int} {k : Nat} : seenTo B x left k = true ↔ ∀ i, i < k → missB B x left i = false := by
  unfold seenTo
  simp [List.all_eq_true]
theorem spanF (B : ForgeV) (n : Int) : ∀ (l : List (List Int)) (q : Int × Int), q.1 ≤ q.2 → ∃ p, l.foldl (spanStep B n) (some q) = some p ∧ p.1 ≤ q.1 ∧ q.2 ≤ p.2 ∧ (∀ t, t ∈ l → p.1 ≤ afterS B t n ∧ afterS B t n ≤ p.2) ∧
    (p.1 = q.1 ∨ ∃ t, t ∈ l ∧ afterS B t n = p.1) ∧ (p.2 = q.2 ∨ ∃ t, t ∈ l ∧ afterS B t n = p.2)
  | [], q, _ => ⟨q, rfl, Int.le_refl _, Int.le_refl _, fun t h => (by cases h), .inl rfl, .inl rfl⟩
  | t :: l, q, hq => by
    obtain ⟨lo, hi⟩ := q
    simp only at hq
    have hs : ∃ q', spanStep B n (some (lo, hi)) t = some q' ∧ q'.1 ≤ q'.2 ∧ q'.1 ≤ lo ∧ hi ≤ q'.2 ∧ q'.1 ≤ afterS B t n ∧ afterS B t n ≤ q'.2 ∧ (q'.1 = lo ∨ q'.1 = afterS B t n) ∧ (q'.2 = hi ∨ q'.2 = afterS B t n) := by
      refine ⟨_, rfl, ?_⟩
      simp only
      split <;> split <;> omega
    obtain ⟨q', e, h0, h1, h2, h3, h4, h5, h6⟩ := hs
    obtain ⟨p, ep, p1, p2, p3, p4, p5⟩ := spanF B n l q' h0
    refine ⟨p, by rw [List.foldl_cons, e, ep], by omega, by omega, fun u hu => ?_, ?_, ?_⟩
    · rcases List.mem_cons.1 hu with rfl | hu
      · omega
      · exact p3 u hu
    · rcases p4 with h | ⟨u, hu, h⟩
      · rcases h5 with h5 | h5
        · left; simp only; omega
        · exact .inr ⟨t, .head _, by omega⟩
      · exact .inr ⟨u, .tail _ hu, h⟩
    · rcases p5 with h | ⟨u, hu, h⟩
      · rcases h6 with h6 | h6
        · left; simp only; omega
        · exact .inr ⟨t, .head _, by omega⟩
      · exact .inr ⟨u, .tail _ hu, h⟩
/-- the ends of the thickness are some truths', and all lie between them -/
theorem between_ok {B : ForgeV} (hc : canS B 0 = true) (n : Int) : (∀ t, t ∈ truthsS B 0 → (betweenS B n).1 ≤ afterS B t n ∧ afterS B t n ≤ (betweenS B n).2) ∧
    (∃ t, t ∈ truthsS B 0 ∧ afterS B t n = (betweenS B n).1) ∧ (∃ t, t ∈ truthsS B 0 ∧ afterS B t n = (betweenS B n).2) ∧ spanOf B n (truthsS B 0) = some (betweenS B n) := by
  unfold betweenS
  obtain ⟨t0, h0⟩ := canS_iff.1 hc
  generalize truthsS B 0 = l at *
  cases l with
  | nil => cases h0
  | cons t l =>
    obtain ⟨p, ep, p1, p2, p3, p4, p5⟩ := spanF B n l (afterS B t n, afterS B t n) (Int.le_refl _)
    have e : spanOf B n (t :: l) = some p := ep
    rw [e]
    simp only [Option.getD_some] at *
    refine ⟨fun u hu => ?_, ?_, ?_, trivial⟩
    · rcases List.mem_cons.1 hu with rfl | hu
      · exact ⟨p1, p2⟩
      · exact p3 u hu
    · rcases p4 with h | ⟨u, hu, h⟩
      · exact ⟨t, .head _, h.symm⟩
      · exact ⟨u, .tail _ hu, h⟩
    · rcases p5 with h | ⟨u, hu, h⟩
      · exact ⟨t, .head _, h.symm⟩
      · exact ⟨u, .tail _ hu, h⟩
theorem fullS_eq {B : ForgeV} (hc : canS B 0 = true) (n : Nat) : fullS B n = betweenS B n := by
  unfold fullS; rw [(between_ok hc n).2.2.2]; rfl
theorem spansS_len (B : ForgeV) : (spansS B).length = 301 := by unfold spansS; simp
theorem spansS_get {B : ForgeV} (hc : canS B 0 = true) (j : Nat) (h : j < 301) : gs (spansS B) j = betweenS B j := by
  unfold spansS gs
  rw [List.getD_eq_getElem?_getD, List.getElem?_map, List.getElem?_range h]
  exact fullS_eq hc j
theorem idxS_spec (p : Int → Int → Bool) : ∀ (l : List (Int × Int)) (k : Nat), (idxS p l k = -1 ∧ ∀ j, j < l.length → p (gs l j).1 (gs l j).2 = false) ∨
    (∃ j, j < l.length ∧ idxS p l k = ((k + j : Nat) : Int) ∧ p (gs l j).1 (gs l j).2 = true ∧ ∀ i, i < j → p (gs l i).1 (gs l i).2 = false)
  | [], k => .inl ⟨rfl, fun j h => absurd h (Nat.not_lt_zero _)⟩
  | s :: l, k => by
    unfold idxS
    have g0 : gs (s :: l) 0 = s := rfl
    have gS : ∀ j, gs (s :: l) (j + 1) = gs l j := fun j => rfl
    split
    · rename_i h
      exact .inr ⟨0, by simp, rfl, by rw [g0]; exact h, fun i h => absurd h (Nat.not_lt_zero _)⟩
    · rename_i h
      have h' : p s.1 s.2 = false := by simpa using h
      rcases idxS_spec p l (k + 1) with ⟨e, hn⟩ | ⟨j, hj, e, ht, hf⟩
      · refine .inl ⟨e, fun j hj => ?_⟩
        cases j with
        | zero => exact h'
        | succ j => rw [gS]; exact hn j (by simpa using hj)
      · refine .inr ⟨j + 1, by simpa using hj, by rw [e]; omega, by rw [gS]; exact ht, fun i hi => ?_⟩
        cases i with
        | zero => exact h'
        | succ i => rw [gS]; exact hf i (by omega)
theorem struckS_mono {n m : Int} (h : n ≤ m) (k : Int) : struckS n k ≤ struckS m k := by unfold struckS; omega
theorem afterS_anti {B : ForgeV} {t : List Int} (h0 : 0 ≤ gi t 0) (h1 : 0 ≤ gi t 1) (h2 : 0 ≤ gi t 2) {n m : Int} (h : n ≤ m) : afterS B t m ≤ afterS B t n := by
  unfold afterS
  have a0 := Int.mul_le_mul_of_nonneg_left (struckS_mono h 0) h0
  have a1 := Int.mul_le_mul_of_nonneg_left (struckS_mono h 1) h1
  have a2 := Int.mul_le_mul_of_nonneg_left (struckS_mono h 2) h2
  omega
theorem low_anti {B : ForgeV} (g : B.Good) (hc : canS B 0 = true) {n m : Int} (h : n ≤ m) : (betweenS B m).1 ≤ (betweenS B n).1 := by
  obtain ⟨t, ht, e⟩ := (between_ok hc n).2.1
  have h1 := ((between_ok hc m).1 t ht).1
  have h2 := (truthsS_mem g ht).2
  have := afterS_anti (B := B) (h2 0).1 (h2 1).1 (h2 2).1 h
  omega
theorem between_zero {B : ForgeV} (hc : canS B 0 = true) : (betweenS B 0).1 = B.thick := by
  obtain ⟨t, ht, e⟩ := (between_ok hc 0).2.1
  rw [← e]
  unfold afterS struckS
  simp
/-- what the law of the blows asks, of a book that can be true: N where the disc is ready, K where it can crack -/
structure ReadyOk (B : ForgeV) (N K : Int) : Prop where
  n : -1 ≤ N ∧ N ≤ 300
  k : -1 ≤ K ∧ K ≤ 300
  ready : 0 ≤ N → B.glo ≤ (betweenS B N).1 ∧ (betweenS B N).2 ≤ B.ghi ∧ B.crack ≤ (betweenS B N).1 ∧ (K = -1 ∨ N < K)
  fewer : ∀ m, 0 ≤ m → m ≤ 300 → (0 ≤ N → m < N) → B.glo ≤ (betweenS B m).1 → (betweenS B m).2 ≤ B.ghi → ¬ B.crack ≤ (betweenS B m).1
  zero : K = 0 → B.thick < B.crack
  some : 0 < K → B.crack ≤ (betweenS B (K - 1)).1 ∧ (betweenS B K).1 < B.crack
  all : K = -1 → B.crack ≤ (betweenS B 300).1
theorem readyB_iff {B : ForgeV} {lo hi : Int} : readyB B lo hi = true ↔ B.glo ≤ lo ∧ B.crack ≤ lo ∧ hi ≤ B.ghi := by unfold readyB; simp
theorem crackB_iff {B : ForgeV} {lo hi : Int} : crackB B lo hi = true ↔ lo < B.crack := by unfold crackB; simp
theorem ready_ok {B : ForgeV} (g : B.Good) (hc : canS B 0 = true) : ReadyOk B (idxS (readyB B) (spansS B) 0) (idxS (crackB B) (spansS B) 0) := by
  have hl := spansS_len B
  have hg := fun j h => spansS_get hc j h
  rcases idxS_spec (readyB B) (spansS B) 0 with ⟨eN, hN⟩ | ⟨jN, hjN, eN, htN, hfN⟩ <;> rcases idxS_spec (crackB B) (spansS B) 0 with ⟨eK, hK⟩ | ⟨jK, hjK, eK, htK, hfK⟩ <;> rw [eN, eK] <;> rw [hl] at *
  · refine ⟨by omega, by omega, fun h => by omega, fun m m0 m1 _ h1 h2 h3 => ?_, fun h => by omega, fun h => by omega, fun _ => ?_⟩
    · have := hN m.toNat (by omega)
      rw [hg _ (by omega), Int.toNat_of_nonneg m0] at this
      exact absurd (readyB_iff.2 ⟨h1, h3, h2⟩) (by rw [this]; simp)
    · have := hK 300 (by omega)
      rw [hg _ (by omega)] at this
      have h2 := mt crackB_iff.2 (by rw [this]; simp)
      simpa using h2
  · rw [hg _ hjK] at htK
    have hk := crackB_iff.1 htK
    simp only [Nat.zero_add] at *
    refine ⟨by omega, by omega, fun h => by omega, fun m m0 m1 _ h1 h2 h3 => ?_, fun h => ?_, fun h => ⟨?_, hk⟩, fun h => by omega⟩
    · have := hN m.toNat (by omega)
      rw [hg _ (by omega), Int.toNat_of_nonneg m0] at this
      exact absurd (readyB_iff.2 ⟨h1, h3, h2⟩) (by rw [this]; simp)
    · rw [h, between_zero hc] at hk; exact hk
    · have := hfK (jK - 1) (by omega)
      rw [hg _ (by omega), show ((jK - 1 : Nat) : Int) = (jK : Int) - 1 by omega] at this
      have h2 := mt crackB_iff.2 (by rw [this]; simp)
      simpa using h2
  · rw [hg _ hjN] at htN
    have hn := readyB_iff.1 htN
    simp only [Nat.zero_add] at *
    refine ⟨by omega, by omega, fun _ => ⟨hn.1, hn.2.2, hn.2.1, .inl rfl⟩, fun m m0 m1 hm h1 h2 h3 => ?_, fun h => by omega, fun h => by omega, fun _ => ?_⟩
    · have := hfN m.toNat (by have := hm (by omega); omega)
      rw [hg _ (by omega), Int.toNat_of_nonneg m0] at this
      exact absurd (readyB_iff.2 ⟨h1, h3, h2⟩) (by rw [this]; simp)
    · have := hK 300 (by omega)
      rw [hg _ (by omega)] at this
      have h2 := mt crackB_iff.2 (by rw [this]; simp)
      simpa using h2
  · rw [hg _ hjK] at htK
    have hk := crackB_iff.1 htK
    rw [hg _ hjN] at htN
    have hn := readyB_iff.1 htN
    simp only [Nat.zero_add] at *
    refine ⟨by omega, by omega, fun _ => ⟨hn.1, hn.2.2, hn.2.1, .inr ?_⟩, fun m m0 m1 hm h1 h2 h3 => ?_, fun h => ?_, fun h => ⟨?_, hk⟩, fun h => by omega⟩
    · rcases Int.lt_or_le (jN : Int) jK with h | h
      · exact h
      · have := low_anti g hc h
        omega
    · have := hfN m.toNat (by have := hm (by omega); omega)
      rw [hg _ (by omega), Int.toNat_of_nonneg m0] at this
      exact absurd (readyB_iff.2 ⟨h1, h3, h2⟩) (by rw [this]; simp)
    · rw [h, between_zero hc] at hk; exact hk
    · have := hfK (jK - 1) (by omega)
      rw [hg _ (by omega), show ((jK - 1 : Nat) : Int) = (jK : Int) - 1 by omega] at this
      have h2 := mt crackB_iff.2 (by rw [this]; simp)
      simpa using h2
/-- until u the disc is not ready surely -/
def ReadyU (B : ForgeV) (u : Int) : Prop := 0 ≤ u ∧ u ≤ 301 ∧ ∀ m, 0 ≤ m → m < u → B.glo ≤ (betweenS B m).1 → (betweenS B m).2 ≤ B.ghi → ¬ B.crack ≤ (betweenS B m).1
def SoundU (B : ForgeV) (k : Int) : Prop := (0 ≤ k ∧ k ≤ 300) ∧ B.crack ≤ (betweenS B k).1 ∧ (k ≠ 300 → (betweenS B (k + 1)).1 < B.crack)
def ReadyN (B : ForgeV) (N k : Int) : Prop := (0 ≤ N ∧ N ≤ 300) ∧ B.glo ≤ (betweenS B N).1 ∧ (betweenS B N).2 ≤ B.ghi ∧ B.crack ≤ (betweenS B N).1 ∧ N ≤ k
theorem ready_parts {B : ForgeV} (g : B.Good) : (canS B 0 = false ∧ blowsR B = .tuple #[.int .i64 0, .int .i64 22] ∧ soundR B = .tuple #[.int .i64 0, .int .i64 22]) ∨ (canS B 0 = true ∧ (
        (∃ N kk, ReadyU B N ∧ blowsR B = .tuple #[.int .i64 N, .int .i64 0] ∧ soundR B = .tuple #[.int .i64 kk, .int .i64 0] ∧ SoundU B kk ∧ ReadyN B N kk) ∨
        (∃ kk, ReadyU B 301 ∧ blowsR B = .tuple #[.int .i64 0, .int .i64 4] ∧ soundR B = .tuple #[.int .i64 kk, .int .i64 0] ∧ SoundU B kk) ∨
        (ReadyU B 301 ∧ blowsR B = .tuple #[.int .i64 0, .int .i64 4] ∧ soundR B = .tuple #[.int .i64 0, .int .i64 4] ∧ B.thick < B.crack))) := by
  have hg := (goodF_iff B).2 g
  cases hc : canS B 0 with
  | false =>
    have ha : askedE B true = 22 := by unfold askedE; rw [hg, hc]; rfl
    exact .inl ⟨rfl, by unfold blowsR; rw [ha]; rfl, by unfold soundR; rw [ha]; rfl⟩
  | true =>
    have ha : askedE B true = 0 := by unfold askedE; rw [hg, hc]; rfl
    have R := ready_ok g hc
    have hb : blowsR B = blowsP (idxS (readyB B) (spansS B) 0) := by unfold blowsR; rw [if_pos ha]
    have hs : soundR B = soundP (idxS (crackB B) (spansS B) 0) := by unfold soundR; rw [if_pos ha]
    rw [hb, hs]
    generalize idxS (readyB B) (spansS B) 0 = N at *
    generalize idxS (crackB B) (spansS B) 0 = K at *
    refine .inr ⟨rfl, ?_⟩
    obtain ⟨r1, r2, r3, r4, r5, r6, r7⟩ := R
    have hS : K ≠ 0 → ∃ kk, soundP K = .tuple #[.int .i64 kk, .int .i64 0] ∧ SoundU B kk ∧ (0 ≤ N → N ≤ kk) := by
      intro h0
      by_cases h1 : K = -1
      · exact ⟨300, by unfold soundP; rw [if_pos h1], ⟨by omega, r7 h1, fun h => absurd rfl h⟩, fun _ => by omega⟩
      · have h6 := r6 (by omega)
        refine ⟨K - 1, by unfold soundP; rw [if_neg h1, if_neg h0], ⟨by omega, h6.1, fun _ => ?_⟩, fun h => ?_⟩
        · rw [show K - 1 + 1 = K by omega]; exact h6.2
        · have := (r3 h).2.2.2; omega
    have hU : 0 ≤ N → ReadyU B N := fun h => ⟨h, by omega, fun m h1 h2 => r4 m h1 (by omega) (fun _ => h2)⟩
    have hU' : N < 0 → ReadyU B 301 := fun h => ⟨by omega, by omega, fun m h1 h2 => r4 m h1 (by omega) (fun h' => by omega)⟩
    by_cases hn : N < 0
    · have e : blowsP N = .tuple #[.int .i64 0, .int .i64 4] := by unfold blowsP; rw [if_pos hn]
      rw [e]
      by_cases h0 : K = 0
      · exact .inr (.inr ⟨hU' hn, rfl, by unfold soundP; rw [if_neg (by omega), if_pos h0], r5 h0⟩)
      · obtain ⟨kk, h1, h2, _⟩ := hS h0
        exact .inr (.inl ⟨kk, hU' hn, rfl, h1, h2⟩)
    · have e : blowsP N = .tuple #[.int .i64 N, .int .i64 0] := by unfold blowsP; rw [if_neg hn]
      rw [e]
      have h3 := r3 (by omega)
      have h0 : K ≠ 0 := by
        intro h
        have := h3.2.2.2
        omega
      obtain ⟨kk, h1, h2, h4⟩ := hS h0
      exact .inl ⟨N, kk, hU (by omega), rfl, h1, h2, by omega, h3.1, h3.2.1, h3.2.2.1, h4 (by omega)⟩
/-- the ends are small numbers -/
theorem between_bd {B : ForgeV} (g : B.Good) (hc : canS B 0 = true) {n : Int} (hn : 0 ≤ n ∧ n ≤ 300) : -6060 ≤ (betweenS B n).1 ∧ (betweenS B n).1 ≤ (betweenS B n).2 ∧ (betweenS B n).2 ≤ 3000 := by
  obtain ⟨t, ht, e⟩ := (between_ok hc n).2.1
  obtain ⟨u, hu, f⟩ := (between_ok hc n).2.2.1
  have h1 := afterTo_bd g (truthsS_mem g ht).2 hn 3 (Nat.le_refl _)
  have h2 := afterTo_bd g (truthsS_mem g hu).2 hn 3 (Nat.le_refl _)
  have h3 := (between_ok hc n).1 t ht
  rw [afterTo_three] at h1 h2
  omega
end
end Go.Proofs.YtgfbfbfajnfbjaaDoor
