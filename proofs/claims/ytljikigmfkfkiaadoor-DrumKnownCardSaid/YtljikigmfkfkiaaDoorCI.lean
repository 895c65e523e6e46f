import Derived.Test.YtljikigmfkfkiaaDoorAI
namespace Go.Proofs.YtljikigmfkfkiaaDoor
open Go.RowKit Go.Shelf
set_option linter.unusedSimpArgs false
set_option linter.unusedVariables false

/-! Which book is easier than another: who is less late, with less slip, who catches up by more. -/
structure Easier (B X : BookV) : Prop where
  parts : X.parts = B.parts
  size : X.size = B.size
  beats : X.beats = B.beats
  start : X.start = B.start
  fin : X.fin = B.fin
  tlo : X.tlo ≤ B.tlo
  thi : B.thi ≤ X.thi
  shi : X.shi ≤ B.shi
  many : X.players.length ≤ B.players.length
  late : ∀ j, j < X.players.length → (gp X.players j).hi ≤ (gp B.players j).hi
  catches : ∀ j, j < X.players.length → ∀ k, k < 4 → (gs (gp B.players j).catches k).1 ≤ (gs (gp X.players j).catches k).1
theorem easier_late {B X : BookV} (h : Easier B X) (g : B.Good) (g' : X.Good) {path : List Int} (hr : ∀ k, 0 ≤ gi path k ∧ gi path k ≤ 3) {j : Nat} (hj : j < X.players.length) : ∀ k, lateTo X path (gp X.players j) true k ≤ lateTo B path (gp B.players j) true k
  | 0 => by have := h.late j hj; simpa [lateTo, endOf] using this
  | k + 1 => by
    have h1 := easier_late h g g' hr hj k
    have h2 : slipAt X path true k ≤ slipAt B path true k := by
      unfold slipAt
      have e : partOf X.size k = partOf B.size k := by rw [h.size]
      rw [e, h.size]
      split
      · simpa [endOf] using h.shi
      · omega
    have h3 : catchAt B path (gp B.players j) true k ≤ catchAt X path (gp X.players j) true k := by
      unfold catchAt
      rw [show partOf X.size k = partOf B.size k by rw [h.size]]
      have := hr (partOf B.size k)
      simpa [endOf] using h.catches j hj (gi path (partOf B.size k)).toNat (by omega)
    simp only [lateTo]
    omega
theorem easier_plan {B X : BookV} (h : Easier B X) (g : B.Good) (g' : X.Good) {path : List Int} (ip : IsPath B path) (hp : isPlanS B path = true) : isPlanS X path = true := by
  have ht : ∀ k, timeTo X path k = timeTo B path k := by
    intro k
    induction k with
    | zero => rfl
    | succ k ih => simp only [timeTo, ih, h.size, h.beats]
  have hs1 := g.size
  have hp1 := g.parts
  have hmul : 1 * 1 ≤ B.parts * B.size := Int.mul_le_mul hp1.1 hs1.1 (by omega) (by omega)
  have hl : ∀ j, lastAt B path B.players.length j = 0 → lastAt X path X.players.length j = 0 := by
    intro j hj
    unfold lastAt at hj ⊢
    split
    · rename_i hx
      rw [if_pos (Nat.lt_of_lt_of_le hx h.many)] at hj
      have h1 := easier_late h g g' (gi_path ip) hx (B.parts * B.size).toNat
      rw [h.parts, h.size]
      obtain ⟨m, hm⟩ : ∃ m, (B.parts * B.size).toNat = m + 1 := ⟨(B.parts * B.size).toNat - 1, by omega⟩
      rw [hm] at hj h1 ⊢
      have h0 : 0 ≤ lateTo X path (gp X.players j) true (m + 1) := by simp only [lateTo]; omega
      omega
    · rfl
  unfold isPlanS noneLate at hp ⊢
  simp only [Bool.and_eq_true, decide_eq_true_eq, inB_iff] at hp ⊢
  obtain ⟨h1, ⟨h2, h3⟩, h4, h5, h6, h7, h8⟩ := hp
  rw [h.fin, ht]
  have := h.tlo
  have := h.thi
  exact ⟨h1, ⟨by omega, by omega⟩, hl 0 h4, hl 1 h5, hl 2 h6, hl 3 h7, hl 4 h8⟩
theorem Easier.path {B X : BookV} (h : Easier B X) {path : List Int} (ip : IsPath B path) : IsPath X path := ⟨by rw [ip.len, h.parts], by rw [ip.start, h.start], ip.range, ip.step⟩
theorem easier_plans {B X : BookV} (h : Easier B X) (g : B.Good) (g' : X.Good) : (allPlans B).length ≤ (allPlans X).length := by
  unfold allPlans plansFrom
  rw [h.parts, h.start, ← List.countP_eq_length_filter, ← List.countP_eq_length_filter]
  refine List.countP_mono_left fun x hx hpl => ?_
  exact easier_plan h g g' (pathsFrom_mem _ _ g.one (by have := g.parts; simp; omega) x hx) hpl
theorem easier_some {B X : BookV} (h : Easier B X) (g : B.Good) (g' : X.Good) (hn : allPlans B ≠ []) : allPlans X ≠ [] := by
  intro e
  have := easier_plans h g g'
  rw [e] at this
  exact hn (List.eq_nil_of_length_eq_zero (by simpa using this))
theorem Easier.refl (B : BookV) : Easier B B := ⟨rfl, rfl, rfl, rfl, rfl, Int.le_refl _, Int.le_refl _, Int.le_refl _, Nat.le_refl _, fun _ _ => Int.le_refl _, fun _ _ _ _ => Int.le_refl _⟩
/-- a book in which a player is late between two numbers, its players elsewhere -/
def bookHeld (B : BookV) (g c j : Nat) (lo hi : Int) : BookV := { B with pA := some ⟨g, 0, none⟩, pCap := c, players := setL B.players j lo hi }
theorem bookHeld_good {B : BookV} (g : B.Good) {j : Nat} (hj : j < B.players.length) {lo hi : Int} (hk : 0 ≤ lo ∧ lo ≤ hi ∧ hi ≤ 500) (gg c : Nat) : (bookHeld B gg c j lo hi).Good := by
  have hl : (bookHeld B gg c j lo hi).players.length = B.players.length := setL_len _ _ _ _
  refine ⟨g.parts, g.size, g.beatsLen, g.start, g.fin, g.time, g.slip, g.notice, by rw [hl]; exact g.many, g.beats, ?_, ?_, ?_⟩
  · intro i hi
    rw [hl] at hi
    rw [show (bookHeld B gg c j lo _).players = setL B.players j lo _ from rfl, gp_set _ _ _ _ _ hj]
    split
    · exact hk
    · exact g.late i hi
  · intro i hi
    rw [hl] at hi
    rw [show (bookHeld B gg c j lo _).players = setL B.players j lo _ from rfl, gp_set _ _ _ _ _ hj]
    split
    · exact g.catchLen j hj
    · exact g.catchLen i hi
  · intro i hi
    rw [hl] at hi
    rw [show (bookHeld B gg c j lo _).players = setL B.players j lo _ from rfl, gp_set _ _ _ _ _ hj]
    split
    · exact g.catches j hj
    · exact g.catches i hi
/-- the upper end alone counts -/
theorem easier_set {B X : BookV} (h : Easier B X) {j : Nat} (hj : j < X.players.length) {a b c d : Int} (hbd : d ≤ b) (p q : Option Addr) (m n : Nat) :
    Easier { B with pA := p, pCap := m, players := setL B.players j a b } { X with pA := q, pCap := n, players := setL X.players j c d } := by
  have hj' : j < B.players.length := Nat.lt_of_lt_of_le hj h.many
  refine ⟨h.parts, h.size, h.beats, h.start, h.fin, h.tlo, h.thi, h.shi, by simp only [setL_len]; exact h.many, ?_, ?_⟩
  · intro i hi
    simp only [setL_len] at hi
    simp only [gp_set _ _ _ _ _ hj, gp_set _ _ _ _ _ hj']
    split
    · exact hbd
    · exact h.late i hi
  · intro i hi k hk
    simp only [setL_len] at hi
    simp only [gp_set _ _ _ _ _ hj, gp_set _ _ _ _ _ hj']
    split
    · rename_i e; subst e; exact h.catches i hi k hk
    · exact h.catches i hi k hk
theorem has_iff {B : BookV} {j : Nat} {k : Int} : hasPlan B j k = true ↔ allPlans (bookLate B j k) ≠ [] := by
  unfold hasPlan
  cases allPlans (bookLate B j k) <;> simp
theorem has_mono {B : BookV} (g : B.Good) {j : Nat} (hj : j < B.players.length) {k k' : Int} (h0 : 0 ≤ k) (hk : k ≤ k') (h5 : k' ≤ 500) (h : hasPlan B j k' = true) : hasPlan B j k = true := by
  rw [has_iff] at h ⊢
  exact easier_some (easier_set (Easier.refl B) hj hk B.pA B.pA B.pCap B.pCap) (bookLate_good g hj (by omega)) (bookLate_good g hj (by omega)) h
theorem held_plans {B : BookV} (g : B.Good) {j : Nat} (hj : j < B.players.length) {lo hi : Int} (hk : 0 ≤ lo ∧ lo ≤ hi ∧ hi ≤ 500) (gg c : Nat) : allPlans (bookHeld B gg c j lo hi) ≠ [] ↔ hasPlan B j hi = true := by
  rw [has_iff]
  constructor
  · exact easier_some (easier_set (Easier.refl B) hj (Int.le_refl _) _ _ _ _) (bookHeld_good g hj hk gg c) (bookLate_good g hj (by omega))
  · exact easier_some (easier_set (Easier.refl B) hj (Int.le_refl _) _ _ _ _) (bookLate_good g hj (by omega)) (bookHeld_good g hj hk gg c)
theorem self_plans {B : BookV} (g : B.Good) {j : Nat} (hj : j < B.players.length) : allPlans B ≠ [] ↔ hasPlan B j (gp B.players j).hi = true := by
  have hl := g.late j hj
  have := held_plans g hj (lo := (gp B.players j).lo) (hi := (gp B.players j).hi) hl 0 0
  rw [← this]
  unfold bookHeld
  rw [setL_self _ _ hj]
  exact Iff.of_eq (congrArg (· ≠ []) (allPlans_at B (some ⟨0, 0, none⟩) 0).symm)
/-- what the search finds -/
theorem findS_spec (has : Int → Bool) : ∀ (n : Nat) (f u : Int), f ≤ u → u - f ≤ n → has f = true → (u = 500 ∨ has (u + 1) = false) →
    f ≤ findS has n f u ∧ findS has n f u ≤ u ∧ has (findS has n f u) = true ∧ (findS has n f u = 500 ∨ has (findS has n f u + 1) = false)
  | 0, f, u, h1, h2, h3, h4 => by
    obtain rfl : f = u := by omega
    exact ⟨Int.le_refl _, Int.le_refl _, h3, h4⟩
  | n + 1, f, u, h1, h2, h3, h4 => by
    rw [findS]
    by_cases he : f = u
    · rw [if_pos he]; subst he; exact ⟨Int.le_refl _, Int.le_refl _, h3, h4⟩
    · rw [if_neg he]
      cases hm : has ((f + u + 1) / 2) with
      | true =>
        rw [if_pos rfl]
        have := findS_spec has n ((f + u + 1) / 2) u (by omega) (by omega) hm h4
        exact ⟨by omega, this.2⟩
      | false =>
        rw [if_neg (by simp)]
        have := findS_spec has n f ((f + u + 1) / 2 - 1) (by omega) (by omega) h3 (.inr (by rw [show (f + u + 1) / 2 - 1 + 1 = (f + u + 1) / 2 by omega]; exact hm))
        exact ⟨this.1, by omega, this.2.2⟩
theorem bound_some {B : BookV} (g : B.Good) {j : Nat} (hj : j < B.players.length) (h0 : hasPlan B j 0 = true) :
    ∃ n : Int, 0 ≤ n ∧ n ≤ 500 ∧ boundR B j = two n 0 ∧ ∀ k, 0 ≤ k → k ≤ 500 → (hasPlan B j k = true ↔ k ≤ n) := by
  have hs := findS_spec (hasPlan B j) 500 0 500 (by omega) (by omega) h0 (.inl rfl)
  refine ⟨findS (hasPlan B j) 500 0 500, hs.1, hs.2.1, ?_, fun k hk h5 => ⟨fun h => ?_, fun h => has_mono g hj hk h hs.2.1 hs.2.2.1⟩⟩
  · unfold boundR
    rw [(goodB_iff B).2 g, inB_iff.2 (by omega), Int.toNat_natCast, h0]
    rfl
  · rcases hs.2.2.2 with h1 | h1
    · omega
    · by_cases hh : k ≤ findS (hasPlan B j) 500 0 500
      · exact hh
      · have := has_mono g hj (show 0 ≤ findS (hasPlan B j) 500 0 500 + 1 by omega) (by omega) h5 h
        rw [h1] at this; cases this
theorem bound_none {B : BookV} (g : B.Good) {j : Nat} (hj : j < B.players.length) (h0 : hasPlan B j 0 = false) :
    boundR B j = two 0 4 ∧ ∀ k, 0 ≤ k → k ≤ 500 → hasPlan B j k = false := by
  constructor
  · unfold boundR
    rw [(goodB_iff B).2 g, inB_iff.2 (by omega), Int.toNat_natCast, h0]
    rfl
  · intro k hk h5
    cases h : hasPlan B j k with
    | false => rfl
    | true => have := has_mono g hj (Int.le_refl _) hk h5 h; rw [h0] at this; cases this
/-- what Plan returns -/
theorem PlanR_some {B : BookV} {e : Ending} {w : World} (h : PlanR B e w) (g : B.Good) (hs : bestOf (allPlans B) ≠ none) : ∃ A n c, e = .returned (.tuple #[.slice A n c, .int .i64 0]) := by
  rcases h with ⟨h1, _⟩ | ⟨_, h1, _⟩ | ⟨_, q, A, _, rfl, _⟩
  · rw [(goodB_iff B).2 g] at h1; cases h1
  · exact absurd h1 hs
  · exact ⟨_, _, _, rfl⟩
theorem PlanR_none {B : BookV} {e : Ending} {w : World} (h : PlanR B e w) (g : B.Good) (hs : bestOf (allPlans B) = none) : e = .returned (.tuple #[.slice none 0 0, .int .i64 4]) := by
  rcases h with ⟨h1, _⟩ | ⟨_, h1, rfl⟩ | ⟨_, q, A, h1, _⟩
  · rw [(goodB_iff B).2 g] at h1; cases h1
  · rfl
  · rw [hs] at h1; cases h1
theorem bestOf_none (l : List (List Int)) : bestOf l = none ↔ l = [] := by
  constructor
  · intro h
    cases l with
    | nil => rfl
    | cons p l =>
      exfalso
      have key : ∀ (l : List (List Int)) (b : Option (List Int)), b ≠ none → l.foldl bestStep b ≠ none := by
        intro l
        induction l with
        | nil => intro b hb; exact hb
        | cons q l ih =>
          intro b hb
          rw [List.foldl_cons]
          refine ih _ ?_
          cases b with
          | none => exact absurd rfl hb
          | some x => simp only [bestStep]; split <;> simp
      unfold bestOf at h
      rw [List.foldl_cons] at h
      exact key l _ (by simp [bestStep]) h
  · rintro rfl; rfl
end Go.Proofs.YtljikigmfkfkiaaDoor
