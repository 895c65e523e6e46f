import Derived.Test.YtljikigmfkfkiaaDoorAC
namespace Go.Proofs.YtljikigmfkfkiaaDoor
open Go.RowKit Go.Shelf
set_option linter.unusedSimpArgs false
set_option linter.unusedVariables false

/-! All plans: none is left out, and they stand in their order. -/
theorem gi_take {p : List Int} {n k : Nat} (h : k < n) : gi (p.take n) k = gi p k := by
  unfold gi; rw [List.getD_eq_getElem?_getD, List.getD_eq_getElem?_getD, List.getElem?_take, if_pos h]
theorem take_next {p : List Int} {k : Nat} (h : k < p.length) : p.take (k + 1) = p.take k ++ [gi p k] := by
  rw [List.take_add_one]; simp [gi, h]
theorem pathsFrom_all {B : BookV} {path : List Int} (hp : IsPath B path) : ∀ n k, k + 1 + n = path.length → path ∈ pathsFrom n (path.take (k + 1))
  | 0, k, h => by
    unfold pathsFrom; rw [List.take_of_length_le (by omega)]; simp
  | n + 1, k, h => by
    have ih := pathsFrom_all hp n (k + 1) (by omega)
    rw [take_next (show k + 1 < path.length by omega)] at ih
    have hr := hp.range (k + 1) (by omega)
    have hs := hp.step (k + 1) (by omega) (by omega)
    obtain ⟨m, hm⟩ := Int.eq_ofNat_of_zero_le hr.1
    rw [hm] at ih hs
    unfold pathsFrom
    rw [List.mem_flatMap]
    refine ⟨m, List.mem_range.2 (by omega), ?_⟩
    have hl : (path.take (k + 1)).length - 1 = k := by simp; omega
    have hi : inB ((m : Int) - gi (path.take (k + 1)) ((path.take (k + 1)).length - 1)) (-1) 1 = true := by
      rw [hl, gi_take (by omega)]; unfold inB; simp only [Nat.add_sub_cancel] at hs; simp; omega
    rw [hi, cond_true]
    exact ih
theorem mem_allPlans {B : BookV} (g : B.Good) {path : List Int} (hp : IsPath B path) (h : isPlanS B path = true) : path ∈ allPlans B := by
  unfold allPlans plansFrom
  rw [List.mem_filter]
  refine ⟨?_, h⟩
  have hl := hp.len
  have hpp := g.parts
  have := pathsFrom_all hp (B.parts.toNat - 1) 0 (by omega)
  rw [take_next (show 0 < path.length by omega), List.take_zero, hp.start] at this
  exact this
/-- one list comes before another one, of as many numbers -/
def Before (a b : List Int) : Prop := ∃ i, (∀ j, j < i → gi a j = gi b j) ∧ gi a i < gi b i
theorem pathsFrom_ext : ∀ (n : Nat) (p x : List Int), x ∈ pathsFrom n p → x.length = p.length + n ∧ ∀ j, j < p.length → gi x j = gi p j
  | 0, p, x, h => by unfold pathsFrom at h; simp at h; subst h; exact ⟨rfl, fun _ _ => rfl⟩
  | n + 1, p, x, h => by
    unfold pathsFrom at h
    rw [List.mem_flatMap] at h
    obtain ⟨k, _, hx⟩ := h
    cases hi : inB ((k : Int) - gi p (p.length - 1)) (-1) 1 with
    | false => rw [hi] at hx; simp at hx
    | true =>
      rw [hi, cond_true] at hx
      obtain ⟨h1, h2⟩ := pathsFrom_ext n _ x hx
      rw [List.length_append] at h1 h2
      exact ⟨by simp at h1; omega, fun j hj => by rw [h2 j (by simp; omega), gi_snoc_lt _ _ _ hj]⟩
theorem pathsFrom_kid {n k : Nat} {p x : List Int} (h : x ∈ (bif inB ((k : Int) - gi p (p.length - 1)) (-1) 1 then pathsFrom n (p ++ [(k : Int)]) else [])) : (∀ j, j < p.length → gi x j = gi p j) ∧ gi x p.length = k := by
  cases hi : inB ((k : Int) - gi p (p.length - 1)) (-1) 1 with
  | false => rw [hi] at h; simp at h
  | true =>
    rw [hi, cond_true] at h
    obtain ⟨_, h2⟩ := pathsFrom_ext n _ x h
    rw [List.length_append] at h2
    exact ⟨fun j hj => by rw [h2 j (by simp; omega), gi_snoc_lt _ _ _ hj], by rw [h2 p.length (by simp), gi_snoc_at]⟩
theorem pathsFrom_sorted : ∀ (n : Nat) (p : List Int), (pathsFrom n p).Pairwise Before
  | 0, p => by unfold pathsFrom; simp
  | n + 1, p => by
    unfold pathsFrom
    rw [List.pairwise_flatMap]
    constructor
    · intro k _
      cases inB ((k : Int) - gi p (p.length - 1)) (-1) 1 with
      | false => simp
      | true => exact pathsFrom_sorted n _
    · refine List.Pairwise.imp ?_ (List.pairwise_lt_range (n := 4))
      intro a b hab x hx y hy
      obtain ⟨h1, h2⟩ := pathsFrom_kid hx
      obtain ⟨h3, h4⟩ := pathsFrom_kid hy
      exact ⟨p.length, fun j hj => by rw [h1 j hj, h3 j hj], by rw [h2, h4]; omega⟩
theorem allPlans_sorted (B : BookV) : (allPlans B).Pairwise Before := by
  unfold allPlans plansFrom; exact (pathsFrom_sorted _ _).filter _
/-- the best so far -/
def BestInv (pre : List (List Int)) : Option (List Int) → Prop
  | none => pre = []
  | some q => q ∈ pre ∧ ∀ p ∈ pre, changesTo q (q.length - 1) ≤ changesTo p (p.length - 1) ∧ (changesTo q (q.length - 1) = changesTo p (p.length - 1) → p = q ∨ Before q p)
theorem bestInv_step {pre : List (List Int)} {b : Option (List Int)} {x : List Int} (h : BestInv pre b) (hs : ∀ p ∈ pre, Before p x) : BestInv (pre ++ [x]) (bestStep b x) := by
  cases b with
  | none =>
    have : pre = [] := h
    subst this
    exact ⟨by simp, fun p hp => by simp at hp; subst hp; exact ⟨Nat.le_refl _, fun _ => .inl rfl⟩⟩
  | some q =>
    obtain ⟨h1, h2⟩ := h
    unfold bestStep
    by_cases hc : changesTo x (x.length - 1) < changesTo q (q.length - 1)
    · simp only [hc, if_true]
      refine ⟨by simp, fun p hp => ?_⟩
      rw [List.mem_append] at hp
      rcases hp with hp | hp
      · have := (h2 p hp).1; exact ⟨by omega, fun e => by omega⟩
      · simp at hp; subst hp; exact ⟨Nat.le_refl _, fun _ => .inl rfl⟩
    · simp only [hc, if_false]
      refine ⟨by simp [h1], fun p hp => ?_⟩
      rw [List.mem_append] at hp
      rcases hp with hp | hp
      · exact h2 p hp
      · simp at hp; subst hp; exact ⟨by omega, fun _ => .inr (hs q h1)⟩
theorem bestInv_fold : ∀ (l pre : List (List Int)) (b : Option (List Int)), BestInv pre b → (pre ++ l).Pairwise Before → BestInv (pre ++ l) (l.foldl bestStep b)
  | [], pre, b, h, _ => by simpa using h
  | x :: l, pre, b, h, hp => by
    have e : pre ++ x :: l = (pre ++ [x]) ++ l := by simp
    rw [e] at hp ⊢
    refine bestInv_fold l (pre ++ [x]) (bestStep b x) (bestInv_step h ?_) hp
    intro p hm
    have := (List.pairwise_append.1 (List.pairwise_append.1 hp).1).2.2
    exact this p hm x (by simp)
theorem best_inv (B : BookV) : BestInv (allPlans B) (bestOf (allPlans B)) := by
  have := bestInv_fold (allPlans B) [] none rfl (by simpa using allPlans_sorted B)
  simpa [bestOf] using this
theorem best_some {B : BookV} (g : B.Good) {path : List Int} (hp : IsPath B path) (h : isPlanS B path = true) :
    ∃ q, bestOf (allPlans B) = some q ∧ q ∈ allPlans B ∧ (changesTo q (q.length - 1) < changesTo path (path.length - 1) ∨ (changesTo q (q.length - 1) = changesTo path (path.length - 1) ∧ (path = q ∨ Before q path))) := by
  have hm := mem_allPlans g hp h
  have hb := best_inv B
  cases he : bestOf (allPlans B) with
  | none => rw [he] at hb; rw [show allPlans B = [] from hb] at hm; simp at hm
  | some q =>
    rw [he] at hb
    obtain ⟨h1, h2⟩ := hb
    obtain ⟨h3, h4⟩ := h2 path hm
    refine ⟨q, rfl, h1, ?_⟩
    rcases Nat.lt_or_eq_of_le h3 with h5 | h5
    · exact .inl h5
    · exact .inr ⟨h5, h4 h5⟩
theorem best_none {B : BookV} (h : bestOf (allPlans B) = none) : allPlans B = [] := by
  have hb := best_inv B
  rw [h] at hb
  exact hb
end Go.Proofs.YtljikigmfkfkiaaDoor
