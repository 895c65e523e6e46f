import Derived.Test.YtljikigmfkfkiaaDoorAM
import Derived.Test.YtljikigmfkfkiaaDoorBD
import Derived.Test.YtljikigmfkfkiaaDoorBG
import Derived.Maps.AppendAt
namespace Go.Proofs.YtljikigmfkfkiaaDoor
open Go.RowKit Go.Shelf
set_option linter.unusedSimpArgs false
set_option linter.unusedVariables false

/-! Several slices of the call's own; and what a listener knows who heard some of the marks. -/
def Off (v u : Value) : Prop := ∀ k, v.ownBlock = some k → u.ownBlock ≠ some k
theorem Off.symm {v u : Value} (h : Off v u) : Off u v := fun k hu hv => h k hv hu
theorem Off.nil (u : Value) : Off (.slice none 0 0) u := fun k h => by simp [Value.ownBlock] at h
/-- append of one number beside other slices of the call's own -/
theorem wpList_app1a {ops : Array Oper} {rest : List Oper} {o : Oper} {a : Act} {Q : Exit → Act → World → Prop} (w : World) (hgd : o.guard = none) (s x : Operand)
    (ho : o.op = .call { callee := .builtin .append, args := #[s, x], argTypes := #[22, 22] })
    (base : Nat) (v : Value) (xs : List Int) (hs : a.eval s = v) (hown : OwnInts w base v xs)
    (g c : Nat) (n : Int) (hx : a.eval x = .slice (some ⟨g, 0, none⟩) 1 c) (hc : w.cell? ⟨g, 0, none⟩ = some (.int .i64 n)) (hlen : xs.length ≤ 1000000) (hbase : base ≤ w.heap.size)
    (h : ∀ v' w', OwnInts w' base v' (xs ++ [n]) → Below base w w' → w.heap.size ≤ w'.heap.size → (∀ u ys, OwnInts w base u ys → Off v u → OwnInts w' base u ys ∧ Off v' u) → wpList Tryd.prog ops Q rest (a.put o.dst v') w') : wpList Tryd.prog ops Q (o :: rest) a w := by
  obtain ⟨i0, hi, hz0, hz1, hz2⟩ := info_parts info3
  refine wpList_append_own_at w hgd s x 22 ho base 3 i0 (.int .i64 0) 1 8 under22 hi hz0 hz1 hz2 rfl (by decide) v xs.length (xs.map (Value.int .i64)) hs hown ⟨g, 0, none⟩ 1 c [.int .i64 n] hx rfl ?_ ?_ (by unfold maxLen; omega) (by omega) hbase ?_
  · intro j u hj
    match j, hj with
    | 0, hj => simp at hj; subst hj; simpa [Addr.add] using hc
  · intro u hu; simp at hu; subst hu; rfl
  · intro v' w' h1 h2 _ hat
    refine h v' w' ?_ ((Below.refl _ _).grown h2 hbase fun k hk => (World.ownsRow.lt hown k hk).1) h2.size fun u ys hu hoff => ⟨World.ownsRow.kept hu h2 ?_, ?_⟩
    · unfold OwnInts
      rw [List.length_append, List.map_append]
      exact h1
    · cases e : u.ownBlock with
      | none => exact .inl rfl
      | some k => exact .inr (fun e2 => hoff k e2.symm e)
    · intro k hk hu2
      rcases hat with e | e
      · exact hoff k (e ▸ hk) hu2
      · rw [e] at hk
        have := (World.ownsRow.lt hu k hu2).2
        simp at hk; omega

theorem met_fold (heard : List Int) (part : Nat) (x : Int) : ∀ (l : List (List Int)) (ls : List Int), x ∈ l.foldl (metStep heard part) ls ↔ x ∈ ls ∨ ∃ p ∈ l, fitsTo p heard heard.length = true ∧ gi p part = x
  | [], ls => by simp
  | p :: l, ls => by
    rw [List.foldl_cons, met_fold heard part x l]
    have : x ∈ metStep heard part ls p ↔ x ∈ ls ∨ (fitsTo p heard heard.length = true ∧ gi p part = x) := by
      unfold metStep
      by_cases h : fitsTo p heard heard.length = true
      · rw [if_pos h]
        by_cases h2 : gi p part ∈ ls
        · rw [if_pos h2]
          constructor
          · exact .inl
          · rintro (h3 | ⟨_, rfl⟩)
            · exact h3
            · exact h2
        · rw [if_neg h2, List.mem_append, List.mem_singleton]
          constructor
          · rintro (h3 | h3)
            · exact .inl h3
            · exact .inr ⟨h, h3.symm⟩
          · rintro (h3 | ⟨_, h3⟩)
            · exact .inl h3
            · exact .inr h3.symm
      · rw [if_neg h]
        constructor
        · exact .inl
        · rintro (h3 | ⟨h3, _⟩)
          · exact h3
          · exact absurd h3 h
    rw [this]
    constructor
    · rintro ((h | h) | ⟨q, h1, h2⟩)
      · exact .inl h
      · exact .inr ⟨p, by simp, h⟩
      · exact .inr ⟨q, by simp [h1], h2⟩
    · rintro (h | ⟨q, h1, h2⟩)
      · exact .inl (.inl h)
      · rcases List.mem_cons.1 h1 with rfl | h1
        · exact .inl (.inr h2)
        · exact .inr ⟨q, h1, h2⟩
theorem mem_met (heard : List Int) (part : Nat) (x : Int) (l : List (List Int)) : x ∈ metOf heard part l ↔ ∃ p ∈ l, fitsTo p heard heard.length = true ∧ gi p part = x := by
  unfold metOf; rw [met_fold]; simp
theorem mem_knows (B : BookV) (heard : List Int) (part : Nat) (x : Int) : x ∈ knowsTo B heard part 4 ↔ (0 ≤ x ∧ x < 4) ∧ x ∈ metOf heard part (allPlans B) := by
  unfold knowsTo
  simp only [List.mem_map, List.mem_filter, List.mem_range, decide_eq_true_eq]
  constructor
  · rintro ⟨k, ⟨h1, h2⟩, rfl⟩
    exact ⟨⟨by simp, by simp; omega⟩, h2⟩
  · rintro ⟨⟨h1, h2⟩, h3⟩
    obtain ⟨k, rfl⟩ := Int.eq_ofNat_of_zero_le h1
    exact ⟨k, ⟨by omega, h3⟩, rfl⟩
/-- what was heard, where only some marks were -/
def lostL (path : List Int) (keep : Nat → Bool) (m : Nat) : List Int := (List.range m).map fun j => bif keep j then gi path (j + 1) - gi path j else -2
theorem lostL_succ (path : List Int) (keep : Nat → Bool) (m : Nat) : lostL path keep (m + 1) = lostL path keep m ++ [bif keep m then gi path (m + 1) - gi path m else -2] := by
  unfold lostL; rw [List.range_succ, List.map_append]; rfl
theorem lostL_len (path : List Int) (keep : Nat → Bool) (m : Nat) : (lostL path keep m).length = m := by unfold lostL; simp
theorem gi_lost (path : List Int) (keep : Nat → Bool) {m j : Nat} (h : j < m) : gi (lostL path keep m) j = bif keep j then gi path (j + 1) - gi path j else -2 := by
  unfold lostL gi
  rw [List.getD_eq_getElem?_getD, List.getElem?_map, List.getElem?_range h]
  rfl
theorem path_step1 {B : BookV} {path : List Int} (ip : IsPath B path) {j : Nat} (h : j + 1 < path.length) : -1 ≤ gi path (j + 1) - gi path j ∧ gi path (j + 1) - gi path j ≤ 1 := by
  have := ip.step (j + 1) (by omega) h
  simp only [Nat.add_sub_cancel] at this
  omega
theorem fits_lost {B : BookV} {path : List Int} (ip : IsPath B path) {n : Nat} (hn : path.length = n + 1) (keep : Nat → Bool) (p : List Int) :
    fitsTo p (lostL path keep n) (lostL path keep n).length = true ↔ ∀ j, j < n → keep j = true → gi p (j + 1) - gi p j = gi path (j + 1) - gi path j := by
  rw [lostL_len]
  unfold fitsTo
  rw [List.all_eq_true]
  constructor
  · intro h j hj hk
    have := h j (by simpa using hj)
    unfold hitB at this
    rw [gi_lost _ _ hj, hk, cond_true, Bool.or_eq_true, beq_iff_eq, beq_iff_eq] at this
    have hs := path_step1 ip (show j + 1 < path.length by omega)
    rcases this with h1 | h1
    · omega
    · exact h1
  · intro h j hj
    have hj' : j < n := by simpa using hj
    unfold hitB
    rw [gi_lost _ _ hj', Bool.or_eq_true, beq_iff_eq, beq_iff_eq]
    cases hk : keep j with
    | false => exact .inl rfl
    | true => exact .inr (h j hj' hk)
theorem same_path {B : BookV} {p path : List Int} (hp : IsPath B p) (ip : IsPath B path) {n : Nat} (h : ∀ j, j < n → gi p (j + 1) - gi p j = gi path (j + 1) - gi path j) : ∀ k, k ≤ n → gi p k = gi path k
  | 0, _ => by rw [hp.start, ip.start]
  | k + 1, hk => by
    have h1 := same_path hp ip h k (by omega)
    have h2 := h k (by omega)
    omega
theorem knows_true {B : BookV} (g : B.Good) {path : List Int} (hm : path ∈ allPlans B) {n : Nat} (hn : path.length = n + 1) (keep : Nat → Bool) {k : Nat} : gi path k ∈ knowsTo B (lostL path keep n) k 4 := by
  have ip := (allPlans_mem g hm).1
  rw [mem_knows, mem_met]
  have := gi_path ip k
  exact ⟨by omega, path, hm, (fits_lost ip hn keep path).2 fun _ _ _ => rfl, rfl⟩
theorem knows_mono {B : BookV} (g : B.Good) {path : List Int} (hm : path ∈ allPlans B) {n : Nat} (hn : path.length = n + 1) {k1 k2 : Nat → Bool} (hk : ∀ j, k1 j = true → k2 j = true) {k : Nat} {x : Int}
    (h : x ∈ knowsTo B (lostL path k2 n) k 4) : x ∈ knowsTo B (lostL path k1 n) k 4 := by
  have ip := (allPlans_mem g hm).1
  rw [mem_knows, mem_met] at h ⊢
  obtain ⟨h1, p, h2, h3, h4⟩ := h
  exact ⟨h1, p, h2, (fits_lost ip hn k1 p).2 fun j hj hkj => (fits_lost ip hn k2 p).1 h3 j hj (hk j hkj), h4⟩
theorem knows_all {B : BookV} (g : B.Good) {path : List Int} (hm : path ∈ allPlans B) {n : Nat} (hn : path.length = n + 1) {k : Nat} (hk : k ≤ n) : knowsTo B (lostL path (fun _ => true) n) k 4 = [gi path k] := by
  have ip := (allPlans_mem g hm).1
  have hr := gi_path ip k
  obtain ⟨d, hd⟩ := Int.eq_ofNat_of_zero_le hr.1
  have key : ∀ l : Nat, decide ((l : Int) ∈ metOf (lostL path (fun _ => true) n) k (allPlans B)) = (l == d) := by
    intro l
    rw [Bool.eq_iff_iff, decide_eq_true_eq, beq_iff_eq, mem_met]
    constructor
    · rintro ⟨p, h1, h2, h3⟩
      have := same_path (allPlans_mem g h1).1 ip (fun j hj => (fits_lost ip hn _ p).1 h2 j hj rfl) k hk
      omega
    · rintro rfl
      exact ⟨path, hm, (fits_lost ip hn _ path).2 fun _ _ _ => rfl, hd⟩
  unfold knowsTo
  rw [hd, show (fun l : Nat => decide ((l : Int) ∈ metOf (lostL path (fun _ => true) n) k (allPlans B))) = fun l => l == d from funext key]
  have : d = 0 ∨ d = 1 ∨ d = 2 ∨ d = 3 := by omega
  rcases this with rfl | rfl | rfl | rfl <;> rfl
theorem knows_asks {B : BookV} {path : List Int} (ip : IsPath B path) {n : Nat} (hn : path.length = n + 1) (keep : Nat → Bool) {k : Nat} (hk : k ≤ n) : knowsAsk B (lostL path keep n) k = true := by
  have hl := ip.len
  unfold knowsAsk knowsHead
  rw [Bool.and_eq_true, Bool.and_eq_true, lostL_len, inB_iff, beq_iff_eq]
  refine ⟨⟨by omega, by omega⟩, ?_⟩
  unfold heardTo
  rw [List.all_eq_true]
  intro j hj
  have hj' : j < n := by simpa using hj
  rw [gi_lost _ _ hj', inB_iff]
  have hs := path_step1 ip (show j + 1 < path.length by omega)
  cases keep j with
  | false => simp
  | true => rw [cond_true]; omega
theorem KnowsR_ok {B : BookV} {heard : List Int} {k : Nat} {e : Ending} {w : World} {x : Int} (h : KnowsR B heard k e w) (hg : goodB B = true) (ha : knowsAsk B heard k = true) (hx : x ∈ knowsTo B heard k 4) :
    ∃ A, e = .returned (.tuple #[.slice A (knowsTo B heard k 4).length (knowsTo B heard k 4).length, .int .i64 0]) ∧ IntsAt w A (knowsTo B heard k 4) := by
  rcases h with ⟨h1, _⟩ | ⟨_, h1, _⟩ | ⟨_, _, h1, _⟩ | ⟨_, _, _, A, h1, h2⟩
  · rw [hg] at h1; cases h1
  · rw [ha] at h1; cases h1
  · simp only [Int.toNat_natCast] at h1; rw [h1] at hx; simp at hx
  · simp only [Int.toNat_natCast] at h1 h2
    exact ⟨A, h1, h2⟩
theorem KnowsR_no {B : BookV} {heard : List Int} {k : Nat} {e : Ending} {w : World} (h : KnowsR B heard k e w) (hg : goodB B = true) (ha : knowsAsk B heard k = true) (hn : allPlans B = []) :
    e = .returned (.tuple #[.slice none 0 0, .int .i64 4]) := by
  rcases h with ⟨h1, _⟩ | ⟨_, h1, _⟩ | ⟨_, _, _, h1⟩ | ⟨_, _, h1, _⟩
  · rw [hg] at h1; cases h1
  · rw [ha] at h1; cases h1
  · exact h1
  · refine absurd (List.eq_nil_iff_forall_not_mem.2 fun x hx => ?_) h1
    simp only [Int.toNat_natCast, mem_knows, mem_met, hn] at hx
    obtain ⟨_, p, hp, _⟩ := hx
    simp at hp
end Go.Proofs.YtljikigmfkfkiaaDoor
