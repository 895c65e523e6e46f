import Derived.Test.YtgfbfbfajnfbjaaDoorBP
import Derived.Test.YtgfbfbfajnfbjaaDoorAA
namespace Go.Proofs.YtgfbfbfajnfbjaaDoor
section
set_option linter.unusedSimpArgs false
set_option linter.unusedVariables false
/-! The looks that must be wrong: the fewest, and of these the first, with no program in sight. -/
/-- increasing places from a first one on, below n -/
def Asc (n : Nat) : Nat → List Int → Prop
  | _, [] => True
  | frm, x :: e => ∃ k : Nat, x = k ∧ frm ≤ k ∧ k < n ∧ Asc n (k + 1) e
def bitsN : List Int → Nat
  | [] => 0
  | x :: e => 2 ^ x.toNat + bitsN e
theorem bitsN_cons (x : Int) (e : List Int) : bitsN (x :: e) = 2 ^ x.toNat + bitsN e := rfl
def SoonL : List Int → List Int → Prop
  | x :: a, y :: b => x < y ∨ (x = y ∧ SoonL a b)
  | _, _ => False
theorem Asc.weaken {n : Nat} {f g : Nat} (h : g ≤ f) : ∀ {e : List Int}, Asc n f e → Asc n g e
  | [], _ => trivial
  | x :: e, ⟨k, a, b, c, d⟩ => ⟨k, a, Nat.le_trans h b, c, d⟩
def PickSpec (B : ForgeV) (frm r : Nat) (l : List Int) (set : Int) (o : Option (List Int)) : Prop :=
  (o = none ∧ ∀ e, e.length = r → Asc B.looks.length frm e → canS B (set + bitsN e) = false) ∨
  (∃ e, e.length = r ∧ Asc B.looks.length frm e ∧ o = some (l ++ e) ∧ canS B (set + bitsN e) = true ∧ ∀ e', e'.length = r → Asc B.looks.length frm e' → SoonL e' e → canS B (set + bitsN e') = false)
theorem pick_inner (B : ForgeV) (r : Nat) (l : List Int) (set : Int) (ih : ∀ k : Nat, PickSpec B (k + 1) r (l ++ [(k : Int)]) (set + 2 ^ k) (pkid B r l set k)) : ∀ (m frm : Nat), frm + m = B.looks.length → PickSpec B frm (r + 1) l set ((List.range' frm m).findSome? (pkid B r l set))
  | 0, frm, hm => .inl ⟨rfl, fun e he ha => by
      cases e with
      | nil => simp at he
      | cons x e => obtain ⟨k, _, h1, h2, _⟩ := ha; omega⟩
  | m + 1, frm, hm => by
    have hin := pick_inner B r l set ih m (frm + 1) (by omega)
    have add : ∀ e1 : List Int, set + ((bitsN ((frm : Int) :: e1) : Nat) : Int) = set + 2 ^ frm + (bitsN e1 : Nat) := fun e1 => by
      rw [bitsN_cons, Int.toNat_natCast]
      push_cast
      omega
    rw [List.range'_succ, List.findSome?_cons]
    rcases ih frm with ⟨h0, h1⟩ | ⟨e1, h0, h1, h2, h3, h4⟩
    · rw [h0]
      simp only
      have hhead : ∀ e, e.length = r + 1 → Asc B.looks.length frm e → (∃ e1, e = (frm : Int) :: e1) ∨ Asc B.looks.length (frm + 1) e := by
        intro e he ha
        cases e with
        | nil => simp at he
        | cons x e =>
          obtain ⟨k, rfl, ha1, ha2, ha3⟩ := ha
          rcases Nat.eq_or_lt_of_le ha1 with hk | hk
          · subst hk; exact .inl ⟨e, rfl⟩
          · exact .inr ⟨k, rfl, hk, ha2, ha3⟩
      have hno : ∀ e1, ((frm : Int) :: e1).length = r + 1 → Asc B.looks.length frm ((frm : Int) :: e1) → canS B (set + bitsN ((frm : Int) :: e1)) = false := by
        intro e1 he ha
        obtain ⟨k, hk, _, _, ha3⟩ := ha
        obtain rfl : frm = k := by omega
        rw [add]
        exact h1 e1 (by simpa using he) ha3
      rcases hin with ⟨g0, g1⟩ | ⟨e, g0, g1, g2, g3, g4⟩
      · refine .inl ⟨g0, fun e he ha => ?_⟩
        rcases hhead e he ha with ⟨e1, rfl⟩ | ha'
        · exact hno e1 he ha
        · exact g1 e he ha'
      · refine .inr ⟨e, g0, g1.weaken (Nat.le_succ _), g2, g3, fun e' he ha hs => ?_⟩
        rcases hhead e' he ha with ⟨e1, rfl⟩ | ha'
        · exact hno e1 he ha
        · exact g4 e' he ha' hs
    · rw [h2]
      simp only
      have hlt : frm < B.looks.length := by omega
      refine .inr ⟨(frm : Int) :: e1, by simpa using h0, ⟨frm, rfl, Nat.le_refl _, hlt, h1⟩, by simp, by rw [add]; exact h3, fun e' he ha hs => ?_⟩
      cases e' with
      | nil => simp at he
      | cons x e' =>
        obtain ⟨k, rfl, ha1, ha2, ha3⟩ := ha
        rcases hs with hs | ⟨hs, hs'⟩
        · omega
        · obtain rfl : k = frm := by omega
          rw [add]
          exact h4 e' (by simpa using he) ha3 hs'
theorem pick_spec (B : ForgeV) : ∀ (r frm : Nat) (l : List Int) (set : Int), PickSpec B frm r l set (pick B r frm l set)
  | 0, frm, l, set => by
    unfold pick
    have h0 : ∀ e : List Int, e.length = 0 → e = [] := fun e he => List.eq_nil_of_length_eq_zero he
    cases hc : canS B set with
    | false => exact .inl ⟨by simp, fun e he _ => by rw [h0 e he]; simpa [bitsN] using hc⟩
    | true => exact .inr ⟨[], rfl, trivial, by simp, by simpa [bitsN] using hc, fun e' he _ hs => by rw [h0 e' he] at hs; exact hs.elim⟩
  | r + 1, frm, l, set => by
    rw [pick_succ]
    rcases Nat.lt_or_ge B.looks.length frm with h | h
    · rw [Nat.sub_eq_zero_of_le (Nat.le_of_lt h)]
      exact .inl ⟨rfl, fun e he ha => by
        cases e with
        | nil => simp at he
        | cons x e => obtain ⟨k, _, h1, h2, _⟩ := ha; omega⟩
    · exact pick_inner B r l set (fun k => pick_spec B r (k + 1) (l ++ [(k : Int)]) (set + 2 ^ k)) _ _ (by omega)
theorem bitsN_dvd {n : Nat} : ∀ (e : List Int) (frm : Nat), Asc n frm e → ∃ c, bitsN e = 2 ^ frm * c
  | [], frm, _ => ⟨0, rfl⟩
  | x :: e, frm, ⟨k, hx, h1, h2, h3⟩ => by
    obtain ⟨c, hc⟩ := bitsN_dvd e (k + 1) h3
    subst hx
    refine ⟨2 ^ (k - frm) * (1 + 2 * c), ?_⟩
    rw [bitsN_cons, hc, Int.toNat_natCast, ← Nat.mul_assoc, ← Nat.pow_add, show frm + (k - frm) = k by omega, Nat.pow_succ, Nat.mul_add, Nat.mul_one, Nat.mul_assoc]
theorem bit_mem {n : Nat} : ∀ (e : List Int) (frm : Nat), Asc n frm e → ∀ i : Nat, (bitsN e).testBit i = decide ((i : Int) ∈ e)
  | [], frm, _, i => by simp [bitsN]
  | x :: e, frm, ⟨k, hx, h1, h2, h3⟩, i => by
    obtain ⟨c, hc⟩ := bitsN_dvd e (k + 1) h3
    have ih := bit_mem e (k + 1) h3 i
    subst hx
    rw [bitsN_cons]
    rw [hc] at ih ⊢
    rw [Int.toNat_natCast, Nat.add_comm, Nat.testBit_two_pow_mul_add c (Nat.pow_lt_pow_right (by omega) (Nat.lt_succ_self k)) i]
    rw [Nat.testBit_two_pow_mul] at ih
    by_cases hi : i < k + 1
    · rw [if_pos hi, Nat.testBit_two_pow]
      have : ((i : Int) ∈ e) = False := by
        have h4 : decide (i ≥ k + 1) = false := by simp; omega
        rw [h4, Bool.false_and] at ih
        simpa using ih
      simp only [List.mem_cons, this, or_false]
      by_cases hk : k = i
      · simp [hk]
      · simp [hk]; omega
    · rw [if_neg hi]
      have h4 : decide (i ≥ k + 1) = true := by simp; omega
      rw [h4, Bool.true_and] at ih
      rw [ih]
      simp only [List.mem_cons]
      have : ¬ (i : Int) = (k : Int) := by omega
      simp [this]
theorem bit_zero {n : Nat} {e : List Int} {frm : Nat} (h : Asc n frm e) (i : Nat) : ((bitsN e : Nat) : Int) / 2 ^ i % 2 = 0 ↔ (i : Int) ∉ e := by
  have h1 := bit_mem e frm h i
  rw [Nat.testBit_eq_decide_div_mod_eq] at h1
  have h2 : ((bitsN e : Nat) : Int) / 2 ^ i % 2 = ((bitsN e / 2 ^ i % 2 : Nat) : Int) := by push_cast; rfl
  rw [h2]
  have h3 : bitsN e / 2 ^ i % 2 < 2 := Nat.mod_lt _ (by decide)
  by_cases hm : (i : Int) ∈ e
  · simp only [hm, decide_true, decide_eq_true_eq] at h1
    simp only [hm, not_true_eq_false, iff_false]; omega
  · simp only [hm, decide_false, decide_eq_false_iff_not] at h1
    simp only [hm, not_false_eq_true, iff_true]; omega
/-- the looks that stay, of the first k, without those of a list -/
def keptTo (B : ForgeV) (l : List Int) (k : Nat) : List LookV := ((List.range k).filter fun i : Nat => decide ((i : Int) ∉ l)).map (glk B.looks)
theorem keptTo_succ (B : ForgeV) (l : List Int) (k : Nat) : keptTo B l (k + 1) = keptTo B l k ++ if (k : Int) ∈ l then [] else [glk B.looks k] := by
  unfold keptTo
  rw [List.range_succ, List.filter_append, List.map_append]
  by_cases h : (k : Int) ∈ l <;> simp [h]
theorem keptTo_le (B : ForgeV) (l : List Int) (k : Nat) : (keptTo B l k).length ≤ k := by
  unfold keptTo
  rw [List.length_map]
  exact Nat.le_trans (List.length_filter_le _ _) (by simp)
theorem mem_kept {B : ForgeV} {l : List Int} {k : Nat} {x : LookV} : x ∈ keptTo B l k ↔ ∃ i : Nat, i < k ∧ (i : Int) ∉ l ∧ glk B.looks i = x := by
  unfold keptTo
  simp only [List.mem_map, List.mem_filter, List.mem_range, decide_eq_true_eq, and_assoc]
theorem all_glk {L : List LookV} {P : LookV → Prop} : (∀ j, j < L.length → P (glk L j)) ↔ ∀ x, x ∈ L → P x := by
  constructor
  · intro h x hx
    obtain ⟨j, hj, e⟩ := List.mem_iff_getElem.1 hx
    have := h j hj
    unfold glk at this
    rw [List.getD_eq_getElem?_getD, List.getElem?_eq_getElem hj, Option.getD_some, e] at this
    exact this
  · intro h j hj
    unfold glk
    rw [List.getD_eq_getElem?_getD, List.getElem?_eq_getElem hj, Option.getD_some]
    exact h _ (List.getElem_mem hj)
/-- a book without some looks -/
def without (B : ForgeV) (A : Option Addr) (c : Nat) (l : List Int) : ForgeV := { B with kA := A, kCap := c, looks := keptTo B l B.looks.length }
theorem without_good {B : ForgeV} (g : B.Good) (A : Option Addr) (c : Nat) (l : List Int) : (without B A c l).Good := by
  refine ⟨g.many, g.tin, g.thick, g.crack, g.goal, g.thinsLen, g.hot, g.least, g.cool, g.coal, ?_, g.lot, g.thin, ?_⟩
  · have := keptTo_le B l B.looks.length; have := g.looksLen; simp only [without]; omega
  · simp only [without]
    refine (all_glk (P := lookOk)).2 fun x hx => ?_
    obtain ⟨i, hi, _, rfl⟩ := mem_kept.1 hx
    exact g.look i hi
theorem mem_without {B : ForgeV} {A : Option Addr} {c : Nat} {l : List Int} {t : List Int} : t ∈ truthsS (without B A c l) 0 ↔ t.length = 3 ∧ (∀ k, k < 3 → (gs B.thins k).1 ≤ gi t k ∧ gi t k ≤ (gs B.thins k).2) ∧
    ∀ i : Nat, i < B.looks.length → (i : Int) ∉ l → (glk B.looks i).thick - (glk B.looks i).err ≤ afterS B t (glk B.looks i).blows ∧ afterS B t (glk B.looks i).blows ≤ (glk B.looks i).thick + (glk B.looks i).err := by
  rw [mem0]
  have ha : ∀ n, afterS (without B A c l) t n = afterS B t n := fun n => rfl
  simp only [ha]
  simp only [without]
  rw [all_glk (P := fun x : LookV => x.thick - x.err ≤ afterS B t x.blows ∧ afterS B t x.blows ≤ x.thick + x.err)]
  constructor
  · rintro ⟨h1, h2, h3⟩
    exact ⟨h1, h2, fun i hi hn => h3 _ (mem_kept.2 ⟨i, hi, hn, rfl⟩)⟩
  · rintro ⟨h1, h2, h3⟩
    refine ⟨h1, h2, fun x hx => ?_⟩
    obtain ⟨i, hi, hn, rfl⟩ := mem_kept.1 hx
    exact h3 i hi hn
theorem missL (B : ForgeV) (t : List Int) (s : Int) (i : Nat) : missB B t s i = false ↔ (s / 2 ^ i % 2 = 0 → (glk B.looks i).thick - (glk B.looks i).err ≤ afterS B t (glk B.looks i).blows ∧ afterS B t (glk B.looks i).blows ≤ (glk B.looks i).thick + (glk B.looks i).err) := by
  unfold missB
  by_cases h : s / 2 ^ i % 2 = 0
  · simp [h, inB_iff]
  · simp [h]
theorem can_without {B : ForgeV} (A : Option Addr) (c : Nat) {l : List Int} (h : Asc B.looks.length 0 l) : canS (without B A c l) 0 = canS B (bitsN l) := by
  rw [Bool.eq_iff_iff, canS_iff, canS_iff]
  have : ∀ t, t ∈ truthsS (without B A c l) 0 ↔ t ∈ truthsS B (bitsN l) := fun t => by
    rw [mem_without, mem_truthsS, seenTo_iff]
    simp only [missL, bit_zero h]
  simp only [this]
theorem Asc_range (n : Nat) : ∀ (m frm : Nat), frm + m = n → Asc n frm ((List.range' frm m).map Int.ofNat)
  | 0, frm, _ => trivial
  | m + 1, frm, h => by
    rw [List.range'_succ, List.map_cons]
    exact ⟨frm, rfl, Nat.le_refl _, by omega, Asc_range n m (frm + 1) (by omega)⟩
/-- what the law of the looks asks of those that are told -/
structure LeftOk (B : ForgeV) (W : List Int) : Prop where
  asc : Asc B.looks.length 0 W
  can : canS B (bitsN W) = true
  less : ∀ e, Asc B.looks.length 0 e → e.length < W.length ∨ (e.length = W.length ∧ SoonL e W) → canS B (bitsN e) = false
  none : W.length = 0 ↔ canS B 0 = true
theorem wrong_ok {B : ForgeV} (g : B.Good) : LeftOk B (wrongS B) := by
  have hs := fun m => pick_spec B m 0 [] 0
  have hall : ∃ t, t ∈ truthsS B (bitsN ((List.range' 0 B.looks.length).map Int.ofNat)) := by
    refine ⟨[(gs B.thins 0).1, (gs B.thins 1).1, (gs B.thins 2).1], mem_truthsS.2 ⟨rfl, fun k hk => ?_, ?_⟩⟩
    · have h := g.thin k hk
      have : k = 0 ∨ k = 1 ∨ k = 2 := by omega
      rcases this with rfl | rfl | rfl <;> simp [gi] <;> omega
    · rw [seenTo_iff]
      intro i hi
      rw [missL, bit_zero (Asc_range _ _ _ (Nat.zero_add _))]
      intro hn
      exact absurd (List.mem_map.2 ⟨i, List.mem_range'_1.2 ⟨by omega, by omega⟩, rfl⟩) hn
  have hmost : ∃ m, m < B.looks.length + 1 ∧ (wkid B m).isSome = true := by
    refine ⟨B.looks.length, Nat.lt_succ_self _, ?_⟩
    rcases hs B.looks.length with ⟨h0, h1⟩ | ⟨e, _, _, h2, _⟩
    · have := h1 _ (by simp) (Asc_range _ _ 0 (Nat.zero_add _))
      rw [Int.zero_add] at this
      rw [canS_iff.2 hall] at this
      cases this
    · unfold wkid; rw [h2]; rfl
  have key : ∀ k, k ≤ B.looks.length + 1 → ((List.range k).findSome? (wkid B) = none ∧ ∀ j, j < k → wkid B j = none) ∨ ∃ m w, m < k ∧ wkid B m = some w ∧ (List.range k).findSome? (wkid B) = some w ∧ ∀ j, j < m → wkid B j = none := by
    intro k
    induction k with
    | zero => intro _; exact .inl ⟨rfl, fun j h => absurd h (Nat.not_lt_zero _)⟩
    | succ k ih =>
      intro hk
      rcases ih (by omega) with ⟨h0, h1⟩ | ⟨m, w, h0, h1, h2, h3⟩
      · cases hw : wkid B k with
        | none => exact .inl ⟨rangeSome_next _ _ h0 hw, fun j hj => (by rcases Nat.lt_or_eq_of_le (Nat.le_of_lt_succ hj) with h | h; exact h1 j h; rw [h]; exact hw)⟩
        | some w => exact .inr ⟨k, w, Nat.lt_succ_self _, hw, rangeSome_at _ _ _ (Nat.lt_succ_self _) h0 hw, h1⟩
      · exact .inr ⟨m, w, by omega, h1, by rw [List.range_succ, List.findSome?_append, h2]; rfl, h3⟩
  rcases key (B.looks.length + 1) (Nat.le_refl _) with ⟨_, h1⟩ | ⟨m, w, h0, h1, h2, h3⟩
  · obtain ⟨m, hm, hs'⟩ := hmost
    rw [h1 m hm] at hs'
    cases hs'
  · have hw : wrongS B = w := by unfold wrongS; rw [h2]; rfl
    rw [hw]
    rcases hs m with ⟨g0, _⟩ | ⟨e, g0, g1, g2, g3, g4⟩
    · unfold wkid at h1; rw [g0] at h1; cases h1
    · have he : e = w := by unfold wkid at h1; rw [g2] at h1; simpa using h1
      subst he
      rw [Int.zero_add] at g3
      have hless : ∀ e', Asc B.looks.length 0 e' → e'.length < e.length ∨ (e'.length = e.length ∧ SoonL e' e) → canS B (bitsN e') = false := by
        intro e' ha hc
        rcases hc with hc | ⟨hc, hs'⟩
        · rcases hs e'.length with ⟨_, k1⟩ | ⟨e2, _, _, k2, _⟩
          · have := k1 e' rfl ha
            rwa [Int.zero_add] at this
          · have := h3 e'.length (by omega)
            unfold wkid at this
            rw [k2] at this
            cases this
        · have := g4 e' (by omega) ha hs'
          rwa [Int.zero_add] at this
      refine ⟨g1, g3, hless, ?_⟩
      constructor
      · intro h
        have : e = [] := List.eq_nil_of_length_eq_zero h
        subst this
        simpa [bitsN] using g3
      · intro hc
        rcases Nat.eq_zero_or_pos e.length with h | h
        · exact h
        · have := hless [] trivial (.inl h)
          rw [show ((bitsN [] : Nat) : Int) = 0 from rfl, hc] at this
          cases this
end
end Go.Proofs.YtgfbfbfajnfbjaaDoor
