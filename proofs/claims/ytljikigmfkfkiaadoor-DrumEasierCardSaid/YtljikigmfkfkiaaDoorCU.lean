import Derived.Test.YtljikigmfkfkiaaDoorCI
import Derived.Test.YtljikigmfkfkiaaDoorCQ
namespace Go.Proofs.YtljikigmfkfkiaaDoor
open Go.RowKit Go.Shelf
set_option linter.unusedSimpArgs false
set_option linter.unusedVariables false

/-! Books that are easier than another, as DrumEasier makes them. -/
def PlBet (p q : PlayerV) : Prop := (0 ≤ q.lo ∧ q.lo ≤ q.hi ∧ q.hi ≤ p.hi) ∧ q.catches.length = 4 ∧ ∀ k, k < 4 → 0 ≤ (gs q.catches k).1 ∧ (gs q.catches k).1 ≤ (gs q.catches k).2 ∧ (gs q.catches k).2 ≤ 100 ∧ (gs p.catches k).1 ≤ (gs q.catches k).1
theorem PlBet.refl {B : BookV} (g : B.Good) {j : Nat} (hj : j < B.players.length) : PlBet (gp B.players j) (gp B.players j) := by
  have h1 := g.late j hj
  refine ⟨⟨h1.1, h1.2.1, Int.le_refl _⟩, g.catchLen j hj, fun k hk => ?_⟩
  have := g.catches j hj k hk
  exact ⟨this.1, this.2.1, this.2.2, Int.le_refl _⟩
def bookX (B : BookV) (A : Option Addr) (c : Nat) (ps : List PlayerV) (slo shi tlo thi : Int) : BookV := { B with pA := A, pCap := c, players := ps, slo := slo, shi := shi, tlo := tlo, thi := thi }
theorem bookX_good {B : BookV} (g : B.Good) {A : Option Addr} {c : Nat} {ps : List PlayerV} {slo shi tlo thi : Int} (hs : 0 ≤ slo ∧ slo ≤ shi ∧ shi ≤ B.shi) (ht : 0 ≤ tlo ∧ tlo ≤ B.tlo ∧ B.thi ≤ thi ∧ thi ≤ 128000)
    (hm : 1 ≤ ps.length ∧ ps.length ≤ B.players.length) (hp : ∀ j, j < ps.length → PlBet (gp B.players j) (gp ps j)) : (bookX B A c ps slo shi tlo thi).Good := by
  have g1 := g.slip
  have g2 := g.time
  have g3 := g.many
  refine ⟨g.parts, g.size, g.beatsLen, g.start, g.fin, ?_, ?_, g.notice, ?_, g.beats, ?_, ?_, ?_⟩
  · exact ⟨ht.1, by show tlo ≤ thi; omega, ht.2.2.2⟩
  · exact ⟨hs.1, hs.2.1, by show shi ≤ 100; omega⟩
  · exact ⟨hm.1, by show ps.length ≤ 5; omega⟩
  · intro j hj
    have h := hp j hj
    have h1 := g.late j (by have : j < ps.length := hj; omega)
    exact ⟨h.1.1, h.1.2.1, by have := h.1.2.2; show (gp ps j).hi ≤ 500; omega⟩
  · intro j hj; exact (hp j hj).2.1
  · intro j hj k hk
    have h := (hp j hj).2.2 k hk
    exact ⟨h.1, h.2.1, h.2.2.1⟩
theorem bookX_easier {B : BookV} {A : Option Addr} {c : Nat} {ps : List PlayerV} {slo shi tlo thi : Int} (hs : 0 ≤ slo ∧ slo ≤ shi ∧ shi ≤ B.shi) (ht : 0 ≤ tlo ∧ tlo ≤ B.tlo ∧ B.thi ≤ thi ∧ thi ≤ 128000)
    (hm : 1 ≤ ps.length ∧ ps.length ≤ B.players.length) (hp : ∀ j, j < ps.length → PlBet (gp B.players j) (gp ps j)) : Easier B (bookX B A c ps slo shi tlo thi) :=
  ⟨rfl, rfl, rfl, rfl, rfl, ht.2.1, ht.2.2.1, hs.2.2, hm.2, fun j hj => (hp j hj).1.2.2, fun j hj k hk => ((hp j hj).2.2 k hk).2.2.2⟩
theorem gp_setQ (l : List PlayerV) (j k : Nat) (q : PlayerV) (hj : j < l.length) : gp (l.set j q) k = if k = j then q else gp l k := by
  unfold gp
  rw [List.getD_eq_getElem?_getD, List.getElem?_set]
  by_cases h : j = k
  · subst h
    rw [if_pos rfl, if_pos rfl, if_pos hj]; rfl
  · rw [if_neg h, if_neg (fun e => h e.symm), ← List.getD_eq_getElem?_getD]
theorem gp_take (l : List PlayerV) {j n : Nat} (h : j < n) : gp (l.take n) j = gp l j := by
  unfold gp; rw [List.getD_eq_getElem?_getD, List.getElem?_take_of_lt h, ← List.getD_eq_getElem?_getD]
theorem gs_setQ (l : List (Int × Int)) (j k : Nat) (q : Int × Int) (hj : j < l.length) : gs (l.set j q) k = if k = j then q else gs l k := by
  unfold gs
  rw [List.getD_eq_getElem?_getD, List.getElem?_set]
  by_cases h : j = k
  · subst h
    rw [if_pos rfl, if_pos rfl, if_pos hj]; rfl
  · rw [if_neg h, if_neg (fun e => h e.symm), ← List.getD_eq_getElem?_getD]
theorem bet_set {B : BookV} (g : B.Good) {i : Nat} {q : PlayerV} (hi : i < B.players.length) (hq : PlBet (gp B.players i) q) : ∀ j, j < (B.players.set i q).length → PlBet (gp B.players j) (gp (B.players.set i q) j) := by
  intro j hj
  rw [List.length_set] at hj
  rw [gp_setQ _ _ _ _ hi]
  split
  · rename_i e; subst e; exact hq
  · exact PlBet.refl g hj
theorem pairs_at {w : World} {b o : Nat} {l : List (Int × Int)} (h : ∀ j, j < l.length → w.cell? ⟨b, o + j * 2, none⟩ = some (.int .i64 (gs l j).1) ∧ w.cell? ⟨b, o + j * 2 + 1, none⟩ = some (.int .i64 (gs l j).2)) :
    ∀ q u, (pairs l)[q]? = some u → w.cell? ((⟨b, o, none⟩ : Addr).add q) = some u := by
  intro q u hu
  have hq : q < l.length * 2 := by rw [← pairs_len]; exact (List.getElem?_eq_some_iff.1 hu).1
  have hadd : ((⟨b, o, none⟩ : Addr).add q) = ⟨b, o + q, none⟩ := by
    by_cases h0 : q = 0
    · subst h0; simp [Addr.add]
    · simp [Addr.add, h0]
  rw [hadd]
  obtain ⟨p0, p1⟩ := pairs_get l (q / 2) (by omega)
  obtain ⟨q0, q1⟩ := h (q / 2) (by omega)
  rcases Nat.mod_two_eq_zero_or_one q with h2 | h2
  · have e : q / 2 * 2 = q := by omega
    rw [e] at p0 q0
    rw [p0] at hu
    cases hu
    exact q0
  · have e : q / 2 * 2 + 1 = q := by omega
    rw [e] at p1
    rw [show o + q / 2 * 2 + 1 = o + q by omega] at q1
    rw [p1] at hu
    cases hu
    exact q1
theorem bet_catch {B : BookV} (g : B.Good) {i : Nat} (hi : i < B.players.length) {lv : Nat} (hlv : lv < 4) {x y : Int} (A : Option Addr) (c : Nat) (hx : (gs (gp B.players i).catches lv).1 ≤ x ∧ x ≤ y ∧ y ≤ 100) :
    PlBet (gp B.players i) ⟨(gp B.players i).lo, (gp B.players i).hi, A, c, (gp B.players i).catches.set lv (x, y)⟩ := by
  have h1 := g.late i hi
  have h4 := g.catchLen i hi
  refine ⟨⟨h1.1, h1.2.1, Int.le_refl _⟩, by simp [h4], fun k hk => ?_⟩
  have h2 := g.catches i hi k hk
  rw [gs_setQ _ _ _ _ (by omega)]
  split
  · rename_i e; subst e
    simp only
    omega
  · exact ⟨h2.1, h2.2.1, h2.2.2, Int.le_refl _⟩
theorem bet_late {B : BookV} (g : B.Good) {i : Nat} (hi : i < B.players.length) {x y : Int} (hx : 0 ≤ x ∧ x ≤ y ∧ y ≤ (gp B.players i).hi) :
    PlBet (gp B.players i) { gp B.players i with lo := x, hi := y } := by
  refine ⟨hx, g.catchLen i hi, fun k hk => ?_⟩
  have h2 := g.catches i hi k hk
  exact ⟨h2.1, h2.2.1, h2.2.2, Int.le_refl _⟩
theorem SpansAt.setQ {W : World} {g : Nat} {cs : List (Int × Int)} (h : SpansAt W (some ⟨g, 0, none⟩) cs) {cur : Array Value} {t : TypeId} {f : Nat × Nat} (hb : W.heap[g]? = some (.cells cur t f)) (lv : Nat) (hl : lv < cs.length) (x y : Int) :
    SpansAt ((W.setCell ⟨g, lv * 2, none⟩ (.int .i64 x)).setCell ⟨g, lv * 2 + 1, none⟩ (.int .i64 y)) (some ⟨g, 0, none⟩) (cs.set lv (x, y)) := by
  obtain ⟨b', o', e, hc⟩ := h.2.resolve_left (by intro e; rw [e] at hl; simp at hl)
  cases e
  have h1 := heap_setCell_at W g (lv * 2) (.int .i64 x) hb
  have h2 := heap_setCell_at _ g (lv * 2 + 1) (.int .i64 y) h1
  have hcell : ∀ i, W.cell? ⟨g, i, none⟩ = cur[i]? := fun i => by simp [World.cell?, hb]
  have hcell2 : ∀ i, ((W.setCell ⟨g, lv * 2, none⟩ (.int .i64 x)).setCell ⟨g, lv * 2 + 1, none⟩ (.int .i64 y)).cell? ⟨g, i, none⟩ = ((cur.setIfInBounds (lv * 2) (.int .i64 x)).setIfInBounds (lv * 2 + 1) (.int .i64 y))[i]? := fun i => by simp [World.cell?, h2]
  refine ⟨by rw [List.length_set]; exact h.1, .inr ⟨g, 0, rfl, fun k hk => ?_⟩⟩
  rw [List.length_set] at hk
  obtain ⟨g0, g1⟩ := hc k hk
  rw [Nat.zero_add, hcell] at g0 g1
  have hsz0 : k * 2 < cur.size := (Array.getElem?_eq_some_iff.1 g0).1
  have hsz1 : k * 2 + 1 < cur.size := (Array.getElem?_eq_some_iff.1 g1).1
  rw [Nat.zero_add, hcell2, hcell2, gs_setQ _ _ _ _ hl]
  by_cases e : k = lv
  · subst e
    rw [if_pos rfl]
    constructor
    · simp [Array.getElem?_setIfInBounds, hsz0]
    · simp [Array.getElem?_setIfInBounds, hsz1]
  · rw [if_neg e]
    constructor
    · rw [Array.getElem?_setIfInBounds, if_neg (by omega), Array.getElem?_setIfInBounds, if_neg (by omega)]; exact g0
    · rw [Array.getElem?_setIfInBounds, if_neg (by omega), Array.getElem?_setIfInBounds, if_neg (by omega)]; exact g1
/-- what Bound returns of a book, and of an easier one -/
theorem easier_bound {B X : BookV} (h : Easier B X) (g : B.Good) (g' : X.Good) : ∃ k m e f : Int, boundR B 0 = two k e ∧ boundR X 0 = two m f ∧ ((e = 0 ∧ f = 0 ∧ k ≤ m) ∨ (e = 4 ∧ (f = 0 ∨ f = 4))) := by
  have hj : 0 < B.players.length := by have := g.many; omega
  have hj' : 0 < X.players.length := by have := g'.many; omega
  have hmono : ∀ k, 0 ≤ k → k ≤ 500 → hasPlan B 0 k = true → hasPlan X 0 k = true := by
    intro k h0 h5 hk
    rw [has_iff] at hk ⊢
    exact easier_some (easier_set h hj' (Int.le_refl _) _ _ _ _) (bookLate_good g hj ⟨h0, h5⟩) (bookLate_good g' hj' ⟨h0, h5⟩) hk
  cases h0 : hasPlan B 0 0 with
  | true =>
    obtain ⟨n, hn0, hn5, hR, hall⟩ := bound_some g hj h0
    obtain ⟨m, hm0, hm5, hR', hall'⟩ := bound_some g' hj' (hmono 0 (by omega) (by omega) h0)
    refine ⟨n, m, 0, 0, hR, hR', .inl ⟨rfl, rfl, ?_⟩⟩
    exact (hall' n hn0 hn5).1 (hmono n hn0 hn5 ((hall n hn0 hn5).2 (Int.le_refl _)))
  | false =>
    obtain ⟨hR, _⟩ := bound_none g hj h0
    cases h1 : hasPlan X 0 0 with
    | true =>
      obtain ⟨m, hm0, hm5, hR', _⟩ := bound_some g' hj' h1
      exact ⟨0, m, 4, 0, hR, hR', .inr ⟨rfl, .inl rfl⟩⟩
    | false => exact ⟨0, 0, 4, 4, hR, (bound_none g' hj' h1).1, .inr ⟨rfl, .inr rfl⟩⟩
/-! Players in a box of the call's own. -/
theorem PBox.setQ {W : World} {g : Nat} {l : List PlayerV} (h : PBox W g l) (j : Nat) (hj : j < l.length) (q : PlayerV) :
    PBox (((W.setCell ⟨g, j * 3, none⟩ (.int .i64 q.lo)).setCell ⟨g, j * 3 + 1, none⟩ (.int .i64 q.hi)).setCell ⟨g, j * 3 + 2, none⟩ (.slice q.cA q.catches.length q.cCap)) g (l.set j q) := by
  obtain ⟨cur, t, hb, hc⟩ := h
  have h1 := heap_setCell_at W g (j * 3) (.int .i64 q.lo) hb
  have h2 := heap_setCell_at _ g (j * 3 + 1) (.int .i64 q.hi) h1
  have h3 := heap_setCell_at _ g (j * 3 + 2) (.slice q.cA q.catches.length q.cCap) h2
  refine ⟨_, t, h3, fun k hk => ?_⟩
  rw [List.length_set] at hk
  obtain ⟨g0, g1, g2⟩ := hc k hk
  have hsz0 : k * 3 < cur.size := (Array.getElem?_eq_some_iff.1 g0).1
  have hsz1 : k * 3 + 1 < cur.size := (Array.getElem?_eq_some_iff.1 g1).1
  have hsz2 : k * 3 + 2 < cur.size := (Array.getElem?_eq_some_iff.1 g2).1
  have hget := gp_setQ l j k q hj
  by_cases e : k = j
  · subst e
    rw [hget, if_pos rfl]
    refine ⟨?_, ?_, ?_⟩
    · simp [Array.getElem?_setIfInBounds, hsz0]
    · simp [Array.getElem?_setIfInBounds, hsz1]
    · simp [Array.getElem?_setIfInBounds, hsz2]
  · rw [hget, if_neg e]
    refine ⟨?_, ?_, ?_⟩
    · rw [Array.getElem?_setIfInBounds, if_neg (by omega), Array.getElem?_setIfInBounds, if_neg (by omega), Array.getElem?_setIfInBounds, if_neg (by omega)]; exact g0
    · rw [Array.getElem?_setIfInBounds, if_neg (by omega), Array.getElem?_setIfInBounds, if_neg (by omega), Array.getElem?_setIfInBounds, if_neg (by omega)]; exact g1
    · rw [Array.getElem?_setIfInBounds, if_neg (by omega), Array.getElem?_setIfInBounds, if_neg (by omega), Array.getElem?_setIfInBounds, if_neg (by omega)]; exact g2
theorem PBox.take {W : World} {g : Nat} {l : List PlayerV} (h : PBox W g l) (n : Nat) : PBox W g (l.take n) := by
  obtain ⟨cur, t, hb, hc⟩ := h
  refine ⟨cur, t, hb, fun j hj => ?_⟩
  rw [List.length_take] at hj
  rw [gp_take l (by omega)]
  exact hc j (by omega)
end Go.Proofs.YtljikigmfkfkiaaDoor
