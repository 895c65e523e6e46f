import Derived.Test.YtgfbfbfajnfbjaaDoorBP
import Derived.Test.YtgfbfbfajnfbjaaDoorBH
import Derived.Test.YtgfbfbfajnfbjaaDoorBF
import Derived.Test.YtgfbfbfajnfbjaaDoorI
import Derived.Test.YtgfbfbfajnfbjaaDoorAL
namespace Go.Proofs.YtgfbfbfajnfbjaaDoor
section
open Go.RowKit Go.Shelf
set_option linter.unusedSimpArgs false
set_option linter.unusedVariables false
/-! A book's lots laid anew; bars as numbers choose them; books with which no melt is harder, with no program in sight. -/
theorem infoLt : (Tryd.prog.info? 62).map (fun i => (i.zero, i.size, i.bytes)) = some (some (.agg #[.int .i64 0, .int .i64 0, .int .i64 0]), 3, 24) := by kernel_rfl
theorem underLt : Tryd.prog.underlying 22 = some (.slice 62) := by kernel_rfl
def lotCells (l : List LotV) : List Value := l.flatMap fun t => [.int .i64 t.bars, .int .i64 t.lo, .int .i64 t.hi]
theorem lotCells_len (l : List LotV) : (lotCells l).length = l.length * 3 := by
  induction l with
  | nil => rfl
  | cons t l ih => unfold lotCells at *; rw [List.flatMap_cons, List.length_append, ih]; simp; omega
theorem lotCells_get (l : List LotV) (j : Nat) (hj : j < l.length) : (lotCells l)[j * 3]? = some (.int .i64 (gl l j).bars) ∧ (lotCells l)[j * 3 + 1]? = some (.int .i64 (gl l j).lo) ∧ (lotCells l)[j * 3 + 2]? = some (.int .i64 (gl l j).hi) := by
  induction l generalizing j with
  | nil => simp at hj
  | cons t l ih =>
    cases j with
    | zero => exact ⟨rfl, rfl, rfl⟩
    | succ j =>
      have h := ih j (by simpa using hj)
      have e : ∀ k, (lotCells (t :: l))[k + 3]? = (lotCells l)[k]? := fun k => by unfold lotCells; rw [List.flatMap_cons]; simp
      rw [show (j + 1) * 3 = j * 3 + 3 by omega, show j * 3 + 3 + 1 = j * 3 + 1 + 3 by omega, show j * 3 + 3 + 2 = j * 3 + 2 + 3 by omega, e, e, e]
      exact h
theorem LotsAt.cells {w : World} {b o : Nat} {l : List LotV} (h : LotsAt w (some ⟨b, o, none⟩) l) : ∀ j u, (lotCells l)[j]? = some u → w.cell? ((⟨b, o, none⟩ : Addr).add j) = some u := by
  intro j u hu
  rw [addr_add']
  have hj : j < l.length * 3 := by have := (List.getElem?_eq_some_iff.1 hu).1; rwa [lotCells_len] at this
  have h2 := lotCells_get l (j / 3) (by omega)
  have h1 := h.at_ (k := j / 3) (by omega)
  have : j = j / 3 * 3 ∨ j = j / 3 * 3 + 1 ∨ j = j / 3 * 3 + 2 := by omega
  rcases this with e | e | e
  · rw [e] at hu ⊢; rw [← hu, h2.1]; exact h1.1
  · rw [e] at hu ⊢; rw [← hu, h2.2.1]; exact h1.2.1
  · rw [e] at hu ⊢; rw [← hu, h2.2.2]; exact h1.2.2
theorem lotCells_one {l : List LotV} : ∀ u ∈ lotCells l, u.oneCell' = true := by
  intro u hu
  unfold lotCells at hu
  obtain ⟨x, _, h⟩ := List.mem_flatMap.1 hu
  simp at h
  rcases h with rfl | rfl | rfl <;> rfl
/-- a copy of lots: a block of one's own -/
theorem wpList_copyLots {ops : Array Oper} {rest : List Oper} {o : Oper} {a : Act} {Q : Exit → Act → World → Prop} (w : World) (hgd : o.guard = none) (s x : Operand)
    (ho : o.op = .call { callee := .builtin .append, args := #[s, x], argTypes := #[22, 22] })
    (W0 : World) (hw : w = W0.alloc (.cells #[] 62)) (hs : a.eval s = .slice (some ⟨W0.heap.size, 0, none⟩) 0 0) (A : Option Addr) (c : Nat) (m : List LotV) (hx : a.eval x = .slice A m.length c) (hm : LotsAt w A m) (hm0 : 0 < m.length) (hlen : m.length ≤ 1000000)
    (h : ∀ g c' cur w', BoxAt w' g cur → LotsAt w' (some ⟨g, 0, none⟩) m → W0.heap.size ≤ g → Below W0.heap.size W0 w' → wpList Tryd.prog ops Q rest (a.put o.dst (.slice (some ⟨g, 0, none⟩) m.length c')) w') : wpList Tryd.prog ops Q (o :: rest) a w := by
  obtain ⟨i0, hi, hz0, hz1, hz2⟩ := info_parts infoLt
  obtain ⟨b, og, rfl⟩ := hm.some_ hm0
  have hown : w.ownsRow W0.heap.size 62 3 (.slice (some ⟨W0.heap.size, 0, none⟩) 0 0) 0 [] := by rw [hw]; exact World.ownsRow_lit W0 #[] 0 (Nat.le_refl _) (by unfold maxLen; omega) rfl
  have hbw : Below W0.heap.size W0 w := by rw [hw]; exact (Below.refl _ _).alloc (Nat.le_refl _) _
  obtain ⟨v', w', hr, r1, r2, _⟩ := run_app_any w W0.heap.size 22 o.type 62 i0 _ 3 24 underLt hi hz0 hz1 hz2 rfl (by decide) (by decide) (.slice (some ⟨W0.heap.size, 0, none⟩) 0 0) 0 [] hown (some ⟨b, og, none⟩) m.length c (lotCells m) (lotCells_len m) (.inr ⟨_, rfl, hm.cells⟩) lotCells_one (by omega) hbw.size
  have hcs := fun g => World.ownsRow.cells (w := w') (g := g) r1
  obtain ⟨g1, g2⟩ := r1
  rcases g2 with ⟨_, hn⟩ | ⟨g, cap, cur, rfl, hbg, hg, hnc, hcm, hsz, ht⟩
  · omega
  · refine wpList_plain hgd fun K hK => ?_
    unfold Oper.wp
    simp [execOp, ho, resolve, invoke, builtin, hs, hx, hr, Result.andThen]
    refine hK _ _ (h g cap cur w' (BoxAt.of_heap hg) ⟨by omega, .inr ⟨g, 0, rfl, fun j hj => ?_⟩⟩ hbg (hbw.trans r2))
    have h3 := lotCells_get m j hj
    have a0 := hcs g rfl _ _ h3.1
    have a1 := hcs g rfl _ _ h3.2.1
    have a2 := hcs g rfl _ _ h3.2.2
    rw [addr_add'] at a0 a1 a2
    exact ⟨a0, a1, a2⟩
theorem gl_set (l : List LotV) (k : Nat) (x : LotV) (h : k < l.length) (j : Nat) : gl (l.set k x) j = if j = k then x else gl l j := by
  unfold gl
  rw [List.getD_eq_getElem?_getD, List.getD_eq_getElem?_getD, List.getElem?_set]
  by_cases e : k = j
  · subst e; rw [if_pos rfl, if_pos rfl, if_pos h]; rfl
  · rw [if_neg e, if_neg (fun h => e h.symm)]
/-- one lot stored into a block of one's own -/
theorem lots_put {w : World} {g : Nat} {cur : Array Value} {l : List LotV} (kg : BoxAt w g cur) (hs : LotsAt w (some ⟨g, 0, none⟩) l) {k : Nat} (hk : k < l.length) (a b c : Int) :
    LotsAt (((w.setCell ⟨g, k * 3, none⟩ (.int .i64 a)).setCell ⟨g, k * 3 + 1, none⟩ (.int .i64 b)).setCell ⟨g, k * 3 + 2, none⟩ (.int .i64 c)) (some ⟨g, 0, none⟩) (l.set k ⟨a, b, c⟩) := by
  have hat : ∀ j, j < l.length → cur[j * 3]? = some (.int .i64 (gl l j).bars) ∧ cur[j * 3 + 1]? = some (.int .i64 (gl l j).lo) ∧ cur[j * 3 + 2]? = some (.int .i64 (gl l j).hi) := fun j hj => by
    have h1 := hs.at_ hj
    rw [Nat.zero_add] at h1
    exact ⟨(kg.cell _).symm.trans h1.1, (kg.cell _).symm.trans h1.2.1, (kg.cell _).symm.trans h1.2.2⟩
  have hsz : ∀ j, j < l.length → j * 3 + 2 < cur.size := fun j hj => (Array.getElem?_eq_some_iff.1 (hat j hj).2.2).1
  have k1 := kg.put (k * 3) (.int .i64 a) (by have := hsz k hk; omega)
  have k2 := k1.put (k * 3 + 1) (.int .i64 b) (by have := hsz k hk; simp; omega)
  have k3 := k2.put (k * 3 + 2) (.int .i64 c) (by have := hsz k hk; simp; omega)
  refine ⟨by rw [List.length_set]; exact hs.1, .inr ⟨g, 0, rfl, fun j hj => ?_⟩⟩
  rw [List.length_set] at hj
  rw [Nat.zero_add, k3.cell, k3.cell, k3.cell, gl_set _ _ _ hk]
  have h1 := hat j hj
  have h2 := hsz j hj
  have h3 := hsz k hk
  by_cases e : j = k
  · subst e
    simp only [Array.getElem?_setIfInBounds, Array.size_setIfInBounds, if_pos]
    refine ⟨?_, ?_, ?_⟩
    · rw [if_neg (by omega), if_neg (by omega), if_pos (by omega)]
    · rw [if_neg (by omega), if_pos (by omega)]
    · rw [if_pos (by omega)]
  · rw [if_neg e]
    refine ⟨?_, ?_, ?_⟩
    · rw [Array.getElem?_setIfInBounds_ne (by omega), Array.getElem?_setIfInBounds_ne (by omega), Array.getElem?_setIfInBounds_ne (by omega)]; exact h1.1
    · rw [Array.getElem?_setIfInBounds_ne (by omega), Array.getElem?_setIfInBounds_ne (by omega), Array.getElem?_setIfInBounds_ne (by omega)]; exact h1.2.1
    · rw [Array.getElem?_setIfInBounds_ne (by omega), Array.getElem?_setIfInBounds_ne (by omega), Array.getElem?_setIfInBounds_ne (by omega)]; exact h1.2.2
/-- append of one number to a slice of one's own -/
theorem wp_app1 {o : Oper} {a : Act} {K : Act → World → Prop} {Q : Exit → Act → World → Prop} (w : World) (s x : Operand)
    (ho : o.op = .call { callee := .builtin .append, args := #[s, x], argTypes := #[29, 29] })
    (base : Nat) (v : Value) (l : List Int) (hs : a.eval s = v) (hown : OwnInts w base v l) (g c : Nat) (m : Int) (hx : a.eval x = .slice (some ⟨g, 0, none⟩) 1 c) (hc : w.cell? ⟨g, 0, none⟩ = some (.int .i64 m)) (hlen : l.length ≤ 100000) (hb : base ≤ w.heap.size)
    (h : ∀ v' w', OwnInts w' base v' (l ++ [m]) → Below base w w' → K (a.put o.dst v') w') : o.wp Tryd.prog a w K Q := by
  obtain ⟨i0, hi, hz0, hz1, hz2⟩ := info_parts info3
  obtain ⟨v', w', hr, r1, r2, _⟩ := run_app_any w base 29 o.type 3 i0 _ 1 8 under22 hi hz0 hz1 hz2 rfl (by decide) (by decide) v l.length (l.map (Value.int .i64)) hown (some ⟨g, 0, none⟩) 1 c [.int .i64 m] rfl (.inr ⟨_, rfl, fun j u hj => by
    match j, hj with
    | 0, hj => simp at hj; subst hj; simpa [Addr.add] using hc⟩) (fun u hu => by simp at hu; subst hu; rfl) (by omega) hb
  have hown' : OwnInts w' base v' (l ++ [m]) := by unfold OwnInts; rw [List.length_append, List.map_append]; exact r1
  unfold Oper.wp
  simp [execOp, ho, resolve, invoke, builtin, hs, hx, hr, Result.andThen]
  exact h v' w' hown' r2
/-! Books with which no melt is harder. -/
structure Easier (B X : ForgeV) : Prop where
  len : X.lots.length = B.lots.length
  tlo : X.tlo ≤ B.tlo
  thi : B.thi ≤ X.thi
  lot : ∀ j, j < B.lots.length → (gl B.lots j).bars ≤ (gl X.lots j).bars ∧ (gl B.lots j).lo ≤ (gl X.lots j).lo ∧ (gl X.lots j).hi ≤ (gl B.lots j).hi
theorem mulm {a b c : Int} (hc : 0 ≤ c) (h : a ≤ b) : c * a ≤ c * b := Int.mul_le_mul_of_nonneg_left h hc
theorem easier_tin {B X : ForgeV} (h : Easier B X) {m : List Int} (hm : ∀ k, 0 ≤ gi m k) : ∀ k, k ≤ B.lots.length → tinTo B.lots m false k ≤ tinTo X.lots m false k ∧ tinTo X.lots m true k ≤ tinTo B.lots m true k
  | 0, _ => ⟨Int.le_refl _, Int.le_refl _⟩
  | k + 1, hk => by
    obtain ⟨h1, h2⟩ := easier_tin h hm k (by omega)
    have hl := h.lot k (by omega)
    have a1 := mulm (hm k) hl.2.1
    have a2 := mulm (hm k) hl.2.2
    simp only [tinTo, endOf, cond_false, cond_true]
    omega
theorem easier_melt {B X : ForgeV} (g : B.Good) (gX : X.Good) (h : Easier B X) {m : List Int} (hw : (withinS B m && rightS B m) = true) : (withinS X m && rightS X m) = true := by
  rw [Bool.and_eq_true] at hw ⊢
  obtain ⟨h1, h2⟩ := hw
  have hbd := withinS_bd g h1
  constructor
  · unfold withinS at h1 ⊢
    rw [Bool.and_eq_true, decide_eq_true_eq] at h1 ⊢
    refine ⟨h1.1.trans h.len.symm, ?_⟩
    rw [h.len]
    unfold inTo at h1 ⊢
    rw [List.all_eq_true] at h1 ⊢
    intro j hj
    have hj' := List.mem_range.1 hj
    have a := inB_iff.1 (h1.2 j hj)
    have b := h.lot j hj'
    exact inB_iff.2 (by omega)
  · have ht := easier_tin h (fun k => (hbd k).1) B.lots.length (Nat.le_refl _)
    have hs := (sumTo_nn hbd 4).1
    have a1 := mulm hs h.tlo
    have a2 := mulm hs h.thi
    unfold rightS at h2 ⊢
    rw [h.len]
    simp only [Bool.and_eq_true, decide_eq_true_eq] at h2 ⊢
    exact ⟨h2.1, by omega, by omega⟩
/-- the book, changed -/
def easyB (B : ForgeV) (A : Option Addr) (c : Nat) (ls : List LotV) (lo hi : Int) : ForgeV := { B with lA := A, lCap := c, lots := ls, tlo := lo, thi := hi }
theorem easyB_cells (B : ForgeV) (A : Option Addr) (c : Nat) (ls : List LotV) (lo hi : Int) : (easyB B A c ls lo hi).cells = #[.slice A ls.length c, .int .i64 lo, .int .i64 hi, .int .i64 B.thick, .int .i64 B.crack, .int .i64 B.glo, .int .i64 B.ghi, .slice B.sA B.thins.length B.sCap,
    .int .i64 B.hot, .int .i64 B.least, .int .i64 B.clo, .int .i64 B.chi, .int .i64 B.coal, .slice B.kA B.looks.length B.kCap] := rfl
theorem easyS_cells (B : ForgeV) (A : Option Addr) (c k : Nat) (x : LotV) (lo hi : Int) : (easyB B A c (B.lots.set k x) lo hi).cells = #[.slice A B.lots.length c, .int .i64 lo, .int .i64 hi, .int .i64 B.thick, .int .i64 B.crack, .int .i64 B.glo, .int .i64 B.ghi, .slice B.sA B.thins.length B.sCap,
    .int .i64 B.hot, .int .i64 B.least, .int .i64 B.clo, .int .i64 B.chi, .int .i64 B.coal, .slice B.kA B.looks.length B.kCap] := by
  rw [easyB_cells, List.length_set]
theorem easyB_good {B : ForgeV} (g : B.Good) (A : Option Addr) (c : Nat) (ls : List LotV) (lo hi : Int) (hl : ls.length = B.lots.length) (ht : 0 ≤ lo ∧ lo ≤ hi ∧ hi ≤ 1000)
    (hls : ∀ j, j < B.lots.length → (0 ≤ (gl ls j).bars ∧ (gl ls j).bars ≤ 6) ∧ 0 ≤ (gl ls j).lo ∧ (gl ls j).lo ≤ (gl ls j).hi ∧ (gl ls j).hi ≤ 1000) : (easyB B A c ls lo hi).Good :=
  ⟨by simp only [easyB]; rw [hl]; exact g.many, ht, g.thick, g.crack, g.goal, g.thinsLen, g.hot, g.least, g.cool, g.coal, g.looksLen, by simp only [easyB]; rw [hl]; exact hls, g.thin, g.look⟩
/-- what the law's cases lay: each book is good, and no melt is harder with it -/
theorem easy0 {B : ForgeV} (g : B.Good) (A : Option Addr) (c : Nat) {lo hi : Int} (h1 : 0 ≤ lo ∧ lo ≤ B.tlo) (h2 : B.thi ≤ hi ∧ hi ≤ 1000) : (easyB B A c B.lots lo hi).Good ∧ Easier B (easyB B A c B.lots lo hi) :=
  ⟨easyB_good g A c B.lots lo hi rfl (by have := g.tin; omega) g.lot, ⟨rfl, h1.2, h2.1, fun j _ => ⟨Int.le_refl _, Int.le_refl _, Int.le_refl _⟩⟩⟩
theorem easy1 {B : ForgeV} (g : B.Good) (A : Option Addr) (c : Nat) {k : Nat} (hk : k < B.lots.length) {b lo hi : Int} (h0 : (gl B.lots k).bars ≤ b ∧ b ≤ 6) (h1 : (gl B.lots k).lo ≤ lo ∧ lo ≤ hi ∧ hi ≤ (gl B.lots k).hi) :
    (easyB B A c (B.lots.set k ⟨b, lo, hi⟩) B.tlo B.thi).Good ∧ Easier B (easyB B A c (B.lots.set k ⟨b, lo, hi⟩) B.tlo B.thi) := by
  have hg := g.lot k hk
  refine ⟨easyB_good g A c _ _ _ (List.length_set) g.tin fun j hj => ?_, ⟨List.length_set, Int.le_refl _, Int.le_refl _, fun j hj => ?_⟩⟩
  · rw [gl_set _ _ _ hk]
    split
    · simp only; omega
    · exact g.lot j hj
  · simp only [easyB]
    rw [gl_set _ _ _ hk]
    split
    · subst j; simp only; omega
    · exact ⟨Int.le_refl _, Int.le_refl _, Int.le_refl _⟩
theorem isMelt_good {B : ForgeV} (g : B.Good) (l : List Int) : isMeltR B l = .tuple #[.bool (withinS B l && rightS B l), .int .i64 0] := by unfold isMeltR; rw [(goodF_iff B).2 g]; rfl
/-- bars as numbers choose them, some of each of the first lots -/
def takenTo (B : ForgeV) (bits : List Int) (k : Nat) : List Int := (List.range k).map fun i : Nat => turnZ (nthZ bits i) ((gl B.lots i).bars + 1)
theorem takenTo_succ (B : ForgeV) (bits : List Int) (k : Nat) : takenTo B bits (k + 1) = takenTo B bits k ++ [turnZ (nthZ bits k) ((gl B.lots k).bars + 1)] := by
  unfold takenTo
  rw [List.range_succ, List.map_append]; rfl
theorem takenTo_len (B : ForgeV) (bits : List Int) (k : Nat) : (takenTo B bits k).length = k := by unfold takenTo; simp
end
section
open Go.RowKit Go.Shelf
attribute [local go_sem] Oper.semAt_some
set_option linter.unusedSimpArgs false
set_option linter.unusedVariables false
set_option maxRecDepth 100000 in
set_option maxHeartbeats 4000000 in
theorem taken_calls (B : ForgeV) (g : B.Good) (A' : Option Addr) (c' : Nat) (bits : List Int) (w : World) (hB : B.Reads w) (hp : IntsAt w A' bits) :
    Calls Tryd.prog 49 #[B.val, .slice A' bits.length c'] w fun e w' => (∃ A c, e = .returned (.slice A (takenTo B bits B.lots.length).length c) ∧ IntsAt w' A (takenTo B bits B.lots.length)) ∧ Below w.heap.size w w' := by
  have HB0 := Lib.hid hB
  have Hl0 := Lib.hid hp
  have Hg := Lib.hid g
  obtain ⟨lb, lo, hlA⟩ := hB.lots.some_ (by have := g.many; omega)
  have hlt := hB.lots
  rw [hlA] at hlt
  have HlA := Lib.hid hlA
  have k2 := BoxAt.new w B.cells 28
  have H1 : Below w.heap.size w (w.alloc (.cells B.cells 28)) := (Below.refl _ _).alloc (Nat.le_refl _) _
  have hcells : B.val = .agg B.cells := rfl
  rw [hcells]
  unfold ForgeV.cells at k2 H1 ⊢
  rw [hlA] at k2 H1 ⊢
  clear hB hp g hlA
  go_enter Tryd.func49, Tryd.ntmps49
  go_upto_region 1 with fail
  generalize w.alloc _ = W1 at *
  have K2 := Lib.hid k2
  have HW1 := Lib.hid H1
  have h2l := k2.lt
  have hm4 := Hg.out.many.2
  obtain ⟨c2, f2, l2⟩ := k2
  clear H1
  go_wp2
  go_loopg [6, 5] B.lots.length (fun gq i v wr => ∃ k : Nat, k ≤ B.lots.length ∧ gq = B.lots.length - k ∧ i = .int .i64 k ∧ OwnInts wr W1.heap.size v (takenTo B bits k) ∧ Below W1.heap.size W1 wr)
  case atStart => exact ⟨0, Nat.zero_le _, rfl, rfl, OwnInts.nil _ _, Below.refl _ _⟩
  case round =>
    obtain ⟨k, hk, hgk, rfl, hown, hbe⟩ := hrel
    have Hgk := Lib.hid hgk
    have Hown := Lib.hid hown
    have Hbe := Lib.hid hbe
    have HBr := Lib.hid (HW1.out.trans (hbe.mono HW1.out.size))
    clear c2 f2 l2
    obtain ⟨c2, f2, l2⟩ := K2.out.below hbe
    clear hgk hown hbe
    by_cases hlt' : k < B.lots.length
    · have hki : (k : Int) < B.lots.length := by omega
      have Hs := Lib.hid (takenTo_succ B bits k)
      have hpc := hlt.at_ hlt'
      have p0 := (HBr.out.cell (World.block_lt_of_cell? _ _ hpc.1)).trans hpc.1
      have pbl := World.block_lt_of_cell? _ _ hpc.1
      simp only at pbl
      have hlb : lb < W1.heap.size := by omega
      have hbd := (Hg.out.lot k hlt').1
      have hw1 : IntKind.i64.wrap ((gl B.lots k).bars + 1) = (gl B.lots k).bars + 1 := wrap_in (by omega) (by omega)
      clear hpc
      go_upto_region 5 with (fail)
      refine region_plain (S := fun w' => Below W1.heap.size wr w') 15 (by kernel_rfl) ?_ (fun hHeld => ?_)
      · exact (Below.refl _ _).drew
      have hownd : OwnInts wr.drew W1.heap.size _ (takenTo B bits k) := Hown.out.keep (Below.refl _ _).drew; generalize hWd : World.drew wr = Wd at *; have hws : W1.heap.size ≤ wr.heap.size := Hbe.out.size
      first | (refine anyT_take 0 (some 14) (v := ?_) rfl rfl (by kernel_rfl) (by kernel_rfl) (by kernel_rfl) (by kernel_rfl) (fun _ _ _ h => h) (Or.inl ⟨by rfl, ?_⟩) hHeld ?_; rotate_left; focus (intro wq hSw; obtain ⟨hcq, hfq⟩ := bcellN hSw; go_simp; (try with_reducible rfl); done))
      (try simp only [Act.put, List.setIfInBounds_toArray, List.set_cons_zero, List.set_cons_succ])
      first | (refine anyT_take 1 (some 15) (v := ?_) rfl rfl (by kernel_rfl) (by kernel_rfl) (by kernel_rfl) (by kernel_rfl) (fun _ _ _ h => h) (Or.inl ⟨by rfl, ?_⟩) hHeld ?_; rotate_left; focus (intro wq hSw; obtain ⟨hcq, hfq⟩ := bcellN hSw; go_simp; (try with_reducible rfl); done))
      (try simp only [Act.put, List.setIfInBounds_toArray, List.set_cons_zero, List.set_cons_succ])
      first | (refine anyT_take 2 (some 16) (v := ?_) rfl rfl (by kernel_rfl) (by kernel_rfl) (by kernel_rfl) (by kernel_rfl) (fun _ _ _ h => h) (Or.inl ⟨by rfl, ?_⟩) hHeld ?_; rotate_left; focus (intro wq hSw; obtain ⟨hcq, hfq⟩ := bcellN hSw; go_simp; (try with_reducible rfl); done))
      (try simp only [Act.put, List.setIfInBounds_toArray, List.set_cons_zero, List.set_cons_succ])
      first | (refine anyT_take 4 (some 18) (v := ?_) rfl rfl (by kernel_rfl) (by kernel_rfl) (by kernel_rfl) (by kernel_rfl) (fun _ _ _ h => h) (Or.inl ⟨by rfl, ?_⟩) hHeld ?_; rotate_left; focus (intro wq hSw; obtain ⟨hcq, hfq⟩ := bcellN hSw; go_simp; (try with_reducible rfl); done))
      (try simp only [Act.put, List.setIfInBounds_toArray, List.set_cons_zero, List.set_cons_succ])
      first | (refine anyT_take 5 (some 19) (v := ?_) rfl rfl (by kernel_rfl) (by kernel_rfl) (by kernel_rfl) (by kernel_rfl) (fun _ _ _ h => h) (Or.inl ⟨by rfl, ?_⟩) hHeld ?_; rotate_left; focus (intro wq hSw; obtain ⟨hcq, hfq⟩ := bcellN hSw; go_simp; (try with_reducible rfl); done))
      (try simp only [Act.put, List.setIfInBounds_toArray, List.set_cons_zero, List.set_cons_succ])
      first | (refine anyT_take 6 (some 20) (v := ?_) rfl rfl (by kernel_rfl) (by kernel_rfl) (by kernel_rfl) (by kernel_rfl) (fun _ _ _ h => h) (Or.inl ⟨by rfl, ?_⟩) hHeld ?_; rotate_left; focus (intro wq hSw; obtain ⟨hcq, hfq⟩ := bcellN hSw; go_simp; (try with_reducible rfl); done))
      (try simp only [Act.put, List.setIfInBounds_toArray, List.set_cons_zero, List.set_cons_succ])
      first | (refine anyT_take 7 (some 21) (v := ?_) rfl rfl (by kernel_rfl) (by kernel_rfl) (by kernel_rfl) (by kernel_rfl) (fun _ _ _ h => h) (Or.inl ⟨by rfl, ?_⟩) hHeld ?_; rotate_left; focus (intro wq hSw; obtain ⟨hcq, hfq⟩ := bcellN hSw; go_simp; (try with_reducible rfl); done))
      (try simp only [Act.put, List.setIfInBounds_toArray, List.set_cons_zero, List.set_cons_succ])
      first | (refine anyT_take 8 (some 22) (v := ?_) rfl rfl (by kernel_rfl) (by kernel_rfl) (by kernel_rfl) (by kernel_rfl) (fun _ _ _ h => h) (Or.inl ⟨by rfl, ?_⟩) hHeld ?_; rotate_left; focus (intro wq hSw; obtain ⟨hcq, hfq⟩ := bcellN hSw; go_simp; (try with_reducible rfl); done))
      (try simp only [Act.put, List.setIfInBounds_toArray, List.set_cons_zero, List.set_cons_succ])
      first | (refine anyT_take 9 (some 23) (v := ?_) rfl rfl (by kernel_rfl) (by kernel_rfl) (by kernel_rfl) (by kernel_rfl) (fun _ _ _ h => h) (Or.inl ⟨by rfl, ?_⟩) hHeld ?_; rotate_left; focus (intro wq hSw; obtain ⟨hcq, hfq⟩ := bcellN hSw; go_simp; (try with_reducible rfl); done))
      (try simp only [Act.put, List.setIfInBounds_toArray, List.set_cons_zero, List.set_cons_succ])
      first | (refine anyT_take 10 (some 24) (v := ?_) rfl rfl (by kernel_rfl) (by kernel_rfl) (by kernel_rfl) (by kernel_rfl) (fun _ _ _ h => h) (Or.inl ⟨by rfl, ?_⟩) hHeld ?_; rotate_left; focus (intro wq hSw; obtain ⟨hcq, hfq⟩ := bcellN hSw; go_simp; (try with_reducible rfl); done))
      (try simp only [Act.put, List.setIfInBounds_toArray, List.set_cons_zero, List.set_cons_succ])
      refine anyT_one 3 (by kernel_rfl) rfl (fun K hK => ?_)
      go_simp
      refine (Nth_calls _ _ _ _ _ (Hl0.out.below (HBr.out.trans (hHeld.mono (by omega))))).mono ?_; rintro e x1 ⟨rfl, rfl⟩
      refine hK.out _ _ ?_ (fun hHeld => ?_)
      · exact hHeld
      clear hK K
      (try simp only [Act.put, List.setIfInBounds_toArray, List.set_cons_zero, List.set_cons_succ])
      refine anyT_one 11 (by kernel_rfl) rfl (fun K hK => ?_)
      go_simp
      refine (Turn_calls _ _ _ (by omega)).mono ?_; rintro e x2 ⟨rfl, rfl⟩
      refine hK.out _ _ ?_ (fun hHeld => ?_)
      · exact hHeld
      clear hK K
      (try simp only [Act.put, List.setIfInBounds_toArray, List.set_cons_zero, List.set_cons_succ])
      refine anyT_one 12 (by kernel_rfl) rfl (fun K hK => ?_)
      go_simp
      refine hK.out _ _ ?_ (fun hHeld => ?_)
      · exact hHeld.alloc (by have := hHeld.size; omega) _
      clear hK K
      (try simp only [Act.put, List.setIfInBounds_toArray, List.set_cons_zero, List.set_cons_succ])
      refine anyT_one 13 (by kernel_rfl) rfl (fun K hK => ?_)
      rw [if_pos (by rfl)]; refine wp_app1 _ _ _ rfl W1.heap.size _ (takenTo B bits k) rfl (hownd.alloc _) _ 1 _ rfl (cell_new1 _ _ _) (by rw [takenTo_len]; have := Hg.out.many; omega) (by have := hHeld.size; omega) ?_; rintro v8 w8 ho8 hb8; have hb8' := hHeld.trans hb8
      go_simp
      refine hK.out _ _ ?_ (fun hHeld => ?_)
      · exact hb8'
      clear hK K
      (try simp only [Act.put, List.setIfInBounds_toArray, List.set_cons_zero, List.set_cons_succ])
      first | (refine anyT_take 14 (some 5) (v := ?_) rfl rfl (by kernel_rfl) (by kernel_rfl) (by kernel_rfl) (by kernel_rfl) (fun _ _ _ h => h) (Or.inl ⟨by rfl, ?_⟩) hHeld ?_; rotate_left; focus (intro wq hSw; obtain ⟨hcq, hfq⟩ := bcellN hSw; go_simp; (try with_reducible rfl); done))
      (try simp only [Act.put, List.setIfInBounds_toArray, List.set_cons_zero, List.set_cons_succ])
      refine anyT_done (by kernel_rfl) ?_ _
      have Ho8 := Lib.hid ho8
      have Hh8 := Lib.hid hHeld
      clear ho8 hHeld hb8 hb8'
      go_wp2
      go_roundg (B.lots.length - (k + 1))
      case measure => have := Hgk.out; omega
      case rel => exact ⟨k + 1, by omega, rfl, by go_num, by rw [Hs.out]; exact Ho8.out, Hbe.out.trans Hh8.out⟩
    · obtain rfl : k = B.lots.length := by omega
      obtain ⟨A', c', rfl, hi', hc', hm', h0⟩ := Hown.out.reads
      have Hi' := Lib.hid hi'
      clear hi'
      go_wp2
      go_ret
      exact ⟨⟨A', c', rfl, Hi'.out⟩, HBr.out⟩
end
end Go.Proofs.YtgfbfbfajnfbjaaDoor
