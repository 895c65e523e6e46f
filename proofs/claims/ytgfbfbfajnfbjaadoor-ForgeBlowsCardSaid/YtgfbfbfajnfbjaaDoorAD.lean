import Derived.Test.YtgfbfbfajnfbjaaDoorV
import Derived.Laws.OwnMore
import Derived.Laws.MakeOwn
namespace Go.Proofs.YtgfbfbfajnfbjaaDoor
section
open Go.RowKit Go.Shelf
set_option linter.unusedSimpArgs false
set_option linter.unusedVariables false
/-! A slice of truths that the call itself has made. -/
theorem infoT : (Tryd.prog.info? 108).map (fun i => (i.zero, i.size, i.bytes)) = some (some (.agg #[.int .i64 0, .int .i64 0, .int .i64 0]), 3, 24) := by kernel_rfl
theorem underTs : Tryd.prog.underlying 137 = some (.slice 108) := by kernel_rfl
def thinCells (l : List (List Int)) : List Value := l.flatMap fun t => [.int .i64 (gi t 0), .int .i64 (gi t 1), .int .i64 (gi t 2)]
theorem thinCells_len (l : List (List Int)) : (thinCells l).length = l.length * 3 := by
  induction l with
  | nil => rfl
  | cons t l ih => unfold thinCells at *; rw [List.flatMap_cons, List.length_append, ih]; simp; omega
theorem thinCells_snoc (l : List (List Int)) (t : List Int) : thinCells (l ++ [t]) = thinCells l ++ [.int .i64 (gi t 0), .int .i64 (gi t 1), .int .i64 (gi t 2)] := by unfold thinCells; rw [List.flatMap_append]; simp
def OwnThins (w : World) (base : Nat) (v : Value) (l : List (List Int)) : Prop := w.ownsRow base 108 3 v l.length (thinCells l)
theorem OwnThins.nil (w : World) (base : Nat) : OwnThins w base (.slice none 0 0) [] := World.ownsRow_nil _ _ _ _
theorem ownsRow_base {w : World} {base base' : Nat} {e : TypeId} {size n : Nat} {v : Value} {xs : List Value} (h : w.ownsRow base e size v n xs) (hb : base' ≤ base) : w.ownsRow base' e size v n xs := by
  obtain ⟨h1, h2⟩ := h
  exact ⟨h1, h2.imp id fun ⟨g, cap, cur, e1, e2, e3⟩ => ⟨g, cap, cur, e1, Nat.le_trans hb e2, e3⟩⟩
theorem OwnThins.keepM {M : Nat → Prop} {w w' : World} {base : Nat} {v : Value} {l : List (List Int)} (h : OwnThins w base v l) (k : Keep M w w') (hm : ∀ g, v.ownBlock = some g → ¬ M g) : OwnThins w' base v l := by
  have hlt := World.ownsRow.lt h
  obtain ⟨h1, h2⟩ := h
  refine ⟨h1, h2.imp id ?_⟩
  rintro ⟨g, cap, cur, e1, e2, e3, e4⟩
  have hg : v.ownBlock = some g := by rw [e1]; rfl
  exact ⟨g, cap, cur, e1, e2, (k.block g (hlt g hg).2 (hm g hg)).trans e3, e4⟩
/-- append of a truth -/
theorem run_appT (w : World) (ty : TypeId) (base : Nat) (v : Value) (l : List (List Int)) (hown : OwnThins w base v l) (g c : Nat) (t : List Int) (hc : BoxAt w g #[.int .i64 (gi t 0), .int .i64 (gi t 1), .int .i64 (gi t 2)]) (hl : l.length ≤ 1000000) (hb : base ≤ w.heap.size) :
    ∃ v' w', (Builtin.append_ #[137, 137] ty #[v, .slice (some ⟨g, 0, none⟩) 1 c]).run Tryd.prog w = .ok v' w' ∧ OwnThins w' base v' (l ++ [t]) ∧ w.grownBy w' v.ownBlock ∧ ∀ p, v'.ownBlock = some p → v.ownBlock = some p ∨ w.heap.size ≤ p := by
  obtain ⟨i0, hi, hz0, hz1, hz2⟩ := info_parts infoT
  have hns : ∀ j u, [Value.int .i64 (gi t 0), .int .i64 (gi t 1), .int .i64 (gi t 2)][j]? = some u → w.cell? ((⟨g, 0, none⟩ : Addr).add j) = some u := by
    intro j u hj
    have h := hc.cell j
    match j, hj with
    | 0, hj => simpa [Addr.add] using h.trans (by simpa using hj)
    | 1, hj => simpa [Addr.add] using h.trans (by simpa using hj)
    | 2, hj => simpa [Addr.add] using h.trans (by simpa using hj)
  have h1c : ∀ u ∈ [Value.int .i64 (gi t 0), .int .i64 (gi t 1), .int .i64 (gi t 2)], u.oneCell' = true := by intro u hu; simp at hu; rcases hu with rfl | rfl | rfl <;> rfl
  have hwrap : ∀ {w' : World} {v' : Value} {b : Nat}, w'.ownsRow b 108 3 v' (l.length + 1) (thinCells l ++ [Value.int .i64 (gi t 0), .int .i64 (gi t 1), .int .i64 (gi t 2)]) → base ≤ b → OwnThins w' base v' (l ++ [t]) := by
    intro w' v' b h hb'
    unfold OwnThins
    rw [thinCells_snoc, List.length_append]
    exact ownsRow_base h hb'
  have hown' := hown
  obtain ⟨h1, h2⟩ := hown
  rcases h2 with ⟨rfl, hn⟩ | ⟨g', cap, cur, rfl, hg, hb', hn, hcm, hs, ht⟩
  · have hl0 : l = [] := List.eq_nil_of_length_eq_zero hn
    subst hl0
    obtain ⟨v', w', hr, r1, r2, r3⟩ := run_append_own (P := Tryd.prog) w w.heap.size 137 ty 108 i0 _ 3 24 underTs hi hz0 hz1 hz2 rfl (by decide) (.slice none 0 0) 0 [] (World.ownsRow_nil _ _ _ _) ⟨g, 0, none⟩ 1 c _ rfl hns h1c (by unfold maxLen; omega) (by omega) (Nat.le_refl _)
    exact ⟨v', w', hr, hwrap r1 hb, r2, fun p hp => .inr (World.ownsRow.lt r1 p hp).1⟩
  · by_cases hroom : l.length + 1 ≤ cap
    · obtain ⟨w', hr, r1, r2⟩ := run_append_fits (P := Tryd.prog) w base 137 ty 108 i0 3 underTs hi hz1 g' l.length cap (thinCells l) hown' ⟨g, 0, none⟩ 1 c _ rfl hns h1c hroom
      exact ⟨_, w', hr, hwrap r1 (Nat.le_refl _), r2, fun p hp => .inl hp⟩
    · have hcs : ∀ j u, (thinCells l)[j]? = some u → w.cell? ((⟨g', 0, none⟩ : Addr).add j) = some u := World.ownsRow.cells hown' rfl
      obtain ⟨v', w', hr, r1, r2⟩ := run_append_arg_grows (P := Tryd.prog) w 137 ty 108 i0 _ 3 24 underTs hi hz0 hz1 hz2 rfl (by decide) ⟨g', 0, none⟩ l.length cap (thinCells l) (thinCells_len l) hcs ⟨g, 0, none⟩ 1 c _ rfl hns (by omega) (by unfold maxLen; omega) (by omega)
      exact ⟨v', w', hr, hwrap r1 hb, ⟨r2.os, r2.tape, r2.output, r2.size, fun k hk hne => r2.block k hk (by simp)⟩, fun p hp => .inr (World.ownsRow.lt r1 p hp).1⟩
theorem wpListIn_appT {F : Fence} {n : Nat} (w : World) {ops : Array Oper} {rest : List Oper} {o : Oper} {a : Act} {Q : Exit → Act → World → Prop}
    (hg : o.guard = none) (s x : Operand) (hop : o.op = Op.call { callee := Callee.builtin Builtin.append, args := #[s, x], argTypes := #[137, 137] })
    (base : Nat) (v : Value) (l : List (List Int)) (hs : a.eval s = v) (hown : OwnThins w base v l) (g c : Nat) (t : List Int) (hx : a.eval x = .slice (some ⟨g, 0, none⟩) 1 c) (hc : BoxAt w g #[.int .i64 (gi t 0), .int .i64 (gi t 1), .int .i64 (gi t 2)])
    (hl : l.length ≤ 1000000) (hb : base ≤ w.heap.size)
    (hK : ∀ v' w', OwnThins w' base v' (l ++ [t]) → w.grownBy w' v.ownBlock → (∀ p, v'.ownBlock = some p → v.ownBlock = some p ∨ w.heap.size ≤ p) → wpListIn F n Tryd.prog ops Q rest (a.put o.dst v') w') :
    wpListIn F n Tryd.prog ops Q (o :: rest) a w := by
  refine wpListIn_plain hg fun K hK' => ?_
  obtain ⟨v', w', hrun, r1, r2, r3⟩ := run_appT w o.type base v l hown g c t hc hl hb
  unfold Oper.wpIn
  refine ⟨?_, ?_⟩
  · simp [Oper.about, hop, resolve, Target.leads, Sem.run_pure]
  · rw [Oper.semAt_plain F _ _ (by rw [hop]; intro c hc'; cases hc')]
    simp [execOp, hop, resolve, invoke, builtin, hs, hx, hrun, Result.andThen]
    exact hK' _ _ (hK v' w' r1 r2 r3)
/-- truths in memory, one behind the other -/
def ThinsAt (w : World) (b : Nat) (l : List (List Int)) : Prop := ∀ j, j < l.length → w.cell? ⟨b, j * 3, none⟩ = some (.int .i64 (gi (l.getD j []) 0)) ∧ w.cell? ⟨b, j * 3 + 1, none⟩ = some (.int .i64 (gi (l.getD j []) 1)) ∧ w.cell? ⟨b, j * 3 + 2, none⟩ = some (.int .i64 (gi (l.getD j []) 2))
theorem thinCells_get (l : List (List Int)) (j : Nat) (hj : j < l.length) : (thinCells l)[j * 3]? = some (.int .i64 (gi (l.getD j []) 0)) ∧ (thinCells l)[j * 3 + 1]? = some (.int .i64 (gi (l.getD j []) 1)) ∧ (thinCells l)[j * 3 + 2]? = some (.int .i64 (gi (l.getD j []) 2)) := by
  induction l generalizing j with
  | nil => simp at hj
  | cons t l ih =>
    have hc : thinCells (t :: l) = [.int .i64 (gi t 0), .int .i64 (gi t 1), .int .i64 (gi t 2)] ++ thinCells l := by unfold thinCells; rw [List.flatMap_cons]
    rw [hc]
    cases j with
    | zero => exact ⟨rfl, rfl, rfl⟩
    | succ j =>
      have h := ih j (by simpa using hj)
      have e0 : (j + 1) * 3 = j * 3 + 3 := by omega
      have e1 : (j + 1) * 3 + 1 = (j * 3 + 1) + 3 := by omega
      have e2 : (j + 1) * 3 + 2 = (j * 3 + 2) + 3 := by omega
      rw [e1, e2, e0]
      simpa using h
theorem OwnThins.reads {w : World} {base : Nat} {v : Value} {l : List (List Int)} (h : OwnThins w base v l) (hl : 0 < l.length) :
    ∃ g c, v = .slice (some ⟨g, 0, none⟩) l.length c ∧ ThinsAt w g l ∧ l.length ≤ c ∧ c ≤ 9223372036854775807 ∧ base ≤ g ∧ g < w.heap.size := by
  have hlt := World.ownsRow.lt h
  have hcs := fun g => World.ownsRow.cells (w := w) (g := g) h
  obtain ⟨h1, h2⟩ := h
  rcases h2 with ⟨rfl, hn⟩ | ⟨g, cap, cur, rfl, hg, hb, hn, hc, hs, ht⟩
  · omega
  · refine ⟨g, cap, rfl, fun j hj => ?_, hn, by unfold maxLen at hc; omega, hg, (hlt g rfl).2⟩
    have ht := thinCells_get l j hj
    have h0 := hcs g rfl (j * 3) _ ht.1
    have h1 := hcs g rfl (j * 3 + 1) _ ht.2.1
    have h2 := hcs g rfl (j * 3 + 2) _ ht.2.2
    refine ⟨?_, by simpa [Addr.add] using h1, by simpa [Addr.add] using h2⟩
    by_cases hj0 : j = 0
    · subst hj0; simpa [Addr.add] using h0
    · have : ¬ j * 3 = 0 := by omega
      simpa [Addr.add, this, hj0] using h0
theorem ThinsAt.below {w w1 : World} {b : Nat} {l : List (List Int)} (h : ThinsAt w b l) (hb : Below w.heap.size w w1) : ThinsAt w1 b l := fun j hj => ⟨cell_below hb (h j hj).1, cell_below hb (h j hj).2.1, cell_below hb (h j hj).2.2⟩
theorem ThinsAt.keep {M : Nat → Prop} {w w1 : World} {b : Nat} {l : List (List Int)} (h : ThinsAt w b l) (k : Keep M w w1) (hm : ¬ M b) : ThinsAt w1 b l := fun j hj => ⟨k.cell (h j hj).1 hm, k.cell (h j hj).2.1 hm, k.cell (h j hj).2.2 hm⟩
/-! A row of 301 spans. -/
def SpansBox (W : World) (g : Nat) (f : Nat → Int × Int) : Prop := ∃ cs, BoxAt W g cs ∧ ∀ j, j < 301 → cs[j * 2]? = some (.int .i64 (f j).1) ∧ cs[j * 2 + 1]? = some (.int .i64 (f j).2)
theorem SpansBox.congr {W : World} {g : Nat} {f f' : Nat → Int × Int} (h : SpansBox W g f) (he : ∀ j, j < 301 → f j = f' j) : SpansBox W g f' := by
  obtain ⟨cs, h1, h2⟩ := h
  exact ⟨cs, h1, fun j hj => he j hj ▸ h2 j hj⟩
theorem SpansBox.lt {W : World} {g : Nat} {f : Nat → Int × Int} (h : SpansBox W g f) : g < W.heap.size := by obtain ⟨cs, h1, _⟩ := h; exact h1.lt
theorem SpansBox.below {W W' : World} {g : Nat} {f : Nat → Int × Int} (h : SpansBox W g f) (k : Below W.heap.size W W') : SpansBox W' g f := by obtain ⟨cs, h1, h2⟩ := h; exact ⟨cs, h1.below k, h2⟩
theorem SpansBox.at_ {W : World} {g : Nat} {f : Nat → Int × Int} (h : SpansBox W g f) (j : Nat) (hj : j < 301) : W.cell? ⟨g, j * 2, none⟩ = some (.int .i64 (f j).1) ∧ W.cell? ⟨g, j * 2 + 1, none⟩ = some (.int .i64 (f j).2) ∧ ∀ i, W.frozen? ⟨g, i, none⟩ = false := by
  obtain ⟨cs, h1, h2⟩ := h
  exact ⟨(h1.cell _).trans (h2 j hj).1, (h1.cell _).trans (h2 j hj).2, h1.frozen⟩
theorem SpansBox.put {W : World} {g : Nat} {f : Nat → Int × Int} (h : SpansBox W g f) (n : Nat) (hn : n < 301) (a b : Int) : SpansBox ((W.setCell ⟨g, n * 2, none⟩ (.int .i64 a)).setCell ⟨g, n * 2 + 1, none⟩ (.int .i64 b)) g (fun j => if j = n then (a, b) else f j) := by
  obtain ⟨cs, h1, h2⟩ := h
  have hs1 : n * 2 < cs.size := (Array.getElem?_eq_some_iff.1 (h2 n hn).1).1
  have hs2 : n * 2 + 1 < cs.size := (Array.getElem?_eq_some_iff.1 (h2 n hn).2).1
  refine ⟨_, (h1.put (n * 2) (.int .i64 a) hs1).put (n * 2 + 1) (.int .i64 b) (by simpa using hs2), fun j hj => ?_⟩
  have h3 := h2 j hj
  simp only [Array.getElem?_setIfInBounds, Array.size_setIfInBounds]
  by_cases e : j = n
  · subst e
    rw [if_neg (by omega), if_pos rfl, if_pos hs1, if_pos rfl, if_pos hs2]
    simp
  · rw [if_neg (show ¬ n * 2 + 1 = j * 2 by omega), if_neg (show ¬ n * 2 = j * 2 by omega), if_neg (show ¬ n * 2 + 1 = j * 2 + 1 by omega), if_neg (show ¬ n * 2 = j * 2 + 1 by omega), if_neg e]
    exact h3
theorem SpansBox.spans {W : World} {g : Nat} {f : Nat → Int × Int} (h : SpansBox W g f) : SpansAt W (some ⟨g, 0, none⟩) ((List.range 301).map f) := by
  refine ⟨by simp, .inr ⟨g, 0, rfl, fun j hj => ?_⟩⟩
  rw [List.length_map, List.length_range] at hj
  have h1 := h.at_ j hj
  have e : gs ((List.range 301).map f) j = f j := by unfold gs; rw [List.getD_eq_getElem?_getD, List.getElem?_map, List.getElem?_range hj]; rfl
  rw [e]
  simpa using ⟨h1.1, h1.2.1⟩
theorem flatMap_len {α β : Type} (f : α → List β) (c : Nat) : ∀ l : List α, (∀ x, x ∈ l → (f x).length ≤ c) → (l.flatMap f).length ≤ l.length * c
  | [], _ => by simp
  | x :: l, h => by
    rw [List.flatMap_cons, List.length_append, List.length_cons, Nat.succ_mul]
    have h1 := h x List.mem_cons_self
    have h2 := flatMap_len f c l (fun y hy => h y (List.mem_cons_of_mem _ hy))
    omega
theorem truthsFrom_len {B : ForgeV} (g : B.Good) (left : Int) : ∀ (n : Nat) (x : List Int), x.length + n = 3 → (truthsFrom B left n x).length ≤ 20 ^ n
  | 0, x, _ => by unfold truthsFrom; split <;> simp
  | n + 1, x, h => by
    rw [truthsFrom_succ]
    have hs := g.thin x.length (by omega)
    have h1 := flatMap_len (tkid B left n x) (20 ^ n) (List.range ((gs B.thins x.length).2 - (gs B.thins x.length).1 + 1).toNat) (fun k _ => truthsFrom_len g left n _ (by simp; omega))
    rw [List.length_range] at h1
    have h2 : ((gs B.thins x.length).2 - (gs B.thins x.length).1 + 1).toNat ≤ 20 := by omega
    have h3 := Nat.mul_le_mul_right (20 ^ n) h2
    rw [Nat.pow_succ]
    omega
theorem truthsS_len {B : ForgeV} (g : B.Good) (left : Int) : (truthsS B left).length ≤ 8000 := truthsFrom_len g left 3 [] rfl
end
end Go.Proofs.YtgfbfbfajnfbjaaDoor
