import Derived.Test.YtgfbfbfajnfbjaaDoorL
import Derived.Test.YtgfbfbfajnfbjaaDoorX
import Derived.Test.YtgfbfbfajnfbjaaDoorAC
import Derived.Test.YtgfbfbfajnfbjaaDoorBA
import Derived.WalkMore
import Derived.Scope
namespace Go.Proofs.YtgfbfbfajnfbjaaDoor
section
open Go.RowKit Go.Shelf
set_option linter.unusedSimpArgs false
set_option linter.unusedVariables false
theorem wpIn_scope_w {P : Program} {c : Code} {n : Nat} {Q : Exit → Act → World → Prop} {a : Act} {w : World} (h : c.wpIn Fence.wide n P (Exit.noGoto Q) a w) : (Code.scope c).wpIn Fence.wide n P Q a w := wpIn_wide.2 (wp_scope_straight (wpIn_wide.1 h))
theorem wpIn_label_w {P : Program} {l : Nat} {n : Nat} {Q : Exit → Act → World → Prop} {a : Act} {w : World} (h : Q .normal a w) : (Code.label l).wpIn Fence.wide n P Q a w := wpIn_wide.2 (wp_label h)
/-! What 'Casts' tried in vain: a map by the bars that are left and the number of discs. -/
abbrev RK := Int × Int × Int × Int × Int
def restK (k : RK) : Value := .agg #[.int .i64 k.1, .int .i64 k.2.1, .int .i64 k.2.2.1, .int .i64 k.2.2.2.1, .int .i64 k.2.2.2.2]
def keyOf (l : List Int) (d : Int) : RK := (gi l 0, gi l 1, gi l 2, gi l 3, d)
theorem eqInt2 (a b : Int) (w : World) (n : Nat) : (Op.equalIn (n + 1) 3 (.int .i64 a) (.int .i64 b)).run Tryd.prog w = .ok (decide (a = b)) w := eqInt a b w n
end
section
open Go.RowKit Go.Shelf
attribute [local go_sem] Oper.semAt_some
set_option linter.unusedSimpArgs false
set_option linter.unusedVariables false
theorem eq4n (a b c d x y z u : Int) (w : World) : (Op.equalIn 9999 85 (.agg #[.int .i64 a, .int .i64 b, .int .i64 c, .int .i64 d]) (.agg #[.int .i64 x, .int .i64 y, .int .i64 z, .int .i64 u])).run Tryd.prog w = .ok (decide (a = x) && (decide (b = y) && (decide (c = z) && decide (d = u)))) w := by
  have u3 := under3
  have z3 : ∀ w, (sizeOf 3).run Tryd.prog w = .ok 1 w := fun w => by kernel_rfl
  rw [show (9999 : Nat) = 9998 + 1 from rfl, Op.equalIn]
  simp only [Sem.run_bind, run_underlying underBars, Result.andThen_ok]
  simp only [Std.Legacy.Range.forIn_eq_forIn_range', Std.Legacy.Range.size, Nat.sub_zero, Nat.add_sub_cancel, Nat.div_one, List.range'_succ, List.range'_zero, List.forIn_cons, List.forIn_nil]
  go_simp
  by_cases h1 : a = x <;> by_cases h2 : b = y <;> by_cases h3 : c = z <;> by_cases h4 : d = u <;> simp [h1, h2, h3, h4]
theorem eqRest (a b c d e x y z u v : Int) (w : World) : (Op.equalIn 10000 101 (.agg #[.int .i64 a, .int .i64 b, .int .i64 c, .int .i64 d, .int .i64 e]) (.agg #[.int .i64 x, .int .i64 y, .int .i64 z, .int .i64 u, .int .i64 v])).run Tryd.prog w =
    .ok ((decide (a = x) && (decide (b = y) && (decide (c = z) && decide (d = u)))) && decide (e = v)) w := by
  have hS : Tryd.prog.underlying 101 = some (.struct (Tryd.prog.fieldsOf 101)) := by kernel_rfl
  have hp : Tryd.prog.stoodInHeld 101 = false := by kernel_rfl
  rw [show (10000 : Nat) = 9999 + 1 from rfl, run_equalIn_struct w 9999 101 _ _ hS hp]
  obtain ⟨f0, f1, hf, n0, n1, t0, t1, o0, o1⟩ : ∃ f0 f1 : Field, (Tryd.prog.fieldsOf 101).toList = [f0, f1] ∧ (f0.name == "_") = false ∧ (f1.name == "_") = false ∧ f0.type = 85 ∧ f1.type = 3 ∧ f0.offset = 0 ∧ f1.offset = 4 :=
    ⟨(Tryd.prog.fieldsOf 101)[0]!, (Tryd.prog.fieldsOf 101)[1]!, by kernel_rfl, by kernel_rfl, by kernel_rfl, by kernel_rfl, by kernel_rfl, by kernel_rfl, by kernel_rfl⟩
  have p0 : ∀ (a b c d e : Int) (w : World), (part 85 #[.int .i64 a, .int .i64 b, .int .i64 c, .int .i64 d, .int .i64 e] 0).run Tryd.prog w = .ok (.agg #[.int .i64 a, .int .i64 b, .int .i64 c, .int .i64 d]) w := fun a b c d e w => by kernel_rfl
  have p1 : ∀ (a b c d e : Int) (w : World), (part 3 #[.int .i64 a, .int .i64 b, .int .i64 c, .int .i64 d, .int .i64 e] 4).run Tryd.prog w = .ok (.int .i64 e) w := fun a b c d e w => by kernel_rfl
  have e3 : ∀ (x y : Int) (w : World), (Op.equalIn 9999 3 (.int .i64 x) (.int .i64 y)).run Tryd.prog w = .ok (decide (x = y)) w := fun x y w => eqInt x y w 9998
  rw [hf]
  have m0 : f0.name ≠ "_" := by simpa using n0
  have m1 : f1.name ≠ "_" := by simpa using n1
  simp only [Op.eqFields, if_pos m0, if_pos m1, t0, t1, o0, o1, Sem.run_bind, p0, p1, e3, eq4n, Result.andThen_ok]
  cases h1 : (decide (a = x) && (decide (b = y) && (decide (c = z) && decide (d = u)))) <;> cases h2 : decide (e = v) <;> simp_all
theorem restKeys : KeyOk 97 101 restK where
  under := by kernel_rfl
  eq a b w := by
    obtain ⟨a0, a1, a2, a3, a4⟩ := a
    obtain ⟨b0, b1, b2, b3, b4⟩ := b
    unfold restK
    refine (eqRest _ _ _ _ _ _ _ _ _ _ w).trans ?_
    congr 1
    by_cases h0 : a0 = b0 <;> by_cases h1 : a1 = b1 <;> by_cases h2 : a2 = b2 <;> by_cases h3 : a3 = b3 <;> by_cases h4 : a4 = b4 <;> simp [h0, h1, h2, h3, h4]
  check a em w := by unfold restK; kernel_rfl
  find a ls es w h := by unfold restK; exact run_findKey_eq (P := Tryd.prog) (w := w) (by kernel_rfl) _ _
  bits a := by unfold restK; rw [show (10000 : Nat) = 9998 + 1 + 1 from rfl]; simp [Instr.sameBits]
@[local go_sem] theorem make97 (W : World) : (Instr.makeMap 97 none).run Tryd.prog W = .ok (.map (some W.heap.size)) (W.alloc (.map #[] 0)) := run_makeMap _ _
/-! A slice of melts that the call itself has made. -/
theorem infoB : (Tryd.prog.info? 85).map (fun i => (i.zero, i.size, i.bytes)) = some (some (.agg #[.int .i64 0, .int .i64 0, .int .i64 0, .int .i64 0]), 4, 32) := by kernel_rfl
theorem underBs : Tryd.prog.underlying 98 = some (.slice 85) := by kernel_rfl
def barCells (l : List (List Int)) : List Value := l.flatMap fun t => (pad4 t).toList
theorem barCells_len (l : List (List Int)) : (barCells l).length = l.length * 4 := by
  induction l with
  | nil => rfl
  | cons t l ih => unfold barCells at *; rw [List.flatMap_cons, List.length_append, ih]; simp [pad4]; omega
theorem barCells_snoc (l : List (List Int)) (t : List Int) : barCells (l ++ [t]) = barCells l ++ (pad4 t).toList := by unfold barCells; rw [List.flatMap_append]; simp
def OwnBars (w : World) (base : Nat) (v : Value) (l : List (List Int)) : Prop := w.ownsRow base 85 4 v l.length (barCells l)
theorem OwnBars.nil (w : World) (base : Nat) : OwnBars w base (.slice none 0 0) [] := World.ownsRow_nil _ _ _ _
theorem OwnBars.keepM {M : Nat → Prop} {w w' : World} {base : Nat} {v : Value} {l : List (List Int)} (h : OwnBars w base v l) (k : Keep M w w') (hm : ∀ g, v.ownBlock = some g → ¬ M g) : OwnBars w' base v l := by
  have hlt := World.ownsRow.lt h
  obtain ⟨h1, h2⟩ := h
  refine ⟨h1, h2.imp id ?_⟩
  rintro ⟨g, cap, cur, e1, e2, e3, e4⟩
  have hg : v.ownBlock = some g := by rw [e1]; rfl
  exact ⟨g, cap, cur, e1, e2, (k.block g (hlt g hg).2 (hm g hg)).trans e3, e4⟩
theorem OwnBars.keep_l {w w' : World} {base : Nat} {v : Value} {l : List (List Int)} {q : Nat} {r : Loop} (h : OwnBars w base v l) (hl : w.heap[q]? = some (.loop r)) (k : Keep (fun k => k = q) w w') : OwnBars w' base v l := by
  refine h.keepM k fun g hg e => ?_
  obtain ⟨_, h2⟩ := h
  rcases h2 with ⟨rfl, _⟩ | ⟨g', cap, cur, rfl, _, hh, _⟩
  · cases hg
  · simp [Value.ownBlock] at hg; subst hg; rw [e, hl] at hh; cases hh
theorem wpListIn_appB {F : Fence} {n : Nat} (w : World) {ops : Array Oper} {rest : List Oper} {o : Oper} {a : Act} {Q : Exit → Act → World → Prop}
    (hg : o.guard = none) (s x : Operand) (hop : o.op = Op.call { callee := Callee.builtin Builtin.append, args := #[s, x], argTypes := #[98, 98] })
    (base : Nat) (v : Value) (l : List (List Int)) (hs : a.eval s = v) (hown : OwnBars w base v l) (g c : Nat) (t : List Int) (hx : a.eval x = .slice (some ⟨g, 0, none⟩) 1 c) (hc : BoxAt w g #[.int .i64 (gi t 0), .int .i64 (gi t 1), .int .i64 (gi t 2), .int .i64 (gi t 3)])
    (hl : l.length ≤ 1000000) (hb : base ≤ w.heap.size)
    (hK : ∀ v' w', OwnBars w' base v' (l ++ [t]) → w.grownBy w' v.ownBlock → wpListIn F n Tryd.prog ops Q rest (a.put o.dst v') w') :
    wpListIn F n Tryd.prog ops Q (o :: rest) a w := by
  obtain ⟨i0, hi, hz0, hz1, hz2⟩ := info_parts infoB
  refine wpListIn_append_own w hg s x 98 hop base 85 i0 _ 4 32 underBs hi hz0 hz1 hz2 rfl (by decide) v l.length (barCells l) hs hown ⟨g, 0, none⟩ 1 c [.int .i64 (gi t 0), .int .i64 (gi t 1), .int .i64 (gi t 2), .int .i64 (gi t 3)] hx rfl ?_ ?_ (by unfold maxLen; omega) (by omega) hb ?_
  · intro j u hj
    have h := hc.cell j
    match j, hj with
    | 0, hj => simpa [Addr.add] using h.trans (by simpa using hj)
    | 1, hj => simpa [Addr.add] using h.trans (by simpa using hj)
    | 2, hj => simpa [Addr.add] using h.trans (by simpa using hj)
    | 3, hj => simpa [Addr.add] using h.trans (by simpa using hj)
  · intro u hu; simp at hu; rcases hu with rfl | rfl | rfl | rfl <;> rfl
  · intro v' w' h1 h2 _
    refine hK v' w' ?_ h2
    unfold OwnBars
    rw [barCells_snoc, List.length_append]
    exact h1
end
end Go.Proofs.YtgfbfbfajnfbjaaDoor
