import Derived.Test.YtgfbfbfajnfbjaaDoorAJ
import Derived.Laws.OwnMore
namespace Go.Proofs.YtgfbfbfajnfbjaaDoor
section
open Go.RowKit Go.Shelf
set_option linter.unusedSimpArgs false
set_option linter.unusedVariables false
/-! A slice of slices of whole numbers that the call itself has made. -/
def gm (l : List (List Int)) (k : Nat) : List Int := l.getD k []
def RowsAt (w : World) (A : Option Addr) (ms : List (List Int)) : Prop := ms.length ≤ 9223372036854775807 ∧ (ms = [] ∨ ∃ b o, A = some ⟨b, o, none⟩ ∧ ∀ j, j < ms.length → ∃ Aj c, w.cell? ⟨b, o + j, none⟩ = some (.slice Aj (gm ms j).length c) ∧ (gm ms j).length ≤ c ∧ IntsAt w Aj (gm ms j))
theorem RowsAt.below {w w1 : World} {A : Option Addr} {ms : List (List Int)} (h : RowsAt w A ms) (hb : Below w.heap.size w w1) : RowsAt w1 A ms :=
  ⟨h.1, h.2.imp id fun ⟨b, o, e, hc⟩ => ⟨b, o, e, fun j hj => (hc j hj).imp fun Aj h => h.imp fun c h => ⟨cell_below hb h.1, h.2.1, h.2.2.below hb⟩⟩⟩
theorem infoL : (Tryd.prog.info? 29).map (fun i => (i.zero, i.size, i.bytes)) = some (some (.slice none 0 0), 1, 24) := by kernel_rfl
theorem underLs : Tryd.prog.underlying 41 = some (.slice 29) := by kernel_rfl
/-- a slice that is owned, and whose own cells are slices that read as rows, each of them elsewhere -/
def OwnRows (w : World) (base : Nat) (v : Value) (ms : List (List Int)) : Prop :=
  ∃ vals, w.ownsRow base 29 1 v ms.length vals ∧ ∀ j, j < ms.length → ∃ Aj c, vals[j]? = some (.slice Aj (gm ms j).length c) ∧ (gm ms j).length ≤ c ∧ IntsAt w Aj (gm ms j) ∧ ∀ b o, Aj = some ⟨b, o, none⟩ → v.ownBlock ≠ some b ∧ b < w.heap.size
theorem OwnRows.nil (w : World) (base : Nat) : OwnRows w base (.slice none 0 0) [] := ⟨[], World.ownsRow_nil _ _ _ _, fun j hj => by simp at hj⟩
theorem IntsAt.keepA {M : Nat → Prop} {w w1 : World} {A : Option Addr} {xs : List Int} (h : IntsAt w A xs) (k : Keep M w w1) (hm : ∀ b o, A = some ⟨b, o, none⟩ → ¬ M b) : IntsAt w1 A xs := h.keep k hm
theorem OwnRows.below {w w1 : World} {base : Nat} {v : Value} {ms : List (List Int)} (h : OwnRows w base v ms) (hb : Below w.heap.size w w1) : OwnRows w1 base v ms := by
  obtain ⟨vals, h1, h2⟩ := h
  refine ⟨vals, ?_, fun j hj => ?_⟩
  · refine World.ownsRow.kept h1 (row := none) ⟨hb.os, hb.tape, hb.output, hb.size, fun k hk _ => hb.block k hk⟩ ?_
    by_cases e : v.ownBlock = none
    · exact .inl e
    · exact .inr e
  · obtain ⟨Aj, c, a, b, d, e⟩ := h2 j hj
    exact ⟨Aj, c, a, b, d.below hb, fun x o hx => ⟨(e x o hx).1, Nat.lt_of_lt_of_le (e x o hx).2 hb.size⟩⟩
theorem gm_snoc (ms : List (List Int)) (m : List Int) (j : Nat) (h : j < ms.length) : gm (ms ++ [m]) j = gm ms j := by
  unfold gm; rw [List.getD_eq_getElem?_getD, List.getD_eq_getElem?_getD, List.getElem?_append_left h]
theorem gm_snoc_at (ms : List (List Int)) (m : List Int) : gm (ms ++ [m]) ms.length = m := by
  unfold gm; rw [List.getD_eq_getElem?_getD]; simp
/-- append of a row -/
theorem run_appR (w : World) (ty : TypeId) (base : Nat) (v : Value) (ms : List (List Int)) (hown : OwnRows w base v ms) (g c : Nat) (m : List Int) (A : Option Addr) (cm : Nat) (hc : w.cell? ⟨g, 0, none⟩ = some (.slice A m.length cm)) (hmc : m.length ≤ cm) (hm : IntsAt w A m)
    (hA : ∀ b o, A = some ⟨b, o, none⟩ → v.ownBlock ≠ some b ∧ b < w.heap.size) (hl : ms.length ≤ 1000000) (hb : base ≤ w.heap.size) :
    ∃ v' w', (Builtin.append_ #[41, 41] ty #[v, .slice (some ⟨g, 0, none⟩) 1 c]).run Tryd.prog w = .ok v' w' ∧ OwnRows w' base v' (ms ++ [m]) ∧ Below base w w' := by
  obtain ⟨i0, hi, hz0, hz1, hz2⟩ := info_parts infoL
  obtain ⟨vals, h1, h2⟩ := hown
  have hns : ∀ j u, [Value.slice A m.length cm][j]? = some u → w.cell? ((⟨g, 0, none⟩ : Addr).add j) = some u := by
    intro j u hj
    match j, hj with
    | 0, hj => simp at hj; subst hj; simpa [Addr.add] using hc
  have h1c : ∀ u ∈ [Value.slice A m.length cm], u.oneCell' = true := by intro u hu; simp at hu; subst hu; rfl
  have hvl : vals.length = ms.length := by have := h1.1; omega
  have fin : ∀ (v' : Value) (w' : World) (b : Nat), base ≤ b → w'.ownsRow b 29 1 v' (ms.length + 1) (vals ++ [Value.slice A m.length cm]) → w.grownBy w' v.ownBlock → (∀ p, v'.ownBlock = some p → v.ownBlock = some p ∨ w.heap.size ≤ p) → OwnRows w' base v' (ms ++ [m]) ∧ Below base w w' := by
    intro v' w' b hbb r1 r2 r3
    have hk : Keep (fun k => v.ownBlock = some k) w w' := ⟨r2.os, r2.tape, r2.output, r2.size, fun k hk hn => r2.block k hk (fun e => hn e.symm)⟩
    have hne : ∀ x, v.ownBlock ≠ some x → x < w.heap.size → v'.ownBlock ≠ some x := fun x h1 h2 e => (r3 x e).elim h1 (fun h => by omega)
    refine ⟨⟨_, by rw [List.length_append]; exact ⟨r1.1, r1.2.imp id fun ⟨g, cap, cur, e1, e2, e3⟩ => ⟨g, cap, cur, e1, Nat.le_trans hbb e2, e3⟩⟩, fun j hj => ?_⟩, hk.below (fun k hk' e => (World.ownsRow.lt h1 k e).1) hb⟩
    rw [List.length_append] at hj
    simp only [List.length_cons, List.length_nil] at hj
    by_cases hj' : j < ms.length
    · obtain ⟨Aj, cj, a1, a2, a3, a4⟩ := h2 j hj'
      rw [gm_snoc _ _ _ hj']
      exact ⟨Aj, cj, by rw [List.getElem?_append_left (by omega)]; exact a1, a2, a3.keep hk (fun b o e => (a4 b o e).1), fun b o e => ⟨hne b (a4 b o e).1 (a4 b o e).2, Nat.lt_of_lt_of_le (a4 b o e).2 r2.size⟩⟩
    · obtain rfl : j = ms.length := by omega
      rw [gm_snoc_at]
      exact ⟨A, cm, by rw [← hvl]; simp, hmc, hm.keep hk (fun b o e => (hA b o e).1), fun b o e => ⟨hne b (hA b o e).1 (hA b o e).2, Nat.lt_of_lt_of_le (hA b o e).2 r2.size⟩⟩
  have h1' := h1
  obtain ⟨g1, g2⟩ := h1
  rcases g2 with ⟨rfl, hn⟩ | ⟨g', cap, cur, rfl, hg, hb', hn, hcm, hs, ht⟩
  · have hm0 : ms = [] := List.eq_nil_of_length_eq_zero hn
    subst hm0
    have hv0 : vals = [] := List.eq_nil_of_length_eq_zero hvl
    subst hv0
    obtain ⟨v', w', hr, r1, r2, r3⟩ := run_append_own (P := Tryd.prog) w w.heap.size 41 ty 29 i0 _ 1 24 underLs hi hz0 hz1 hz2 rfl (by decide) (.slice none 0 0) 0 [] (World.ownsRow_nil _ _ _ _) ⟨g, 0, none⟩ 1 c _ rfl hns h1c (by unfold maxLen; omega) (by omega) (Nat.le_refl _)
    exact ⟨v', w', hr, fin v' w' _ hb r1 r2 (fun p hp => .inr (World.ownsRow.lt r1 p hp).1)⟩
  · by_cases hroom : ms.length + 1 ≤ cap
    · obtain ⟨w', hr, r1, r2⟩ := run_append_fits (P := Tryd.prog) w base 41 ty 29 i0 1 underLs hi hz1 g' ms.length cap vals h1' ⟨g, 0, none⟩ 1 c _ rfl hns h1c hroom
      exact ⟨_, w', hr, fin _ w' base (Nat.le_refl _) r1 r2 (fun p hp => .inl hp)⟩
    · have hcs : ∀ j u, vals[j]? = some u → w.cell? ((⟨g', 0, none⟩ : Addr).add j) = some u := World.ownsRow.cells h1' rfl
      obtain ⟨v', w', hr, r1, r2⟩ := run_append_arg_grows (P := Tryd.prog) w 41 ty 29 i0 _ 1 24 underLs hi hz0 hz1 hz2 rfl (by decide) ⟨g', 0, none⟩ ms.length cap vals (by omega) hcs ⟨g, 0, none⟩ 1 c _ rfl hns (by omega) (by unfold maxLen; omega) (by omega)
      exact ⟨v', w', hr, fin v' w' _ hb r1 ⟨r2.os, r2.tape, r2.output, r2.size, fun k hk _ => r2.block k hk (by simp)⟩ (fun p hp => .inr (World.ownsRow.lt r1 p hp).1)⟩
theorem wp_appR {o : Oper} {a : Act} {K : Act → World → Prop} {Q : Exit → Act → World → Prop} (w : World) (s x : Operand)
    (ho : o.op = .call { callee := .builtin .append, args := #[s, x], argTypes := #[41, 41] })
    (base : Nat) (v : Value) (ms : List (List Int)) (hs : a.eval s = v) (hown : OwnRows w base v ms) (g c : Nat) (m : List Int) (A : Option Addr) (cm : Nat) (hx : a.eval x = .slice (some ⟨g, 0, none⟩) 1 c) (hc : w.cell? ⟨g, 0, none⟩ = some (.slice A m.length cm)) (hmc : m.length ≤ cm) (hm : IntsAt w A m)
    (hA : ∀ b o, A = some ⟨b, o, none⟩ → v.ownBlock ≠ some b ∧ b < w.heap.size) (hl : ms.length ≤ 1000000) (hb : base ≤ w.heap.size)
    (h : ∀ v' w', OwnRows w' base v' (ms ++ [m]) → Below base w w' → K (a.put o.dst v') w') : o.wp Tryd.prog a w K Q := by
  obtain ⟨v', w', hrun, r1, r2⟩ := run_appR w o.type base v ms hown g c m A cm hc hmc hm hA hl hb
  unfold Oper.wp
  simp [execOp, ho, resolve, invoke, builtin, hs, hx, hrun, Result.andThen]
  exact h v' w' r1 r2
theorem OwnRows.reads {w : World} {base : Nat} {v : Value} {ms : List (List Int)} (h : OwnRows w base v ms) (hl : 0 < ms.length) :
    ∃ b c, v = .slice (some ⟨b, 0, none⟩) ms.length c ∧ RowsAt w (some ⟨b, 0, none⟩) ms ∧ ms.length ≤ c ∧ c ≤ 9223372036854775807 := by
  obtain ⟨vals, h1, h2⟩ := h
  have hcs := fun g => World.ownsRow.cells (w := w) (g := g) h1
  obtain ⟨g1, g2⟩ := h1
  rcases g2 with ⟨rfl, hn⟩ | ⟨g, cap, cur, rfl, hg, hb, hn, hc, hs, ht⟩
  · omega
  · refine ⟨g, cap, rfl, ⟨by unfold maxLen at hc; omega, .inr ⟨g, 0, rfl, fun j hj => ?_⟩⟩, hn, by unfold maxLen at hc; omega⟩
    obtain ⟨Aj, c, a, b, d, _⟩ := h2 j hj
    refine ⟨Aj, c, ?_, b, d⟩
    have := hcs g rfl j _ a
    by_cases hj0 : j = 0
    · subst hj0; simpa [Addr.add] using this
    · simpa [Addr.add, hj0] using this
end
end Go.Proofs.YtgfbfbfajnfbjaaDoor
