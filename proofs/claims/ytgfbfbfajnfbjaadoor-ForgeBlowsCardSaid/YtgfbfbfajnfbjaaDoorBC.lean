import Derived.Test.YtgfbfbfajnfbjaaDoorBB
namespace Go.Proofs.YtgfbfbfajnfbjaaDoor
section
open Go.RowKit Go.Shelf
set_option linter.unusedSimpArgs false
set_option linter.unusedVariables false
/-! Looks, appended. -/
theorem infoLk : (Tryd.prog.info? 75).map (fun i => (i.zero, i.size, i.bytes)) = some (some (.agg #[.int .i64 0, .int .i64 0, .int .i64 0]), 3, 24) := by kernel_rfl
theorem underLk : Tryd.prog.underlying 26 = some (.slice 75) := by kernel_rfl
def lookCells (l : List LookV) : List Value := l.flatMap fun t => [.int .i64 t.blows, .int .i64 t.thick, .int .i64 t.err]
theorem lookCells_len (l : List LookV) : (lookCells l).length = l.length * 3 := by
  induction l with
  | nil => rfl
  | cons t l ih => unfold lookCells at *; rw [List.flatMap_cons, List.length_append, ih]; simp; omega
theorem lookCells_get (l : List LookV) (j : Nat) (hj : j < l.length) : (lookCells l)[j * 3]? = some (.int .i64 (glk l j).blows) ∧ (lookCells l)[j * 3 + 1]? = some (.int .i64 (glk l j).thick) ∧ (lookCells l)[j * 3 + 2]? = some (.int .i64 (glk l j).err) := by
  induction l generalizing j with
  | nil => simp at hj
  | cons t l ih =>
    have hc : lookCells (t :: l) = [.int .i64 t.blows, .int .i64 t.thick, .int .i64 t.err] ++ lookCells l := by unfold lookCells; rw [List.flatMap_cons]
    rw [hc]
    cases j with
    | zero => exact ⟨rfl, rfl, rfl⟩
    | succ j =>
      have h := ih j (by simpa using hj)
      have e0 : (j + 1) * 3 = j * 3 + 3 := by omega
      have e1 : (j + 1) * 3 + 1 = (j * 3 + 1) + 3 := by omega
      have e2 : (j + 1) * 3 + 2 = (j * 3 + 2) + 3 := by omega
      rw [e1, e2, e0]
      simpa [glk] using h
theorem addr_add' (b o j : Nat) : (⟨b, o, none⟩ : Addr).add j = ⟨b, o + j, none⟩ := by
  by_cases h : j = 0
  · subst h; simp [Addr.add]
  · simp [Addr.add, h]
theorem LooksAt.cells {w : World} {b o : Nat} {l : List LookV} (h : LooksAt w (some ⟨b, o, none⟩) l) : ∀ j u, (lookCells l)[j]? = some u → w.cell? ((⟨b, o, none⟩ : Addr).add j) = some u := by
  intro j u hu
  have hj : j < l.length * 3 := by rw [← lookCells_len]; exact (List.getElem?_eq_some_iff.1 hu).1
  have h1 := h.at_ (show j / 3 < l.length by omega)
  have h2 := lookCells_get l (j / 3) (by omega)
  rw [addr_add']
  have : j = j / 3 * 3 ∨ j = j / 3 * 3 + 1 ∨ j = j / 3 * 3 + 2 := by omega
  rcases this with e | e | e
  · rw [e] at hu ⊢; rw [← hu, h2.1]; exact h1.1
  · rw [e] at hu ⊢; rw [← hu, h2.2.1]; exact h1.2.1
  · rw [e] at hu ⊢; rw [← hu, h2.2.2]; exact h1.2.2
theorem wpList_appLk {ops : Array Oper} {rest : List Oper} {o : Oper} {a : Act} {Q : Exit → Act → World → Prop} (w : World) (hgd : o.guard = none) (s x : Operand)
    (ho : o.op = .call { callee := .builtin .append, args := #[s, x], argTypes := #[26, 26] })
    (b og : Nat) (l : List LookV) (hs : a.eval s = .slice (some ⟨b, og, none⟩) l.length l.length) (hl : LooksAt w (some ⟨b, og, none⟩) l)
    (g gg c : Nat) (m : List LookV) (hx : a.eval x = .slice (some ⟨g, gg, none⟩) m.length c) (hm : LooksAt w (some ⟨g, gg, none⟩) m) (hm0 : 0 < m.length) (hlen : l.length + m.length ≤ 1000000)
    (h : ∀ b' c' w', l.length + m.length ≤ c' → LooksAt w' (some ⟨b', 0, none⟩) (l ++ m) → w.heap.size ≤ b' → Below w.heap.size w w' → wpList Tryd.prog ops Q rest (a.put o.dst (.slice (some ⟨b', 0, none⟩) (l.length + m.length) c')) w') : wpList Tryd.prog ops Q (o :: rest) a w := by
  obtain ⟨i0, hi, hz0, hz1, hz2⟩ := info_parts infoLk
  obtain ⟨v', w', hr, r1, r2⟩ := run_append_arg_grows (P := Tryd.prog) w 26 o.type 75 i0 _ 3 24 underLk hi hz0 hz1 hz2 rfl (by decide) ⟨b, og, none⟩ l.length l.length (lookCells l) (lookCells_len l) hl.cells ⟨g, gg, none⟩ m.length c (lookCells m) (lookCells_len m) hm.cells (by omega) (by unfold maxLen; omega) (by omega)
  have hcs := fun g => World.ownsRow.cells (w := w') (g := g) r1
  have hlt := World.ownsRow.lt r1
  have happ : lookCells l ++ lookCells m = lookCells (l ++ m) := by unfold lookCells; rw [List.flatMap_append]
  obtain ⟨_, g2⟩ := r1
  rcases g2 with ⟨rfl, hn⟩ | ⟨g', cap, cur, rfl, hg, hb', hn, hcm, hs', ht⟩
  · omega
  · refine wpList_plain hgd fun K hK => ?_
    unfold Oper.wp
    simp [execOp, ho, resolve, invoke, builtin, hs, hx, hr, Result.andThen]
    refine hK _ _ (h g' cap w' hn ⟨by rw [List.length_append]; omega, .inr ⟨g', 0, rfl, fun j hj => ?_⟩⟩ (hlt g' rfl).1 ⟨r2.os, r2.tape, r2.output, r2.size, fun k hk => r2.block k hk (by simp)⟩)
    have h3 := lookCells_get (l ++ m) j hj
    rw [← happ] at h3
    have a0 := hcs g' rfl _ _ h3.1
    have a1 := hcs g' rfl _ _ h3.2.1
    have a2 := hcs g' rfl _ _ h3.2.2
    rw [addr_add'] at a0 a1 a2
    exact ⟨a0, a1, a2⟩
end
section
open Go.RowKit Go.Shelf
attribute [local go_sem] Oper.semAt_some
set_option linter.unusedSimpArgs false
set_option linter.unusedVariables false
theorem look_calls (a b c : Int) (w : World) : Calls Tryd.prog 57 #[.int .i64 a, .int .i64 b, .int .i64 c] w fun e w' => e = .returned (.agg #[.int .i64 a, .int .i64 b, .int .i64 c]) ∧ Below w.heap.size w w' := by
  go_enter Tryd.func57, Tryd.ntmps57
  go_wp2
  have c0 := (BoxAt.new w #[.int .i64 a, .int .i64 b, .int .i64 c] 75).cell
  exact bodyPost_ret (v := .agg #[.int .i64 a, .int .i64 b, .int .i64 c]) (by simp [results, Tryd.results57, go_sem, c0]) rfl ⟨rfl, (Below.refl _ _).alloc (Nat.le_refl _) _⟩
theorem lot_calls (a b c : Int) (w : World) : Calls Tryd.prog 97 #[.int .i64 a, .int .i64 b, .int .i64 c] w fun e w' => e = .returned (.agg #[.int .i64 a, .int .i64 b, .int .i64 c]) ∧ Below w.heap.size w w' := by
  have k6 := BoxAt.new w #[.int .i64 0, .int .i64 0, .int .i64 0] 62
  have hb : Below w.heap.size w (w.alloc (.cells #[.int .i64 0, .int .i64 0, .int .i64 0] 62)) := (Below.refl _ _).alloc (Nat.le_refl _) _
  go_enter Tryd.func97, Tryd.ntmps97
  go_wp2_with fail
  generalize w.alloc _ = w1 at *
  refine (Band_calls _ _ _).mono ?_
  rintro e w2 ⟨rfl, hb2⟩
  have k62 := k6.below hb2
  have hs := putAll_box k62 [.int .i64 a, .int .i64 b, .int .i64 c] rfl
  have HF := Lib.hid ((below_then hb hb.size hb2).trans ((putAll_keep w.heap.size [.int .i64 a, .int .i64 b, .int .i64 c] 0 w2).below (fun k _ e => by omega) (Nat.le_trans hb.size hb2.size)))
  obtain ⟨c6, f6, l6⟩ := k62
  obtain ⟨c9, f9, l9⟩ := hs
  clear hb hb2 k6
  go_wp2
  change bodyPost _ _ _ _ _ (putAll w2 w.heap.size 0 [.int .i64 a, .int .i64 b, .int .i64 c])
  generalize putAll w2 w.heap.size 0 [.int .i64 a, .int .i64 b, .int .i64 c] = w9 at *
  exact bodyPost_ret (v := .agg #[.int .i64 a, .int .i64 b, .int .i64 c]) (by simp [results, Tryd.results97, go_sem, c9]) rfl ⟨rfl, HF.out⟩
end
end Go.Proofs.YtgfbfbfajnfbjaaDoor
