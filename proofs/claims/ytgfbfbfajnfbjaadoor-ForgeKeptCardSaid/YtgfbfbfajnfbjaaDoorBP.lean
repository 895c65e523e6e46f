import Derived.Test.YtgfbfbfajnfbjaaDoorBO
import Derived.Test.YtgfbfbfajnfbjaaDoorBC
import Derived.Test.YtgfbfbfajnfbjaaDoorAD
import Derived.Deep.DeepAppendWide
namespace Go.Proofs.YtgfbfbfajnfbjaaDoor
section
open Go.RowKit Go.Shelf
set_option linter.unusedSimpArgs false
set_option linter.unusedVariables false
/-! A book's looks and spans, laid anew: slices that the call itself has made, appended to. -/
theorem run_app_none {w : World} (base : Nat) (t ty e : TypeId) (i : TypeInfo) (size : Nat) (ht : Tryd.prog.underlying t = some (.slice e)) (hi : Tryd.prog.info? e = some i)
    (v : Value) (n c : Nat) (xs : List Value) (hown : w.ownsRow base e size v n xs) :
    (Builtin.append_ #[t, t] ty #[v, .slice none 0 c]).run Tryd.prog w = .ok v w := by
  rcases hown.2 with ⟨rfl, rfl⟩ | ⟨g, cap, cur, rfl, _, _, hnc, _⟩
  · simp [Builtin.append_, run_underlying ht, sizeOf, typeInfo, hi, Builtin.lenOf, Builtin.firstCells]
  · simp [Builtin.append_, run_underlying ht, sizeOf, typeInfo, hi, Builtin.lenOf, Builtin.firstCells, hnc, storeCells]
/-- append of what was handed in, or laid meanwhile, to a slice of one's own -/
theorem run_app_any (w : World) (base : Nat) (t ty e : TypeId) (i : TypeInfo) (z : Value) (size bytes : Nat) (ht : Tryd.prog.underlying t = some (.slice e)) (hi : Tryd.prog.info? e = some i) (hz : i.zero = some z)
    (hsize : i.size = size) (hby : i.bytes = bytes) (hzs : z.cells.size = size) (hsz : 0 < size) (hb24 : bytes ≤ 24)
    (v : Value) (n : Nat) (xs : List Value) (hown : w.ownsRow base e size v n xs)
    (A : Option Addr) (m c : Nat) (news : List Value) (hl : news.length = m * size) (hnews : m = 0 ∨ ∃ ad, A = some ad ∧ ∀ j u, news[j]? = some u → w.cell? (ad.add j) = some u) (h1 : ∀ u ∈ news, u.oneCell' = true)
    (hn : n + m ≤ 1000000) (hbase : base ≤ w.heap.size) :
    ∃ v' w', (Builtin.append_ #[t, t] ty #[v, .slice A m c]).run Tryd.prog w = .ok v' w' ∧ w'.ownsRow base e size v' (n + m) (xs ++ news) ∧ Below base w w' ∧ Keep (fun q => v.ownBlock = some q) w w' := by
  have go : ∀ ad, A = some ad → (∀ j u, news[j]? = some u → w.cell? (ad.add j) = some u) → ∃ v' w', (Builtin.append_ #[t, t] ty #[v, .slice A m c]).run Tryd.prog w = .ok v' w' ∧ w'.ownsRow base e size v' (n + m) (xs ++ news) ∧ Below base w w' ∧ Keep (fun q => v.ownBlock = some q) w w' := by
    rintro ad rfl hc
    obtain ⟨v', w', hr, r1, r2, _⟩ := run_append_own_wide (P := Tryd.prog) w base t ty e i z size bytes ht hi hz hsize hby hzs hsz v n xs hown ad m c news hl hc h1 (by unfold maxLen; omega) (by
      have h3 : ((n + m) + (n + m) / 4 + 192) * bytes ≤ ((n + m) + (n + m) / 4 + 192) * 24 := Nat.mul_le_mul_left _ hb24
      omega) hbase
    exact ⟨v', w', hr, r1, (Below.refl _ _).grown r2 hbase fun k hk => (World.ownsRow.lt hown k hk).1, ⟨r2.os, r2.tape, r2.output, r2.size, fun i hi hn => r2.block i hi (fun e => hn e.symm)⟩⟩
  rcases hnews with rfl | ⟨ad, e1, hc⟩
  · have hnil : news = [] := List.eq_nil_of_length_eq_zero (by simpa using hl)
    subst hnil
    cases A with
    | none => exact ⟨v, w, run_app_none base t ty e i size ht hi v n c xs hown, by simpa using hown, Below.refl _ _, Keep.refl _ _⟩
    | some ad => exact go ad rfl (fun j u h => by simp at h)
  · exact go ad e1 hc
def OwnLooks (w : World) (base : Nat) (v : Value) (l : List LookV) : Prop := w.ownsRow base 75 3 v l.length (lookCells l)
theorem lookCells_app (l m : List LookV) : lookCells (l ++ m) = lookCells l ++ lookCells m := by unfold lookCells; rw [List.flatMap_append]
theorem lookCells_one {l : List LookV} : ∀ u ∈ lookCells l, u.oneCell' = true := by
  intro u hu
  unfold lookCells at hu
  obtain ⟨x, _, h⟩ := List.mem_flatMap.1 hu
  simp at h
  rcases h with rfl | rfl | rfl <;> rfl
theorem OwnLooks.nil (w : World) (base : Nat) : OwnLooks w base (.slice none 0 0) [] := World.ownsRow_nil _ _ _ _
theorem OwnLooks.lit (w : World) (base : Nat) (h : base ≤ w.heap.size) : OwnLooks (w.alloc (.cells #[] 75)) base (.slice (some ⟨w.heap.size, 0, none⟩) 0 0) [] := World.ownsRow_lit w #[] 0 h (by unfold maxLen; omega) rfl
theorem OwnLooks.alloc {w : World} {base : Nat} {v : Value} {l : List LookV} (h : OwnLooks w base v l) (o : Obj) : OwnLooks (w.alloc o) base v l := World.ownsRow.alloc h o
theorem OwnLooks.below {w w' : World} {base : Nat} {v : Value} {l : List LookV} (h : OwnLooks w base v l) (k : Below w.heap.size w w') : OwnLooks w' base v l := by
  have hlt := World.ownsRow.lt h
  obtain ⟨h1, h2⟩ := h
  refine ⟨h1, h2.imp id ?_⟩
  rintro ⟨g, cap, cur, e1, e2, e3, e4⟩
  exact ⟨g, cap, cur, e1, e2, (k.block g (hlt g (by rw [e1]; rfl)).2).trans e3, e4⟩
theorem OwnLooks.reads {w : World} {base : Nat} {v : Value} {l : List LookV} (h : OwnLooks w base v l) (hl : l.length ≤ 1000000) : ∃ A c, v = .slice A l.length c ∧ LooksAt w A l ∧ ∀ b o, A = some ⟨b, o, none⟩ → base ≤ b := by
  have hcs := fun g => World.ownsRow.cells (w := w) (g := g) h
  obtain ⟨h1, h2⟩ := h
  rcases h2 with ⟨rfl, hn⟩ | ⟨g, cap, cur, rfl, hbg, _⟩
  · exact ⟨none, 0, by rw [hn], ⟨by omega, .inl (List.eq_nil_of_length_eq_zero hn)⟩, fun b o e => by cases e⟩
  · refine ⟨_, cap, rfl, ⟨by omega, .inr ⟨g, 0, rfl, fun j hj => ?_⟩⟩, fun b o e => by cases e; exact hbg⟩
    have h3 := lookCells_get l j hj
    have a0 := hcs g rfl _ _ h3.1
    have a1 := hcs g rfl _ _ h3.2.1
    have a2 := hcs g rfl _ _ h3.2.2
    rw [addr_add'] at a0 a1 a2
    exact ⟨a0, a1, a2⟩
theorem run_appLooks (w : World) (ty : TypeId) (base : Nat) (v : Value) (l : List LookV) (hown : OwnLooks w base v l) (A : Option Addr) (c : Nat) (m : List LookV) (hm : LooksAt w A m) (hlen : l.length + m.length ≤ 1000000) (hb : base ≤ w.heap.size) :
    ∃ v' w', (Builtin.append_ #[26, 26] ty #[v, .slice A m.length c]).run Tryd.prog w = .ok v' w' ∧ OwnLooks w' base v' (l ++ m) ∧ Below base w w' ∧ Keep (fun q => v.ownBlock = some q) w w' := by
  obtain ⟨i0, hi, hz0, hz1, hz2⟩ := info_parts infoLk
  obtain ⟨v', w', hr, r1, r2⟩ := run_app_any w base 26 ty 75 i0 _ 3 24 underLk hi hz0 hz1 hz2 rfl (by decide) (by decide) v l.length (lookCells l) hown A m.length c (lookCells m) (lookCells_len m) (by
    rcases hm.2 with e | ⟨b, o, e, h⟩
    · left; rw [e]; rfl
    · subst e; exact .inr ⟨_, rfl, hm.cells⟩) lookCells_one hlen hb
  refine ⟨v', w', hr, ?_, r2⟩
  unfold OwnLooks
  rw [lookCells_app, List.length_append]
  exact r1
theorem wp_appLooks {o : Oper} {a : Act} {K : Act → World → Prop} {Q : Exit → Act → World → Prop} (w : World) (s x : Operand)
    (ho : o.op = .call { callee := .builtin .append, args := #[s, x], argTypes := #[26, 26] })
    (base : Nat) (v : Value) (l : List LookV) (hs : a.eval s = v) (hown : OwnLooks w base v l) (A : Option Addr) (c : Nat) (m : List LookV) (hx : a.eval x = .slice A m.length c) (hm : LooksAt w A m) (hlen : l.length + m.length ≤ 1000000) (hb : base ≤ w.heap.size)
    (h : ∀ v' w', OwnLooks w' base v' (l ++ m) → Below base w w' → Keep (fun q => v.ownBlock = some q) w w' → K (a.put o.dst v') w') : o.wp Tryd.prog a w K Q := by
  obtain ⟨v', w', hr, r1, r2⟩ := run_appLooks w o.type base v l hown A c m hm hlen hb
  unfold Oper.wp
  simp [execOp, ho, resolve, invoke, builtin, hs, hx, hr, Result.andThen]
  exact h v' w' r1 r2.1 r2.2
theorem wpList_appLooks {ops : Array Oper} {rest : List Oper} {o : Oper} {a : Act} {Q : Exit → Act → World → Prop} (w : World) (hgd : o.guard = none) (s x : Operand)
    (ho : o.op = .call { callee := .builtin .append, args := #[s, x], argTypes := #[26, 26] })
    (base : Nat) (v : Value) (l : List LookV) (hs : a.eval s = v) (hown : OwnLooks w base v l) (A : Option Addr) (c : Nat) (m : List LookV) (hx : a.eval x = .slice A m.length c) (hm : LooksAt w A m) (hlen : l.length + m.length ≤ 1000000) (hb : base ≤ w.heap.size)
    (h : ∀ v' w', OwnLooks w' base v' (l ++ m) → Below base w w' → Keep (fun q => v.ownBlock = some q) w w' → wpList Tryd.prog ops Q rest (a.put o.dst v') w') : wpList Tryd.prog ops Q (o :: rest) a w :=
  wpList_plain hgd fun _ hK => wp_appLooks w s x ho base v l hs hown A c m hx hm hlen hb fun v' w' h1 h2 h3 => hK _ _ (h v' w' h1 h2 h3)
/-! Spans. -/
theorem infoSp' : (Tryd.prog.info? 24).map (fun i => (i.zero, i.size, i.bytes)) = some (some (.agg #[.int .i64 0, .int .i64 0]), 2, 16) := by kernel_rfl
theorem underSp' : Tryd.prog.underlying 25 = some (.slice 24) := by kernel_rfl
def spanCells (l : List (Int × Int)) : List Value := l.flatMap fun t => [.int .i64 t.1, .int .i64 t.2]
theorem spanCells_len (l : List (Int × Int)) : (spanCells l).length = l.length * 2 := by
  induction l with
  | nil => rfl
  | cons t l ih => unfold spanCells at *; rw [List.flatMap_cons, List.length_append, ih]; simp; omega
theorem spanCells_get (l : List (Int × Int)) (j : Nat) (hj : j < l.length) : (spanCells l)[j * 2]? = some (.int .i64 (gs l j).1) ∧ (spanCells l)[j * 2 + 1]? = some (.int .i64 (gs l j).2) := by
  induction l generalizing j with
  | nil => simp at hj
  | cons t l ih =>
    cases j with
    | zero => exact ⟨rfl, rfl⟩
    | succ j =>
      have h := ih j (by simpa using hj)
      have e : ∀ k, (spanCells (t :: l))[k + 2]? = (spanCells l)[k]? := fun k => by unfold spanCells; rw [List.flatMap_cons]; simp
      rw [show (j + 1) * 2 = j * 2 + 2 by omega, show j * 2 + 2 + 1 = j * 2 + 1 + 2 by omega, e, e]
      exact h
theorem SpansAt.cells {w : World} {b o : Nat} {l : List (Int × Int)} (h : SpansAt w (some ⟨b, o, none⟩) l) : ∀ j u, (spanCells l)[j]? = some u → w.cell? ((⟨b, o, none⟩ : Addr).add j) = some u := by
  intro j u hu
  rw [addr_add']
  have hj : j < l.length * 2 := by have := (List.getElem?_eq_some_iff.1 hu).1; rwa [spanCells_len] at this
  have h2 := spanCells_get l (j / 2) (by omega)
  have h1 : w.cell? ⟨b, o + j / 2 * 2, none⟩ = some (.int .i64 (gs l (j / 2)).1) ∧ w.cell? ⟨b, o + j / 2 * 2 + 1, none⟩ = some (.int .i64 (gs l (j / 2)).2) := by
    rcases h.2 with e | ⟨b', o', e, h⟩
    · rw [e] at hj; simp at hj
    · cases e; exact h _ (by omega)
  have : j = j / 2 * 2 ∨ j = j / 2 * 2 + 1 := by omega
  rcases this with e | e
  · rw [e] at hu ⊢; rw [← hu, h2.1]; simpa using h1.1
  · rw [e] at hu ⊢; rw [← hu, h2.2]; exact h1.2
theorem spanCells_one {l : List (Int × Int)} : ∀ u ∈ spanCells l, u.oneCell' = true := by
  intro u hu
  unfold spanCells at hu
  obtain ⟨x, _, h⟩ := List.mem_flatMap.1 hu
  simp at h
  rcases h with rfl | rfl <;> rfl
/-- a copy of spans: a block of one's own -/
theorem wpList_copySpans {ops : Array Oper} {rest : List Oper} {o : Oper} {a : Act} {Q : Exit → Act → World → Prop} (w : World) (hgd : o.guard = none) (s x : Operand)
    (ho : o.op = .call { callee := .builtin .append, args := #[s, x], argTypes := #[25, 25] })
    (W0 : World) (hw : w = W0.alloc (.cells #[] 24)) (hs : a.eval s = .slice (some ⟨W0.heap.size, 0, none⟩) 0 0) (A : Option Addr) (c : Nat) (m : List (Int × Int)) (hx : a.eval x = .slice A m.length c) (hm : SpansAt w A m) (hm0 : 0 < m.length) (hlen : m.length ≤ 1000000)
    (h : ∀ g c' cur w', w'.heap[g]? = some (.cells cur 24 (0, 0)) → m.length * 2 ≤ cur.size → SpansAt w' (some ⟨g, 0, none⟩) m → W0.heap.size ≤ g → Below W0.heap.size W0 w' → wpList Tryd.prog ops Q rest (a.put o.dst (.slice (some ⟨g, 0, none⟩) m.length c')) w') : wpList Tryd.prog ops Q (o :: rest) a w := by
  obtain ⟨i0, hi, hz0, hz1, hz2⟩ := info_parts infoSp'
  obtain ⟨b, og, rfl⟩ := hm.some_ hm0
  have hown : w.ownsRow W0.heap.size 24 2 (.slice (some ⟨W0.heap.size, 0, none⟩) 0 0) 0 [] := by rw [hw]; exact World.ownsRow_lit W0 #[] 0 (Nat.le_refl _) (by unfold maxLen; omega) rfl
  have hbw : Below W0.heap.size W0 w := by rw [hw]; exact (Below.refl _ _).alloc (Nat.le_refl _) _
  obtain ⟨v', w', hr, r1, r2⟩ := run_app_any w W0.heap.size 25 o.type 24 i0 _ 2 16 underSp' hi hz0 hz1 hz2 rfl (by decide) (by decide) (.slice (some ⟨W0.heap.size, 0, none⟩) 0 0) 0 [] hown (some ⟨b, og, none⟩) m.length c (spanCells m) (spanCells_len m) (.inr ⟨_, rfl, hm.cells⟩) spanCells_one (by omega) hbw.size
  have r2 := r2.1
  have hcs := fun g => World.ownsRow.cells (w := w') (g := g) r1
  obtain ⟨g1, g2⟩ := r1
  rcases g2 with ⟨_, hn⟩ | ⟨g, cap, cur, rfl, hbg, hg, hnc, hcm, hsz, ht⟩
  · omega
  · refine wpList_plain hgd fun K hK => ?_
    unfold Oper.wp
    simp [execOp, ho, resolve, invoke, builtin, hs, hx, hr, Result.andThen]
    rw [Nat.zero_add] at hnc
    refine hK _ _ (h g cap cur w' hg (by rw [hsz]; exact Nat.mul_le_mul_right _ hnc) ⟨by omega, .inr ⟨g, 0, rfl, fun j hj => ?_⟩⟩ hbg (hbw.trans r2))
    have h3 := spanCells_get m j hj
    have a0 := hcs g rfl _ _ h3.1
    have a1 := hcs g rfl _ _ h3.2
    rw [addr_add'] at a0 a1
    exact ⟨a0, a1⟩
/-- one span stored into a block of one's own -/
theorem spans_put {w : World} {g : Nat} {cur : Array Value} {l : List (Int × Int)} (kg : BoxAt w g cur) (hs : SpansAt w (some ⟨g, 0, none⟩) l) {k : Nat} (hk : k < l.length) (a b : Int) :
    SpansAt ((w.setCell ⟨g, k * 2, none⟩ (.int .i64 a)).setCell ⟨g, k * 2 + 1, none⟩ (.int .i64 b)) (some ⟨g, 0, none⟩) (l.set k (a, b)) := by
  have hat : ∀ j, j < l.length → cur[j * 2]? = some (.int .i64 (gs l j).1) ∧ cur[j * 2 + 1]? = some (.int .i64 (gs l j).2) := fun j hj => by
    rcases hs.2 with e | ⟨b', o', e, h⟩
    · rw [e] at hk; simp at hk
    · cases e
      have h1 := h j hj
      rw [Nat.zero_add] at h1
      exact ⟨(kg.cell _).symm.trans h1.1, (kg.cell _).symm.trans h1.2⟩
  have hsz : ∀ j, j < l.length → j * 2 + 1 < cur.size := fun j hj => (Array.getElem?_eq_some_iff.1 (hat j hj).2).1
  have k1 := kg.put (k * 2) (.int .i64 a) (by have := hsz k hk; omega)
  have k2 := k1.put (k * 2 + 1) (.int .i64 b) (by have := hsz k hk; simp; omega)
  refine ⟨by rw [List.length_set]; exact hs.1, .inr ⟨g, 0, rfl, fun j hj => ?_⟩⟩
  rw [List.length_set] at hj
  rw [Nat.zero_add, k2.cell, k2.cell, gs_set _ _ _ hk]
  have h1 := hat j hj
  have h2 := hsz j hj
  simp only [Array.getElem?_setIfInBounds, Array.size_setIfInBounds]
  by_cases e : j = k
  · subst e
    rw [if_neg (by omega), if_pos rfl, if_pos (by omega), if_pos rfl, if_pos rfl, if_pos (by omega)]
    exact ⟨rfl, rfl⟩
  · repeat rw [if_neg (by omega)]
    exact h1
theorem gs_pair (l : List (Int × Int)) (k : Nat) : gs l k = ((gs l k).1, (gs l k).2) := rfl
theorem lookOk_mk {a b c : Int} (h1 : 0 ≤ a ∧ a ≤ 300) (h2 : 0 ≤ b ∧ b ≤ 3000) (h3 : 0 ≤ c ∧ c ≤ 50) : lookOk ⟨a, b, c⟩ := ⟨h1, h2, h3⟩
theorem withLook_cells (B : ForgeV) (A : Option Addr) (c : Nat) (l : LookV) : (withLook B A c l).cells = #[.slice B.lA B.lots.length B.lCap, .int .i64 B.tlo, .int .i64 B.thi, .int .i64 B.thick, .int .i64 B.crack, .int .i64 B.glo, .int .i64 B.ghi, .slice B.sA B.thins.length B.sCap,
    .int .i64 B.hot, .int .i64 B.least, .int .i64 B.clo, .int .i64 B.chi, .int .i64 B.coal, .slice A (B.looks.length + 1) c] := by
  unfold ForgeV.cells withLook
  simp only [List.length_append, List.length_cons, List.length_nil, Nat.zero_add]
theorem withThin_cells (B : ForgeV) (A : Option Addr) (c k : Nat) (v : Int) : (withThin B A c k v).cells = #[.slice B.lA B.lots.length B.lCap, .int .i64 B.tlo, .int .i64 B.thi, .int .i64 B.thick, .int .i64 B.crack, .int .i64 B.glo, .int .i64 B.ghi, .slice A B.thins.length c,
    .int .i64 B.hot, .int .i64 B.least, .int .i64 B.clo, .int .i64 B.chi, .int .i64 B.coal, .slice B.kA B.looks.length B.kCap] := by
  unfold ForgeV.cells withThin
  simp only [List.length_set]
theorem gi_mem {l : List Int} {i : Nat} (h : i < l.length) : gi l i ∈ l := by
  unfold gi
  rw [List.getD_eq_getElem?_getD, List.getElem?_eq_getElem h]
  exact List.getElem_mem h
end
section
open Go.RowKit Go.Shelf
attribute [local go_sem] Oper.semAt_some
set_option linter.unusedSimpArgs false
set_option linter.unusedVariables false
set_option maxRecDepth 100000 in
set_option maxHeartbeats 2000000 in
theorem Where_calls (A : Option Addr) (c : Nat) (l : List Int) (n : Int) (w : World) (hp : IntsAt w A l) :
    Calls Tryd.prog 56 #[.slice A l.length c, .int .i64 n] w fun e w' => (∃ r : Int, e = .returned (.int .i64 r) ∧ ((0 ≤ r ∧ n ∈ l) ∨ (r < 0 ∧ n ∉ l))) ∧ w = w' := by
  rcases Nat.eq_zero_or_pos l.length with h0 | h0
  · have hz : ¬ (0 : Int) < l.length := by omega
    have hnil := Lib.hid (List.eq_nil_of_length_eq_zero h0)
    clear hp h0
    go_enter Tryd.func56, Tryd.ntmps56
    go_wp2
    refine wp_loop_rounds 1 ?_
    rw [rounds_succ]
    go_wp2
    go_ret
    exact ⟨⟨-1, rfl, .inr ⟨by omega, by rw [hnil.out]; simp⟩⟩, rfl⟩
  · obtain ⟨b, o, rfl, hc⟩ := hp.2.resolve_left (by intro e; rw [e] at h0; simp at h0)
    have hle := hp.1
    have Hc := Lib.hid hc
    clear hc hp h0
    go_enter Tryd.func56, Tryd.ntmps56
    go_wp2
    go_loop [5] (fun i => ∃ k : Nat, k ≤ l.length ∧ i = .int .i64 k ∧ ∀ j, j < k → gi l j ≠ n) (fun i => l.length - (intOf i).toNat)
    case atStart => exact ⟨0, Nat.zero_le _, rfl, fun j hj => absurd hj (by omega)⟩
    case round =>
      obtain ⟨k, hk, rfl, hx⟩ := hrel
      have Hx := Lib.hid hx
      clear hx
      by_cases hlt : k < l.length
      · have hck := Hc.out k hlt
        have bk := World.block_lt_of_cell? _ _ hck
        have hki : (k : Int) < l.length := by omega
        simp only at bk
        by_cases he : gi l k = n
        · have hbe : (gi l k == n) = true := by rw [beq_iff_eq]; exact he
          have Hm : Hid (n ∈ l) := by unfold Hid; rw [← he]; exact gi_mem hlt
          clear he
          go_wp2
          go_ret
          exact ⟨⟨_, rfl, .inl ⟨by omega, Hm.out⟩⟩, rfl⟩
        · have hbe : (gi l k == n) = false := by rw [beq_eq_false_iff_ne]; exact he
          have He := Lib.hid he
          clear he
          go_wp2
          go_round
          case rel => exact ⟨k + 1, by omega, by go_num, fun j hj => (by rcases Nat.lt_or_eq_of_le (Nat.le_of_lt_succ hj) with h | h; exact Hx.out j h; rw [h]; exact He.out)⟩
          case measure => simp [intOf]; omega
      · obtain rfl : k = l.length := by omega
        have Hno : Hid (n ∉ l) := by
          intro hm
          obtain ⟨j, hj, e⟩ := List.mem_iff_getElem.1 hm
          exact Hx.out j hj (by unfold gi; rw [List.getD_eq_getElem?_getD, List.getElem?_eq_getElem hj]; exact e)
        go_wp2
        go_ret
        exact ⟨⟨-1, rfl, .inr ⟨by omega, Hno.out⟩⟩, rfl⟩
end
end Go.Proofs.YtgfbfbfajnfbjaaDoor
