import Derived.Test.YtljikigmfkfkiaaDoorAI
import Derived.Test.YtljikigmfkfkiaaDoorAW
namespace Go.Proofs.YtljikigmfkfkiaaDoor
open Go.RowKit Go.Shelf
attribute [local go_sem] Oper.semAt_some
set_option linter.unusedSimpArgs false
set_option linter.unusedVariables false

/-! Lists of lists of numbers. -/
def gl (l : List (List Int)) (k : Nat) : List Int := l.getD k []
/-- a list of numbers in a block of numbers -/
def RowI (w : World) (A : Option Addr) (xs : List Int) : Prop := IntsAt w A xs ∧ ∀ b o, A = some ⟨b, o, none⟩ → ∃ cs f, w.heap[b]? = some (.cells cs 3 f)
theorem RowI.below {w w' : World} {A : Option Addr} {xs : List Int} (h : RowI w A xs) (hb : Below w.heap.size w w') : RowI w' A xs := by
  refine ⟨h.1.below hb, fun b o e => ?_⟩
  obtain ⟨cs, f, hh⟩ := h.2 b o e
  exact ⟨cs, f, (hb.block b (Array.getElem?_eq_some_iff.1 hh).1).trans hh⟩
def RowsIn (w : World) (vs : List Value) (l : List (List Int)) : Prop := ∀ i, i < l.length → ∃ A c, vs[i]? = some (.slice A (gl l i).length c) ∧ RowI w A (gl l i) ∧ (gl l i).length ≤ c
def OwnRows (w : World) (base : Nat) (v : Value) (l : List (List Int)) : Prop := ∃ vs, w.ownsRow base 22 1 v l.length vs ∧ RowsIn w vs l
theorem OwnRows.nil (w : World) (base : Nat) : OwnRows w base (.slice none 0 0) [] := ⟨[], World.ownsRow_nil _ _ _ _, fun i h => absurd h (by simp)⟩
theorem OwnRows.below {w w' : World} {base : Nat} {v : Value} {l : List (List Int)} (h : OwnRows w base v l) (hb : Below w.heap.size w w') : OwnRows w' base v l := by
  obtain ⟨vs, h1, h2⟩ := h
  refine ⟨vs, World.ownsRow.kept h1 (row := none) ⟨hb.os, hb.tape, hb.output, hb.size, fun k hk _ => hb.block k hk⟩ ?_, fun i hi => ?_⟩
  · by_cases e : v.ownBlock = none
    · exact .inl e
    · exact .inr e
  · obtain ⟨A, c, e, hr, hc⟩ := h2 i hi
    exact ⟨A, c, e, hr.below hb, hc⟩
theorem OwnRows.alloc {w : World} {base : Nat} {v : Value} {l : List (List Int)} (h : OwnRows w base v l) (o : Obj) : OwnRows (w.alloc o) base v l := h.below ((Below.refl _ _).alloc (Nat.le_refl _) _)
/-- what lies there to be read -/
def RowsAt (w : World) (A : Option Addr) (l : List (List Int)) : Prop :=
  l.length ≤ 9223372036854775807 ∧ (l = [] ∨ ∃ b o, A = some ⟨b, o, none⟩ ∧ ∀ j, j < l.length → ∃ Aj cj, w.cell? ⟨b, o + j, none⟩ = some (.slice Aj (gl l j).length cj) ∧ RowI w Aj (gl l j) ∧ (gl l j).length ≤ cj)
theorem RowsAt.below {w w' : World} {A : Option Addr} {l : List (List Int)} (h : RowsAt w A l) (hb : Below w.heap.size w w') : RowsAt w' A l :=
  ⟨h.1, h.2.imp id fun ⟨b, o, e, hc⟩ => ⟨b, o, e, fun j hj => let ⟨Aj, cj, h1, h2, h3⟩ := hc j hj; ⟨Aj, cj, cell_below hb h1, h2.below hb, h3⟩⟩⟩
theorem OwnRows.reads {w : World} {base : Nat} {v : Value} {l : List (List Int)} (h : OwnRows w base v l) : ∃ A c, v = .slice A l.length c ∧ RowsAt w A l ∧ l.length ≤ c ∧ (l = [] ∨ ∃ b, A = some ⟨b, 0, none⟩) := by
  obtain ⟨vs, h1, h2⟩ := h
  have hvl := h1.1
  rcases h1.2 with ⟨rfl, hn⟩ | ⟨g, cap, cur, rfl, hg, hb, hn, hc, hs, ht⟩
  · have : l = [] := List.eq_nil_of_length_eq_zero hn
    subst this
    exact ⟨none, 0, rfl, ⟨by simp, .inl rfl⟩, by simp, .inl rfl⟩
  · refine ⟨_, _, rfl, ⟨by unfold maxLen at hc; omega, .inr ⟨g, 0, rfl, fun j hj => ?_⟩⟩, hn, .inr ⟨g, rfl⟩⟩
    obtain ⟨A, c, e, hr, hcc⟩ := h2 j hj
    refine ⟨A, c, ?_, hr, hcc⟩
    have := World.ownsRow.cells (w := w) (base := base) (e := 22) (size := 1) (v := .slice (some ⟨g, 0, none⟩) l.length cap) (n := l.length) (xs := vs) ⟨hvl, .inr ⟨g, cap, cur, rfl, hg, hb, hn, hc, hs, ht⟩⟩ (g := g) rfl j _ e
    rw [addr_add0] at this
    simpa using this
theorem gl_snoc_lt {l : List (List Int)} {x : List Int} {i : Nat} (h : i < l.length) : gl (l ++ [x]) i = gl l i := by
  unfold gl; rw [List.getD_eq_getElem?_getD, List.getD_eq_getElem?_getD, List.getElem?_append_left h]
theorem gl_snoc_at (l : List (List Int)) (x : List Int) : gl (l ++ [x]) l.length = x := by
  unfold gl; rw [List.getD_eq_getElem?_getD]; simp
theorem info22 : (Tryd.prog.info? 22).map (fun i => (i.zero, i.size, i.bytes)) = some (some (.slice none 0 0), 1, 24) := by kernel_rfl
theorem under76 : Tryd.prog.underlying 76 = some (.slice 22) := by kernel_rfl
/-- append of one row -/
theorem wpList_appR {ops : Array Oper} {rest : List Oper} {o : Oper} {a : Act} {Q : Exit → Act → World → Prop} (w : World) (hgd : o.guard = none) (s x : Operand)
    (ho : o.op = .call { callee := .builtin .append, args := #[s, x], argTypes := #[76, 76] })
    (base : Nat) (v : Value) (l : List (List Int)) (hs : a.eval s = v) (hown : OwnRows w base v l)
    (g c : Nat) (xs : List Int) (A : Option Addr) (cx : Nat) (hx : a.eval x = .slice (some ⟨g, 0, none⟩) 1 c) (hc : w.cell? ⟨g, 0, none⟩ = some (.slice A xs.length cx)) (hr : RowI w A xs) (hcx : xs.length ≤ cx) (hlen : l.length ≤ 1000000) (hbase : base ≤ w.heap.size)
    (h : ∀ v' w', OwnRows w' base v' (l ++ [xs]) → Below base w w' → w.heap.size ≤ w'.heap.size → wpList Tryd.prog ops Q rest (a.put o.dst v') w') : wpList Tryd.prog ops Q (o :: rest) a w := by
  obtain ⟨i0, hi, hz0, hz1, hz2⟩ := info_parts info22
  obtain ⟨vs, h1, h2⟩ := hown
  refine wpList_append_own w hgd s x 76 ho base 22 i0 (.slice none 0 0) 1 24 under76 hi hz0 hz1 hz2 rfl (by decide) v l.length vs hs h1 ⟨g, 0, none⟩ 1 c [.slice A xs.length cx] hx rfl ?_ ?_ (by unfold maxLen; omega) (by omega) hbase ?_
  · intro j u hj
    match j, hj with
    | 0, hj => simp at hj; subst hj; simpa [Addr.add] using hc
  · intro u hu; simp at hu; subst hu; rfl
  · intro v' w' h3 h4 _
    have hne : ∀ {b : Nat} {cs : Array Value} {f : Nat × Nat}, w.heap[b]? = some (.cells cs 3 f) → some b ≠ v.ownBlock := by
      intro b cs f hb e
      rcases h1.2 with ⟨rfl, _⟩ | ⟨g', cap, cur, rfl, _, hg', _⟩
      · simp [Value.ownBlock] at e
      · simp [Value.ownBlock] at e
        subst e
        rw [hb] at hg'
        simp at hg'
    have hrow : ∀ {B : Option Addr} {ys : List Int}, RowI w B ys → RowI w' B ys := by
      intro B ys hy
      constructor
      · refine ⟨hy.1.1, hy.1.2.imp id fun ⟨b, o, e, hcc⟩ => ⟨b, o, e, fun j hj => ?_⟩⟩
        obtain ⟨cs, f, hh⟩ := hy.2 b o e
        exact (World.cell?_of_block (w := w) (a := ⟨b, o + j, none⟩) (h4.block b (Array.getElem?_eq_some_iff.1 hh).1 (hne hh))).trans (hcc j hj)
      · intro b o e
        obtain ⟨cs, f, hh⟩ := hy.2 b o e
        exact ⟨cs, f, (h4.block b (Array.getElem?_eq_some_iff.1 hh).1 (hne hh)).trans hh⟩
    refine h v' w' ⟨vs ++ [.slice A xs.length cx], by rw [List.length_append]; exact h3, fun i hi => ?_⟩ ((Below.refl _ _).grown h4 hbase fun k hk => (World.ownsRow.lt h1 k hk).1) h4.size
    have hvl : vs.length = l.length := by simpa using h1.1
    rw [List.length_append] at hi
    by_cases hl : i < l.length
    · obtain ⟨B, c', e, hr', hc'⟩ := h2 i hl
      rw [gl_snoc_lt hl, List.getElem?_append_left (by omega)]
      exact ⟨B, c', e, hrow hr', hc'⟩
    · have : i = l.length := by simp at hi; omega
      subst this
      rw [gl_snoc_at, List.getElem?_append_right (by omega), hvl, Nat.sub_self]
      exact ⟨A, cx, rfl, hrow hr, hcx⟩
theorem OwnInts.row {w : World} {base : Nat} {v : Value} {xs : List Int} (h : OwnInts w base v xs) (hp : 0 < xs.length) : ∃ g c, v = .slice (some ⟨g, 0, none⟩) xs.length c ∧ RowI w (some ⟨g, 0, none⟩) xs ∧ xs.length ≤ c := by
  obtain ⟨A, c, rfl, hi, hc, _⟩ := h.reads
  rcases h.2 with ⟨e, hn⟩ | ⟨g, cap, cur, e, hg, hb, hn, _⟩
  · simp at e; omega
  · simp only [Value.slice.injEq] at e
    obtain ⟨rfl, _, _⟩ := e
    exact ⟨g, c, rfl, ⟨hi, by rintro b o ⟨⟩; exact ⟨cur, (0, 0), hb⟩⟩, hc⟩
set_option maxRecDepth 100000 in
set_option maxHeartbeats 2000000 in
theorem More_calls (A : Option Addr) (c : Nat) (l : List Int) (n : Int) (w : World) (hp : IntsAt w A l) (h0 : 0 < l.length) (h8 : l.length ≤ 1000) :
    Calls Tryd.prog 99 #[.slice A l.length c, .int .i64 n] w fun e w' => (∃ g c', e = .returned (.slice (some ⟨g, 0, none⟩) (l ++ [n]).length c') ∧ RowI w' (some ⟨g, 0, none⟩) (l ++ [n]) ∧ (l ++ [n]).length ≤ c') ∧ Below w.heap.size w w' := by
  obtain ⟨b, o, rfl, hc⟩ := hp.2.resolve_left (by intro e; rw [e] at h0; simp at h0)
  have Hc := Lib.hid hc
  have hb := World.block_lt_of_cell? _ _ (hc 0 h0)
  simp only at hb
  clear hc hp
  have hn1 : Below w.heap.size w (w.alloc (.cells #[] 3)) := (Below.refl _ _).alloc (Nat.le_refl _) _
  have hown : OwnInts (w.alloc (.cells #[] 3)) w.heap.size (.slice (some ⟨w.heap.size, 0, none⟩) 0 0) [] := World.ownsRow_lit w #[] 0 (Nat.le_refl _) (by unfold maxLen; omega) rfl
  obtain ⟨i0, hi, hz0, hz1, hz2⟩ := info_parts info3
  go_enter Tryd.func99, Tryd.ntmps99
  go_wp2_with (at_builtin; refine wpList_append_own (w.alloc (.cells #[] 3)) rfl _ _ 22 rfl w.heap.size 3 i0 (.int .i64 0) 1 8 under22 hi hz0 hz1 hz2 rfl (by decide) _ 0 [] rfl hown ⟨b, o, none⟩ l.length c (l.map (Value.int .i64)) rfl (by simp) ?_ ?_ (by unfold maxLen; omega) (by omega) (by simp) ?_)
  · intro j u hj
    have hjl : j < l.length := by have := (List.getElem?_eq_some_iff.1 hj).1; simpa using this
    have h1 := cell_below hn1 (Hc.out j hjl)
    have e : ((⟨b, o, none⟩ : Addr).add j) = ⟨b, o + j, none⟩ := by unfold Addr.add; split; (subst_vars; rfl); rfl
    rw [e]
    refine h1.trans ?_
    rw [← hj]; simp [gi, hjl]
  · intro u hu
    obtain ⟨x, _, rfl⟩ := List.mem_map.1 hu
    rfl
  · intro v' w' h3 h4 _
    have ho : OwnInts w' w.heap.size v' l := by unfold OwnInts; simpa using h3
    have hb4 : Below w.heap.size w w' := hn1.trans ((Below.refl _ _).grown h4 (by simp) fun k hk => by simp [Value.ownBlock] at hk; omega)
    have Ho := Lib.hid ho
    have Hb4 := Lib.hid hb4
    clear ho hb4 h3 h4 hown hn1
    go_wp2_with (at_builtin; refine wpList_app1 _ rfl _ _ rfl w.heap.size _ _ rfl (Ho.out.alloc _) _ _ _ rfl (cell_new1 _ _ _) (by omega) (by have := Hb4.out.size; simp; omega) ?_)
    intro v6 w6 ho6 hb6 hsz _
    obtain ⟨g, c', rfl, hr, hc⟩ := ho6.row (by simp)
    have Hr := Lib.hid hr
    have Hc2 := Lib.hid hc
    have hfin := (Hb4.out.alloc Hb4.out.size (.cells #[.int .i64 n] 3)).trans hb6
    clear hr ho6 hb6 hsz hc
    go_wp2
    go_ret
    exact ⟨⟨g, c', rfl, Hr.out, Hc2.out⟩, hfin⟩
end Go.Proofs.YtljikigmfkfkiaaDoor
