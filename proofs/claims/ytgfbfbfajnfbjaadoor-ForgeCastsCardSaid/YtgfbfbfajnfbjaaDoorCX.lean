import Derived.Test.YtgfbfbfajnfbjaaDoorCU
import Derived.Test.YtgfbfbfajnfbjaaDoorAC
namespace Go.Proofs.YtgfbfbfajnfbjaaDoor
section
open Go.RowKit Go.Shelf
set_option linter.unusedSimpArgs false
set_option linter.unusedVariables false
/-! Slices of rows that the call itself has made, all of whose blocks are new. -/
def OwnR (w : World) (base : Nat) (v : Value) (ms : List (List Int)) : Prop :=
  ∃ vals, w.ownsRow base 29 1 v ms.length vals ∧ ∀ j, j < ms.length → ∃ Aj c, vals[j]? = some (.slice Aj (gm ms j).length c) ∧ (gm ms j).length ≤ c ∧ IntsAt w Aj (gm ms j) ∧ ∀ b o, Aj = some ⟨b, o, none⟩ → v.ownBlock ≠ some b ∧ base ≤ b ∧ b < w.heap.size
theorem OwnR.nil (w : World) (base : Nat) : OwnR w base (.slice none 0 0) [] := ⟨[], World.ownsRow_nil _ _ _ _, fun j hj => by simp at hj⟩
theorem OwnR.below {w w1 : World} {base : Nat} {v : Value} {ms : List (List Int)} (h : OwnR w base v ms) (hb : Below w.heap.size w w1) : OwnR w1 base v ms := by
  obtain ⟨vals, h1, h2⟩ := h
  refine ⟨vals, ?_, fun j hj => ?_⟩
  · refine World.ownsRow.kept h1 (row := none) ⟨hb.os, hb.tape, hb.output, hb.size, fun k hk _ => hb.block k hk⟩ ?_
    by_cases e : v.ownBlock = none
    · exact .inl e
    · exact .inr e
  · obtain ⟨Aj, c, a, b, d, e⟩ := h2 j hj
    exact ⟨Aj, c, a, b, d.below hb, fun x o hx => ⟨(e x o hx).1, (e x o hx).2.1, Nat.lt_of_lt_of_le (e x o hx).2.2 hb.size⟩⟩
theorem OwnR.own_lt {w : World} {base : Nat} {v : Value} {ms : List (List Int)} (h : OwnR w base v ms) {k : Nat} (hk : v.ownBlock = some k) : base ≤ k ∧ k < w.heap.size := by
  obtain ⟨vals, h1, _⟩ := h
  exact World.ownsRow.lt h1 k hk
/-- append of a row -/
theorem run_appRF (w : World) (ty : TypeId) (base : Nat) (v : Value) (ms : List (List Int)) (hown : OwnR w base v ms) (g c : Nat) (m : List Int) (A : Option Addr) (cm : Nat) (hc : w.cell? ⟨g, 0, none⟩ = some (.slice A m.length cm)) (hmc : m.length ≤ cm) (hm : IntsAt w A m)
    (hA : ∀ b o, A = some ⟨b, o, none⟩ → v.ownBlock ≠ some b ∧ base ≤ b ∧ b < w.heap.size) (hl : ms.length ≤ 1000000) (hb : base ≤ w.heap.size) :
    ∃ v' w', (Builtin.append_ #[41, 41] ty #[v, .slice (some ⟨g, 0, none⟩) 1 c]).run Tryd.prog w = .ok v' w' ∧ OwnR w' base v' (ms ++ [m]) ∧ Below base w w' ∧ Keep (fun k => v.ownBlock = some k) w w' ∧ ∀ p, v'.ownBlock = some p → v.ownBlock = some p ∨ w.heap.size ≤ p := by
  obtain ⟨i0, hi, hz0, hz1, hz2⟩ := info_parts infoL
  obtain ⟨vals, h1, h2⟩ := hown
  have hns : ∀ j u, [Value.slice A m.length cm][j]? = some u → w.cell? ((⟨g, 0, none⟩ : Addr).add j) = some u := by
    intro j u hj
    match j, hj with
    | 0, hj => simp at hj; subst hj; simpa [Addr.add] using hc
  have h1c : ∀ u ∈ [Value.slice A m.length cm], u.oneCell' = true := by intro u hu; simp at hu; subst hu; rfl
  have hvl : vals.length = ms.length := by have := h1.1; omega
  have fin : ∀ (v' : Value) (w' : World) (b : Nat), base ≤ b → w'.ownsRow b 29 1 v' (ms.length + 1) (vals ++ [Value.slice A m.length cm]) → w.grownBy w' v.ownBlock → (∀ p, v'.ownBlock = some p → v.ownBlock = some p ∨ w.heap.size ≤ p) →
      OwnR w' base v' (ms ++ [m]) ∧ Below base w w' ∧ Keep (fun k => v.ownBlock = some k) w w' ∧ ∀ p, v'.ownBlock = some p → v.ownBlock = some p ∨ w.heap.size ≤ p := by
    intro v' w' b hbb r1 r2 r3
    have hk : Keep (fun k => v.ownBlock = some k) w w' := ⟨r2.os, r2.tape, r2.output, r2.size, fun k hk hn => r2.block k hk (fun e => hn e.symm)⟩
    have hne : ∀ x, v.ownBlock ≠ some x → x < w.heap.size → v'.ownBlock ≠ some x := fun x h1 h2 e => (r3 x e).elim h1 (fun h => by omega)
    refine ⟨⟨_, by rw [List.length_append]; exact ⟨r1.1, r1.2.imp id fun ⟨g, cap, cur, e1, e2, e3⟩ => ⟨g, cap, cur, e1, Nat.le_trans hbb e2, e3⟩⟩, fun j hj => ?_⟩, hk.below (fun k hk' e => (World.ownsRow.lt h1 k e).1) hb, hk, r3⟩
    rw [List.length_append] at hj
    simp only [List.length_cons, List.length_nil] at hj
    by_cases hj' : j < ms.length
    · obtain ⟨Aj, cj, a1, a2, a3, a4⟩ := h2 j hj'
      rw [gm_snoc _ _ _ hj']
      exact ⟨Aj, cj, by rw [List.getElem?_append_left (by omega)]; exact a1, a2, a3.keep hk (fun b o e => (a4 b o e).1), fun b o e => ⟨hne b (a4 b o e).1 (a4 b o e).2.2, (a4 b o e).2.1, Nat.lt_of_lt_of_le (a4 b o e).2.2 r2.size⟩⟩
    · obtain rfl : j = ms.length := by omega
      rw [gm_snoc_at]
      exact ⟨A, cm, by rw [← hvl]; simp, hmc, hm.keep hk (fun b o e => (hA b o e).1), fun b o e => ⟨hne b (hA b o e).1 (hA b o e).2.2, (hA b o e).2.1, Nat.lt_of_lt_of_le (hA b o e).2.2 r2.size⟩⟩
  have h1' := h1
  obtain ⟨g1, g2⟩ := h1
  rcases g2 with ⟨rfl, hn⟩ | ⟨g', cap, cur, rfl, hg, hb', hn, hcm, hs, ht⟩
  · have hm0 : ms = [] := List.eq_nil_of_length_eq_zero hn
    subst hm0
    have hv0 : vals = [] := List.eq_nil_of_length_eq_zero hvl
    subst hv0
    obtain ⟨v', w', hr, r1, r2, r3⟩ := run_append_own (P := Tryd.prog) w w.heap.size 41 ty 29 i0 _ 1 24 underLs hi hz0 hz1 hz2 rfl (by decide) (.slice none 0 0) 0 [] (World.ownsRow_nil _ _ _ _) ⟨g, 0, none⟩ 1 c _ rfl hns h1c (by unfold maxLen; omega) (by omega) (Nat.le_refl _)
    exact ⟨v', w', hr, fin v' w' _ hb r1 r2 (fun p hp => .inr (World.ownsRow.lt r1 p hp).1)⟩
  · by_cases hroom : ms.length + 1 ≤ cap
    · obtain ⟨w', hr, r1, r2⟩ := run_append_fits (P := Tryd.prog) w base 41 ty 29 i0 1 underLs hi hz1 g' ms.length cap vals h1' ⟨g, 0, none⟩ 1 c _ rfl hns h1c hroom
      exact ⟨_, w', hr, fin _ w' base (Nat.le_refl _) r1 r2 (fun p hp => .inl hp)⟩
    · have hcs : ∀ j u, vals[j]? = some u → w.cell? ((⟨g', 0, none⟩ : Addr).add j) = some u := World.ownsRow.cells h1' rfl
      obtain ⟨v', w', hr, r1, r2⟩ := run_append_arg_grows (P := Tryd.prog) w 41 ty 29 i0 _ 1 24 underLs hi hz0 hz1 hz2 rfl (by decide) ⟨g', 0, none⟩ ms.length cap vals (by omega) hcs ⟨g, 0, none⟩ 1 c _ rfl hns (by omega) (by unfold maxLen; omega) (by omega)
      exact ⟨v', w', hr, fin v' w' _ hb r1 ⟨r2.os, r2.tape, r2.output, r2.size, fun k hk _ => r2.block k hk (by simp)⟩ (fun p hp => .inr (World.ownsRow.lt r1 p hp).1)⟩
theorem wpList_appRF {ops : Array Oper} {rest : List Oper} {o : Oper} {a : Act} {Q : Exit → Act → World → Prop} (w : World) (hgd : o.guard = none) (s x : Operand)
    (ho : o.op = .call { callee := .builtin .append, args := #[s, x], argTypes := #[41, 41] })
    (base : Nat) (v : Value) (ms : List (List Int)) (hs : a.eval s = v) (hown : OwnR w base v ms) (g c : Nat) (m : List Int) (A : Option Addr) (cm : Nat) (hx : a.eval x = .slice (some ⟨g, 0, none⟩) 1 c) (hc : w.cell? ⟨g, 0, none⟩ = some (.slice A m.length cm)) (hmc : m.length ≤ cm) (hm : IntsAt w A m)
    (hA : ∀ b o, A = some ⟨b, o, none⟩ → v.ownBlock ≠ some b ∧ base ≤ b ∧ b < w.heap.size) (hl : ms.length ≤ 1000000) (hb : base ≤ w.heap.size)
    (h : ∀ v' w', OwnR w' base v' (ms ++ [m]) → Below base w w' → Keep (fun k => v.ownBlock = some k) w w' → (∀ p, v'.ownBlock = some p → v.ownBlock = some p ∨ w.heap.size ≤ p) → wpList Tryd.prog ops Q rest (a.put o.dst v') w') : wpList Tryd.prog ops Q (o :: rest) a w := by
  obtain ⟨v', w', hrun, r1, r2, r3, r4⟩ := run_appRF w o.type base v ms hown g c m A cm hc hmc hm hA hl hb
  refine wpList_plain hgd fun K hK => ?_
  unfold Oper.wp
  simp [execOp, ho, resolve, invoke, builtin, hs, hx, hrun, Result.andThen]
  exact hK _ _ (h v' w' r1 r2 r3 r4)
/-- rows in memory, all of whose blocks are from n on -/
def RowsFrom (n : Nat) (w : World) (A : Option Addr) (ms : List (List Int)) : Prop :=
  ms.length ≤ 9223372036854775807 ∧ (ms = [] ∨ ∃ b o, A = some ⟨b, o, none⟩ ∧ n ≤ b ∧ b < w.heap.size ∧ ∀ j, j < ms.length → ∃ Aj c, w.cell? ⟨b, o + j, none⟩ = some (.slice Aj (gm ms j).length c) ∧ (gm ms j).length ≤ c ∧ IntsAt w Aj (gm ms j) ∧ ∀ b' o', Aj = some ⟨b', o', none⟩ → n ≤ b' ∧ b' < w.heap.size)
theorem RowsFrom.rows {n : Nat} {w : World} {A : Option Addr} {ms : List (List Int)} (h : RowsFrom n w A ms) : RowsAt w A ms :=
  ⟨h.1, h.2.imp id fun ⟨b, o, e, _, _, hj⟩ => ⟨b, o, e, fun j h => (hj j h).imp fun Aj h => h.imp fun c h => ⟨h.1, h.2.1, h.2.2.1⟩⟩⟩
theorem RowsFrom.keep {M : Nat → Prop} {n : Nat} {w w' : World} {A : Option Addr} {ms : List (List Int)} (h : RowsFrom n w A ms) (k : Keep M w w') (hM : ∀ q, n ≤ q → q < w.heap.size → ¬ M q) : RowsFrom n w' A ms :=
  ⟨h.1, h.2.imp id fun ⟨b, o, e, h1, h2, hj⟩ => ⟨b, o, e, h1, Nat.lt_of_lt_of_le h2 k.size, fun j hlt => by
    obtain ⟨Aj, c, a1, a2, a3, a4⟩ := hj j hlt
    exact ⟨Aj, c, k.cell a1 (hM b h1 h2), a2, a3.keep k (fun b' o' e' => hM b' (a4 b' o' e').1 (a4 b' o' e').2), fun b' o' e' => ⟨(a4 b' o' e').1, Nat.lt_of_lt_of_le (a4 b' o' e').2 k.size⟩⟩⟩⟩
theorem RowsFrom.at_ {n b o : Nat} {w : World} {ms : List (List Int)} (h : RowsFrom n w (some ⟨b, o, none⟩) ms) {j : Nat} (hj : j < ms.length) :
    ∃ Aj c, w.cell? ⟨b, o + j, none⟩ = some (.slice Aj (gm ms j).length c) ∧ (gm ms j).length ≤ c ∧ IntsAt w Aj (gm ms j) ∧ ∀ b' o', Aj = some ⟨b', o', none⟩ → n ≤ b' ∧ b' < w.heap.size := by
  rcases h.2 with e | ⟨b', o', e, _, _, hc⟩
  · rw [e] at hj; simp at hj
  · cases e; exact hc j hj
theorem RowsFrom.some_ {n : Nat} {w : World} {A : Option Addr} {ms : List (List Int)} (h : RowsFrom n w A ms) (hn : 0 < ms.length) : ∃ b o, A = some ⟨b, o, none⟩ ∧ n ≤ b ∧ b < w.heap.size := by
  rcases h.2 with e | ⟨b, o, e, h1, h2, _⟩
  · rw [e] at hn; simp at hn
  · exact ⟨b, o, e, h1, h2⟩
theorem OwnR.reads {w : World} {base : Nat} {v : Value} {ms : List (List Int)} (h : OwnR w base v ms) (hl : ms.length ≤ 1000000) : ∃ A c, v = .slice A ms.length c ∧ RowsFrom base w A ms ∧ ms.length ≤ c := by
  have hlt := fun k hk => OwnR.own_lt h (k := k) hk
  obtain ⟨vals, h1, h2⟩ := h
  have hcs := fun g => World.ownsRow.cells (w := w) (g := g) h1
  obtain ⟨g1, g2⟩ := h1
  rcases g2 with ⟨rfl, hn⟩ | ⟨g, cap, cur, rfl, hg, hb, hn, hc, hs, ht⟩
  · have : ms = [] := List.eq_nil_of_length_eq_zero hn
    subst this
    exact ⟨none, 0, rfl, ⟨by simp, .inl rfl⟩, by simp⟩
  · refine ⟨_, cap, rfl, ⟨by omega, .inr ⟨g, 0, rfl, (hlt g rfl).1, (hlt g rfl).2, fun j hj => ?_⟩⟩, hn⟩
    obtain ⟨Aj, c, a, b, d, e⟩ := h2 j hj
    refine ⟨Aj, c, ?_, b, d, fun b' o' e' => ⟨(e b' o' e').2.1, (e b' o' e').2.2⟩⟩
    have := hcs g rfl j _ a
    by_cases hj0 : j = 0
    · subst hj0; simpa [Addr.add] using this
    · simpa [Addr.add, hj0] using this
/-- append of some numbers, or of none, to numbers of one's own -/
theorem wpList_appI {ops : Array Oper} {rest : List Oper} {o : Oper} {a : Act} {Q : Exit → Act → World → Prop} (w : World) (hgd : o.guard = none) (s x : Operand)
    (ho : o.op = .call { callee := .builtin .append, args := #[s, x], argTypes := #[29, 29] })
    (base : Nat) (v : Value) (xs : List Int) (hs : a.eval s = v) (hown : OwnInts w base v xs) (A : Option Addr) (c : Nat) (ys : List Int) (hx : a.eval x = .slice A ys.length c) (hc : IntsAt w A ys) (hlen : xs.length + ys.length ≤ 1000000) (hbase : base ≤ w.heap.size)
    (h : ∀ v' w', OwnInts w' base v' (xs ++ ys) → Below base w w' → Keep (fun q => v.ownBlock = some q) w w' → wpList Tryd.prog ops Q rest (a.put o.dst v') w') : wpList Tryd.prog ops Q (o :: rest) a w := by
  obtain ⟨i0, hi, hz0, hz1, hz2⟩ := info_parts info3
  obtain ⟨v', w', hrun, r1, r2, r3⟩ := run_app_any w base 29 o.type 3 i0 _ 1 8 under22 hi hz0 hz1 hz2 rfl (by decide) (by decide) v xs.length (xs.map (Value.int .i64)) hown A ys.length c (ys.map (Value.int .i64)) (by simp) (by
    rcases hc.2 with rfl | ⟨b, og, rfl, hj⟩
    · exact .inl rfl
    · refine .inr ⟨_, rfl, fun j u hu => ?_⟩
      rw [List.getElem?_map] at hu
      obtain ⟨y, hy, rfl⟩ := Option.map_eq_some_iff.1 hu
      have h1 := hj j (List.getElem?_eq_some_iff.1 hy).1
      have h2 : gi ys j = y := by unfold gi; rw [List.getD_eq_getElem?_getD, hy]; rfl
      rw [h2] at h1
      rw [addr_add']; exact h1) (fun u hu => by obtain ⟨y, _, rfl⟩ := List.mem_map.1 hu; rfl) hlen hbase
  refine wpList_plain hgd fun K hK => ?_
  unfold Oper.wp
  simp [execOp, ho, resolve, invoke, builtin, hs, hx, hrun, Result.andThen]
  exact hK _ _ (h v' w' (by unfold OwnInts; rw [List.length_append, List.map_append]; exact r1) r2 r3)
theorem OwnInts.lit1 (w : World) (base : Nat) (n : Int) (h : base ≤ w.heap.size) : OwnInts (w.alloc (.cells #[.int .i64 n] 3)) base (.slice (some ⟨w.heap.size, 0, none⟩) 1 1) [n] :=
  World.ownsRow_lit w #[.int .i64 n] 1 h (by unfold maxLen; omega) rfl
theorem IntsAt.drop1 {w : World} {b o : Nat} {l : List Int} (h : IntsAt w (some ⟨b, o, none⟩) l) : IntsAt w (some ⟨b, o + 1, none⟩) (l.drop 1) := by
  refine ⟨by have := h.1; simp; omega, ?_⟩
  rcases h.2 with rfl | ⟨b', o', e, hc⟩
  · exact .inl rfl
  · cases e
    refine .inr ⟨b, o + 1, rfl, fun j hj => ?_⟩
    have := hc (j + 1) (by simp at hj; omega)
    rw [show o + 1 + j = o + (j + 1) by omega, this]
    unfold gi
    rw [List.getD_eq_getElem?_getD, List.getD_eq_getElem?_getD, List.getElem?_drop, Nat.add_comm 1 j]
/-! How many ways there are. -/
theorem flat_len {α : Type} (f : Nat → List α) (c : Nat) (h : ∀ k, (f k).length ≤ c) : ∀ n, ((List.range n).flatMap f).length ≤ n * c
  | 0 => by simp
  | n + 1 => by
    rw [List.range_succ, List.flatMap_append, List.length_append, Nat.succ_mul]
    have := flat_len f c h n
    have := h n
    simp only [List.flatMap_cons, List.flatMap_nil, List.append_nil]
    omega
theorem choices_len : ∀ (l : List Int) (m : Int), (∀ k, 0 ≤ gi l k ∧ gi l k ≤ 6) → (choices l m).length ≤ 7 ^ l.length
  | [], m, _ => by unfold choices; split <;> simp
  | a :: t, m, h => by
    have h0 := h 0
    rw [gi_cons_zero] at h0
    unfold choices
    refine Nat.le_trans (flat_len _ (7 ^ t.length) (fun k => by rw [List.length_map]; exact choices_len t _ fun j => h (j + 1)) _) ?_
    rw [List.length_cons, Nat.pow_succ, Nat.mul_comm]
    exact Nat.mul_le_mul_left _ (by omega)
end
end Go.Proofs.YtgfbfbfajnfbjaaDoor

namespace Go.Proofs.YtgfbfbfajnfbjaaDoor
section
open Go.RowKit Go.Shelf
set_option linter.unusedSimpArgs false
set_option linter.unusedVariables false
/-! The reference's ways to take bars, and the melts among them. -/
def ChoicesCall (n : Nat) : Prop := ∀ (l : List Int) (many : Int) (A : Option Addr) (c : Nat) (w : World), l.length = n → n ≤ 4 → (∀ k, 0 ≤ gi l k ∧ gi l k ≤ 6) → (0 ≤ many ∧ many ≤ 24) → IntsAt w A l → l.length ≤ c →
  Calls Tryd.prog 104 #[.slice A l.length c, .int .i64 many] w fun e w' => (∃ A' c', e = .returned (.slice A' (choices l many).length c') ∧ RowsFrom w.heap.size w' A' (choices l many) ∧ (choices l many).length ≤ c') ∧ Below w.heap.size w w'
def kidC (l : List Int) (many : Int) (k : Nat) : List (List Int) := (choices (l.drop 1) (many - k)).map ((k : Int) :: ·)
theorem choices_kids {l : List Int} (h : 0 < l.length) (many : Int) : choices l many = (List.range (min (gi l 0) many + 1).toNat).flatMap (kidC l many) := by
  match l, h with
  | a :: t, _ => rfl
theorem kids_succ (l : List Int) (many : Int) (k : Nat) : (List.range (k + 1)).flatMap (kidC l many) = (List.range k).flatMap (kidC l many) ++ kidC l many k := by
  rw [List.range_succ, List.flatMap_append]; simp
theorem kids_len {l : List Int} (hl : ∀ k, 0 ≤ gi l k ∧ gi l k ≤ 6) (h0 : 0 < l.length) (h4 : l.length ≤ 4) (many : Int) (k : Nat) (hk : k ≤ 25) : ((List.range k).flatMap (kidC l many)).length ≤ 100000 := by
  have h1 := flat_len (kidC l many) (7 ^ 3) (fun j => by
    unfold kidC
    rw [List.length_map]
    refine Nat.le_trans (choices_len _ _ fun i => ?_) (Nat.pow_le_pow_right (by omega) (by simp; omega))
    have := hl (i + 1)
    unfold gi at this ⊢
    rw [List.getD_eq_getElem?_getD, List.getElem?_drop, Nat.add_comm 1 i]
    rwa [List.getD_eq_getElem?_getD] at this) k
  have h2 : k * 7 ^ 3 ≤ 25 * 7 ^ 3 := Nat.mul_le_mul_right _ hk
  omega
theorem choices_row {l : List Int} (hl : ∀ k, 0 ≤ gi l k) (m : Int) (j : Nat) : (gm (choices l m) j).length ≤ l.length := by
  by_cases h : j < (choices l m).length
  · have hm : gm (choices l m) j ∈ choices l m := by
      unfold gm
      rw [List.getD_eq_getElem?_getD, List.getElem?_eq_getElem h]
      exact List.getElem_mem h
    exact Nat.le_of_eq (choices_mem l m _ hl hm).1
  · unfold gm
    rw [List.getD_eq_getElem?_getD, List.getElem?_eq_none (by omega)]
    exact Nat.zero_le _
theorem take_map_snoc (x : Int) (R : List (List Int)) (j : Nat) (h : j < R.length) : (R.take (j + 1)).map (x :: ·) = (R.take j).map (x :: ·) ++ [x :: gm R j] := by
  rw [take_snoc4 R j h, List.map_append]; rfl
end
section
open Go.RowKit Go.Shelf
attribute [local go_sem] Oper.semAt_some
set_option linter.unusedSimpArgs false
set_option linter.unusedVariables false
set_option maxRecDepth 100000 in
set_option maxHeartbeats 2000000 in
theorem refChoices_zero : ChoicesCall 0 := by
  intro l many A c w hl h4 hlb hm hp hc
  have hnil : l = [] := List.eq_nil_of_length_eq_zero hl
  subst hnil
  rcases Int.lt_or_eq_of_le hm.1 with h0 | h0
  · have hne : (many == 0) = false := by rw [beq_eq_false_iff_ne]; omega
    have hch : Hid (choices [] many = []) := by unfold Hid choices; rw [if_pos h0]
    clear hp hc hlb hm
    go_enter Tryd.func104, Tryd.ntmps104
    go_wp2
    go_ret
    exact ⟨⟨none, 0, by rw [hch.out] <;> rfl, by rw [hch.out]; exact ⟨by simp, .inl rfl⟩, by rw [hch.out]; exact Nat.le_refl _⟩, Below.refl _ _⟩
  · subst h0
    have hch : Hid (choices [] 0 = [[]]) := by unfold Hid choices; rw [if_neg (by decide)]
    clear hp hc hlb hm
    have k1 := BoxAt.new (w.alloc (.cells #[] 3)) #[.slice (some ⟨w.heap.size, 0, none⟩) 0 0] 29
    have hb : Below w.heap.size w ((w.alloc (.cells #[] 3)).alloc (.cells #[.slice (some ⟨w.heap.size, 0, none⟩) 0 0] 29)) := ((Below.refl _ _).alloc (Nat.le_refl _) _).alloc (by simp) _
    go_enter Tryd.func104, Tryd.ntmps104
    go_wp2
    go_ret
    refine ⟨⟨some ⟨w.heap.size + 1, 0, none⟩, 1, by rw [hch.out] <;> rfl, ?_, by rw [hch.out]; exact Nat.le_refl _⟩, hb⟩
    rw [hch.out]
    rw [World.size_alloc] at k1
    refine ⟨by simp, .inr ⟨_, 0, rfl, by omega, k1.lt, fun j hj => ?_⟩⟩
    obtain rfl : j = 0 := by simpa using hj
    exact ⟨some ⟨w.heap.size, 0, none⟩, 0, by rw [k1.cell]; rfl, Nat.le_refl _, ⟨by simp [gm], .inl rfl⟩, fun b' o' e => by cases e; exact ⟨Nat.le_refl _, by have := k1.lt; omega⟩⟩
set_option maxRecDepth 100000 in
set_option maxHeartbeats 4000000 in
theorem refChoices_succ (n : Nat) (IH : ChoicesCall n) : ChoicesCall (n + 1) := by
  intro l many A c w hl h4 hlb hm hp hc
  have hpos : 0 < l.length := by omega
  obtain ⟨b, o, rfl, hpc⟩ := hp.2.resolve_left (by intro e; rw [e] at hpos; simp at hpos)
  have Hp := Lib.hid hp
  have Hkl := Lib.hid (fun k hk => kids_len hlb hpos (by omega) many k hk)
  have Hch := Lib.hid (choices_kids hpos many)
  have Hks := Lib.hid (kids_succ l many)
  have h0 := hlb 0
  have hdl : (l.drop 1).length = l.length - 1 := by simp
  have hih : ∀ (oo cc k : Nat) (W : World), l.length - 1 ≤ cc → (k : Int) ≤ many → IntsAt W (some ⟨b, oo, none⟩) (l.drop 1) → Calls Tryd.prog 104 #[.slice (some ⟨b, oo, none⟩) (l.length - 1) cc, .int .i64 (many - k)] W fun e w' =>
      (∃ A' c', e = .returned (.slice A' (choices (l.drop 1) (many - k)).length c') ∧ RowsFrom W.heap.size w' A' (choices (l.drop 1) (many - k)) ∧ (choices (l.drop 1) (many - k)).length ≤ c') ∧ Below W.heap.size W w' := by
    intro oo cc k W hcc hk hp
    have h := IH (l.drop 1) (many - k) (some ⟨b, oo, none⟩) cc W (by omega) (by omega) (fun j => by
      have := hlb (j + 1)
      unfold gi at this ⊢
      rw [List.getD_eq_getElem?_getD, List.getElem?_drop, Nat.add_comm 1 j]
      rwa [List.getD_eq_getElem?_getD] at this) (by omega) hp (by omega)
    rw [hdl] at h
    exact h
  have Hih := Lib.hid hih
  have Hrl0 : Hid (∀ k j : Nat, (gm (choices (l.drop 1) (many - k)) j).length ≤ 3) := Lib.hid (fun k j => by
    refine Nat.le_trans (choices_row (fun i => ?_) _ j) (by omega)
    have := hlb (i + 1)
    unfold gi at this ⊢
    rw [List.getD_eq_getElem?_getD, List.getElem?_drop, Nat.add_comm 1 i]
    rw [List.getD_eq_getElem?_getD] at this
    exact this.1)
  have hkid : ∀ k : Nat, (kidC l many k) = (choices (l.drop 1) (many - k)).map ((k : Int) :: ·) := fun k => rfl
  have Hkid := Lib.hid hkid
  have hne : ((l.length : Int) == 0) = false := by rw [beq_eq_false_iff_ne]; omega
  have Hdl := Lib.hid (show l.length ≤ 1000 by omega)
  have hc1 : 1 ≤ l.length := hpos
  clear hp hpc hlb hdl hih hkid IH hl
  have Hhm := Lib.hid hm
  by_cases hcc : c = 1
  · subst hcc
    have Hl1 : Hid (l.length - 1 ≤ 0) := Lib.hid (by omega)
    have Hdp : Hid (∀ W : World, Below w.heap.size w W → IntsAt W (some ⟨b, o, none⟩) (l.drop 1)) := Lib.hid (fun W _ => ⟨by simp; omega, .inl (List.drop_of_length_le (by omega))⟩)
    clear hc
    rcases Int.lt_or_le many (gi l 0) with hm1 | hm1
    · as_aux_lemma =>
        obtain ⟨N, hN⟩ : ∃ N : Nat, (min (gi l 0) many + 1).toNat = N := ⟨_, rfl⟩
        have hNi : (N : Int) = many + 1 := by omega
        have HN := Lib.hid hN
        clear hN
        go_enter Tryd.func104, Tryd.ntmps104
        go_upto_block 0 with (fail)
        clear hne
        go_wp2
        go_loopg [6, 5] N (fun gq i v wr => ∃ k : Nat, k ≤ N ∧ gq = N - k ∧ i = .int .i64 k ∧ OwnR wr w.heap.size v ((List.range k).flatMap (kidC l many)) ∧ Below w.heap.size w wr)
        case atStart => exact ⟨0, Nat.zero_le _, rfl, rfl, OwnR.nil _ _, Below.refl _ _⟩
        case round =>
          obtain ⟨k, hk, hgk, rfl, hown, hbe⟩ := hrel
          have Hgk := Lib.hid hgk
          have Hown := Lib.hid hown
          have Hbe := Lib.hid hbe
          have p0 := cell_below hbe (Hp.out.at_ (k := 0) hpos)
          rw [Nat.add_zero] at p0
          have pbl := World.block_lt_of_cell? _ _ p0
          simp only at pbl
          clear hgk hown hbe
          by_cases hlt : k < N
          · have hki : (k : Int) ≤ many := by omega
            have hkm : (k : Int) ≤ many := by omega
            have hmm := Hhm.out
            have hw1 : IntKind.i64.wrap (many - k) = many - k := wrap_in (by omega) (by omega)
            have Hpre := Lib.hid (Hkl.out k (by omega))
            have Hprs := Lib.hid (Hkl.out (k + 1) (by omega))
            rw [Hks.out k] at Hprs
            have Hs := Lib.hid (Hks.out k)
            go_wp2_with fail
            refine (Hih.out o 0 k _ Hl1.out hkm (Hdp.out _ Hbe.out)).mono ?_
            rintro e w2 ⟨⟨RA, rc, rfl, hrf, hrc⟩, hb⟩
            have Hrl := Lib.hid (Hrl0.out k)
            rw [Hkid.out k] at Hs Hprs
            generalize choices (l.drop 1) (many - k) = R at *
            generalize (List.range k).flatMap (kidC l many) = pre at *
            have hR9 : R.length ≤ 100000 := by have := Hprs.out; rw [List.length_append, List.length_map] at this; omega
            have Hrf := Lib.hid hrf
            have Hb2 := Lib.hid hb
            have Hown2 := Lib.hid (Hown.out.below hb)
            have Hsep := Lib.hid (fun (p : Nat) hp => (OwnR.own_lt Hown.out (k := p) hp).2)
            clear hrf hb p0 pbl
            generalize wr = w1 at *
            go_upto_block 2 with (fail)
            go_wp2
            go_loopg [8, 5] R.length (fun gq i v wq => ∃ j : Nat, j ≤ R.length ∧ gq = R.length - j ∧ i = .int .i64 j ∧ OwnR wq w.heap.size v (pre ++ (R.take j).map ((k : Int) :: ·)) ∧ Below w.heap.size w wq ∧ Keep (fun q => q < w1.heap.size) w2 wq ∧ ∀ p, v.ownBlock = some p → p < w1.heap.size ∨ w2.heap.size ≤ p)
            case atStart => exact ⟨0, Nat.zero_le _, rfl, rfl, by simpa using Hown2.out, Hbe.out.trans (Hb2.out.mono Hbe.out.size), Keep.refl _ _, fun p hp => .inl (Hsep.out p hp)⟩
            case round =>
              obtain ⟨j, hj, hgj, rfl, hown, hbe, hkp, hsp⟩ := hrel
              have Hgj := Lib.hid hgj
              have Hown := Lib.hid hown
              have Hbq := Lib.hid hbe
              have Hkp := Lib.hid hkp
              have Hsp := Lib.hid hsp
              clear hgj hown hbe hkp hsp Hown2
              by_cases hltj : j < R.length
              · have hji : (j : Int) < R.length := by omega
                obtain ⟨rb, ro, rfl, hrb, hrb2⟩ := Hrf.out.some_ (by omega)
                obtain ⟨Aj, cj, hcell, hcap, hints, hfr⟩ := Hrf.out.at_ hltj
                have q0 := Hkp.out.cell hcell (by simp only; omega)
                have qbl := World.block_lt_of_cell? _ _ q0
                simp only at qbl
                have hi2 := hints.keep Hkp.out (fun b' o' e => by have := hfr b' o' e; omega)
                have Hts := Lib.hid (take_map_snoc (k : Int) R j hltj)
                have hlen1 : (pre ++ (R.take j).map ((k : Int) :: ·)).length ≤ 100000 := by
                  have := Hprs.out
                  rw [List.length_append, List.length_map] at this ⊢
                  rw [List.length_take]; omega
                have Hlen1 := Lib.hid hlen1
                have hgl : (gm R j).length ≤ 3 := by have := Hrl.out j; omega
                generalize gm R j = y at *
                have Hi2 := Lib.hid hi2
                have Hgl := Lib.hid hgl
                generalize hL : pre ++ (R.take j).map ((k : Int) :: ·) = L at *
                have HL := Lib.hid hL
                clear hL
                have hsq := Hbq.out.size
                clear hcell hcap hints hfr hi2 hlen1 hgl
                go_wp2_with (at_builtin; refine wpList_appI _ rfl _ _ rfl wr.heap.size _ [(k : Int)] rfl (OwnInts.lit1 wr _ _ (Nat.le_refl _)) Aj cj y rfl (Hi2.out.below ((Below.refl _ _).alloc (Nat.le_refl _) _)) (by have := Hgl.out; simp; omega) (by simp) ?_)
                intro v5 w5 ho5 hb5 hk5
                obtain ⟨A5, c5, rfl, hi5, hc5, _, hf5, _⟩ := ho5.reads
                have hb6 : Below wr.heap.size wr w5 := ((Below.refl _ _).alloc (Nat.le_refl _) _).trans hb5
                have Hown5 := Lib.hid (Hown.out.below hb6)
                have Hi5 := Lib.hid hi5
                have Hf5 := Lib.hid hf5
                have Hb6 := Lib.hid hb6
                clear ho5 hb5 hk5 hi5 hf5 hb6 q0 qbl Hi2
                have hlt5 : ∀ b o, A5 = some ⟨b, o, none⟩ → b < w5.heap.size := fun b o e => by
                  subst e
                  have := World.block_lt_of_cell? _ _ (Hi5.out.at_ (k := 0) (by simp))
                  simpa using this
                have Hlt5 := Lib.hid hlt5
                clear hlt5
                go_wp2_with (at_builtin; refine wpList_appRF _ rfl _ _ rfl w.heap.size _ L rfl (Hown5.out.below ((Below.refl _ _).alloc (Nat.le_refl _) _)) _ 1 ([(k : Int)] ++ y) A5 c5 rfl (cell_new1 _ _ _) (by simpa using hc5) (Hi5.out.below ((Below.refl _ _).alloc (Nat.le_refl _) _)) (fun b o e => ⟨fun h => by have := (OwnR.own_lt Hown.out h).2; have := Hf5.out b o e; omega, by have := Hf5.out b o e; omega, by have := Hlt5.out b o e; rw [World.size_alloc]; omega⟩) (by have := Hlen1.out; omega) (by have := Hb6.out.size; rw [World.size_alloc]; omega) ?_)
                intro v6 w6 ho6 hb7 hk7 hs7
                have Ho6 := Lib.hid ho6
                have Hbf := Lib.hid ((Hbq.out.trans (Hb6.out.mono hsq)).trans (((Below.refl _ w5).alloc (by have := Hb6.out.size; omega) _).trans hb7))
                have hk8 : Keep (fun q => q < w1.heap.size) w2 w6 := (Hkp.out.trans (Keep.of_below (Hb6.out.trans (((Below.refl _ w5).alloc Hb6.out.size _))))).trans' hk7 (fun q hq e => by rcases Hsp.out q e with h | h; exact h; omega)
                have Hk8 := Lib.hid hk8
                have Hs8 : Hid (∀ p, v6.ownBlock = some p → p < w1.heap.size ∨ w2.heap.size ≤ p) := Lib.hid (fun p hp => by
                  rcases hs7 p hp with h | h
                  · exact Hsp.out p h
                  · have := Hkp.out.size; have := Hb6.out.size; (try rw [World.size_alloc] at h); exact .inr (by omega))
                clear ho6 hb7 hk7 hs7 hk8
                go_wp2
                go_roundg (R.length - (j + 1))
                case measure => have := Hgj.out; omega
                case rel => exact ⟨j + 1, by omega, rfl, by go_num, by rw [Hts.out, ← List.append_assoc, HL.out]; exact Ho6.out, Hbf.out, Hk8.out, Hs8.out⟩
              · obtain rfl : j = R.length := by omega
                have hji : ¬ (R.length : Int) < R.length := by omega
                have hown := Hown.out
                rw [List.take_length, ← Hs.out] at hown
                have Hown := Lib.hid hown
                clear hown
                go_wp2
                go_roundg (N - (k + 1))
                case measure => have := Hgk.out; omega
                case rel => exact ⟨k + 1, by omega, rfl, by go_num, Hown.out, Hbq.out⟩
          · obtain rfl : k = N := by omega
            have hki : many < (k : Int) := by omega
            have hle := Hkl.out k (by omega)
            obtain ⟨A', c', rfl, hrf, hcc⟩ := Hown.out.reads (by omega)
            rw [← HN.out, ← Hch.out] at hrf hcc ⊢
            have Hrf := Lib.hid hrf
            clear hrf Hown
            go_wp2
            go_ret
            exact ⟨⟨A', c', rfl, Hrf.out, hcc⟩, Hbe.out⟩

    · as_aux_lemma =>
        obtain ⟨N, hN⟩ : ∃ N : Nat, (min (gi l 0) many + 1).toNat = N := ⟨_, rfl⟩
        have hNi : (N : Int) = gi l 0 + 1 := by omega
        have HN := Lib.hid hN
        clear hN
        go_enter Tryd.func104, Tryd.ntmps104
        go_upto_block 0 with (fail)
        clear hne
        go_wp2
        go_loopg [6, 5] N (fun gq i v wr => ∃ k : Nat, k ≤ N ∧ gq = N - k ∧ i = .int .i64 k ∧ OwnR wr w.heap.size v ((List.range k).flatMap (kidC l many)) ∧ Below w.heap.size w wr)
        case atStart => exact ⟨0, Nat.zero_le _, rfl, rfl, OwnR.nil _ _, Below.refl _ _⟩
        case round =>
          obtain ⟨k, hk, hgk, rfl, hown, hbe⟩ := hrel
          have Hgk := Lib.hid hgk
          have Hown := Lib.hid hown
          have Hbe := Lib.hid hbe
          have p0 := cell_below hbe (Hp.out.at_ (k := 0) hpos)
          rw [Nat.add_zero] at p0
          have pbl := World.block_lt_of_cell? _ _ p0
          simp only at pbl
          clear hgk hown hbe
          by_cases hlt : k < N
          · have hki : (k : Int) ≤ gi l 0 := by omega
            have hkm : (k : Int) ≤ many := by omega
            have hmm := Hhm.out
            have hw1 : IntKind.i64.wrap (many - k) = many - k := wrap_in (by omega) (by omega)
            have Hpre := Lib.hid (Hkl.out k (by omega))
            have Hprs := Lib.hid (Hkl.out (k + 1) (by omega))
            rw [Hks.out k] at Hprs
            have Hs := Lib.hid (Hks.out k)
            go_wp2_with fail
            refine (Hih.out o 0 k _ Hl1.out hkm (Hdp.out _ Hbe.out)).mono ?_
            rintro e w2 ⟨⟨RA, rc, rfl, hrf, hrc⟩, hb⟩
            have Hrl := Lib.hid (Hrl0.out k)
            rw [Hkid.out k] at Hs Hprs
            generalize choices (l.drop 1) (many - k) = R at *
            generalize (List.range k).flatMap (kidC l many) = pre at *
            have hR9 : R.length ≤ 100000 := by have := Hprs.out; rw [List.length_append, List.length_map] at this; omega
            have Hrf := Lib.hid hrf
            have Hb2 := Lib.hid hb
            have Hown2 := Lib.hid (Hown.out.below hb)
            have Hsep := Lib.hid (fun (p : Nat) hp => (OwnR.own_lt Hown.out (k := p) hp).2)
            clear hrf hb p0 pbl
            generalize wr = w1 at *
            go_upto_block 2 with (fail)
            go_wp2
            go_loopg [8, 5] R.length (fun gq i v wq => ∃ j : Nat, j ≤ R.length ∧ gq = R.length - j ∧ i = .int .i64 j ∧ OwnR wq w.heap.size v (pre ++ (R.take j).map ((k : Int) :: ·)) ∧ Below w.heap.size w wq ∧ Keep (fun q => q < w1.heap.size) w2 wq ∧ ∀ p, v.ownBlock = some p → p < w1.heap.size ∨ w2.heap.size ≤ p)
            case atStart => exact ⟨0, Nat.zero_le _, rfl, rfl, by simpa using Hown2.out, Hbe.out.trans (Hb2.out.mono Hbe.out.size), Keep.refl _ _, fun p hp => .inl (Hsep.out p hp)⟩
            case round =>
              obtain ⟨j, hj, hgj, rfl, hown, hbe, hkp, hsp⟩ := hrel
              have Hgj := Lib.hid hgj
              have Hown := Lib.hid hown
              have Hbq := Lib.hid hbe
              have Hkp := Lib.hid hkp
              have Hsp := Lib.hid hsp
              clear hgj hown hbe hkp hsp Hown2
              by_cases hltj : j < R.length
              · have hji : (j : Int) < R.length := by omega
                obtain ⟨rb, ro, rfl, hrb, hrb2⟩ := Hrf.out.some_ (by omega)
                obtain ⟨Aj, cj, hcell, hcap, hints, hfr⟩ := Hrf.out.at_ hltj
                have q0 := Hkp.out.cell hcell (by simp only; omega)
                have qbl := World.block_lt_of_cell? _ _ q0
                simp only at qbl
                have hi2 := hints.keep Hkp.out (fun b' o' e => by have := hfr b' o' e; omega)
                have Hts := Lib.hid (take_map_snoc (k : Int) R j hltj)
                have hlen1 : (pre ++ (R.take j).map ((k : Int) :: ·)).length ≤ 100000 := by
                  have := Hprs.out
                  rw [List.length_append, List.length_map] at this ⊢
                  rw [List.length_take]; omega
                have Hlen1 := Lib.hid hlen1
                have hgl : (gm R j).length ≤ 3 := by have := Hrl.out j; omega
                generalize gm R j = y at *
                have Hi2 := Lib.hid hi2
                have Hgl := Lib.hid hgl
                generalize hL : pre ++ (R.take j).map ((k : Int) :: ·) = L at *
                have HL := Lib.hid hL
                clear hL
                have hsq := Hbq.out.size
                clear hcell hcap hints hfr hi2 hlen1 hgl
                go_wp2_with (at_builtin; refine wpList_appI _ rfl _ _ rfl wr.heap.size _ [(k : Int)] rfl (OwnInts.lit1 wr _ _ (Nat.le_refl _)) Aj cj y rfl (Hi2.out.below ((Below.refl _ _).alloc (Nat.le_refl _) _)) (by have := Hgl.out; simp; omega) (by simp) ?_)
                intro v5 w5 ho5 hb5 hk5
                obtain ⟨A5, c5, rfl, hi5, hc5, _, hf5, _⟩ := ho5.reads
                have hb6 : Below wr.heap.size wr w5 := ((Below.refl _ _).alloc (Nat.le_refl _) _).trans hb5
                have Hown5 := Lib.hid (Hown.out.below hb6)
                have Hi5 := Lib.hid hi5
                have Hf5 := Lib.hid hf5
                have Hb6 := Lib.hid hb6
                clear ho5 hb5 hk5 hi5 hf5 hb6 q0 qbl Hi2
                have hlt5 : ∀ b o, A5 = some ⟨b, o, none⟩ → b < w5.heap.size := fun b o e => by
                  subst e
                  have := World.block_lt_of_cell? _ _ (Hi5.out.at_ (k := 0) (by simp))
                  simpa using this
                have Hlt5 := Lib.hid hlt5
                clear hlt5
                go_wp2_with (at_builtin; refine wpList_appRF _ rfl _ _ rfl w.heap.size _ L rfl (Hown5.out.below ((Below.refl _ _).alloc (Nat.le_refl _) _)) _ 1 ([(k : Int)] ++ y) A5 c5 rfl (cell_new1 _ _ _) (by simpa using hc5) (Hi5.out.below ((Below.refl _ _).alloc (Nat.le_refl _) _)) (fun b o e => ⟨fun h => by have := (OwnR.own_lt Hown.out h).2; have := Hf5.out b o e; omega, by have := Hf5.out b o e; omega, by have := Hlt5.out b o e; rw [World.size_alloc]; omega⟩) (by have := Hlen1.out; omega) (by have := Hb6.out.size; rw [World.size_alloc]; omega) ?_)
                intro v6 w6 ho6 hb7 hk7 hs7
                have Ho6 := Lib.hid ho6
                have Hbf := Lib.hid ((Hbq.out.trans (Hb6.out.mono hsq)).trans (((Below.refl _ w5).alloc (by have := Hb6.out.size; omega) _).trans hb7))
                have hk8 : Keep (fun q => q < w1.heap.size) w2 w6 := (Hkp.out.trans (Keep.of_below (Hb6.out.trans (((Below.refl _ w5).alloc Hb6.out.size _))))).trans' hk7 (fun q hq e => by rcases Hsp.out q e with h | h; exact h; omega)
                have Hk8 := Lib.hid hk8
                have Hs8 : Hid (∀ p, v6.ownBlock = some p → p < w1.heap.size ∨ w2.heap.size ≤ p) := Lib.hid (fun p hp => by
                  rcases hs7 p hp with h | h
                  · exact Hsp.out p h
                  · have := Hkp.out.size; have := Hb6.out.size; (try rw [World.size_alloc] at h); exact .inr (by omega))
                clear ho6 hb7 hk7 hs7 hk8
                go_wp2
                go_roundg (R.length - (j + 1))
                case measure => have := Hgj.out; omega
                case rel => exact ⟨j + 1, by omega, rfl, by go_num, by rw [Hts.out, ← List.append_assoc, HL.out]; exact Ho6.out, Hbf.out, Hk8.out, Hs8.out⟩
              · obtain rfl : j = R.length := by omega
                have hji : ¬ (R.length : Int) < R.length := by omega
                have hown := Hown.out
                rw [List.take_length, ← Hs.out] at hown
                have Hown := Lib.hid hown
                clear hown
                go_wp2
                go_roundg (N - (k + 1))
                case measure => have := Hgk.out; omega
                case rel => exact ⟨k + 1, by omega, rfl, by go_num, Hown.out, Hbq.out⟩
          · obtain rfl : k = N := by omega
            have hki : gi l 0 < (k : Int) := by omega
            have hle := Hkl.out k (by omega)
            obtain ⟨A', c', rfl, hrf, hcc⟩ := Hown.out.reads (by omega)
            rw [← HN.out, ← Hch.out] at hrf hcc ⊢
            have Hrf := Lib.hid hrf
            clear hrf Hown
            go_wp2
            go_ret
            exact ⟨⟨A', c', rfl, Hrf.out, hcc⟩, Hbe.out⟩

  · have Hl1 : Hid (l.length - 1 ≤ c - 1) := Lib.hid (by omega)
    have Hdp : Hid (∀ W : World, Below w.heap.size w W → IntsAt W (some ⟨b, o + 1, none⟩) (l.drop 1)) := Lib.hid (fun W h => (Hp.out.below h).drop1)
    rcases Int.lt_or_le many (gi l 0) with hm1 | hm1
    · as_aux_lemma =>
        obtain ⟨N, hN⟩ : ∃ N : Nat, (min (gi l 0) many + 1).toNat = N := ⟨_, rfl⟩
        have hNi : (N : Int) = many + 1 := by omega
        have HN := Lib.hid hN
        clear hN
        go_enter Tryd.func104, Tryd.ntmps104
        go_upto_block 0 with (fail)
        clear hne
        go_wp2
        go_loopg [6, 5] N (fun gq i v wr => ∃ k : Nat, k ≤ N ∧ gq = N - k ∧ i = .int .i64 k ∧ OwnR wr w.heap.size v ((List.range k).flatMap (kidC l many)) ∧ Below w.heap.size w wr)
        case atStart => exact ⟨0, Nat.zero_le _, rfl, rfl, OwnR.nil _ _, Below.refl _ _⟩
        case round =>
          obtain ⟨k, hk, hgk, rfl, hown, hbe⟩ := hrel
          have Hgk := Lib.hid hgk
          have Hown := Lib.hid hown
          have Hbe := Lib.hid hbe
          have p0 := cell_below hbe (Hp.out.at_ (k := 0) hpos)
          rw [Nat.add_zero] at p0
          have pbl := World.block_lt_of_cell? _ _ p0
          simp only at pbl
          clear hgk hown hbe
          by_cases hlt : k < N
          · have hki : (k : Int) ≤ many := by omega
            have hkm : (k : Int) ≤ many := by omega
            have hmm := Hhm.out
            have hw1 : IntKind.i64.wrap (many - k) = many - k := wrap_in (by omega) (by omega)
            have Hpre := Lib.hid (Hkl.out k (by omega))
            have Hprs := Lib.hid (Hkl.out (k + 1) (by omega))
            rw [Hks.out k] at Hprs
            have Hs := Lib.hid (Hks.out k)
            go_wp2_with fail
            refine (Hih.out (o + 1) (c - 1) k _ Hl1.out hkm (Hdp.out _ Hbe.out)).mono ?_
            rintro e w2 ⟨⟨RA, rc, rfl, hrf, hrc⟩, hb⟩
            have Hrl := Lib.hid (Hrl0.out k)
            rw [Hkid.out k] at Hs Hprs
            generalize choices (l.drop 1) (many - k) = R at *
            generalize (List.range k).flatMap (kidC l many) = pre at *
            have hR9 : R.length ≤ 100000 := by have := Hprs.out; rw [List.length_append, List.length_map] at this; omega
            have Hrf := Lib.hid hrf
            have Hb2 := Lib.hid hb
            have Hown2 := Lib.hid (Hown.out.below hb)
            have Hsep := Lib.hid (fun (p : Nat) hp => (OwnR.own_lt Hown.out (k := p) hp).2)
            clear hrf hb p0 pbl
            generalize wr = w1 at *
            go_upto_block 2 with (fail)
            go_wp2
            go_loopg [8, 5] R.length (fun gq i v wq => ∃ j : Nat, j ≤ R.length ∧ gq = R.length - j ∧ i = .int .i64 j ∧ OwnR wq w.heap.size v (pre ++ (R.take j).map ((k : Int) :: ·)) ∧ Below w.heap.size w wq ∧ Keep (fun q => q < w1.heap.size) w2 wq ∧ ∀ p, v.ownBlock = some p → p < w1.heap.size ∨ w2.heap.size ≤ p)
            case atStart => exact ⟨0, Nat.zero_le _, rfl, rfl, by simpa using Hown2.out, Hbe.out.trans (Hb2.out.mono Hbe.out.size), Keep.refl _ _, fun p hp => .inl (Hsep.out p hp)⟩
            case round =>
              obtain ⟨j, hj, hgj, rfl, hown, hbe, hkp, hsp⟩ := hrel
              have Hgj := Lib.hid hgj
              have Hown := Lib.hid hown
              have Hbq := Lib.hid hbe
              have Hkp := Lib.hid hkp
              have Hsp := Lib.hid hsp
              clear hgj hown hbe hkp hsp Hown2
              by_cases hltj : j < R.length
              · have hji : (j : Int) < R.length := by omega
                obtain ⟨rb, ro, rfl, hrb, hrb2⟩ := Hrf.out.some_ (by omega)
                obtain ⟨Aj, cj, hcell, hcap, hints, hfr⟩ := Hrf.out.at_ hltj
                have q0 := Hkp.out.cell hcell (by simp only; omega)
                have qbl := World.block_lt_of_cell? _ _ q0
                simp only at qbl
                have hi2 := hints.keep Hkp.out (fun b' o' e => by have := hfr b' o' e; omega)
                have Hts := Lib.hid (take_map_snoc (k : Int) R j hltj)
                have hlen1 : (pre ++ (R.take j).map ((k : Int) :: ·)).length ≤ 100000 := by
                  have := Hprs.out
                  rw [List.length_append, List.length_map] at this ⊢
                  rw [List.length_take]; omega
                have Hlen1 := Lib.hid hlen1
                have hgl : (gm R j).length ≤ 3 := by have := Hrl.out j; omega
                generalize gm R j = y at *
                have Hi2 := Lib.hid hi2
                have Hgl := Lib.hid hgl
                generalize hL : pre ++ (R.take j).map ((k : Int) :: ·) = L at *
                have HL := Lib.hid hL
                clear hL
                have hsq := Hbq.out.size
                clear hcell hcap hints hfr hi2 hlen1 hgl
                go_wp2_with (at_builtin; refine wpList_appI _ rfl _ _ rfl wr.heap.size _ [(k : Int)] rfl (OwnInts.lit1 wr _ _ (Nat.le_refl _)) Aj cj y rfl (Hi2.out.below ((Below.refl _ _).alloc (Nat.le_refl _) _)) (by have := Hgl.out; simp; omega) (by simp) ?_)
                intro v5 w5 ho5 hb5 hk5
                obtain ⟨A5, c5, rfl, hi5, hc5, _, hf5, _⟩ := ho5.reads
                have hb6 : Below wr.heap.size wr w5 := ((Below.refl _ _).alloc (Nat.le_refl _) _).trans hb5
                have Hown5 := Lib.hid (Hown.out.below hb6)
                have Hi5 := Lib.hid hi5
                have Hf5 := Lib.hid hf5
                have Hb6 := Lib.hid hb6
                clear ho5 hb5 hk5 hi5 hf5 hb6 q0 qbl Hi2
                have hlt5 : ∀ b o, A5 = some ⟨b, o, none⟩ → b < w5.heap.size := fun b o e => by
                  subst e
                  have := World.block_lt_of_cell? _ _ (Hi5.out.at_ (k := 0) (by simp))
                  simpa using this
                have Hlt5 := Lib.hid hlt5
                clear hlt5
                go_wp2_with (at_builtin; refine wpList_appRF _ rfl _ _ rfl w.heap.size _ L rfl (Hown5.out.below ((Below.refl _ _).alloc (Nat.le_refl _) _)) _ 1 ([(k : Int)] ++ y) A5 c5 rfl (cell_new1 _ _ _) (by simpa using hc5) (Hi5.out.below ((Below.refl _ _).alloc (Nat.le_refl _) _)) (fun b o e => ⟨fun h => by have := (OwnR.own_lt Hown.out h).2; have := Hf5.out b o e; omega, by have := Hf5.out b o e; omega, by have := Hlt5.out b o e; rw [World.size_alloc]; omega⟩) (by have := Hlen1.out; omega) (by have := Hb6.out.size; rw [World.size_alloc]; omega) ?_)
                intro v6 w6 ho6 hb7 hk7 hs7
                have Ho6 := Lib.hid ho6
                have Hbf := Lib.hid ((Hbq.out.trans (Hb6.out.mono hsq)).trans (((Below.refl _ w5).alloc (by have := Hb6.out.size; omega) _).trans hb7))
                have hk8 : Keep (fun q => q < w1.heap.size) w2 w6 := (Hkp.out.trans (Keep.of_below (Hb6.out.trans (((Below.refl _ w5).alloc Hb6.out.size _))))).trans' hk7 (fun q hq e => by rcases Hsp.out q e with h | h; exact h; omega)
                have Hk8 := Lib.hid hk8
                have Hs8 : Hid (∀ p, v6.ownBlock = some p → p < w1.heap.size ∨ w2.heap.size ≤ p) := Lib.hid (fun p hp => by
                  rcases hs7 p hp with h | h
                  · exact Hsp.out p h
                  · have := Hkp.out.size; have := Hb6.out.size; (try rw [World.size_alloc] at h); exact .inr (by omega))
                clear ho6 hb7 hk7 hs7 hk8
                go_wp2
                go_roundg (R.length - (j + 1))
                case measure => have := Hgj.out; omega
                case rel => exact ⟨j + 1, by omega, rfl, by go_num, by rw [Hts.out, ← List.append_assoc, HL.out]; exact Ho6.out, Hbf.out, Hk8.out, Hs8.out⟩
              · obtain rfl : j = R.length := by omega
                have hji : ¬ (R.length : Int) < R.length := by omega
                have hown := Hown.out
                rw [List.take_length, ← Hs.out] at hown
                have Hown := Lib.hid hown
                clear hown
                go_wp2
                go_roundg (N - (k + 1))
                case measure => have := Hgk.out; omega
                case rel => exact ⟨k + 1, by omega, rfl, by go_num, Hown.out, Hbq.out⟩
          · obtain rfl : k = N := by omega
            have hki : many < (k : Int) := by omega
            have hle := Hkl.out k (by omega)
            obtain ⟨A', c', rfl, hrf, hcc⟩ := Hown.out.reads (by omega)
            rw [← HN.out, ← Hch.out] at hrf hcc ⊢
            have Hrf := Lib.hid hrf
            clear hrf Hown
            go_wp2
            go_ret
            exact ⟨⟨A', c', rfl, Hrf.out, hcc⟩, Hbe.out⟩

    · as_aux_lemma =>
        obtain ⟨N, hN⟩ : ∃ N : Nat, (min (gi l 0) many + 1).toNat = N := ⟨_, rfl⟩
        have hNi : (N : Int) = gi l 0 + 1 := by omega
        have HN := Lib.hid hN
        clear hN
        go_enter Tryd.func104, Tryd.ntmps104
        go_upto_block 0 with (fail)
        clear hne
        go_wp2
        go_loopg [6, 5] N (fun gq i v wr => ∃ k : Nat, k ≤ N ∧ gq = N - k ∧ i = .int .i64 k ∧ OwnR wr w.heap.size v ((List.range k).flatMap (kidC l many)) ∧ Below w.heap.size w wr)
        case atStart => exact ⟨0, Nat.zero_le _, rfl, rfl, OwnR.nil _ _, Below.refl _ _⟩
        case round =>
          obtain ⟨k, hk, hgk, rfl, hown, hbe⟩ := hrel
          have Hgk := Lib.hid hgk
          have Hown := Lib.hid hown
          have Hbe := Lib.hid hbe
          have p0 := cell_below hbe (Hp.out.at_ (k := 0) hpos)
          rw [Nat.add_zero] at p0
          have pbl := World.block_lt_of_cell? _ _ p0
          simp only at pbl
          clear hgk hown hbe
          by_cases hlt : k < N
          · have hki : (k : Int) ≤ gi l 0 := by omega
            have hkm : (k : Int) ≤ many := by omega
            have hmm := Hhm.out
            have hw1 : IntKind.i64.wrap (many - k) = many - k := wrap_in (by omega) (by omega)
            have Hpre := Lib.hid (Hkl.out k (by omega))
            have Hprs := Lib.hid (Hkl.out (k + 1) (by omega))
            rw [Hks.out k] at Hprs
            have Hs := Lib.hid (Hks.out k)
            go_wp2_with fail
            refine (Hih.out (o + 1) (c - 1) k _ Hl1.out hkm (Hdp.out _ Hbe.out)).mono ?_
            rintro e w2 ⟨⟨RA, rc, rfl, hrf, hrc⟩, hb⟩
            have Hrl := Lib.hid (Hrl0.out k)
            rw [Hkid.out k] at Hs Hprs
            generalize choices (l.drop 1) (many - k) = R at *
            generalize (List.range k).flatMap (kidC l many) = pre at *
            have hR9 : R.length ≤ 100000 := by have := Hprs.out; rw [List.length_append, List.length_map] at this; omega
            have Hrf := Lib.hid hrf
            have Hb2 := Lib.hid hb
            have Hown2 := Lib.hid (Hown.out.below hb)
            have Hsep := Lib.hid (fun (p : Nat) hp => (OwnR.own_lt Hown.out (k := p) hp).2)
            clear hrf hb p0 pbl
            generalize wr = w1 at *
            go_upto_block 2 with (fail)
            go_wp2
            go_loopg [8, 5] R.length (fun gq i v wq => ∃ j : Nat, j ≤ R.length ∧ gq = R.length - j ∧ i = .int .i64 j ∧ OwnR wq w.heap.size v (pre ++ (R.take j).map ((k : Int) :: ·)) ∧ Below w.heap.size w wq ∧ Keep (fun q => q < w1.heap.size) w2 wq ∧ ∀ p, v.ownBlock = some p → p < w1.heap.size ∨ w2.heap.size ≤ p)
            case atStart => exact ⟨0, Nat.zero_le _, rfl, rfl, by simpa using Hown2.out, Hbe.out.trans (Hb2.out.mono Hbe.out.size), Keep.refl _ _, fun p hp => .inl (Hsep.out p hp)⟩
            case round =>
              obtain ⟨j, hj, hgj, rfl, hown, hbe, hkp, hsp⟩ := hrel
              have Hgj := Lib.hid hgj
              have Hown := Lib.hid hown
              have Hbq := Lib.hid hbe
              have Hkp := Lib.hid hkp
              have Hsp := Lib.hid hsp
              clear hgj hown hbe hkp hsp Hown2
              by_cases hltj : j < R.length
              · have hji : (j : Int) < R.length := by omega
                obtain ⟨rb, ro, rfl, hrb, hrb2⟩ := Hrf.out.some_ (by omega)
                obtain ⟨Aj, cj, hcell, hcap, hints, hfr⟩ := Hrf.out.at_ hltj
                have q0 := Hkp.out.cell hcell (by simp only; omega)
                have qbl := World.block_lt_of_cell? _ _ q0
                simp only at qbl
                have hi2 := hints.keep Hkp.out (fun b' o' e => by have := hfr b' o' e; omega)
                have Hts := Lib.hid (take_map_snoc (k : Int) R j hltj)
                have hlen1 : (pre ++ (R.take j).map ((k : Int) :: ·)).length ≤ 100000 := by
                  have := Hprs.out
                  rw [List.length_append, List.length_map] at this ⊢
                  rw [List.length_take]; omega
                have Hlen1 := Lib.hid hlen1
                have hgl : (gm R j).length ≤ 3 := by have := Hrl.out j; omega
                generalize gm R j = y at *
                have Hi2 := Lib.hid hi2
                have Hgl := Lib.hid hgl
                generalize hL : pre ++ (R.take j).map ((k : Int) :: ·) = L at *
                have HL := Lib.hid hL
                clear hL
                have hsq := Hbq.out.size
                clear hcell hcap hints hfr hi2 hlen1 hgl
                go_wp2_with (at_builtin; refine wpList_appI _ rfl _ _ rfl wr.heap.size _ [(k : Int)] rfl (OwnInts.lit1 wr _ _ (Nat.le_refl _)) Aj cj y rfl (Hi2.out.below ((Below.refl _ _).alloc (Nat.le_refl _) _)) (by have := Hgl.out; simp; omega) (by simp) ?_)
                intro v5 w5 ho5 hb5 hk5
                obtain ⟨A5, c5, rfl, hi5, hc5, _, hf5, _⟩ := ho5.reads
                have hb6 : Below wr.heap.size wr w5 := ((Below.refl _ _).alloc (Nat.le_refl _) _).trans hb5
                have Hown5 := Lib.hid (Hown.out.below hb6)
                have Hi5 := Lib.hid hi5
                have Hf5 := Lib.hid hf5
                have Hb6 := Lib.hid hb6
                clear ho5 hb5 hk5 hi5 hf5 hb6 q0 qbl Hi2
                have hlt5 : ∀ b o, A5 = some ⟨b, o, none⟩ → b < w5.heap.size := fun b o e => by
                  subst e
                  have := World.block_lt_of_cell? _ _ (Hi5.out.at_ (k := 0) (by simp))
                  simpa using this
                have Hlt5 := Lib.hid hlt5
                clear hlt5
                go_wp2_with (at_builtin; refine wpList_appRF _ rfl _ _ rfl w.heap.size _ L rfl (Hown5.out.below ((Below.refl _ _).alloc (Nat.le_refl _) _)) _ 1 ([(k : Int)] ++ y) A5 c5 rfl (cell_new1 _ _ _) (by simpa using hc5) (Hi5.out.below ((Below.refl _ _).alloc (Nat.le_refl _) _)) (fun b o e => ⟨fun h => by have := (OwnR.own_lt Hown.out h).2; have := Hf5.out b o e; omega, by have := Hf5.out b o e; omega, by have := Hlt5.out b o e; rw [World.size_alloc]; omega⟩) (by have := Hlen1.out; omega) (by have := Hb6.out.size; rw [World.size_alloc]; omega) ?_)
                intro v6 w6 ho6 hb7 hk7 hs7
                have Ho6 := Lib.hid ho6
                have Hbf := Lib.hid ((Hbq.out.trans (Hb6.out.mono hsq)).trans (((Below.refl _ w5).alloc (by have := Hb6.out.size; omega) _).trans hb7))
                have hk8 : Keep (fun q => q < w1.heap.size) w2 w6 := (Hkp.out.trans (Keep.of_below (Hb6.out.trans (((Below.refl _ w5).alloc Hb6.out.size _))))).trans' hk7 (fun q hq e => by rcases Hsp.out q e with h | h; exact h; omega)
                have Hk8 := Lib.hid hk8
                have Hs8 : Hid (∀ p, v6.ownBlock = some p → p < w1.heap.size ∨ w2.heap.size ≤ p) := Lib.hid (fun p hp => by
                  rcases hs7 p hp with h | h
                  · exact Hsp.out p h
                  · have := Hkp.out.size; have := Hb6.out.size; (try rw [World.size_alloc] at h); exact .inr (by omega))
                clear ho6 hb7 hk7 hs7 hk8
                go_wp2
                go_roundg (R.length - (j + 1))
                case measure => have := Hgj.out; omega
                case rel => exact ⟨j + 1, by omega, rfl, by go_num, by rw [Hts.out, ← List.append_assoc, HL.out]; exact Ho6.out, Hbf.out, Hk8.out, Hs8.out⟩
              · obtain rfl : j = R.length := by omega
                have hji : ¬ (R.length : Int) < R.length := by omega
                have hown := Hown.out
                rw [List.take_length, ← Hs.out] at hown
                have Hown := Lib.hid hown
                clear hown
                go_wp2
                go_roundg (N - (k + 1))
                case measure => have := Hgk.out; omega
                case rel => exact ⟨k + 1, by omega, rfl, by go_num, Hown.out, Hbq.out⟩
          · obtain rfl : k = N := by omega
            have hki : gi l 0 < (k : Int) := by omega
            have hle := Hkl.out k (by omega)
            obtain ⟨A', c', rfl, hrf, hcc⟩ := Hown.out.reads (by omega)
            rw [← HN.out, ← Hch.out] at hrf hcc ⊢
            have Hrf := Lib.hid hrf
            clear hrf Hown
            go_wp2
            go_ret
            exact ⟨⟨A', c', rfl, Hrf.out, hcc⟩, Hbe.out⟩

theorem refChoices_calls : ∀ n, ChoicesCall n
  | 0 => refChoices_zero
  | n + 1 => refChoices_succ n (refChoices_calls n)
end
end Go.Proofs.YtgfbfbfajnfbjaaDoor

namespace Go.Proofs.YtgfbfbfajnfbjaaDoor
section
open Go.RowKit Go.Shelf
set_option linter.unusedSimpArgs false
set_option linter.unusedVariables false
/-! The reference's melts, the one that it casts, and the greatest number of bars. -/
theorem filt_succ (B : ForgeV) (C : List (List Int)) (j : Nat) (h : j < C.length) : (C.take (j + 1)).filter (rightS B) = (C.take j).filter (rightS B) ++ bif rightS B (gm C j) then [gm C j] else [] := by
  rw [take_snoc4 C j h, List.filter_append]
  congr 1
theorem gm_mem {C : List (List Int)} {j : Nat} (h : j < C.length) : gm C j ∈ C := by
  unfold gm
  rw [List.getD_eq_getElem?_getD, List.getElem?_eq_getElem h]
  exact List.getElem_mem h
theorem best_take (l : List (List Int)) (j : Nat) (h : j < l.length) : bestOf (l.take (j + 1)) = bestStep (bestOf (l.take j)) (gm l j) := by
  rw [take_snoc4 l j h, bestOf_snoc]
theorem lotsTo_four' {l : List Int} (h : l.length ≤ 4) : lotsS l = lotsTo l l.length := by
  have key : ∀ d : Nat, lotsTo l (l.length + d) = lotsTo l l.length := by
    intro d
    induction d with
    | zero => rfl
    | succ d ih => rw [show l.length + (d + 1) = (l.length + d) + 1 by omega, lotsTo, ih, gi_out (by omega)]; simp
  have := key (4 - l.length)
  rwa [show l.length + (4 - l.length) = 4 by omega] at this
end
section
open Go.RowKit Go.Shelf
attribute [local go_sem] Oper.semAt_some
set_option linter.unusedSimpArgs false
set_option linter.unusedVariables false
set_option maxRecDepth 100000 in
set_option maxHeartbeats 2000000 in
theorem refLots_calls (A : Option Addr) (c : Nat) (l : List Int) (w : World) (hp : IntsAt w A l) (h4 : l.length ≤ 4) :
    Calls Tryd.prog 76 #[.slice A l.length c] w fun e w' => e = .returned (.int .i64 (lotsS l : Nat)) ∧ w = w' := by
  have Hf := Lib.hid (lotsTo_four' h4)
  rcases Nat.eq_zero_or_pos l.length with h0 | h0
  · have hz : ¬ (0 : Int) < l.length := by omega
    have Hs : Hid (lotsS l = 0) := by unfold Hid; rw [Hf.out, h0]; rfl
    clear hp h0 h4
    go_enter Tryd.func76, Tryd.ntmps76
    go_wp2
    refine wp_loop_rounds 1 ?_
    rw [rounds_succ]
    go_wp2
    go_ret
    exact ⟨by rw [Hs.out]; rfl, rfl⟩
  · obtain ⟨b, o, rfl, hc⟩ := hp.2.resolve_left (by intro e; rw [e] at h0; simp at h0)
    have Hc := Lib.hid hc
    clear hc hp h0
    go_enter Tryd.func76, Tryd.ntmps76
    go_wp2
    go_loop [4, 3] (fun i s => ∃ k : Nat, k ≤ l.length ∧ i = .int .i64 k ∧ s = .int .i64 (lotsTo l k : Nat)) (fun i _ => l.length - (intOf i).toNat)
    case atStart => exact ⟨0, Nat.zero_le _, rfl, rfl⟩
    case round =>
      obtain ⟨k, hk, rfl, rfl⟩ := hrel
      by_cases hlt : k < l.length
      · have hck := Hc.out k hlt
        have bk := World.block_lt_of_cell? _ _ hck
        have hki : (k : Int) < l.length := by omega
        simp only at bk
        have hle := lotsTo_le l k
        have Hs : Hid (lotsTo l (k + 1) = lotsTo l k + if 0 < gi l k then 1 else 0) := Lib.hid rfl
        have hw1 : IntKind.i64.wrap ((lotsTo l k : Nat) + 1 : Int) = (lotsTo l k : Nat) + 1 := wrap_in (by omega) (by omega)
        by_cases hp : 0 < gi l k
        · have Hp := Lib.hid hp
          go_wp2
          go_round
          case rel => exact ⟨k + 1, by omega, by go_num, by rw [Hs.out, if_pos Hp.out]; go_num⟩
          case measure => simp [intOf]; omega
        · have Hp := Lib.hid hp
          go_wp2
          go_round
          case rel => exact ⟨k + 1, by omega, by go_num, by rw [Hs.out, if_neg Hp.out]; rfl⟩
          case measure => simp [intOf]; omega
      · obtain rfl : k = l.length := by omega
        go_wp2
        go_ret
        exact ⟨by rw [Hf.out]; rfl, rfl⟩
set_option maxRecDepth 100000 in
set_option maxHeartbeats 4000000 in
theorem refMelts_calls (B : ForgeV) (g : B.Good) (left : List Int) (many : Int) (A : Option Addr) (c : Nat) (w : World) (hB : B.Reads w) (hl : left.length = B.lots.length) (hlb : ∀ k, 0 ≤ gi left k ∧ gi left k ≤ 6) (hm : 0 ≤ many ∧ many ≤ 24) (hp : IntsAt w A left) (hc : left.length ≤ c) :
    Calls Tryd.prog 74 #[B.val, .slice A left.length c, .int .i64 many] w fun e w' => (∃ A' c', e = .returned (.slice A' (meltsS B left many).length c') ∧ RowsFrom w.heap.size w' A' (meltsS B left many) ∧ (meltsS B left many).length ≤ c') ∧ Below w.heap.size w w' := by
  have HB0 := Lib.hid hB
  have Hg := Lib.hid g
  have Hp0 := Lib.hid hp
  have hm4 := g.many
  have k3 := BoxAt.new w B.cells 28
  have H1 : Below w.heap.size w (w.alloc (.cells B.cells 28)) := (Below.refl _ _).alloc (Nat.le_refl _) _
  have hcells : B.val = .agg B.cells := rfl
  rw [hcells]
  unfold ForgeV.cells at k3 H1 ⊢
  have hn4 : left.length ≤ 4 := by omega
  have Hmem := Lib.hid (fun x hx => choices_mem left many x (fun k => (hlb k).1) hx)
  have hclen : (choices left many).length ≤ 2401 := Nat.le_trans (choices_len left many hlb) (Nat.pow_le_pow_right (by omega) hn4)
  have Hmelt : Hid (meltsS B left many = (choices left many).filter (rightS B)) := Lib.hid rfl
  have Hcc := Lib.hid (fun W h => refChoices_calls left.length left many A c W rfl hn4 hlb hm h hc)
  have Hlb := Lib.hid hlb
  have Hl := Lib.hid hl
  clear hB hp g hc hlb hl
  go_enter Tryd.func74, Tryd.ntmps74
  go_upto_region 1 with fail
  generalize w.alloc _ = W1 at *
  have K3 := Lib.hid k3
  have HW1 := Lib.hid H1
  obtain ⟨c3, f3, l3⟩ := k3
  clear H1
  go_wp2_with fail
  refine (Hcc.out _ (Hp0.out.below HW1.out)).mono ?_
  rintro e W2 ⟨⟨CA, cc, rfl, hrf, hrc⟩, hb⟩
  generalize choices left many = C at *
  have HW2 := Lib.hid (below_then HW1.out HW1.out.size hb)
  have K32 := Lib.hid (K3.out.below hb)
  have hs12 := hb.size
  have hs1 := HW1.out.size
  have Hrf := Lib.hid hrf
  clear hrf hb c3 f3 l3 K3 Hcc
  obtain ⟨c3, f3, l3⟩ := K32.out
  go_upto_block 0 with (fail)
  clear c3 f3 l3
  go_wp2
  go_loopg [9, 7] C.length (fun gq i v wr => ∃ j : Nat, j ≤ C.length ∧ gq = C.length - j ∧ i = .int .i64 j ∧ OwnR wr W1.heap.size v ((C.take j).filter (rightS B)) ∧ Below W2.heap.size W2 wr ∧ ∀ p, v.ownBlock = some p → W2.heap.size ≤ p)
  case atStart => exact ⟨0, Nat.zero_le _, rfl, rfl, OwnR.nil _ _, Below.refl _ _, fun p hp => by cases hp⟩
  case round =>
    obtain ⟨j, hj, hgj, rfl, hown, hbe, hsp⟩ := hrel
    have Hgj := Lib.hid hgj
    have Hown := Lib.hid hown
    have Hbe := Lib.hid hbe
    have Hsp := Lib.hid hsp
    obtain ⟨c3, f3, l3⟩ := K32.out.below hbe
    have HBr := Lib.hid (below_then HW2.out HW2.out.size hbe)
    clear hgj hown hbe hsp
    by_cases hlt : j < C.length
    · have hji : (j : Int) < C.length := by omega
      obtain ⟨rb, ro, rfl, hrb, hrb2⟩ := Hrf.out.some_ (by omega)
      obtain ⟨Aj, cj, hcell, hcap, hints, hfr⟩ := Hrf.out.at_ hlt
      have hx := Hmem.out (gm C j) (gm_mem hlt)
      have Hfs := Lib.hid (filt_succ B C j hlt)
      have Hfl : Hid (((C.take j).filter (rightS B)).length ≤ 2401) := Lib.hid (Nat.le_trans (List.length_filter_le _ _) (by rw [List.length_take]; omega))
      generalize (C.take j).filter (rightS B) = L at *
      generalize gm C j = y at *
      have Hy := Lib.hid (show y.length = B.lots.length ∧ ∀ k, 0 ≤ gi y k ∧ gi y k ≤ 24 from ⟨hx.1.trans Hl.out, fun k => by have := hx.2 k; have := Hlb.out k; omega⟩)
      have p0 := cell_below Hbe.out hcell
      have pbl := World.block_lt_of_cell? _ _ p0
      simp only at pbl
      have Hcell := Lib.hid hcell
      have Hints := Lib.hid hints
      have Hfr := Lib.hid hfr
      have hcap' := hcap
      clear hcell hints hfr hx hcap
      have Hcap := Lib.hid hcap'
      clear hcap'
      go_upto_region 6 with (fail)
      refine region_plain (S := fun w' => Below wr.heap.size wr w') 6 (by kernel_rfl) ?_ (fun hHeld => ?_)
      · exact (Below.refl _ _).drew
      first | (refine anyT_take 0 (some 19) (v := ?_) rfl rfl (by kernel_rfl) (by kernel_rfl) (by kernel_rfl) (by kernel_rfl) (fun _ _ _ h => h) (Or.inl ⟨by rfl, ?_⟩) hHeld ?_; rotate_left; focus (intro wq hSw; obtain ⟨hcq, hfq⟩ := bcell hSw; go_simp; (try with_reducible rfl); done))
      (try simp only [Act.put, List.setIfInBounds_toArray, List.set_cons_zero, List.set_cons_succ])
      first | (refine anyT_take 1 (some 20) (v := ?_) rfl rfl (by kernel_rfl) (by kernel_rfl) (by kernel_rfl) (by kernel_rfl) (fun _ _ _ h => h) (Or.inl ⟨by rfl, ?_⟩) hHeld ?_; rotate_left; focus (intro wq hSw; obtain ⟨hcq, hfq⟩ := bcell hSw; go_simp; (try with_reducible rfl); done))
      (try simp only [Act.put, List.setIfInBounds_toArray, List.set_cons_zero, List.set_cons_succ])
      first | (refine anyT_take 2 (some 21) (v := ?_) rfl rfl (by kernel_rfl) (by kernel_rfl) (by kernel_rfl) (by kernel_rfl) (fun _ _ _ h => h) (Or.inl ⟨by rfl, ?_⟩) hHeld ?_; rotate_left; focus (intro wq hSw; obtain ⟨hcq, hfq⟩ := bcell hSw; go_simp; (try with_reducible rfl); done))
      (try simp only [Act.put, List.setIfInBounds_toArray, List.set_cons_zero, List.set_cons_succ])
      first | (refine anyT_take 3 (some 22) (v := ?_) rfl rfl (by kernel_rfl) (by kernel_rfl) (by kernel_rfl) (by kernel_rfl) (fun _ _ _ h => h) (Or.inl ⟨by rfl, ?_⟩) hHeld ?_; rotate_left; focus (intro wq hSw; obtain ⟨hcq, hfq⟩ := bcell hSw; go_simp; (try with_reducible rfl); done))
      (try simp only [Act.put, List.setIfInBounds_toArray, List.set_cons_zero, List.set_cons_succ])
      first | (refine anyT_take 4 (some 23) (v := ?_) rfl rfl (by kernel_rfl) (by kernel_rfl) (by kernel_rfl) (by kernel_rfl) (fun _ _ _ h => h) (Or.inl ⟨by rfl, ?_⟩) hHeld ?_; rotate_left; focus (intro wq hSw; obtain ⟨hcq, hfq⟩ := bcell hSw; go_simp; (try with_reducible rfl); done))
      (try simp only [Act.put, List.setIfInBounds_toArray, List.set_cons_zero, List.set_cons_succ])
      refine anyT_one 5 (by kernel_rfl) rfl (fun K hK => ?_)
      go_simp
      refine (eq0_2 (v' := B.val) (by unfold ForgeV.val ForgeV.cells; rfl) (refRight_calls B Hg.out Aj cj y _ (HB0.out.below (below_then HBr.out HBr.out.size hHeld)) ((Hints.out.below Hbe.out).below hHeld) Hy.out.1 Hy.out.2)).mono ?_; rintro e w5 ⟨rfl, hb5⟩
      refine hK.out _ _ ?_ (fun hHeld => ?_)
      · exact below_then hHeld hHeld.size hb5
      clear hK K
      (try simp only [Act.put, List.setIfInBounds_toArray, List.set_cons_zero, List.set_cons_succ])
      refine anyT_done (by kernel_rfl) ?_ _
      have hbe5 := below_then Hbe.out Hbe.out.size hHeld
      have Hbe5 := Lib.hid hbe5
      have Hown5 := Lib.hid (Hown.out.below hHeld)
      clear hHeld hb5 c3 f3 l3 p0 pbl hbe5
      cases hr : rightS B y with
      | false =>
        have Hfs2 := Hfs.out
        rw [hr, cond_false, List.append_nil] at Hfs2
        have Hf3 := Lib.hid Hfs2
        clear Hfs2
        go_wp2
        go_roundg (C.length - (j + 1))
        case measure => have := Hgj.out; omega
        case rel => exact ⟨j + 1, by omega, rfl, by go_num, by rw [Hf3.out]; exact Hown5.out, Hbe5.out, Hsp.out⟩
      | true =>
        have Hfs2 := Hfs.out
        rw [hr, cond_true] at Hfs2
        have Hf3 := Lib.hid Hfs2
        clear Hfs2
        have p0 := cell_below Hbe5.out Hcell.out
        have pbl := World.block_lt_of_cell? _ _ p0
        simp only at pbl
        go_wp2_with (at_builtin; refine wpList_appRF _ rfl _ _ rfl W1.heap.size _ L rfl (Hown5.out.below ((Below.refl _ _).alloc (Nat.le_refl _) _)) _ 1 y Aj cj rfl (cell_new1 _ _ _) Hcap.out ((Hints.out.below Hbe5.out).below ((Below.refl _ _).alloc (Nat.le_refl _) _)) (fun b o e => ⟨fun h => by have := Hsp.out _ h; have := Hfr.out b o e; omega, by have := Hfr.out b o e; omega, by have := Hfr.out b o e; have := Hbe5.out.size; rw [World.size_alloc]; omega⟩) (by have := Hfl.out; omega) (by have := Hbe5.out.size; rw [World.size_alloc]; omega) ?_)
        intro v6 w6 ho6 hb6 hk6 hs6
        have Ho6 := Lib.hid ho6
        have Hb6 := Lib.hid ((Hbe5.out.alloc Hbe5.out.size _).trans (hk6.below (n := W2.heap.size) (fun k _ e => Hsp.out k e) (by have := Hbe5.out.size; rw [World.size_alloc]; omega)))
        have Hs6 : Hid (∀ p, v6.ownBlock = some p → W2.heap.size ≤ p) := Lib.hid (fun p hp => by
          rcases hs6 p hp with h | h
          · exact Hsp.out p h
          · have := Hbe5.out.size; (try rw [World.size_alloc] at h); omega)
        clear ho6 hb6 hk6 hs6
        go_wp2
        go_roundg (C.length - (j + 1))
        case measure => have := Hgj.out; omega
        case rel => exact ⟨j + 1, by omega, rfl, by go_num, by rw [Hf3.out]; exact Ho6.out, Hb6.out, Hs6.out⟩
    · obtain rfl : j = C.length := by omega
      have hji : ¬ (C.length : Int) < C.length := by omega
      have hown := Hown.out
      rw [List.take_length, ← Hmelt.out] at hown
      have hle : (meltsS B left many).length ≤ 1000000 := by rw [Hmelt.out]; exact Nat.le_trans (List.length_filter_le _ _) (by omega)
      obtain ⟨A', c', rfl, hr9, hc9⟩ := hown.reads hle
      have Hr9 := Lib.hid (show RowsFrom w.heap.size wr A' (meltsS B left many) from ⟨hr9.1, hr9.2.imp id fun ⟨b, o, e, h1, h2, hj⟩ => ⟨b, o, e, by omega, h2, fun j hl => by
        obtain ⟨Aj, c, a1, a2, a3, a4⟩ := hj j hl
        exact ⟨Aj, c, a1, a2, a3, fun b' o' e' => ⟨by have := (a4 b' o' e').1; omega, (a4 b' o' e').2⟩⟩⟩⟩)
      clear hown hr9 hle
      go_wp2
      go_ret
      exact ⟨⟨A', c', rfl, Hr9.out, hc9⟩, HBr.out⟩
/-- what the reference's Cast comes to: as the program's, of whatever capacity -/
def RefCastR (B : ForgeV) (many : Int) (e : Ending) (w' : World) : Prop :=
  (goodF B = false ∧ e = .returned (.tuple #[.slice none 0 0, .int .i64 20])) ∨ (goodF B = true ∧ inB many 1 24 = false ∧ e = .returned (.tuple #[.slice none 0 0, .int .i64 21])) ∨
  (goodF B = true ∧ inB many 1 24 = true ∧ bestOf (meltsS B (stockS B) many) = none ∧ e = .returned (.tuple #[.slice none 0 0, .int .i64 4])) ∨
  (goodF B = true ∧ inB many 1 24 = true ∧ ∃ q A c, bestOf (meltsS B (stockS B) many) = some q ∧ e = .returned (.tuple #[.slice A q.length c, .int .i64 0]) ∧ IntsAt w' A q)
set_option maxRecDepth 100000 in
set_option maxHeartbeats 4000000 in
theorem refCast_calls (B : ForgeV) (many : Int) (w : World) (hB : B.Reads w) :
    Calls Tryd.prog 23 #[B.val, .int .i64 many] w fun e w' => RefCastR B many e w' ∧ Below w.heap.size w w' := by
  have HB0 := Lib.hid hB
  have k2 := BoxAt.new w B.cells 28
  have H1 : Below w.heap.size w (w.alloc (.cells B.cells 28)) := (Below.refl _ _).alloc (Nat.le_refl _) _
  have hcells : B.val = .agg B.cells := rfl
  rw [hcells]
  unfold ForgeV.cells at k2 H1 ⊢
  clear hB
  go_enter Tryd.func23, Tryd.ntmps23
  go_upto_region 1 with fail
  generalize w.alloc _ = W1 at *
  have K2 := Lib.hid k2
  have HW1 := Lib.hid H1
  obtain ⟨c2, f2, l2⟩ := k2
  clear H1
  go_wp2_with fail
  refine (eq0_1 (v' := B.val) (by unfold ForgeV.val ForgeV.cells; rfl) (refCheck_calls B _ (HB0.out.below HW1.out))).mono ?_
  rintro e w2 ⟨rfl, hb⟩
  replace HW1 := Lib.hid (below_then HW1.out HW1.out.size hb)
  replace K2 := Lib.hid (K2.out.below hb)
  clear hb c2 f2 l2
  cases hg : goodF B with
  | false =>
    have Hg := Lib.hid hg
    clear hg
    go_wp2
    go_ret2
    exact ⟨.inl ⟨Hg.out, rfl⟩, HW1.out⟩
  | true =>
    have Hgg := Lib.hid hg
    have Hg := Lib.hid ((goodF_iff B).1 hg)
    clear hg
    cases hin : inB many 1 24 with
    | false =>
      have Hin := Lib.hid hin
      clear hin
      go_wp2_with (go_at_call 48; refine (Sits_calls _ _ _ _).mono ?_; rintro e w' ⟨rfl, rfl⟩; rw [Hin.out])
      go_ret2
      exact ⟨.inr (.inl ⟨Hgg.out, Hin.out, rfl⟩), HW1.out⟩
    | true =>
      have Hin := Lib.hid hin
      have hmn := inB_iff.1 hin
      have Hmn := Lib.hid hmn
      clear hin hmn
      obtain ⟨c2, f2, l2⟩ := K2.out
      have hsl : (stockS B).length = B.lots.length := by simp [stockS]
      have Hsl := Lib.hid hsl
      clear hsl
      go_upto_region 6 with (go_at_call 48; refine (Sits_calls _ _ _ _).mono ?_; rintro e w' ⟨rfl, rfl⟩; rw [Hin.out])
      refine region_plain (S := fun w' => Below w2.heap.size w2 w') 6 (by kernel_rfl) ?_ (fun hHeld => ?_)
      · exact (Below.refl _ _).drew
      first | (refine anyT_take 0 (some 18) (v := ?_) rfl rfl (by kernel_rfl) (by kernel_rfl) (by kernel_rfl) (by kernel_rfl) (fun _ _ _ h => h) (Or.inl ⟨by rfl, ?_⟩) hHeld ?_; rotate_left; focus (intro wq hSw; obtain ⟨hcq, hfq⟩ := bcell hSw; go_simp; (try with_reducible rfl); done))
      (try simp only [Act.put, List.setIfInBounds_toArray, List.set_cons_zero, List.set_cons_succ])
      first | (refine anyT_take 1 (some 19) (v := ?_) rfl rfl (by kernel_rfl) (by kernel_rfl) (by kernel_rfl) (by kernel_rfl) (fun _ _ _ h => h) (Or.inl ⟨by rfl, ?_⟩) hHeld ?_; rotate_left; focus (intro wq hSw; obtain ⟨hcq, hfq⟩ := bcell hSw; go_simp; (try with_reducible rfl); done))
      (try simp only [Act.put, List.setIfInBounds_toArray, List.set_cons_zero, List.set_cons_succ])
      first | (refine anyT_take 3 (some 21) (v := ?_) rfl rfl (by kernel_rfl) (by kernel_rfl) (by kernel_rfl) (by kernel_rfl) (fun _ _ _ h => h) (Or.inl ⟨by rfl, ?_⟩) hHeld ?_; rotate_left; focus (intro wq hSw; obtain ⟨hcq, hfq⟩ := bcell hSw; go_simp; (try with_reducible rfl); done))
      (try simp only [Act.put, List.setIfInBounds_toArray, List.set_cons_zero, List.set_cons_succ])
      refine anyT_one 2 (by kernel_rfl) rfl (fun K hK => ?_)
      go_simp
      refine (eq0_1 (v' := B.val) (by unfold ForgeV.val ForgeV.cells; rfl) (refStock_calls B Hg.out _ (HB0.out.below (below_then HW1.out HW1.out.size hHeld)))).mono ?_; rintro e w5 ⟨⟨sA, sc, rfl, hsi, hsc⟩, hb5⟩
      refine hK.out _ _ ?_ (fun hHeld => ?_)
      · exact below_then hHeld hHeld.size hb5
      clear hK K
      (try simp only [Act.put, List.setIfInBounds_toArray, List.set_cons_zero, List.set_cons_succ])
      refine anyT_one 4 (by kernel_rfl) rfl (fun K hK => ?_)
      have hst := refMelts_calls B Hg.out (stockS B) many sA sc w5 (HB0.out.below (below_then HW1.out HW1.out.size hHeld)) Hsl.out (stock_bd Hg.out) (by have := Hmn.out; omega) hsi (by rw [Hsl.out]; exact hsc); rw [Hsl.out] at hst
      go_simp
      refine (eq0_3 (v' := B.val) (by unfold ForgeV.val ForgeV.cells; rfl) hst).mono ?_; rintro e w6 ⟨⟨mA, mc, rfl, hrf, hmc⟩, hb6⟩
      refine hK.out _ _ ?_ (fun hHeld => ?_)
      · exact below_then hHeld hHeld.size hb6
      clear hK K
      (try simp only [Act.put, List.setIfInBounds_toArray, List.set_cons_zero, List.set_cons_succ])
      first | (refine anyT_take 5 (some 7) (v := ?_) rfl rfl (by kernel_rfl) (by kernel_rfl) (by kernel_rfl) (by kernel_rfl) (fun _ _ _ h => h) (Or.inl ⟨by rfl, ?_⟩) hHeld ?_; rotate_left; focus (intro wq hSw; obtain ⟨hcq, hfq⟩ := bcell hSw; go_simp; (try with_reducible rfl); done))
      (try simp only [Act.put, List.setIfInBounds_toArray, List.set_cons_zero, List.set_cons_succ])
      refine anyT_done (by kernel_rfl) ?_ _
      have HW6 := Lib.hid (below_then HW1.out HW1.out.size hHeld)
      have Hrf := Lib.hid hrf
      have Hrow := Lib.hid (fun x hx => meltsS_mem (B := B) (hv := stockS B) (many := many) (x := x) (fun k => (stock_bd Hg.out k).1) hx)
      have hml : (meltsS B (stockS B) many).length ≤ 100000 := Nat.le_trans (List.length_filter_le _ _) (Nat.le_trans (choices_len _ _ (stock_bd Hg.out)) (Nat.le_trans (Nat.pow_le_pow_right (by omega) (by rw [Hsl.out]; exact Hg.out.many.2)) (by decide)))
      have hm4 := Hg.out.many.2
      have Hend : Hid (RefCastR B many = fun e w' => (goodF B = false ∧ e = .returned (.tuple #[.slice none 0 0, .int .i64 20])) ∨ (goodF B = true ∧ inB many 1 24 = false ∧ e = .returned (.tuple #[.slice none 0 0, .int .i64 21])) ∨
        (goodF B = true ∧ inB many 1 24 = true ∧ bestOf (meltsS B (stockS B) many) = none ∧ e = .returned (.tuple #[.slice none 0 0, .int .i64 4])) ∨
        (goodF B = true ∧ inB many 1 24 = true ∧ ∃ q A c, bestOf (meltsS B (stockS B) many) = some q ∧ e = .returned (.tuple #[.slice A q.length c, .int .i64 0]) ∧ IntsAt w' A q)) := Lib.hid rfl
      clear hHeld hb5 hb6 hst hsi hrf c2 f2 l2
      generalize meltsS B (stockS B) many = ms at *
      by_cases h0 : ms.length = 0
      · have hz : ((ms.length : Int) == 0) = true := by simp [h0]
        have hn : Hid (bestOf ms = none) := by unfold Hid; rw [List.eq_nil_of_length_eq_zero h0]; rfl
        clear h0
        go_wp2
        go_ret2
        exact ⟨by rw [Hend.out]; exact .inr (.inr (.inl ⟨Hgg.out, Hin.out, hn.out, rfl⟩)), HW6.out⟩
      · have hz : ((ms.length : Int) == 0) = false := by rw [beq_eq_false_iff_ne]; omega
        have hpos : 0 < ms.length := by omega
        obtain ⟨rb, ro, rfl, hrb, hrb2⟩ := Hrf.out.some_ hpos
        obtain ⟨A0, c0, hcell, hcap, hints, _⟩ := Hrf.out.at_ hpos
        rw [Nat.add_zero] at hcell
        have Hints := Lib.hid hints
        have hb0 : bestOf (ms.take 1) = some (gm ms 0) := by
          rw [best_take ms 0 hpos]; rfl
        have Hb0 := Lib.hid hb0
        clear hb0 hints hcap h0
        go_upto_block 0 with (fail)
        clear hz hcell
        go_wp2
        go_loopg [9, 8] (ms.length - 1) (fun gq i v wr => ∃ j x : Nat, ∃ Ax cx, 1 ≤ j ∧ j ≤ ms.length ∧ x < ms.length ∧ gq = ms.length - j ∧ i = .int .i64 j ∧ v = .slice Ax (gm ms x).length cx ∧ bestOf (ms.take j) = some (gm ms x) ∧ IntsAt w6 Ax (gm ms x) ∧ wr = w6)
        case atStart => exact ⟨1, 0, _, _, Nat.le_refl _, hpos, hpos, rfl, rfl, rfl, Hb0.out, Hints.out, rfl⟩
        case round =>
          obtain ⟨j, x, Ax, cx, hj1, hj, hx, hgj, rfl, rfl, hbest, hix, rfl⟩ := hrel
          have Hgj := Lib.hid hgj
          have Hbest := Lib.hid hbest
          have Hix := Lib.hid hix
          clear hgj hbest hix
          have Hlx := Lib.hid (show (gm ms x).length ≤ 4 by have := (Hrow.out _ (gm_mem hx)).1; have := Hsl.out; omega)
          by_cases hlt : j < ms.length
          · have hji : (j : Int) < ms.length := by omega
            obtain ⟨Aj, cj, hcell, hcap, hints, _⟩ := Hrf.out.at_ hlt
            have pbl := World.block_lt_of_cell? _ _ hcell
            simp only at pbl
            have Hints := Lib.hid hints
            have Hlj := Lib.hid (show (gm ms j).length ≤ 4 by have := (Hrow.out _ (gm_mem hlt)).1; have := Hsl.out; omega)
            have hbt := best_take ms j hlt
            rw [Hbest.out] at hbt
            unfold bestStep at hbt
            simp only at hbt
            have h41 := lotsTo_le (gm ms j) 4
            have h42 := lotsTo_le (gm ms x) 4
            by_cases hlo : lotsS (gm ms j) < lotsS (gm ms x)
            · have hloi : ((lotsS (gm ms j) : Nat) : Int) < (lotsS (gm ms x) : Nat) := by omega
              rw [if_pos hlo] at hbt
              have Hbt := Lib.hid hbt
              clear hbt hints hlo h41 h42 hcap
              go_wp2_with fail
              refine (refLots_calls Aj cj (gm ms j) _ Hints.out Hlj.out).mono ?_
              rintro e w7 ⟨rfl, rfl⟩
              go_wp2_with fail
              refine (refLots_calls Ax cx (gm ms x) _ Hix.out Hlx.out).mono ?_
              rintro e w7 ⟨rfl, rfl⟩
              go_wp2
              go_roundg (ms.length - (j + 1))
              case measure => have := Hgj.out; omega
              case rel => exact ⟨j + 1, j, Aj, cj, by omega, by omega, hlt, rfl, by go_num, rfl, Hbt.out, Hints.out, rfl⟩
            · have hloi : ¬ ((lotsS (gm ms j) : Nat) : Int) < (lotsS (gm ms x) : Nat) := by omega
              rw [if_neg hlo] at hbt
              have Hbt := Lib.hid hbt
              clear hbt hints hlo h41 h42 hcap
              go_wp2_with fail
              refine (refLots_calls Aj cj (gm ms j) _ Hints.out Hlj.out).mono ?_
              rintro e w7 ⟨rfl, rfl⟩
              go_wp2_with fail
              refine (refLots_calls Ax cx (gm ms x) _ Hix.out Hlx.out).mono ?_
              rintro e w7 ⟨rfl, rfl⟩
              go_wp2
              go_roundg (ms.length - (j + 1))
              case measure => have := Hgj.out; omega
              case rel => exact ⟨j + 1, x, Ax, cx, by omega, by omega, hx, rfl, by go_num, rfl, Hbt.out, Hix.out, rfl⟩
          · obtain rfl : j = ms.length := by omega
            have hji : ¬ (ms.length : Int) < ms.length := by omega
            have hbest := Hbest.out
            rw [List.take_length] at hbest
            have Hb2 := Lib.hid hbest
            clear hbest
            go_wp2
            go_ret2
            exact ⟨by rw [Hend.out]; exact .inr (.inr (.inr ⟨Hgg.out, Hin.out, gm ms x, Ax, cx, Hb2.out, rfl, Hix.out⟩)), HW6.out⟩
end
end Go.Proofs.YtgfbfbfajnfbjaaDoor
