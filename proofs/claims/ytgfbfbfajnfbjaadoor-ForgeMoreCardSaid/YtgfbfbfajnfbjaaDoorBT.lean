import Derived.Test.YtgfbfbfajnfbjaaDoorBP
import Derived.Test.YtgfbfbfajnfbjaaDoorBM
namespace Go.Proofs.YtgfbfbfajnfbjaaDoor
section
open Go.RowKit Go.Shelf
set_option linter.unusedSimpArgs false
set_option linter.unusedVariables false
/-- a copy of looks: a block of one's own -/
theorem wpList_copyLooks {ops : Array Oper} {rest : List Oper} {o : Oper} {a : Act} {Q : Exit → Act → World → Prop} (w : World) (hgd : o.guard = none) (s x : Operand)
    (ho : o.op = .call { callee := .builtin .append, args := #[s, x], argTypes := #[26, 26] })
    (W0 : World) (hw : w = W0.alloc (.cells #[] 75)) (hs : a.eval s = .slice (some ⟨W0.heap.size, 0, none⟩) 0 0) (A : Option Addr) (c : Nat) (m : List LookV) (hx : a.eval x = .slice A m.length c) (hm : LooksAt w A m) (hm0 : 0 < m.length) (hlen : m.length ≤ 1000000)
    (h : ∀ g c' cur w', BoxAt w' g cur → LooksAt w' (some ⟨g, 0, none⟩) m → W0.heap.size ≤ g → Below W0.heap.size W0 w' → wpList Tryd.prog ops Q rest (a.put o.dst (.slice (some ⟨g, 0, none⟩) m.length c')) w') : wpList Tryd.prog ops Q (o :: rest) a w := by
  have hbw : Below W0.heap.size W0 w := by rw [hw]; exact (Below.refl _ _).alloc (Nat.le_refl _) _
  have hown : OwnLooks w W0.heap.size (.slice (some ⟨W0.heap.size, 0, none⟩) 0 0) [] := by rw [hw]; exact OwnLooks.lit W0 _ (Nat.le_refl _)
  obtain ⟨v', w', hr, r1, r2⟩ := run_appLooks w o.type W0.heap.size _ [] hown A c m hm (by simpa using hlen) hbw.size
  have r2 := r2.1
  have r1' : OwnLooks w' W0.heap.size v' m := r1
  obtain ⟨A', c', rfl, hl, hg⟩ := r1'.reads hlen
  obtain ⟨g, o', e1⟩ := hl.some_ hm0
  subst e1
  have hbox : ∃ cur, BoxAt w' g cur ∧ o' = 0 := by
    rcases r1'.2 with ⟨e, hn⟩ | ⟨g', cap, cur, e, _, hgg, _⟩
    · cases e
    · simp at e
      obtain ⟨⟨rfl, rfl⟩, rfl⟩ := e
      exact ⟨cur, BoxAt.of_heap hgg, rfl⟩
  obtain ⟨cur, kb, rfl⟩ := hbox
  refine wpList_plain hgd fun K hK => ?_
  unfold Oper.wp
  simp [execOp, ho, resolve, invoke, builtin, hs, hx, hr, Result.andThen]
  exact hK _ _ (h g c' cur w' kb hl (hg g 0 rfl) (hbw.trans r2))
/-- one look stored into a block of one's own -/
theorem looks_put {w : World} {g : Nat} {cur : Array Value} {l : List LookV} (kg : BoxAt w g cur) (hs : LooksAt w (some ⟨g, 0, none⟩) l) {k : Nat} (hk : k < l.length) (a b c : Int) :
    LooksAt (((w.setCell ⟨g, k * 3, none⟩ (.int .i64 a)).setCell ⟨g, k * 3 + 1, none⟩ (.int .i64 b)).setCell ⟨g, k * 3 + 2, none⟩ (.int .i64 c)) (some ⟨g, 0, none⟩) (l.set k ⟨a, b, c⟩) := by
  have hat : ∀ j, j < l.length → cur[j * 3]? = some (.int .i64 (glk l j).blows) ∧ cur[j * 3 + 1]? = some (.int .i64 (glk l j).thick) ∧ cur[j * 3 + 2]? = some (.int .i64 (glk l j).err) := fun j hj => by
    rcases hs.2 with e | ⟨b', o', e, h⟩
    · rw [e] at hk; simp at hk
    · cases e
      have h1 := h j hj
      rw [Nat.zero_add] at h1
      exact ⟨(kg.cell _).symm.trans h1.1, (kg.cell _).symm.trans h1.2.1, (kg.cell _).symm.trans h1.2.2⟩
  have hsz : ∀ j, j < l.length → j * 3 + 2 < cur.size := fun j hj => (Array.getElem?_eq_some_iff.1 (hat j hj).2.2).1
  have k1 := kg.put (k * 3) (.int .i64 a) (by have := hsz k hk; omega)
  have k2 := k1.put (k * 3 + 1) (.int .i64 b) (by have := hsz k hk; simp; omega)
  have k3 := k2.put (k * 3 + 2) (.int .i64 c) (by have := hsz k hk; simp; omega)
  refine ⟨by rw [List.length_set]; exact hs.1, .inr ⟨g, 0, rfl, fun j hj => ?_⟩⟩
  rw [List.length_set] at hj
  rw [Nat.zero_add, k3.cell, k3.cell, k3.cell, glk_set _ _ _ hk]
  have h1 := hat j hj
  have h2 := hsz j hj
  have h3 := hsz k hk
  by_cases e : j = k
  · subst e
    simp only [Array.getElem?_setIfInBounds, Array.size_setIfInBounds, if_pos]
    refine ⟨?_, ?_, ?_⟩
    · rw [if_neg (by omega), if_neg (by omega), if_pos (by omega)]
    · rw [if_neg (by omega), if_pos (by omega)]
    · rw [if_pos (by omega)]
  · rw [if_neg e]
    refine ⟨?_, ?_, ?_⟩
    · rw [Array.getElem?_setIfInBounds_ne (by omega), Array.getElem?_setIfInBounds_ne (by omega), Array.getElem?_setIfInBounds_ne (by omega)]; exact h1.1
    · rw [Array.getElem?_setIfInBounds_ne (by omega), Array.getElem?_setIfInBounds_ne (by omega), Array.getElem?_setIfInBounds_ne (by omega)]; exact h1.2.1
    · rw [Array.getElem?_setIfInBounds_ne (by omega), Array.getElem?_setIfInBounds_ne (by omega), Array.getElem?_setIfInBounds_ne (by omega)]; exact h1.2.2
theorem looser_cells (B : ForgeV) (A : Option Addr) (c k : Nat) (e : Int) : (looserLook B A c k e).cells = #[.slice B.lA B.lots.length B.lCap, .int .i64 B.tlo, .int .i64 B.thi, .int .i64 B.thick, .int .i64 B.crack, .int .i64 B.glo, .int .i64 B.ghi, .slice B.sA B.thins.length B.sCap,
    .int .i64 B.hot, .int .i64 B.least, .int .i64 B.clo, .int .i64 B.chi, .int .i64 B.coal, .slice A B.looks.length c] := by
  unfold ForgeV.cells looserLook
  simp only [List.length_set]
theorem asked_good' {B : ForgeV} (g : B.Good) : askedE B true = if canS B 0 = true then 0 else 22 := by
  unfold askedE
  rw [(goodF_iff B).2 g]
  cases canS B 0 <;> rfl
theorem asked_bad {B : ForgeV} (h : goodF B = false) (r : Bool) : askedE B r = 20 := by unfold askedE; rw [h]; rfl
theorem thick_err {B : ForgeV} {n e : Int} (h : askedE B (inB n 0 300) = e) (he : e ≠ 0) : thickR B n = .tuple #[.agg #[.int .i64 0, .int .i64 0], .int .i64 e] := by
  unfold thickR
  rw [h, if_neg he]
theorem strength_err {B : ForgeV} {s : Int} {e : Ending} {w' : World} {ee : Int} (hs : StrengthR B s e w') (h : askedE B (inB s 0 2) = ee) (he : ee ≠ 0) : e = .returned (.tuple #[.slice none 0 0, .int .i64 ee]) := by
  rcases hs with ⟨_, h2⟩ | ⟨h1, _⟩
  · rw [h] at h2; exact h2
  · rw [h] at h1; exact absurd h1 he
theorem strength_ok {B : ForgeV} {s : Int} {e : Ending} {w' : World} (hs : StrengthR B s e w') (h : askedE B (inB s 0 2) = 0) : ∃ A, e = .returned (.tuple #[.slice A (strengthS B s).length (strengthS B s).length, .int .i64 0]) ∧ IntsAt w' A (strengthS B s) := by
  rcases hs with ⟨h1, _⟩ | ⟨_, h2⟩
  · exact absurd h h1
  · exact h2
/-- a book is none, cannot be true, or can -/
theorem asked_three (X : ForgeV) {n s : Int} (hn : 0 ≤ n ∧ n ≤ 300) (hs : 0 ≤ s ∧ s ≤ 2) : (∃ ee, (ee = 20 ∨ ee = 22) ∧ askedE X (inB n 0 300) = ee ∧ askedE X (inB s 0 2) = ee) ∨ (X.Good ∧ canS X 0 = true ∧ askedE X (inB n 0 300) = 0 ∧ askedE X (inB s 0 2) = 0) := by
  rw [inB_iff.2 hn, inB_iff.2 hs]
  cases hg : goodF X with
  | false => exact .inl ⟨20, .inl rfl, asked_bad hg _, asked_bad hg _⟩
  | true =>
    have g := (goodF_iff X).1 hg
    rw [asked_good' g]
    cases hc : canS X 0 with
    | false => exact .inl ⟨22, .inr rfl, rfl, rfl⟩
    | true => exact .inr ⟨g, rfl, rfl, rfl⟩
end
section
open Go.RowKit Go.Shelf
attribute [local go_sem] Oper.semAt_some
set_option linter.unusedSimpArgs false
set_option linter.unusedVariables false
set_option maxRecDepth 100000 in
set_option maxHeartbeats 2000000 in
/-- all numbers of a list are in another one -/
theorem all_calls (A : Option Addr) (c : Nat) (l : List Int) (A' : Option Addr) (c' : Nat) (m : List Int) (w : World) (hp : IntsAt w A l) (hq : IntsAt w A' m) (hall : ∀ x, x ∈ l → x ∈ m) :
    Calls Tryd.prog 59 #[.slice A l.length c, .slice A' m.length c'] w fun e w' => e = .returned (.bool true) ∧ w = w' := by
  have Hq := Lib.hid hq
  have Hall := Lib.hid hall
  clear hq hall
  rcases Nat.eq_zero_or_pos l.length with h0 | h0
  · have hz : ¬ (0 : Int) < l.length := by omega
    clear hp h0
    go_enter Tryd.func59, Tryd.ntmps59
    go_wp2
    refine wp_loop_rounds 1 ?_
    rw [rounds_succ]
    go_wp2
    go_ret
    exact ⟨rfl, rfl⟩
  · obtain ⟨b, o, rfl, hc⟩ := hp.2.resolve_left (by intro e; rw [e] at h0; simp at h0)
    have hle := hp.1
    have Hc := Lib.hid hc
    clear hc hp h0
    go_enter Tryd.func59, Tryd.ntmps59
    go_wp2
    go_loop [5] (fun i => ∃ k : Nat, k ≤ l.length ∧ i = .int .i64 k) (fun i => l.length - (intOf i).toNat)
    case atStart => exact ⟨0, Nat.zero_le _, rfl⟩
    case round =>
      obtain ⟨k, hk, rfl⟩ := hrel
      by_cases hlt : k < l.length
      · have hck := Hc.out k hlt
        have bk := World.block_lt_of_cell? _ _ hck
        have hki : (k : Int) < l.length := by omega
        simp only at bk
        have Hm := Lib.hid (Hall.out _ (gi_mem hlt))
        go_wp2_with (go_at_call 56; refine (Where_calls _ _ _ _ _ Hq.out).mono ?_; rintro e w' ⟨⟨r, rfl, hr⟩, rfl⟩; replace hr : ¬ r < 0 := (by rcases hr with h | h; exact Int.not_lt.2 h.1; exact absurd Hm.out h.2))
        go_round
        case rel => exact ⟨k + 1, by omega, by go_num⟩
        case measure => simp [intOf]; omega
      · obtain rfl : k = l.length := by omega
        go_wp2
        go_ret
        exact ⟨rfl, rfl⟩
end
end Go.Proofs.YtgfbfbfajnfbjaaDoor
