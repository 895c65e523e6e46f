import Derived.Test.YtgfbfbfajnfbjaaDoorG
namespace Go.Proofs.YtgfbfbfajnfbjaaDoor
section
set_option linter.unusedVariables false
set_option linter.unusedSimpArgs false
open Go.RowKit Go.Shelf
attribute [local go_sem] Oper.semAt_some
/-! A slice of whole numbers that the call itself has made. -/
theorem info3 : (Tryd.prog.info? 3).map (fun i => (i.zero, i.size, i.bytes)) = some (some (.int .i64 0), 1, 8) := by kernel_rfl
theorem under22 : Tryd.prog.underlying 29 = some (.slice 3) := by kernel_rfl
def OwnInts (w : World) (base : Nat) (v : Value) (xs : List Int) : Prop := w.ownsRow base 3 1 v xs.length (xs.map (Value.int .i64))
theorem OwnInts.nil (w : World) (base : Nat) : OwnInts w base (.slice none 0 0) [] := World.ownsRow_nil _ _ _ _
theorem OwnInts.alloc {w : World} {base : Nat} {v : Value} {xs : List Int} (h : OwnInts w base v xs) (o : Obj) : OwnInts (w.alloc o) base v xs := World.ownsRow.alloc h o
theorem OwnInts.keep {w w' : World} {base : Nat} {v : Value} {xs : List Int} (h : OwnInts w base v xs) (hb : Below w.heap.size w w') : OwnInts w' base v xs := by
  refine World.ownsRow.kept h (row := none) ⟨hb.os, hb.tape, hb.output, hb.size, fun k hk _ => hb.block k hk⟩ ?_
  by_cases e : v.ownBlock = none
  · exact .inl e
  · exact .inr e
/-- what it reads as -/
theorem OwnInts.reads {w : World} {base : Nat} {v : Value} {xs : List Int} (h : OwnInts w base v xs) :
    ∃ A c, v = .slice A xs.length c ∧ IntsAt w A xs ∧ xs.length ≤ c ∧ c ≤ 9223372036854775807 ∧ (∀ b o, A = some ⟨b, o, none⟩ → base ≤ b) ∧ (A = none → c = 0) := by
  obtain ⟨h1, h2⟩ := h
  rcases h2 with ⟨rfl, hn⟩ | ⟨g, cap, cur, rfl, hg, hb, hn, hc, hs, ht⟩
  · have : xs = [] := List.eq_nil_of_length_eq_zero hn
    subst this
    exact ⟨none, 0, rfl, ⟨by simp, .inl rfl⟩, by simp, by simp, by simp, by simp⟩
  · refine ⟨_, _, rfl, ⟨by unfold maxLen at hc; omega, .inr ⟨g, 0, rfl, fun j hj => ?_⟩⟩, hn, by unfold maxLen at hc; omega, by rintro b o ⟨⟩; exact hg, by simp⟩
    have hcs := World.ownsRow.cells (w := w) (base := base) (e := 3) (size := 1) (v := .slice (some ⟨g, 0, none⟩) xs.length cap) (n := xs.length) (xs := xs.map (Value.int .i64)) ⟨h1, .inr ⟨g, cap, cur, rfl, hg, hb, hn, hc, hs, ht⟩⟩ (g := g) rfl j (.int .i64 (gi xs j)) (by simp [gi, hj])
    by_cases hj0 : j = 0
    · subst hj0; simpa [Addr.add] using hcs
    · simpa [Addr.add, hj0] using hcs
/-- append of one number -/
theorem wpList_app1 {ops : Array Oper} {rest : List Oper} {o : Oper} {a : Act} {Q : Exit → Act → World → Prop} (w : World) (hgd : o.guard = none) (s x : Operand)
    (ho : o.op = .call { callee := .builtin .append, args := #[s, x], argTypes := #[29, 29] })
    (base : Nat) (v : Value) (xs : List Int) (hs : a.eval s = v) (hown : OwnInts w base v xs)
    (g c : Nat) (n : Int) (hx : a.eval x = .slice (some ⟨g, 0, none⟩) 1 c) (hc : w.cell? ⟨g, 0, none⟩ = some (.int .i64 n)) (hlen : xs.length ≤ 1000000) (hbase : base ≤ w.heap.size)
    (h : ∀ v' w', OwnInts w' base v' (xs ++ [n]) → Below base w w' → w.heap.size ≤ w'.heap.size → (∀ k, k < w.heap.size → some k ≠ v.ownBlock → w'.heap[k]? = w.heap[k]?) → wpList Tryd.prog ops Q rest (a.put o.dst v') w') : wpList Tryd.prog ops Q (o :: rest) a w := by
  obtain ⟨i0, hi, hz0, hz1, hz2⟩ := info_parts info3
  refine wpList_append_own w hgd s x 29 ho base 3 i0 (.int .i64 0) 1 8 under22 hi hz0 hz1 hz2 rfl (by decide) v xs.length (xs.map (Value.int .i64)) hs hown ⟨g, 0, none⟩ 1 c [.int .i64 n] hx rfl ?_ ?_ (by unfold maxLen; omega) (by omega) hbase ?_
  · intro j u hj
    match j, hj with
    | 0, hj => simp at hj; subst hj; simpa [Addr.add] using hc
  · intro u hu; simp at hu; subst hu; rfl
  · intro v' w' h1 h2 _
    refine h v' w' ?_ ((Below.refl _ _).grown h2 hbase fun k hk => (World.ownsRow.lt hown k hk).1) h2.size h2.block
    unfold OwnInts
    rw [List.length_append, List.map_append]
    exact h1

/-- append of some numbers that lie somewhere -/
theorem wpList_appN {ops : Array Oper} {rest : List Oper} {o : Oper} {a : Act} {Q : Exit → Act → World → Prop} (w : World) (hgd : o.guard = none) (s x : Operand)
    (ho : o.op = .call { callee := .builtin .append, args := #[s, x], argTypes := #[29, 29] })
    (base : Nat) (v : Value) (xs : List Int) (hs : a.eval s = v) (hown : OwnInts w base v xs)
    (g og c : Nat) (ys : List Int) (hx : a.eval x = .slice (some ⟨g, og, none⟩) ys.length c) (hc : IntsAt w (some ⟨g, og, none⟩) ys) (hlen : xs.length + ys.length ≤ 1000000) (hbase : base ≤ w.heap.size)
    (h : ∀ v' w', OwnInts w' base v' (xs ++ ys) → Below base w w' → w.heap.size ≤ w'.heap.size → (∀ k, k < w.heap.size → some k ≠ v.ownBlock → w'.heap[k]? = w.heap[k]?) → wpList Tryd.prog ops Q rest (a.put o.dst v') w') : wpList Tryd.prog ops Q (o :: rest) a w := by
  obtain ⟨i0, hi, hz0, hz1, hz2⟩ := info_parts info3
  refine wpList_append_own w hgd s x 29 ho base 3 i0 (.int .i64 0) 1 8 under22 hi hz0 hz1 hz2 rfl (by decide) v xs.length (xs.map (Value.int .i64)) hs hown ⟨g, og, none⟩ ys.length c (ys.map (Value.int .i64)) hx (by simp) ?_ ?_ (by unfold maxLen; omega) (by omega) hbase ?_
  · intro j u hu
    rw [List.getElem?_map] at hu
    obtain ⟨y, hy, rfl⟩ := Option.map_eq_some_iff.1 hu
    have hj : j < ys.length := (List.getElem?_eq_some_iff.1 hy).1
    have h1 := hc.at_ hj
    have h2 : gi ys j = y := by unfold gi; rw [List.getD_eq_getElem?_getD, hy]; rfl
    rw [h2] at h1
    by_cases hj0 : j = 0
    · subst hj0; simpa [Addr.add] using h1
    · simpa [Addr.add, hj0] using h1
  · intro u hu
    obtain ⟨y, _, rfl⟩ := List.mem_map.1 hu
    rfl
  · intro v' w' h1 h2 _
    refine h v' w' ?_ ((Below.refl _ _).grown h2 hbase fun k hk => (World.ownsRow.lt hown k hk).1) h2.size h2.block
    unfold OwnInts
    rw [List.length_append, List.map_append]
    exact h1
theorem idx4_0 (x0 x1 x2 x3 : Int) (w : World) : Sem.run Tryd.prog (Instr.index 85 (.agg #[.int .i64 x0, .int .i64 x1, .int .i64 x2, .int .i64 x3]) (.int .i64 0)) w = .ok (.int .i64 x0) w := by kernel_rfl
theorem idx4_1 (x0 x1 x2 x3 : Int) (w : World) : Sem.run Tryd.prog (Instr.index 85 (.agg #[.int .i64 x0, .int .i64 x1, .int .i64 x2, .int .i64 x3]) (.int .i64 1)) w = .ok (.int .i64 x1) w := by kernel_rfl
theorem idx4_2 (x0 x1 x2 x3 : Int) (w : World) : Sem.run Tryd.prog (Instr.index 85 (.agg #[.int .i64 x0, .int .i64 x1, .int .i64 x2, .int .i64 x3]) (.int .i64 2)) w = .ok (.int .i64 x2) w := by kernel_rfl
theorem idx4_3 (x0 x1 x2 x3 : Int) (w : World) : Sem.run Tryd.prog (Instr.index 85 (.agg #[.int .i64 x0, .int .i64 x1, .int .i64 x2, .int .i64 x3]) (.int .i64 3)) w = .ok (.int .i64 x3) w := by kernel_rfl
theorem pad4_index (m : List Int) (k : Nat) (h : k < 4) (w : World) : Sem.run Tryd.prog (Instr.index 85 (.agg #[.int .i64 (gi m 0), .int .i64 (gi m 1), .int .i64 (gi m 2), .int .i64 (gi m 3)]) (.int .i64 k)) w = .ok (.int .i64 (gi m k)) w := by
  have : k = 0 ∨ k = 1 ∨ k = 2 ∨ k = 3 := by omega
  rcases this with rfl | rfl | rfl | rfl
  · exact idx4_0 _ _ _ _ w
  · exact idx4_1 _ _ _ _ w
  · exact idx4_2 _ _ _ _ w
  · exact idx4_3 _ _ _ _ w
theorem lotsTo_le (m : List Int) : ∀ k, lotsTo m k ≤ k
  | 0 => by simp [lotsTo]
  | k + 1 => by have := lotsTo_le m k; simp only [lotsTo]; split <;> omega
set_option maxRecDepth 100000 in
theorem lots_calls (m : List Int) (w : World) : Calls Tryd.prog 72 #[.agg (pad4 m)] w fun e w' => e = .returned (.int .i64 (lotsS m)) ∧ Below w.heap.size w w' := by
  have Hb : Below w.heap.size w (w.alloc (.cells (pad4 m) 85)) := (Below.refl _ _).alloc (Nat.le_refl _) _
  unfold pad4 at Hb ⊢
  go_enter Tryd.func72, Tryd.ntmps72
  go_upto_block 0 with (fail)
  have HB := Lib.hid Hb
  generalize w.alloc _ = W at *
  clear Hb
  go_wp2
  go_loop [7, 3] (fun i s => ∃ k : Nat, k ≤ 4 ∧ i = .int .i64 k ∧ s = .int .i64 (lotsTo m k : Nat)) (fun i _ => 4 - (intOf i).toNat)
  case atStart => exact ⟨0, Nat.zero_le _, rfl, rfl⟩
  case round =>
    obtain ⟨k, hk, rfl, rfl⟩ := hrel
    by_cases hlt : k < 4
    · have hki : (k : Int) < 4 := by omega
      have hix := fun w => pad4_index m k hlt w
      have hle := lotsTo_le m k
      have hs : Hid (lotsTo m (k + 1) = lotsTo m k + if 0 < gi m k then 1 else 0) := Lib.hid rfl
      by_cases hp : 0 < gi m k
      · go_wp2
        go_round
        case rel => exact ⟨k + 1, by omega, by go_num, by rw [hs.out, if_pos hp]; go_num⟩
        case measure => simp [intOf]; omega
      · go_wp2
        go_round
        case rel => exact ⟨k + 1, by omega, by go_num, by rw [hs.out, if_neg hp]; rfl⟩
        case measure => simp [intOf]; omega
    · obtain rfl : k = 4 := by omega
      go_wp2
      go_ret
      exact ⟨rfl, HB.out⟩
end
end Go.Proofs.YtgfbfbfajnfbjaaDoor
