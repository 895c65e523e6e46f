import Derived.Test.YtljikigmfkfkiaaDoorAC
namespace Go.Proofs.YtljikigmfkfkiaaDoor
section
open Go.RowKit
set_option linter.unusedSimpArgs false
set_option linter.unusedVariables false
/-! A slice of pairs that the call itself has made. -/
theorem info73 : (Tryd.prog.info? 73).map (fun i => (i.zero, i.size, i.bytes)) = some (some (.agg #[.int .i64 0, .int .i64 0]), 2, 16) := by kernel_rfl
theorem info68 : (Tryd.prog.info? 68).map (fun i => (i.zero, i.size, i.bytes)) = some (some (.agg #[.int .i64 0, .int .i64 0, .slice none 0 0]), 3, 40) := by kernel_rfl
theorem under46 : Tryd.prog.underlying 46 = some (.slice 73) := by kernel_rfl
theorem under25 : Tryd.prog.underlying 25 = some (.slice 68) := by kernel_rfl
def pairs (l : List (Int × Int)) : List Value := l.flatMap fun p => [.int .i64 p.1, .int .i64 p.2]
theorem pairs_get : ∀ (l : List (Int × Int)) (j : Nat), j < l.length → (pairs l)[j * 2]? = some (.int .i64 (gs l j).1) ∧ (pairs l)[j * 2 + 1]? = some (.int .i64 (gs l j).2)
  | [], j, h => by simp at h
  | p :: l, 0, _ => by simp [pairs, gs]
  | p :: l, j + 1, h => by
    have ih := pairs_get l j (by simpa using h)
    have e1 : (j + 1) * 2 = j * 2 + 2 := by omega
    simp only [pairs, List.flatMap_cons, e1, List.cons_append, List.nil_append] at ih ⊢
    simpa [gs] using ih
theorem pairs_len (l : List (Int × Int)) : (pairs l).length = l.length * 2 := by
  induction l with
  | nil => rfl
  | cons p l ih => simp only [pairs, List.flatMap_cons, List.length_append, List.length_cons, List.length_nil] at ih ⊢; omega
def OwnCues (w : World) (base : Nat) (v : Value) (xs : List (Int × Int)) : Prop := w.ownsRow base 73 2 v xs.length (pairs xs)
theorem OwnCues.nil (w : World) (base : Nat) : OwnCues w base (.slice none 0 0) [] := World.ownsRow_nil _ _ _ _
theorem OwnCues.alloc {w : World} {base : Nat} {v : Value} {xs : List (Int × Int)} (h : OwnCues w base v xs) (o : Obj) : OwnCues (w.alloc o) base v xs := World.ownsRow.alloc h o
theorem OwnCues.keep {w w' : World} {base : Nat} {v : Value} {xs : List (Int × Int)} (h : OwnCues w base v xs) (hb : Below w.heap.size w w') : OwnCues w' base v xs := by
  refine World.ownsRow.kept h (row := none) ⟨hb.os, hb.tape, hb.output, hb.size, fun k hk _ => hb.block k hk⟩ ?_
  by_cases e : v.ownBlock = none
  · exact .inl e
  · exact .inr e
theorem addr_add0 (g j : Nat) : (⟨g, 0, none⟩ : Addr).add j = ⟨g, j, none⟩ := by
  by_cases h : j = 0
  · subst h; simp [Addr.add]
  · simp [Addr.add, h]
theorem OwnCues.reads {w : World} {base : Nat} {v : Value} {xs : List (Int × Int)} (h : OwnCues w base v xs) :
    ∃ A c, v = .slice A xs.length c ∧ SpansAt w A xs ∧ xs.length ≤ c ∧ c ≤ 9223372036854775807 ∧ (A = none → c = 0) := by
  obtain ⟨h1, h2⟩ := h
  rcases h2 with ⟨rfl, hn⟩ | ⟨g, cap, cur, rfl, hg, hb, hn, hc, hs, ht⟩
  · have : xs = [] := List.eq_nil_of_length_eq_zero hn
    subst this
    exact ⟨none, 0, rfl, ⟨by simp, .inl rfl⟩, by simp, by simp, by simp⟩
  · have hcs := World.ownsRow.cells (w := w) (base := base) (e := 73) (size := 2) (v := .slice (some ⟨g, 0, none⟩) xs.length cap) (n := xs.length) (xs := pairs xs) ⟨h1, .inr ⟨g, cap, cur, rfl, hg, hb, hn, hc, hs, ht⟩⟩ (g := g) rfl
    simp only [addr_add0] at hcs
    refine ⟨_, _, rfl, ⟨by unfold maxLen at hc; omega, .inr ⟨g, 0, rfl, fun j hj => ?_⟩⟩, hn, by unfold maxLen at hc; omega, by simp⟩
    have hp := pairs_get xs j hj
    rw [Nat.zero_add]
    exact ⟨hcs _ _ hp.1, hcs _ _ hp.2⟩
theorem wpList_app2 {ops : Array Oper} {rest : List Oper} {o : Oper} {a : Act} {Q : Exit → Act → World → Prop} (w : World) (hgd : o.guard = none) (s x : Operand)
    (ho : o.op = .call { callee := .builtin .append, args := #[s, x], argTypes := #[46, 46] })
    (base : Nat) (v : Value) (xs : List (Int × Int)) (hs : a.eval s = v) (hown : OwnCues w base v xs)
    (g c : Nat) (n m : Int) (hx : a.eval x = .slice (some ⟨g, 0, none⟩) 1 c) (hc : w.cell? ⟨g, 0, none⟩ = some (.int .i64 n)) (hc1 : w.cell? ⟨g, 1, none⟩ = some (.int .i64 m)) (hlen : xs.length ≤ 1000000) (hbase : base ≤ w.heap.size)
    (h : ∀ v' w', OwnCues w' base v' (xs ++ [(n, m)]) → Below base w w' → wpList Tryd.prog ops Q rest (a.put o.dst v') w') : wpList Tryd.prog ops Q (o :: rest) a w := by
  obtain ⟨i0, hi, hz0, hz1, hz2⟩ := info_parts info73
  refine wpList_append_own w hgd s x 46 ho base 73 i0 (.agg #[.int .i64 0, .int .i64 0]) 2 16 under46 hi hz0 hz1 hz2 rfl (by decide) v xs.length (pairs xs) hs hown ⟨g, 0, none⟩ 1 c [.int .i64 n, .int .i64 m] hx rfl ?_ ?_ (by unfold maxLen; omega) (by omega) hbase ?_
  · intro j u hj
    rw [addr_add0]
    match j, hj with
    | 0, hj => simp at hj; subst hj; exact hc
    | 1, hj => simp at hj; subst hj; exact hc1
  · intro u hu; simp at hu; rcases hu with rfl | rfl <;> rfl
  · intro v' w' h1 h2 _
    refine h v' w' ?_ ((Below.refl _ _).grown h2 hbase fun k hk => (World.ownsRow.lt hown k hk).1)
    unfold OwnCues
    rw [List.length_append, show pairs (xs ++ [(n, m)]) = pairs xs ++ [.int .i64 n, .int .i64 m] by simp [pairs]]
    exact h1
end
end Go.Proofs.YtljikigmfkfkiaaDoor
namespace Go.Proofs.YtljikigmfkfkiaaDoor
section
open Go.RowKit
set_option linter.unusedSimpArgs false
set_option linter.unusedVariables false
/-- the cues of the first k marks: their beats, and their ways -/
def cuesTo (B : BookV) (path : List Int) : Nat → List (Int × Int)
  | 0 => []
  | k + 1 => cuesTo B path k ++ bif decide (gi path (k + 1) = gi path k) then [] else [(((k : Int) + 1) * B.size - B.notice, gi path (k + 1) - gi path k)]
theorem cuesTo_le (B : BookV) (path : List Int) : ∀ k, (cuesTo B path k).length ≤ k
  | 0 => by simp [cuesTo]
  | k + 1 => by
    have := cuesTo_le B path k
    simp only [cuesTo, List.length_append]
    cases decide (gi path (k + 1) = gi path k) <;> simp <;> omega
def CuesR (B : BookV) (path : List Int) (e : Ending) (w' : World) : Prop :=
  (goodB B = false ∧ e = .returned (.tuple #[.slice none 0 0, .int .i64 80])) ∨ (goodB B = true ∧ isPathS B.parts B.start path = false ∧ e = .returned (.tuple #[.slice none 0 0, .int .i64 81])) ∨
  (goodB B = true ∧ isPathS B.parts B.start path = true ∧ ∃ A, e = .returned (.tuple #[.slice A (cuesTo B path (path.length - 1)).length (cuesTo B path (path.length - 1)).length, .int .i64 0]) ∧ SpansAt w' A (cuesTo B path (path.length - 1)))
set_option maxRecDepth 100000 in
set_option maxHeartbeats 4000000 in
theorem Cues_calls (B : BookV) (A : Option Addr) (c : Nat) (path : List Int) (w : World) (hB : B.Reads w) (hp : IntsAt w A path) :
    Calls Tryd.prog 34 #[B.val, .slice A path.length c] w fun e w' => CuesR B path e w' ∧ Below w.heap.size w w' := by
  have HB := Lib.hid hB
  have HP := Lib.hid hp
  clear hB hp
  have Hb : Below w.heap.size w ((w.alloc (.cells B.cells 27)).alloc (.cells #[.slice A path.length c] 22)) := ((Below.refl _ _).alloc (Nat.le_refl _) _).alloc (by simp) _
  have k3 := BoxAt.new (w.alloc (.cells B.cells 27)) #[.slice A path.length c] 22
  rw [World.size_alloc] at k3
  have hask := asked_calls B _ (HB.out.below Hb) 82 #[.pointer (some ⟨w.heap.size + 1, 0, none⟩)] (isPathS B.parts B.start path) enters82
    (fun hg w' hw => Cues1_calls B ((goodB_iff B).1 hg).parts.1 A c path _ w' (k3.below hw) ((HP.out.below Hb).below hw))
  have Hask := Lib.hid hask
  have K3 := Lib.hid k3
  clear hask k3
  have hcase : (∃ n, (∀ w', CuesR B path (.returned (.tuple #[.slice none 0 0, .int .i64 n])) w') ∧ askR B (isPathS B.parts B.start path) = .tuple #[zB, .int .i64 n] ∧ n ≠ 0) ∨ (goodB B = true ∧ isPathS B.parts B.start path = true) := by
    rcases chain2 (goodB B) (isPathS B.parts B.start path) with hg | ⟨hg, hi⟩ | ⟨hg, hi⟩
    · exact .inl ⟨80, fun _ => .inl ⟨hg, rfl⟩, by simp [askR, hg], by simp⟩
    · exact .inl ⟨81, fun _ => .inr (.inl ⟨hg, hi, rfl⟩), by simp [askR, hg, hi], by simp⟩
    · exact .inr ⟨hg, hi⟩
  rcases hcase with ⟨n, hr, ha, hn⟩ | ⟨hg, hi⟩
  · have Ha := Lib.hid ha
    have Hr := Lib.hid hr
    clear ha hr
    unfold BookV.val BookV.cells
    go_enter Tryd.func34, Tryd.ntmps34
    go_wp2_with fail
    refine (eq0_2 (v' := B.val) rfl Hask.out).mono ?_
    rintro e w1 ⟨rfl, hb⟩
    rw [Ha.out]
    have H1 := below_then Hb (by simp; omega) hb
    clear hb
    unfold zB
    go_wp2
    go_ret2
    exact ⟨Hr.out _, H1.alloc H1.size _⟩
  · have g := (goodB_iff B).1 hg
    have ip := (isPathS_iff g path).1 hi
    have hpos := ip.pos g
    have hpar := g.parts
    have hsz := g.size
    have hno := g.notice
    have hl8 : path.length ≤ 8 := by have := ip.len; omega
    obtain ⟨m, hm⟩ : ∃ m, path.length = m + 1 := ⟨path.length - 1, by omega⟩
    have hm1 : path.length - 1 = m := by omega
    have hr : ∀ w' A', SpansAt w' A' (cuesTo B path m) → CuesR B path (.returned (.tuple #[.slice A' (cuesTo B path m).length (cuesTo B path m).length, .int .i64 0])) w' := fun w' A' h => .inr (.inr ⟨hg, hi, A', by rw [hm1], by rw [hm1]; exact h⟩)
    have ha : askR B (isPathS B.parts B.start path) = .tuple #[B.val, .int .i64 0] := by simp [askR, hg, hi]
    obtain ⟨b, o, rfl⟩ := HP.out.some_ hpos
    have hmi : (path.length : Int) = m + 1 := by omega
    have Ha := Lib.hid ha
    have Hr := Lib.hid hr
    have Hi := Lib.hid ip
    have Hm := Lib.hid hm
    have Hmi := Lib.hid hmi
    clear ha hr g ip hg hi hm1 hm hmi
    unfold BookV.val BookV.cells
    go_enter Tryd.func34, Tryd.ntmps34
    go_wp2_with fail
    refine (eq0_2 (v' := B.val) rfl Hask.out).mono ?_
    rintro e w1 ⟨rfl, hb⟩
    rw [Ha.out]
    have H1 := below_then Hb (by simp; omega) hb
    have K3' := Lib.hid (K3.out.below hb)
    clear hb
    unfold BookV.val BookV.cells
    have k6 := BoxAt.new w1 B.cells 78
    have H2 : Below w.heap.size w (w1.alloc (.cells B.cells 78)) := H1.alloc H1.size _
    have K32 := Lib.hid (K3'.out.alloc (.cells B.cells 78))
    go_upto_block 0 with (fail)
    unfold BookV.cells at k6 H2 K32
    generalize w1.alloc _ = W at *
    have K6 := Lib.hid k6
    clear k6
    go_wp2
    go_loopg [9, 8] m (fun gk i v wr => ∃ k : Nat, k ≤ m ∧ gk = m - k ∧ i = .int .i64 ((k : Int) + 1) ∧ OwnCues wr W.heap.size v (cuesTo B path k) ∧ Below W.heap.size W wr)
    case atStart => exact ⟨0, Nat.zero_le _, rfl, rfl, OwnCues.nil _ _, Below.refl _ _⟩
    case round =>
      obtain ⟨k, hk, hgk, rfl, hown, hbe⟩ := hrel
      have Hgk := Lib.hid hgk
      have Hown := Lib.hid hown
      have Hbe := Lib.hid hbe
      clear hgk hown hbe
      obtain ⟨c3, f3, l3⟩ := K32.out.below Hbe.out
      by_cases hlt : k < m
      · have hki : (k : Int) + 1 < path.length := by have := Hmi.out; omega
        have hki0 : (k : Int) < path.length := by omega
        have hw1 : IntKind.i64.wrap ((k : Int) + 1 - 1) = k := by rw [wrap_in (by omega) (by omega)]; omega
        obtain ⟨c6, f6, l6⟩ := K6.out.below Hbe.out
        have HW := below_then H2 H2.size Hbe.out
        have q1 := cell_below HW (HP.out.at_ (show k + 1 < path.length by have := Hm.out; omega))
        have q0 := cell_below HW (HP.out.at_ (show k < path.length by have := Hm.out; omega))
        have bq := World.block_lt_of_cell? _ _ q0
        simp only at bq
        have r1 := gi_path Hi.out (k + 1)
        have r0 := gi_path Hi.out k
        have hw2 : IntKind.i64.wrap (gi path (k + 1) - gi path k) = gi path (k + 1) - gi path k := wrap_in (by omega) (by omega)
        have hmul0 : 0 ≤ ((k : Int) + 1) * B.size := Int.mul_nonneg (by omega) (by omega)
        have hmul1 : ((k : Int) + 1) * B.size ≤ 8 * 16 := Int.mul_le_mul (by omega) (by omega) (by omega) (by omega)
        have hw3 : IntKind.i64.wrap (((k : Int) + 1) * B.size) = ((k : Int) + 1) * B.size := wrap_in (by omega) (by omega)
        have hw4 : IntKind.i64.wrap (((k : Int) + 1) * B.size - B.notice) = ((k : Int) + 1) * B.size - B.notice := wrap_in (by omega) (by omega)
        have hst : cuesTo B path (k + 1) = cuesTo B path k ++ bif decide (gi path (k + 1) = gi path k) then [] else [(((k : Int) + 1) * B.size - B.notice, gi path (k + 1) - gi path k)] := rfl
        by_cases he : gi path (k + 1) = gi path k
        · simp only [he, decide_true, cond_true, List.append_nil] at hst
          have Hst := Lib.hid hst
          have he' : gi path (k + 1) - gi path k = 0 := by omega
          clear hst
          go_wp2
          go_quiet (fail)
          go_wp2
          go_roundg (m - (k + 1))
          case measure => have := Hgk.out; omega
          case rel => exact ⟨k + 1, by omega, rfl, by go_num, by rw [Hst.out]; exact Hown.out.keep (below_drewN (Below.refl _ _) _), below_drewN Hbe.out _⟩
        · simp only [he, decide_false, cond_false] at hst
          have Hst := Lib.hid hst
          have he' : ¬ gi path (k + 1) - gi path k = 0 := by omega
          clear hst
          go_wp2
          go_quiet (fail)
          go_wp2_with (at_builtin; refine wpList_app2 _ rfl _ _ rfl W.heap.size _ _ rfl ((Hown.out.keep (below_drewN (Below.refl _ _) _)).alloc _) _ _ _ _ rfl ((BoxAt.new _ _ _).cell 0) ((BoxAt.new _ _ _).cell 1) (by have := cuesTo_le B path k; omega) (by have := Hbe.out.size; simp; omega) ?_)
          intro v' w5 ho hb5
          have Hho := Lib.hid ho
          have Hb5 := Lib.hid hb5
          clear ho hb5
          go_wp2
          go_roundg (m - (k + 1))
          case measure => have := Hgk.out; omega
          case rel => exact ⟨k + 1, by omega, rfl, by go_num, by rw [Hst.out]; exact Hho.out, ((below_drewN Hbe.out _).alloc (by have := Hbe.out.size; simp; omega) _).trans Hb5.out⟩
      · obtain rfl : k = m := by omega
        have hki : ¬ ((k : Int) + 1 < path.length) := by have := Hmi.out; omega
        obtain ⟨A', c', rfl, hi', hc', hm', h0⟩ := Hown.out.reads
        have Hi' := Lib.hid hi'
        clear hi'
        have hfin := below_then H2 H2.size Hbe.out
        cases A' with
        | none =>
          obtain rfl : c' = 0 := h0 rfl
          have hl0 : (cuesTo B path k).length = 0 := by omega
          go_wp2
          go_ret2
          exact ⟨by have := Hr.out _ none Hi'.out; rw [hl0] at this; exact this, hfin⟩
        | some ad =>
          go_wp2
          go_ret2
          exact ⟨Hr.out _ _ Hi'.out, hfin⟩
end
end Go.Proofs.YtljikigmfkfkiaaDoor
namespace Go.Proofs.YtljikigmfkfkiaaDoor
section
open Go.RowKit
set_option linter.unusedSimpArgs false
set_option linter.unusedVariables false
/-! A copy of the players. -/
def pcells (l : List PlayerV) : List Value := l.flatMap fun p => [.int .i64 p.lo, .int .i64 p.hi, .slice p.cA p.catches.length p.cCap]
theorem pcells_len (l : List PlayerV) : (pcells l).length = l.length * 3 := by
  induction l with
  | nil => rfl
  | cons p l ih => simp only [pcells, List.flatMap_cons, List.length_append, List.length_cons, List.length_nil] at ih ⊢; omega
theorem pcells_get : ∀ (l : List PlayerV) (j : Nat), j < l.length → (pcells l)[j * 3]? = some (.int .i64 (gp l j).lo) ∧ (pcells l)[j * 3 + 1]? = some (.int .i64 (gp l j).hi) ∧ (pcells l)[j * 3 + 2]? = some (.slice (gp l j).cA (gp l j).catches.length (gp l j).cCap)
  | [], j, h => by simp at h
  | p :: l, 0, _ => by simp [pcells, gp]
  | p :: l, j + 1, h => by
    have ih := pcells_get l j (by simpa using h)
    have e1 : (j + 1) * 3 = j * 3 + 3 := by omega
    simp only [pcells, List.flatMap_cons, e1, List.cons_append, List.nil_append] at ih ⊢
    simpa [gp] using ih
theorem pcells_at {w : World} {b o : Nat} {l : List PlayerV} (h : ∀ j, j < l.length → w.cell? ⟨b, o + j * 3, none⟩ = some (.int .i64 (gp l j).lo) ∧ w.cell? ⟨b, o + j * 3 + 1, none⟩ = some (.int .i64 (gp l j).hi) ∧ w.cell? ⟨b, o + j * 3 + 2, none⟩ = some (.slice (gp l j).cA (gp l j).catches.length (gp l j).cCap)) :
    ∀ j u, (pcells l)[j]? = some u → w.cell? ((⟨b, o, none⟩ : Addr).add j) = some u := by
  intro j u hu
  have hj : j < l.length * 3 := by rw [← pcells_len]; exact (List.getElem?_eq_some_iff.1 hu).1
  have ha : (⟨b, o, none⟩ : Addr).add j = ⟨b, o + j, none⟩ := by
    by_cases h0 : j = 0
    · subst h0; simp [Addr.add]
    · simp [Addr.add, h0]
  rw [ha]
  have hd := Nat.div_add_mod j 3
  have hq : j / 3 < l.length := by omega
  obtain ⟨c0, c1, c2⟩ := h (j / 3) hq
  obtain ⟨g0, g1, g2⟩ := pcells_get l (j / 3) hq
  have hr : j % 3 = 0 ∨ j % 3 = 1 ∨ j % 3 = 2 := by omega
  rcases hr with hr | hr | hr
  · have e : j = j / 3 * 3 := by omega
    rw [e] at hu ⊢
    rw [g0] at hu; injection hu with hu; subst hu; exact c0
  · have e : j = j / 3 * 3 + 1 := by omega
    rw [e] at hu ⊢
    rw [g1] at hu; injection hu with hu; subst hu; rw [← Nat.add_assoc]; exact c1
  · have e : j = j / 3 * 3 + 2 := by omega
    rw [e] at hu ⊢
    rw [g2] at hu; injection hu with hu; subst hu; rw [← Nat.add_assoc]; exact c2
/-- A block of the call's own that holds players. -/
def PBox (W : World) (g : Nat) (l : List PlayerV) : Prop :=
  ∃ cur t, W.heap[g]? = some (.cells cur t (0, 0)) ∧ ∀ j, j < l.length → cur[j * 3]? = some (.int .i64 (gp l j).lo) ∧ cur[j * 3 + 1]? = some (.int .i64 (gp l j).hi) ∧ cur[j * 3 + 2]? = some (.slice (gp l j).cA (gp l j).catches.length (gp l j).cCap)
@[local go_sem] theorem nonnil25 (a : Addr) (n c : Nat) (w : World) : Sem.run Tryd.prog (binOp BinOp.eql 25 (.slice (some a) n c) (.slice none 0 0)) w = .ok (.bool false) w := by kernel_rfl
set_option maxRecDepth 100000 in
set_option maxHeartbeats 2000000 in
theorem Clone_calls (b o c : Nat) (l : List PlayerV) (hl : 0 < l.length ∧ l.length ≤ 5) (w : World) (hp : PlayersAt w (some ⟨b, o, none⟩) l) :
    Calls Tryd.prog 79 #[.slice (some ⟨b, o, none⟩) l.length c] w fun e w' => ∃ g c', e = .returned (.slice (some ⟨g, 0, none⟩) l.length c') ∧ l.length ≤ c' ∧ c' ≤ 9223372036854775807 ∧ PBox w' g l ∧ w.heap.size ≤ g ∧ Below w.heap.size w w' := by
  obtain ⟨_, hc, _⟩ := hp
  obtain ⟨b', o', e, hcs⟩ := hc.resolve_left (by intro h; rw [h] at hl; simp at hl)
  cases e
  have hcc := pcells_at hcs
  have Hcc := Lib.hid hcc
  have Hl := Lib.hid hl
  clear hc hcs hcc
  obtain ⟨i0, hi, hz0, hz1, hz2⟩ := info_parts info68
  go_enter Tryd.func79, Tryd.ntmps79
  have hb1 : Below w.heap.size w (w.alloc (.cells #[] 68)) := (Below.refl _ _).alloc (Nat.le_refl _) _
  have hown := World.ownsRow_made (w := w) (base := w.heap.size) (e := 68) (size := 3) #[] 0 (Nat.le_refl _) (Nat.zero_le _) rfl
  have Hown := Lib.hid hown
  have Hb1 := Lib.hid hb1
  clear hown hb1
  go_wp2_with (at_builtin; refine wpList_append_own _ rfl _ _ 25 rfl w.heap.size 68 i0 (.agg #[.int .i64 0, .int .i64 0, .slice none 0 0]) 3 40 under25 hi hz0 hz1 hz2 rfl (by decide) _ 0 [] rfl Hown.out ⟨b, o, none⟩ l.length c (pcells l) rfl (pcells_len l) (fun j u hu => cell_below Hb1.out (Hcc.out j u hu)) (by intro u hu; simp only [pcells, List.mem_flatMap, List.mem_cons, List.not_mem_nil, or_false] at hu; obtain ⟨p, _, h⟩ := hu; rcases h with rfl | rfl | rfl <;> rfl) (by unfold maxLen; omega) (by omega) (by simp) ?_)
  intro v' w2 ho hg hn
  obtain ⟨h1, h2⟩ := ho
  have hb2 : Below w.heap.size w w2 := Hb1.out.grown hg (by simp) (by rintro k ⟨⟩; exact Nat.le_refl _)
  rcases h2 with ⟨rfl, hz⟩ | ⟨g, cap, cur, rfl, hgw, hb, hcap, hmax, hs, ht⟩
  · omega
  have hP : PBox w2 g l := by
    refine ⟨cur, _, hb, fun j hj => ?_⟩
    have key : ∀ i, i < l.length * 3 → cur[i]? = (pcells l)[i]? := by
      intro i hi
      rw [← ht, List.getElem?_take, if_pos hi, Array.getElem?_toList]
    obtain ⟨g0, g1, g2⟩ := pcells_get l j hj
    exact ⟨(key _ (by omega)).trans g0, (key _ (by omega)).trans g1, (key _ (by omega)).trans g2⟩
  have HP := Lib.hid hP
  have Hb2 := Lib.hid hb2
  clear hg hn h1 hb hs ht hP hb2
  go_wp2
  go_ret
  exact ⟨g, cap, rfl, hcap, by unfold maxLen at hmax; omega, HP.out, hgw, Hb2.out⟩
end
end Go.Proofs.YtljikigmfkfkiaaDoor
namespace Go.Proofs.YtljikigmfkfkiaaDoor
section
open Go.RowKit Go.Shelf
attribute [local go_sem] Oper.semAt_some
set_option linter.unusedSimpArgs false
set_option linter.unusedVariables false
def setL (l : List PlayerV) (j : Nat) (lo hi : Int) : List PlayerV := l.set j { gp l j with lo := lo, hi := hi }
theorem setL_len (l : List PlayerV) (j : Nat) (lo hi : Int) : (setL l j lo hi).length = l.length := by simp [setL]
theorem gp_set (l : List PlayerV) (j k : Nat) (lo hi : Int) (hj : j < l.length) : gp (setL l j lo hi) k = if k = j then { gp l j with lo := lo, hi := hi } else gp l k := by
  unfold gp setL
  rw [List.getD_eq_getElem?_getD, List.getElem?_set]
  by_cases h : j = k
  · subst h
    rw [if_pos rfl, if_pos rfl, if_pos hj]; rfl
  · rw [if_neg h, if_neg (fun e => h e.symm), ← List.getD_eq_getElem?_getD]
theorem setL_set (l : List PlayerV) (j : Nat) (a b c d : Int) (hj : j < l.length) : setL (setL l j a b) j c d = setL l j c d := by
  have h : gp (setL l j a b) j = { gp l j with lo := a, hi := b } := by rw [gp_set _ _ _ _ _ hj, if_pos rfl]
  show (setL l j a b).set j { gp (setL l j a b) j with lo := c, hi := d } = _
  rw [h]; simp [setL]
theorem setL_self (l : List PlayerV) (j : Nat) (hj : j < l.length) : setL l j (gp l j).lo (gp l j).hi = l := by
  unfold setL gp
  rw [List.getD_eq_getElem?_getD, List.getElem?_eq_getElem hj]
  exact List.set_getElem_self hj
/-- the book with another lateness of a player -/
def bookLate (B : BookV) (j : Nat) (k : Int) : BookV := { B with players := setL B.players j 0 k }
/-- the same, its players elsewhere -/
def bookAt (B : BookV) (g c : Nat) (j : Nat) (k : Int) : BookV := { B with pA := some ⟨g, 0, none⟩, pCap := c, players := setL B.players j 0 k }
def hasPlan (B : BookV) (j : Nat) (k : Int) : Bool := !(allPlans (bookLate B j k)).isEmpty
theorem lateTo_at (B : BookV) (A : Option Addr) (c : Nat) (path : List Int) (p : PlayerV) (hi : Bool) : ∀ n, lateTo { B with pA := A, pCap := c } path p hi n = lateTo B path p hi n
  | 0 => rfl
  | n + 1 => by simp only [lateTo, lateTo_at B A c path p hi n]; rfl
theorem timeTo_at (B : BookV) (A : Option Addr) (c : Nat) (path : List Int) : ∀ n, timeTo { B with pA := A, pCap := c } path n = timeTo B path n
  | 0 => rfl
  | n + 1 => by simp only [timeTo, timeTo_at B A c path n]
theorem isPlanS_at (B : BookV) (A : Option Addr) (c : Nat) (path : List Int) : isPlanS { B with pA := A, pCap := c } path = isPlanS B path := by
  unfold isPlanS noneLate lastAt
  simp only [timeTo_at, lateTo_at]
theorem allPlans_at (B : BookV) (A : Option Addr) (c : Nat) : allPlans { B with pA := A, pCap := c } = allPlans B := by
  unfold allPlans plansFrom
  rw [show isPlanS { B with pA := A, pCap := c } = isPlanS B from funext fun p => isPlanS_at B A c p]
theorem allPlans_bookAt (B : BookV) (g c j : Nat) (k : Int) : allPlans (bookAt B g c j k) = allPlans (bookLate B j k) := allPlans_at (bookLate B j k) _ _
theorem bookLate_good {B : BookV} (g : B.Good) {j : Nat} (hj : j < B.players.length) {k : Int} (hk : 0 ≤ k ∧ k ≤ 500) : (bookLate B j k).Good := by
  have hl : (bookLate B j k).players.length = B.players.length := setL_len _ _ _ _
  refine ⟨g.parts, g.size, g.beatsLen, g.start, g.fin, g.time, g.slip, g.notice, by rw [hl]; exact g.many, g.beats, ?_, ?_, ?_⟩
  · intro i hi
    rw [hl] at hi
    show 0 ≤ (gp (setL B.players j 0 k) i).lo ∧ _
    rw [show (bookLate B j k).players = setL B.players j 0 k from rfl, gp_set _ _ _ _ _ hj]
    split
    · exact ⟨Int.le_refl _, hk.1, hk.2⟩
    · exact g.late i hi
  · intro i hi
    rw [hl] at hi
    rw [show (bookLate B j k).players = setL B.players j 0 k from rfl, gp_set _ _ _ _ _ hj]
    split
    · rename_i e; exact g.catchLen j hj
    · exact g.catchLen i hi
  · intro i hi
    rw [hl] at hi
    rw [show (bookLate B j k).players = setL B.players j 0 k from rfl, gp_set _ _ _ _ _ hj]
    split
    · rename_i e; exact g.catches j hj
    · exact g.catches i hi
theorem bookAt_good {B : BookV} (g : B.Good) {j : Nat} (hj : j < B.players.length) {k : Int} (hk : 0 ≤ k ∧ k ≤ 500) (gg c : Nat) : (bookAt B gg c j k).Good := by
  have h := bookLate_good g hj hk
  exact ⟨h.parts, h.size, h.beatsLen, h.start, h.fin, h.time, h.slip, h.notice, h.many, h.beats, h.late, h.catchLen, h.catches⟩
theorem PBox.players {W : World} {g : Nat} {l : List PlayerV} (h : PBox W g l) (hl : l.length ≤ 9223372036854775807) (hs : ∀ p ∈ l, SpansAt W p.cA p.catches ∧ p.catches.length ≤ p.cCap) : PlayersAt W (some ⟨g, 0, none⟩) l := by
  obtain ⟨cur, t, hb, hc⟩ := h
  have hcell : ∀ i, W.cell? ⟨g, i, none⟩ = cur[i]? := fun i => by simp [World.cell?, hb]
  refine ⟨hl, .inr ⟨g, 0, rfl, fun j hj => ?_⟩, hs⟩
  rw [Nat.zero_add]
  simp only [hcell]
  exact hc j hj
theorem PBox.keep {M : Nat → Prop} {W W' : World} {g : Nat} {l : List PlayerV} (h : PBox W g l) (k : Keep M W W') (hm : ¬ M g) : PBox W' g l := by
  obtain ⟨cur, t, hb, hc⟩ := h
  exact ⟨cur, t, (k.block g (Array.getElem?_eq_some_iff.1 hb).1 hm).trans hb, hc⟩
theorem PBox.below {W W' : World} {g : Nat} {l : List PlayerV} (h : PBox W g l) (k : Below W.heap.size W W') : PBox W' g l := by
  obtain ⟨cur, t, hb, hc⟩ := h
  exact ⟨cur, t, (k.block g (Array.getElem?_eq_some_iff.1 hb).1).trans hb, hc⟩
theorem PBox.lt {W : World} {g : Nat} {l : List PlayerV} (h : PBox W g l) : g < W.heap.size := by obtain ⟨cur, t, hb, hc⟩ := h; exact (Array.getElem?_eq_some_iff.1 hb).1
theorem heap_setCell_at (W : World) (g i : Nat) (v : Value) {cur : Array Value} {t : TypeId} {f : Nat × Nat} (h : W.heap[g]? = some (.cells cur t f)) : (W.setCell ⟨g, i, none⟩ v).heap[g]? = some (.cells (cur.setIfInBounds i v) t f) := by
  simp [World.setCell, Array.getElem?_modify, h]
theorem PBox.set {W : World} {g : Nat} {l : List PlayerV} (h : PBox W g l) (j : Nat) (hj : j < l.length) (lo hi : Int) :
    PBox ((W.setCell ⟨g, j * 3, none⟩ (.int .i64 lo)).setCell ⟨g, j * 3 + 1, none⟩ (.int .i64 hi)) g (setL l j lo hi) := by
  obtain ⟨cur, t, hb, hc⟩ := h
  have h1 := heap_setCell_at W g (j * 3) (.int .i64 lo) hb
  have h2 := heap_setCell_at _ g (j * 3 + 1) (.int .i64 hi) h1
  refine ⟨_, t, h2, fun k hk => ?_⟩
  rw [setL_len] at hk
  obtain ⟨g0, g1, g2⟩ := hc k hk
  have hsz0 : k * 3 < cur.size := (Array.getElem?_eq_some_iff.1 g0).1
  have hsz1 : k * 3 + 1 < cur.size := (Array.getElem?_eq_some_iff.1 g1).1
  have hget := gp_set l j k lo hi hj
  by_cases e : k = j
  · subst e
    rw [hget, if_pos rfl]
    refine ⟨?_, ?_, ?_⟩
    · simp [Array.getElem?_setIfInBounds, hsz0]
    · simp [Array.getElem?_setIfInBounds, hsz1]
    · simp [Array.getElem?_setIfInBounds]; exact g2
  · rw [hget, if_neg e]
    refine ⟨?_, ?_, ?_⟩
    · rw [Array.getElem?_setIfInBounds, if_neg (by omega), Array.getElem?_setIfInBounds, if_neg (by omega)]; exact g0
    · rw [Array.getElem?_setIfInBounds, if_neg (by omega), Array.getElem?_setIfInBounds, if_neg (by omega)]; exact g1
    · rw [Array.getElem?_setIfInBounds, if_neg (by omega), Array.getElem?_setIfInBounds, if_neg (by omega)]; exact g2
def findS (has : Int → Bool) : Nat → Int → Int → Int
  | 0, f, _ => f
  | n + 1, f, u => if f = u then f else if has ((f + u + 1) / 2) then findS has n ((f + u + 1) / 2) u else findS has n f ((f + u + 1) / 2 - 1)
theorem findS_eq (has : Int → Bool) (n : Nat) (f : Int) : findS has n f f = f := by cases n <;> simp [findS]
theorem enters78 : ∀ args w, (callFunc 78 args).run Tryd.prog w = .ok (.enter 78 args) w := enters_of Tryd.func78 (by kernel_rfl) rfl
theorem enters80 : ∀ args w, (callFunc 80 args).run Tryd.prog w = .ok (.enter 80 args) w := enters_of Tryd.func80 (by kernel_rfl) rfl
set_option maxRecDepth 100000 in
theorem Bound1_calls (B : BookV) (g : B.Good) (player : Int) (b1 : Nat) (w : World) (h1 : BoxAt w b1 #[.int .i64 player]) :
    Calls Tryd.prog 78 (#[B.val] ++ #[.pointer (some ⟨b1, 0, none⟩)]) w fun e w' => e = .returned (.bool (inB player 0 (B.players.length - 1))) ∧ Below w.heap.size w w' := by
  have hm := g.many
  clear g
  obtain ⟨c1, f1, l1⟩ := h1
  show Calls Tryd.prog 78 #[B.val, .pointer (some ⟨b1, 0, none⟩)] w _
  have Hb : Below w.heap.size w (w.alloc (.cells B.cells 78)) := (Below.refl _ _).alloc (Nat.le_refl _) _
  have hw : IntKind.i64.wrap ((B.players.length : Int) - 1) = (B.players.length : Int) - 1 := wrap_in (by omega) (by omega)
  unfold BookV.val BookV.cells
  unfold BookV.cells at Hb
  have HH := Lib.hid Hb
  clear Hb
  go_enter Tryd.func78, Tryd.ntmps78
  go_wp2_with (go_at_call 62; refine (in_calls _ _ _ _).mono ?_; rintro e w' ⟨rfl, rfl⟩)
  go_ret
  exact ⟨rfl, HH.out⟩
end
end Go.Proofs.YtljikigmfkfkiaaDoor
namespace Go.Proofs.YtljikigmfkfkiaaDoor
section
open Go.RowKit Go.Shelf
attribute [local go_sem] Oper.semAt_some
set_option linter.unusedSimpArgs false
set_option linter.unusedVariables false
/-- what each call of 'find' finds in memory -/
structure FEnv (B : BookV) (w0 : World) (g c j bb bp bf : Nat) (lo hi : Int) (W : World) : Prop where
  old : Below w0.heap.size w0 W
  kb : BoxAt W bb { B with pA := some ⟨g, 0, none⟩, pCap := c : BookV }.cells
  kp : BoxAt W bp #[.int .i64 (j : Int)]
  kf : BoxAt W bf #[.func (.func 80) #[] #[.pointer (some ⟨bb, 0, none⟩), .pointer (some ⟨bp, 0, none⟩), .pointer (some ⟨bf, 0, none⟩)]]
  pb : PBox W g (setL B.players j lo hi)
theorem FEnv.below {B : BookV} {w0 : World} {g c j bb bp bf : Nat} {lo hi : Int} {W W' : World} (h : FEnv B w0 g c j bb bp bf lo hi W) (k : Below W.heap.size W W') : FEnv B w0 g c j bb bp bf lo hi W' :=
  ⟨below_then h.old h.old.size k, h.kb.below k, h.kp.below k, h.kf.below k, h.pb.below k⟩
theorem FEnv.keep {M : Nat → Prop} {B : BookV} {w0 : World} {g c j bb bp bf : Nat} {lo hi : Int} {W W' : World} (h : FEnv B w0 g c j bb bp bf lo hi W) (k : Keep M W W') (hM : ∀ x, M x → w0.heap.size ≤ x ∧ x ≠ g ∧ x ≠ bb ∧ x ≠ bp ∧ x ≠ bf) : FEnv B w0 g c j bb bp bf lo hi W' :=
  ⟨h.old.trans (k.below (fun x _ hx => (hM x hx).1) h.old.size), h.kb.keep k (fun e => (hM _ e).2.2.1 rfl), h.kp.keep k (fun e => (hM _ e).2.2.2.1 rfl), h.kf.keep k (fun e => (hM _ e).2.2.2.2 rfl), h.pb.keep k (fun e => (hM _ e).2.1 rfl)⟩
def FindCall (B : BookV) (w0 : World) (g c j bb bp bf n : Nat) : Prop :=
  ∀ (f u : Int), 0 ≤ f → f ≤ u → u ≤ 500 → u - f ≤ n → ∀ (lo hi : Int) (W : World), FEnv B w0 g c j bb bp bf lo hi W →
    Calls Tryd.prog 80 #[.int .i64 f, .int .i64 u, .pointer (some ⟨bb, 0, none⟩), .pointer (some ⟨bp, 0, none⟩), .pointer (some ⟨bf, 0, none⟩)] W fun e W' =>
      e = .returned (.int .i64 (findS (hasPlan B j) n f u)) ∧ Keep (fun k => k = g) W W'
set_option maxRecDepth 100000 in
set_option maxHeartbeats 1000000 in
theorem find_same (B : BookV) (w0 : World) (g c j bb bp bf n : Nat) (f : Int) (W : World) :
    Calls Tryd.prog 80 #[.int .i64 f, .int .i64 f, .pointer (some ⟨bb, 0, none⟩), .pointer (some ⟨bp, 0, none⟩), .pointer (some ⟨bf, 0, none⟩)] W fun e W' =>
      e = .returned (.int .i64 (findS (hasPlan B j) n f f)) ∧ Keep (fun k => k = g) W W' := by
  rw [findS_eq]
  have hst := BoxAt.new (W.alloc (.cells #[.int .i64 f] 3)) #[.int .i64 f] 3
  rw [World.size_alloc] at hst
  obtain ⟨c5, f5, l5⟩ := hst
  go_enter Tryd.func80, Tryd.ntmps80
  go_wp2
  exact bodyPost_ret (v := .int .i64 f) (by simp [results, Tryd.results80, go_sem]) rfl ⟨rfl, ((Keep.refl _ _).alloc _).alloc _⟩
theorem PBox.at_ {W : World} {g : Nat} {l : List PlayerV} (h : PBox W g l) {j : Nat} (hj : j < l.length) : W.cell? ⟨g, j * 3, none⟩ = some (.int .i64 (gp l j).lo) ∧ W.cell? ⟨g, j * 3 + 1, none⟩ = some (.int .i64 (gp l j).hi) ∧ (∀ i, W.frozen? ⟨g, i, none⟩ = false) := by
  obtain ⟨cur, t, hb, hc⟩ := h
  refine ⟨?_, ?_, fun i => ?_⟩
  · simp [World.cell?, hb, (hc j hj).1]
  · simp [World.cell?, hb, (hc j hj).2.1]
  · simp [World.frozen?, hb]
theorem bookAt_val (B : BookV) (g c j : Nat) (k : Int) : (bookAt B g c j k).val = .agg #[.int .i64 B.parts, .int .i64 B.size, .slice B.bA B.beats.length B.bCap, .int .i64 B.start, .int .i64 B.fin, .int .i64 B.tlo, .int .i64 B.thi, .int .i64 B.slo, .int .i64 B.shi, .int .i64 B.notice, .slice (some ⟨g, 0, none⟩) B.players.length c] := by
  simp [bookAt, BookV.val, BookV.cells, setL_len]
theorem bookAt_reads {B : BookV} {w0 W : World} (hB : B.Reads w0) (hb : Below w0.heap.size w0 W) {g c j : Nat} {k : Int} (hj : j < B.players.length) (hp : PBox W g (setL B.players j 0 k)) : (bookAt B g c j k).Reads W := by
  refine ⟨hB.1.below hb, hp.players (by rw [setL_len]; exact hB.2.1) fun p hp => ?_⟩
  have h := hB.2.below hb
  rcases List.mem_or_eq_of_mem_set hp with h1 | rfl
  · exact h.2.2 p h1
  · exact h.2.2 (gp B.players j) (gp_mem hj)
set_option maxRecDepth 100000 in
set_option maxHeartbeats 4000000 in
theorem find_succ (B : BookV) (gd : B.Good) (w0 : World) (hB : B.Reads w0) (hM : MarksAt w0) (g c j bb bp bf : Nat) (hj : j < B.players.length) (hg : w0.heap.size ≤ g) (hbs : w0.heap.size ≤ bb ∧ w0.heap.size ≤ bp ∧ w0.heap.size ≤ bf ∧ bb ≠ g ∧ bp ≠ g ∧ bf ≠ g) (n : Nat) (IH : FindCall B w0 g c j bb bp bf n) : FindCall B w0 g c j bb bp bf (n + 1) := by
  intro f u h0 hfu h5 hn lo hi W hE
  by_cases he : f = u
  · subst he
    exact find_same B w0 g c j bb bp bf (n + 1) f W
  have HE := Lib.hid hE
  obtain ⟨at_, hat⟩ : ∃ k, k = (f + u + 1) / 2 := ⟨_, rfl⟩
  have hat1 : f < at_ ∧ at_ ≤ u := by omega
  have hres : findS (hasPlan B j) (n + 1) f u = if hasPlan B j at_ then findS (hasPlan B j) n at_ u else findS (hasPlan B j) n f (at_ - 1) := by
    rw [findS, if_neg he, hat]
  have hw1 : IntKind.i64.wrap (f + u) = f + u := wrap_in (by omega) (by omega)
  have hw2 : IntKind.i64.wrap (f + u + 1) = f + u + 1 := wrap_in (by omega) (by omega)
  have hw3 : (f + u + 1).tdiv 2 = at_ := by rw [hat]; exact Int.tdiv_eq_ediv_of_nonneg (by omega)
  have hw4 : IntKind.i64.wrap at_ = at_ := wrap_in (by omega) (by omega)
  have Hres := Lib.hid hres
  have HB := Lib.hid hB
  have HM := Lib.hid hM
  have Hg := Lib.hid gd
  clear hE hat hres hB hM gd
  obtain ⟨old, kb, kp, kf, pb⟩ := HE.out
  refine (callsIn_wide (n := 0)).1 ?_
  refine callsIn_of_wp_marks Tryd.func80 rfl trivial ?_ rfl
  simp only [Tryd.ntmps80, List.size_toArray, List.length_cons, List.length_nil, Nat.reduceAdd, Nat.reduceSub, Array.replicate_succ, Array.replicate_zero, List.push_toArray, List.append_toArray, List.nil_append, List.cons_append]
  gi_upto_region 4 with (fail)
  have k6 := ((BoxAt.new W #[.int .i64 u] 3).alloc (.cells #[.int .i64 0] 3)).alloc (.cells #[.int .i64 at_] 3)
  have k7 := (BoxAt.new (W.alloc (.cells #[.int .i64 u] 3)) #[.int .i64 0] 3).alloc (.cells #[.int .i64 at_] 3)
  have k8 := BoxAt.new ((W.alloc (.cells #[.int .i64 u] 3)).alloc (.cells #[.int .i64 0] 3)) #[.int .i64 at_] 3
  have hbW : Below W.heap.size W (((W.alloc (.cells #[.int .i64 u] 3)).alloc (.cells #[.int .i64 0] 3)).alloc (.cells #[.int .i64 at_] 3)) := (((Below.refl _ _).alloc (Nat.le_refl _) _).alloc (by simp) _).alloc (by simp; omega) _
  simp only [World.size_alloc] at k7 k8
  generalize ((W.alloc _).alloc _).alloc _ = W3 at *
  have hE3 := HE.out.below hbW
  have Hlts := Lib.hid (show bb < W.heap.size ∧ bp < W.heap.size ∧ bf < W.heap.size ∧ g < W.heap.size ∧ w0.heap.size ≤ W.heap.size from ⟨kb.lt, kp.lt, kf.lt, pb.lt, old.size⟩)
  have HE3 := Lib.hid hE3
  have HbW := Lib.hid hbW
  have K6 := Lib.hid k6
  have K7 := Lib.hid k7
  have K8 := Lib.hid k8
  have hjl : j < (setL B.players j lo hi).length := by rw [setL_len]; exact hj
  obtain ⟨q0, q1, q2⟩ := hE3.pb.at_ hjl
  have qlt := hE3.pb.lt
  obtain ⟨c8, f8, l8⟩ := k8
  obtain ⟨cb, fb, lb⟩ := hE3.kb
  obtain ⟨cp, fp, lp⟩ := hE3.kp
  unfold BookV.cells at cb
  dsimp only at cb
  have hji : (j : Int) < B.players.length := by omega
  clear old kb kp kf pb k6 k7 hbW hE3 HE
  gi_upto_region 5 with (fail)
  have hk4 : Keep (fun k => k = g) W3 ((W3.setCell ⟨g, j * 3, none⟩ (.int .i64 0)).setCell ⟨g, j * 3 + 1, none⟩ (.int .i64 at_)) :=
    Keep.setCell (M := fun k => k = g) (Keep.setCell (M := fun k => k = g) (Keep.refl _ _) (p := ⟨g, j * 3, none⟩) (.inl rfl) _) (p := ⟨g, j * 3 + 1, none⟩) (.inl rfl) _
  have hE4 : FEnv B w0 g c j bb bp bf 0 at_ ((W3.setCell ⟨g, j * 3, none⟩ (.int .i64 0)).setCell ⟨g, j * 3 + 1, none⟩ (.int .i64 at_)) := by
    refine ⟨HE3.out.old.trans (hk4.below (fun k _ e => by omega) HE3.out.old.size), HE3.out.kb.keep hk4 (by omega), HE3.out.kp.keep hk4 (by omega), HE3.out.kf.keep hk4 (by omega), ?_⟩
    have h := HE3.out.pb.set j hjl 0 at_
    rwa [setL_set _ _ _ _ _ _ hj] at h
  have k64 := K6.out.keep hk4 (by have := Hlts.out; omega)
  have k74 := K7.out.keep hk4 (by have := Hlts.out; omega)
  have k84 := K8.out.keep hk4 (by have := Hlts.out; omega)
  generalize World.setCell _ _ _ = W4 at *
  have HE4 := Lib.hid hE4
  obtain ⟨cb4, fb4, lb4⟩ := hE4.kb
  unfold BookV.cells at cb4
  dsimp only at cb4
  clear hE4 cb fb lb cp fp lp c8 f8 l8 q0 q1 q2 qlt hjl
  gi_wp2_with fail
  refine ⟨trivial, rfl, ?_⟩
  refine (callsIn_wide.2 (eq0_1 (v' := (bookAt B g c j at_).val) (bookAt_val B g c j at_).symm (plans_calls _ _))).mono ?_
  rintro e w5 ⟨bB, rfl, kB, hle, hb⟩
  have hE5 := HE4.out.below hb
  have k6 := k64.below hb
  have k7 := k74.below hb
  have k8 := k84.below hb
  have HK5 := Lib.hid ((Keep.of_below (M := fun k => k = g) HbW.out).trans (hk4.trans (Keep.of_below hb)))
  have hgood := bookAt_good Hg.out hj (k := at_) (by omega) g c
  have hreads := bookAt_reads (c := c) HB.out hE5.old hj hE5.pb
  have hmk := HM.out.below hE5.old
  have hseq := plans_seq (bookAt B g c j at_) hgood w5 hreads hmk bB (fun _ => False) w5 (Below.refl _ _) kB (fun _ h => h.elim)
  have Hseq := Lib.hid hseq
  have HE5 := Lib.hid hE5
  have hltW : g < W.heap.size := Hlts.out.2.2.2.1
  clear hseq hgood hreads hmk hb hk4 k64 k74 k84 cb4 fb4 lb4 kB hE5
  have K62 := Lib.hid k6
  have K72 := Lib.hid k7
  have K82 := Lib.hid k8
  have h7 := k7.lt
  have hg5 := HE5.out.pb.lt
  gi_wp2_with fail
  refine wpIn_range_x (gf := 94) (lb := #[.pointer (some ⟨bB, 0, none⟩)]) rfl enters94
    Hseq.out (fun k => k = g ∨ k = W.heap.size + 1) (fun _ h => h.elim) (by rintro k (rfl | rfl); exact hg5; exact h7) (fun x vs W hE => by obtain ⟨A, c, rfl, _⟩ := hE; rfl)
    (fun pre W => pre = [] ∧ Keep (fun k => w5.heap.size ≤ k) w5 W) (fun co pre W' => co = .ret ∧ pre ≠ [] ∧ BoxAt W' (W.heap.size + 1) #[.int .i64 (findS (hasPlan B j) n at_ u)])
    (fun l s X Y r hl hr hk hI => ⟨hI.1, hI.2.trans (hk.mono fun k _ e => by omega)⟩)
    (fun s X Y hI hb => ⟨hI.1, hI.2.trans (Keep.of_below hb)⟩)
    (fun co l s X Y r hl hr hk hI => ⟨hI.1, hI.2.1, hI.2.2.keep hk (by omega)⟩) (fun co s X Y hI hb => ⟨hI.1, hI.2.1, hI.2.2.below hb⟩)
    ⟨rfl, Keep.refl _ _⟩ ?round ?done ?stop
  case stop =>
    rintro D co pre W6 hD hK hpr ⟨rfl, hne, hbx⟩ hd
    have hhas : hasPlan B j at_ = true := by
      unfold hasPlan
      rw [← allPlans_bookAt B g c j at_]
      cases h : allPlans (bookAt B g c j at_) with
      | nil => rw [h] at hpr; exact absurd (List.prefix_nil.1 hpr) hne
      | cons x l => rfl
    have hK6 : Keep (fun k => k = g ∨ W.heap.size ≤ k) W W6 := ((HK5.out.mono (M' := fun k => k = g ∨ W.heap.size ≤ k) fun k _ e => .inl e).trans (hK.mono fun k _ e => by have := HK5.out.size; rcases e with (h | h | h) | h <;> first | exact h.elim | exact .inl h | (exact .inr (by omega))))
    have Hd := Lib.hid hd
    have Hbx := Lib.hid hbx
    clear hd hbx
    gi_wp2
    refine ⟨by simp, .inl ⟨_, _, rfl, run_takeDeferred Hd.out, ?_⟩⟩
    obtain ⟨c9, f9, l9⟩ := Hbx.out.keep (Keep.putObj W6 D (.deferred none)) (by omega)
    refine ⟨.int .i64 (findS (hasPlan B j) n at_ u), by simp [results, Tryd.results80, go_sem, c9], by rw [Hres.out, if_pos hhas], ?_⟩
    exact (hK6.trans ((Keep.putObj W6 D (.deferred none)).mono fun k _ e => .inr (by have := HK5.out.size; omega))).mono fun k hk e => by rcases e with h | h; exact h; omega
  case done =>
    rintro D W6 hD hK ⟨hnil, hK6⟩ hd
    have hhas : hasPlan B j at_ = false := by
      unfold hasPlan
      rw [← allPlans_bookAt B g c j at_, hnil]; rfl
    have hE6 := HE5.out.keep hK6 (fun x hx => ⟨by have := HE5.out.old.size; omega, by omega, by have := HE5.out.kb.lt; omega, by have := HE5.out.kp.lt; omega, by have := HE5.out.kf.lt; omega⟩)
    have k76 := K72.out.keep hK6 (by omega)
    obtain ⟨c8, f8, l8⟩ := K82.out.keep hK6 (by have := K82.out.lt; omega)
    obtain ⟨cf, ff, lf⟩ := hE6.kf
    have HE6 := Lib.hid hE6
    have K76 := Lib.hid k76
    have Hd := Lib.hid hd
    have hw5 : IntKind.i64.wrap (at_ - 1) = at_ - 1 := wrap_in (by omega) (by omega)
    clear hE6 k76 hd
    gi_wp2_with fail
    refine ⟨trivial, rfl, ?_⟩
    refine (callsIn_wide.2 (IH f (at_ - 1) (by omega) (by omega) (by omega) (by omega) 0 at_ W6 HE6.out)).mono ?_
    rintro e W7 ⟨rfl, hk7⟩
    have hW7 : Keep (fun k => k = g ∨ W.heap.size ≤ k) W W7 := (HK5.out.mono (M' := fun k => k = g ∨ W.heap.size ≤ k) fun k _ e => .inl e).trans ((hK6.mono fun k _ e => by have := HK5.out.size; exact .inr (by omega)).trans (hk7.mono fun k _ e => .inl e))
    have k77 := K76.out.keep hk7 (by omega)
    have hset := k77.set1 (.int .i64 (findS (hasPlan B j) n f (at_ - 1)))
    have hW8 : Keep (fun k => k = g ∨ W.heap.size ≤ k) W (W7.setCell ⟨W.heap.size + 1, 0, none⟩ (.int .i64 (findS (hasPlan B j) n f (at_ - 1)))) := hW7.setCell (p := ⟨W.heap.size + 1, 0, none⟩) (.inl (.inr (by simp))) _
    have hd7 := hk7.block D (Array.getElem?_eq_some_iff.1 Hd.out).1 (by omega)
    have hd8 : (W7.setCell ⟨W.heap.size + 1, 0, none⟩ (.int .i64 (findS (hasPlan B j) n f (at_ - 1)))).heap[D]? = some (.deferred (some [])) := (Below.heap_setCell _ _ _ D (by show D ≠ W.heap.size + 1; omega)).trans (hd7.trans Hd.out)
    have Hset := Lib.hid hset
    have HW8 := Lib.hid hW8
    have Hd8 := Lib.hid hd8
    obtain ⟨c7, f7, l7⟩ := k77
    clear hset hW8 hW7 hk7 hd7 hd8 c8 f8 l8 cf ff lf
    gi_wp2
    refine ⟨by simp, .inl ⟨_, _, rfl, run_takeDeferred Hd8.out, ?_⟩⟩
    obtain ⟨c9, f9, l9⟩ := Hset.out.keep (Keep.putObj _ D (.deferred none)) (by omega)
    refine ⟨.int .i64 (findS (hasPlan B j) n f (at_ - 1)), by simp [results, Tryd.results80, go_sem, c9], by rw [Hres.out, if_neg (by rw [hhas]; simp)], ?_⟩
    exact (HW8.out.trans ((Keep.putObj _ D (.deferred none)).mono fun k _ e => .inr (by have := HK5.out.size; omega))).mono fun k hk e => by rcases e with h | h; exact h; omega
  case round =>
    rintro l pre x rest vs W6 hxs hl hle ⟨rfl, hK⟩ hE
    obtain ⟨A, cc, rfl, _⟩ := hE
    gi_wp2
    refine ⟨Keep.refl _ _, ?_⟩
    rintro W7 r hlr hk2
    have hK7 : Keep (fun k => w5.heap.size ≤ k) w5 W7 := hK.trans (hk2.mono fun k _ e => by omega)
    have hE7 := HE5.out.keep hK7 (fun x hx => ⟨by have := HE5.out.old.size; omega, by omega, by have := HE5.out.kb.lt; omega, by have := HE5.out.kp.lt; omega, by have := HE5.out.kf.lt; omega⟩)
    have K77 := Lib.hid (K72.out.keep hK7 (by omega))
    obtain ⟨c8, f8, l8⟩ := K82.out.keep hK7 (by have := K82.out.lt; omega)
    obtain ⟨c6, f6, l6⟩ := K62.out.keep hK7 (by have := K62.out.lt; omega)
    obtain ⟨cf, ff, lf⟩ := hE7.kf
    have HE7 := Lib.hid hE7
    clear hE7 hk2 hlr hxs
    gi_wp2_with fail
    refine ⟨trivial, rfl, ?_⟩
    refine ((callsIn_wide.2 (IH at_ u (by omega) (by omega) (by omega) (by omega) 0 at_ W7 HE7.out)).inRound l).mono ?_
    rintro e W8 ⟨rfl, hk8⟩
    have k78 := K77.out.keep hk8 (by omega)
    have hset := k78.set1 (.int .i64 (findS (hasPlan B j) n at_ u))
    have hK8 : Keep (fun k => k = g ∨ k = W.heap.size + 1) W7 (W8.setCell ⟨W.heap.size + 1, 0, none⟩ (.int .i64 (findS (hasPlan B j) n at_ u))) := (hk8.mono (M' := fun k => k = g ∨ k = W.heap.size + 1) fun k _ e => .inl e).setCell (p := ⟨W.heap.size + 1, 0, none⟩) (.inl (.inr rfl)) _
    have Hset := Lib.hid hset
    have HK8 := Lib.hid hK8
    obtain ⟨c7, f7, l7⟩ := k78
    clear hset hK8 hk8 c8 f8 l8 c6 f6 l6 cf ff lf
    gi_wp2
    exact ⟨HK8.out, rfl, by simp, Hset.out⟩
theorem find_calls (B : BookV) (gd : B.Good) (w0 : World) (hB : B.Reads w0) (hM : MarksAt w0) (g c j bb bp bf : Nat) (hj : j < B.players.length) (hg : w0.heap.size ≤ g) (hbs : w0.heap.size ≤ bb ∧ w0.heap.size ≤ bp ∧ w0.heap.size ≤ bf ∧ bb ≠ g ∧ bp ≠ g ∧ bf ≠ g) : ∀ n, FindCall B w0 g c j bb bp bf n
  | 0 => by
    intro f u h0 hfu h5 hn lo hi W _
    obtain rfl : f = u := by omega
    exact find_same B w0 g c j bb bp bf 0 f W
  | n + 1 => find_succ B gd w0 hB hM g c j bb bp bf hj hg hbs n (find_calls B gd w0 hB hM g c j bb bp bf hj hg hbs n)
end
end Go.Proofs.YtljikigmfkfkiaaDoor
namespace Go.Proofs.YtljikigmfkfkiaaDoor
section
open Go.RowKit Go.Shelf
attribute [local go_sem] Oper.semAt_some
set_option linter.unusedSimpArgs false
set_option linter.unusedVariables false
def two (a b : Int) : Value := .tuple #[.int .i64 a, .int .i64 b]
theorem two_store {w : World} {b4 b5 : Nat} {x y : Value} (h4 : BoxAt w b4 #[x]) (h5 : BoxAt w b5 #[y]) (hne : b4 ≠ b5) (a c : Value) :
    BoxAt ((w.setCell ⟨b4, 0, none⟩ a).setCell ⟨b5, 0, none⟩ c) b4 #[a] ∧ BoxAt ((w.setCell ⟨b4, 0, none⟩ a).setCell ⟨b5, 0, none⟩ c) b5 #[c] ∧ Keep (fun k => k = b4 ∨ k = b5) w ((w.setCell ⟨b4, 0, none⟩ a).setCell ⟨b5, 0, none⟩ c) := by
  have h1 := h4.set1 a
  have k1 : Keep (fun k => k = b4) w (w.setCell ⟨b4, 0, none⟩ a) := Keep.setCell (M := fun k => k = b4) (Keep.refl _ _) (p := ⟨b4, 0, none⟩) (.inl rfl) a
  have h2 := (h5.keep k1 (fun e => hne e.symm)).set1 c
  have k2 : Keep (fun k => k = b5) (w.setCell ⟨b4, 0, none⟩ a) ((w.setCell ⟨b4, 0, none⟩ a).setCell ⟨b5, 0, none⟩ c) := Keep.setCell (M := fun k => k = b5) (Keep.refl _ _) (p := ⟨b5, 0, none⟩) (.inl rfl) c
  exact ⟨h1.keep k2 hne, h2, (k1.mono fun _ _ e => .inl e).trans (k2.mono fun _ _ e => .inr e)⟩
/-- what Bound returns -/
def boundR (B : BookV) (player : Int) : Value :=
  bif goodB B then (bif inB player 0 (B.players.length - 1) then (bif hasPlan B player.toNat 0 then two (findS (hasPlan B player.toNat) 500 0 500) 0 else two 0 4) else two 0 81) else two 0 80
set_option maxRecDepth 100000 in
set_option maxHeartbeats 4000000 in
theorem Bound_calls (B : BookV) (player : Int) (w : World) (hB : B.Reads w) (hM : MarksAt w) :
    Calls Tryd.prog 32 #[B.val, .int .i64 player] w fun e w' => e = .returned (boundR B player) ∧ Below w.heap.size w w' := by
  have HB := Lib.hid hB
  have HM := Lib.hid hM
  clear hB hM
  have Hb : Below w.heap.size w ((((w.alloc (.cells B.cells 27)).alloc (.cells #[.int .i64 player] 3)).alloc (.cells #[.int .i64 0] 3)).alloc (.cells #[.int .i64 0] 29)) :=
    ((((Below.refl _ _).alloc (Nat.le_refl _) _).alloc (by simp) _).alloc (by simp; omega) _).alloc (by simp; omega) _
  have k3 := ((BoxAt.new (w.alloc (.cells B.cells 27)) #[.int .i64 player] 3).alloc (.cells #[.int .i64 0] 3)).alloc (.cells #[.int .i64 0] 29)
  have k4 := (BoxAt.new ((w.alloc (.cells B.cells 27)).alloc (.cells #[.int .i64 player] 3)) #[.int .i64 0] 3).alloc (.cells #[.int .i64 0] 29)
  have k5 := BoxAt.new (((w.alloc (.cells B.cells 27)).alloc (.cells #[.int .i64 player] 3)).alloc (.cells #[.int .i64 0] 3)) #[.int .i64 0] 29
  simp only [World.size_alloc] at k3 k4 k5
  have hask := asked_calls B _ (HB.out.below Hb) 78 #[.pointer (some ⟨w.heap.size + 1, 0, none⟩)] (inB player 0 (B.players.length - 1)) enters78
    (fun hg w' hw => Bound1_calls B ((goodB_iff B).1 hg) player _ w' (k3.below hw))
  have Hask := Lib.hid hask
  have K3 := Lib.hid k3
  have K4 := Lib.hid k4
  have K5 := Lib.hid k5
  clear hask k3 k4 k5
  have hcase : (∃ n, boundR B player = two 0 n ∧ askR B (inB player 0 (B.players.length - 1)) = .tuple #[zB, .int .i64 n] ∧ n ≠ 0) ∨ (goodB B = true ∧ inB player 0 (B.players.length - 1) = true) := by
    rcases chain2 (goodB B) (inB player 0 (B.players.length - 1)) with hg | ⟨hg, hi⟩ | ⟨hg, hi⟩
    · exact .inl ⟨80, by simp [boundR, hg], by simp [askR, hg], by simp⟩
    · exact .inl ⟨81, by simp [boundR, hg, hi], by simp [askR, hg, hi], by simp⟩
    · exact .inr ⟨hg, hi⟩
  rcases hcase with ⟨n, hr, ha, hn⟩ | ⟨hg, hi⟩
  · have Ha := Lib.hid ha
    have Hr := Lib.hid hr
    clear ha hr
    unfold BookV.val BookV.cells
    go_enter Tryd.func32, Tryd.ntmps32
    go_wp2_with fail
    refine (eq0_2 (v' := B.val) rfl Hask.out).mono ?_
    rintro e w1 ⟨rfl, hb⟩
    rw [Ha.out]
    have H1 := below_then Hb (by simp; omega) hb
    obtain ⟨hs4, hs5, hk45⟩ := two_store (K4.out.below hb) (K5.out.below hb) (by omega) (.int .i64 0) (.int .i64 n)
    have hfin : Below w.heap.size w _ := H1.trans (hk45.below (fun k _ e => by omega) H1.size)
    have Hfin := Lib.hid (hfin.alloc hfin.size (.cells zC 78))
    have Hs4 := Lib.hid (hs4.alloc (.cells zC 78))
    have Hs5 := Lib.hid (hs5.alloc (.cells zC 78))
    clear hs4 hs5 hk45 hfin
    obtain ⟨c4, f4, l4⟩ := K4.out.below hb
    obtain ⟨c5, f5, l5⟩ := K5.out.below hb
    clear hb
    unfold zB
    go_wp2
    obtain ⟨c6, f6, l6⟩ := Hs4.out
    obtain ⟨c7, f7, l7⟩ := Hs5.out
    unfold zC at c6 c7
    exact bodyPost_ret (v := two 0 n) (by simp [results, Tryd.results32, go_sem, c6, c7, two]) rfl ⟨by rw [Hr.out], Hfin.out⟩
  · have g := (goodB_iff B).1 hg
    have hin := inB_iff.1 hi
    obtain ⟨j, rfl⟩ := Int.eq_ofNat_of_zero_le hin.1
    have hj : j < B.players.length := by omega
    have hr : boundR B j = bif hasPlan B j 0 then two (findS (hasPlan B j) 500 0 500) 0 else two 0 4 := by simp [boundR, hg, hi]
    have ha : askR B (inB j 0 (B.players.length - 1)) = .tuple #[B.val, .int .i64 0] := by simp [askR, hg, hi]
    obtain ⟨pb, po, hA⟩ := HB.out.2.some_ (show 0 < B.players.length by omega)
    have hm := g.many
    have hji : (j : Int) < B.players.length := by omega
    have Ha := Lib.hid ha
    have Hr := Lib.hid hr
    have Hg := Lib.hid g
    have HA := Lib.hid hA
    clear ha hr g hg hi hin hA
    unfold BookV.val BookV.cells
    refine (callsIn_wide (n := 0)).1 ?_
    refine callsIn_of_wp_marks Tryd.func32 rfl trivial ?_ rfl
    simp only [Tryd.ntmps32, List.size_toArray, List.length_cons, List.length_nil, Nat.reduceAdd, Nat.reduceSub, Array.replicate_succ, Array.replicate_zero, List.push_toArray, List.append_toArray, List.nil_append, List.cons_append]
    gi_wp2_with fail
    refine ⟨trivial, rfl, ?_⟩
    refine (callsIn_wide.2 (eq0_2 (v' := B.val) rfl Hask.out)).mono ?_
    rintro e w1 ⟨rfl, hb⟩
    rw [Ha.out]
    have H1 := below_then Hb (by simp; omega) hb
    have k3 := (K3.out.below hb).alloc (.cells B.cells 78)
    have k4 := (K4.out.below hb).alloc (.cells B.cells 78)
    have k5 := (K5.out.below hb).alloc (.cells B.cells 78)
    have k6 := BoxAt.new w1 B.cells 78
    have H2 : Below w.heap.size w (w1.alloc (.cells B.cells 78)) := H1.alloc H1.size _
    have hl5 := (K5.out.below hb).lt
    clear hb
    unfold BookV.val BookV.cells
    gi_upto_region 4 with (fail)
    unfold BookV.cells at k3 k4 k5 k6 H2
    generalize hbb : w1.heap.size = bb at *
    generalize w1.alloc _ = W2 at *
    have K32 := Lib.hid k3
    have K42 := Lib.hid k4
    have K52 := Lib.hid k5
    have K62 := Lib.hid k6
    obtain ⟨c6, f6, l6⟩ := k6
    have hs1 : w.heap.size + 1 + 1 + 1 < bb := by omega
    clear k3 k4 k5 H1 hbb
    gi_wp2_with fail
    rw [HA.out]
    refine ⟨trivial, rfl, ?_⟩
    refine (callsIn_wide.2 (Clone_calls pb po B.pCap B.players hm W2 (by rw [← HA.out]; exact (HB.out.below H2).2))).mono ?_
    rintro e w3 ⟨g, c', rfl, hc', hcm, hPB, hgle, hb⟩
    have k6 := K62.out.below hb
    have h6 := k6.put 10 (.slice (some ⟨g, 0, none⟩) B.players.length c') (by simp)
    have h6c : BoxAt (w3.setCell ⟨bb, 10, none⟩ (.slice (some ⟨g, 0, none⟩) B.players.length c')) bb { B with pA := some ⟨g, 0, none⟩, pCap := c' : BookV }.cells := by
      simpa [BookV.cells] using h6
    have hkb : Keep (fun k => k = bb) w3 (w3.setCell ⟨bb, 10, none⟩ (.slice (some ⟨g, 0, none⟩) B.players.length c')) := Keep.setCell (M := fun k => k = bb) (Keep.refl _ _) (p := ⟨bb, 10, none⟩) (.inl rfl) _
    have hs2 := H2.size
    have h62 := K62.out.lt
    have H3 : Below w.heap.size w w3 := below_then H2 H2.size hb
    have h3 := (K32.out.below hb).keep hkb (by omega)
    have h4 := (K42.out.below hb).keep hkb (by omega)
    have h5 := (K52.out.below hb).keep hkb (by omega)
    have hp3 := hPB.keep hkb (by omega)
    have hH3 : Below w.heap.size w _ := H3.trans (hkb.below (fun k _ e => by omega) H3.size)
    have hg3 : g < w3.heap.size := hPB.lt
    have hsz3 : (w3.setCell ⟨bb, 10, none⟩ (.slice (some ⟨g, 0, none⟩) B.players.length c')).heap.size = w3.heap.size := by simp [World.setCell]
    obtain ⟨c62, f62, l62⟩ := k6
    have H33 := Lib.hid h3
    have H43 := Lib.hid h4
    have H53 := Lib.hid h5
    have HP3 := Lib.hid hp3
    have H6c := Lib.hid h6c
    have HH3 := Lib.hid hH3
    have Hsz3 := Lib.hid hsz3
    clear h3 h4 h5 hp3 h6c h6 hkb hH3 hPB hb c6 f6 l6 hsz3
    gi_upto_region 5 with (fail)
    generalize World.setCell _ _ _ = W3 at *
    clear c62 f62 l62
    gi_upto_region 7 with (fail)
    have kf := BoxAt.new W3 #[.func (.func 80) #[] #[.pointer (some ⟨bb, 0, none⟩), .pointer (some ⟨w.heap.size + 1, 0, none⟩), .pointer (some ⟨W3.heap.size, 0, none⟩)]] 60
    have hW5 : Below W3.heap.size W3 (W3.alloc (.cells #[.func (.func 80) #[] #[.pointer (some ⟨bb, 0, none⟩), .pointer (some ⟨w.heap.size + 1, 0, none⟩), .pointer (some ⟨W3.heap.size, 0, none⟩)]] 60)) := (Below.refl _ _).alloc (Nat.le_refl _) _
    have hE5 : FEnv B w g c' j bb (w.heap.size + 1) W3.heap.size (gp B.players j).lo (gp B.players j).hi (W3.alloc (.cells #[.func (.func 80) #[] #[.pointer (some ⟨bb, 0, none⟩), .pointer (some ⟨w.heap.size + 1, 0, none⟩), .pointer (some ⟨W3.heap.size, 0, none⟩)]] 60)) :=
      ⟨below_then HH3.out HH3.out.size hW5, H6c.out.below hW5, H33.out.below hW5, kf, by rw [setL_self _ _ hj]; exact HP3.out.below hW5⟩
    have H45 := Lib.hid (H43.out.below hW5)
    have H55 := Lib.hid (H53.out.below hW5)
    generalize W3.alloc _ = W5 at *
    have HE5 := Lib.hid hE5
    have hjl : j < (setL B.players j (gp B.players j).lo (gp B.players j).hi).length := by rw [setL_len]; exact hj
    obtain ⟨q0, q1, q2⟩ := hE5.pb.at_ hjl
    have qlt := hE5.pb.lt
    obtain ⟨cb, fb, lb⟩ := hE5.kb
    obtain ⟨cp, fp, lp⟩ := hE5.kp
    unfold BookV.cells at cb
    dsimp only at cb
    have hg3' : g < W3.heap.size := by have := Hsz3.out; omega
    have hW5s : W3.heap.size < W5.heap.size := kf.lt
    clear kf hW5 hE5
    gi_upto_region 8 with (fail)
    have hk4 : Keep (fun k => k = g) W5 ((W5.setCell ⟨g, j * 3, none⟩ (.int .i64 0)).setCell ⟨g, j * 3 + 1, none⟩ (.int .i64 0)) :=
      Keep.setCell (M := fun k => k = g) (Keep.setCell (M := fun k => k = g) (Keep.refl _ _) (p := ⟨g, j * 3, none⟩) (.inl rfl) _) (p := ⟨g, j * 3 + 1, none⟩) (.inl rfl) _
    have hE6 : FEnv B w g c' j bb (w.heap.size + 1) W3.heap.size 0 0 ((W5.setCell ⟨g, j * 3, none⟩ (.int .i64 0)).setCell ⟨g, j * 3 + 1, none⟩ (.int .i64 0)) := by
      refine ⟨HE5.out.old.trans (hk4.below (fun k _ e => by omega) HE5.out.old.size), HE5.out.kb.keep hk4 (by omega), HE5.out.kp.keep hk4 (by omega), HE5.out.kf.keep hk4 (by omega), ?_⟩
      have h := HE5.out.pb.set j hjl 0 0
      rwa [setL_set _ _ _ _ _ _ hj] at h
    have k46 := H45.out.keep hk4 (by omega)
    have k56 := H55.out.keep hk4 (by omega)
    generalize World.setCell _ _ _ = W6 at *
    have HE6 := Lib.hid hE6
    obtain ⟨cb4, fb4, lb4⟩ := hE6.kb
    unfold BookV.cells at cb4
    dsimp only at cb4
    clear hE6 cb fb lb cp fp lp q0 q1 q2 qlt hjl
    gi_wp2_with fail
    refine ⟨trivial, rfl, ?_⟩
    refine (callsIn_wide.2 (eq0_1 (v' := (bookAt B g c' j 0).val) (bookAt_val B g c' j 0).symm (plans_calls _ _))).mono ?_
    rintro e w7 ⟨bB, rfl, kB, hle, hb⟩
    have hE7 := HE6.out.below hb
    have k4 := k46.below hb
    have k5 := k56.below hb
    have hgood := bookAt_good Hg.out hj (k := 0) (by omega) g c'
    have hreads := bookAt_reads (c := c') HB.out hE7.old hj hE7.pb
    have hmk := HM.out.below hE7.old
    have hseq := plans_seq (bookAt B g c' j 0) hgood w7 hreads hmk bB (fun _ => False) w7 (Below.refl _ _) kB (fun _ h => h.elim)
    have Hseq := Lib.hid hseq
    have HE7 := Lib.hid hE7
    have K47 := Lib.hid k4
    have K57 := Lib.hid k5
    have hg7 := hE7.pb.lt
    have h47 := k4.lt
    have h57 := k5.lt
    have hb7 := hE7.kb.lt
    have hp7 := hE7.kp.lt
    have hf7 := hE7.kf.lt
    have ho7 := hE7.old.size
    clear hseq hgood hreads hmk hb hk4 k46 k56 cb4 fb4 lb4 kB hE7 k4 k5
    gi_wp2_with fail
    refine wpIn_range_x (gf := 94) (lb := #[.pointer (some ⟨bB, 0, none⟩)]) rfl enters94
      Hseq.out (fun k => k = g ∨ k = w.heap.size + 1 + 1 ∨ k = w.heap.size + 1 + 1 + 1) (fun _ h => h.elim) (by rintro k (rfl | rfl | rfl); exact hg7; exact h47; exact h57) (fun x vs W hE => by obtain ⟨A, c, rfl, _⟩ := hE; rfl)
      (fun pre W => pre = [] ∧ Keep (fun k => w7.heap.size ≤ k) w7 W) (fun co pre W' => co = .ret ∧ pre ≠ [] ∧ BoxAt W' (w.heap.size + 1 + 1) #[.int .i64 (findS (hasPlan B j) 500 0 500)] ∧ BoxAt W' (w.heap.size + 1 + 1 + 1) #[.int .i64 0])
      (fun l s X Y r hl hr hk hI => ⟨hI.1, hI.2.trans (hk.mono fun k _ e => by omega)⟩)
      (fun s X Y hI hb => ⟨hI.1, hI.2.trans (Keep.of_below hb)⟩)
      (fun co l s X Y r hl hr hk hI => ⟨hI.1, hI.2.1, hI.2.2.1.keep hk (by omega), hI.2.2.2.keep hk (by omega)⟩) (fun co s X Y hI hb => ⟨hI.1, hI.2.1, hI.2.2.1.below hb, hI.2.2.2.below hb⟩)
      ⟨rfl, Keep.refl _ _⟩ ?round ?done ?stop
    case stop =>
      rintro D co pre W8 hD hK hpr ⟨rfl, hne, hbx4, hbx5⟩ hd
      have hhas : hasPlan B j 0 = true := by
        unfold hasPlan
        rw [← allPlans_bookAt B g c' j 0]
        cases h : allPlans (bookAt B g c' j 0) with
        | nil => rw [h] at hpr; exact absurd (List.prefix_nil.1 hpr) hne
        | cons x l => rfl
      have hb8 : Below w.heap.size w W8 := HE7.out.old.trans (hK.below (fun k _ e => by rcases e with (h | h | h | h) | h; exact h.elim; all_goals omega) ho7)
      have Hd := Lib.hid hd
      have Hbx4 := Lib.hid hbx4
      have Hbx5 := Lib.hid hbx5
      clear hd hbx4 hbx5 hK
      gi_wp2
      refine ⟨by simp, .inl ⟨_, _, rfl, run_takeDeferred Hd.out, ?_⟩⟩
      obtain ⟨c9, f9, l9⟩ := Hbx4.out.keep (Keep.putObj W8 D (.deferred none)) (by omega)
      obtain ⟨c10, f10, l10⟩ := Hbx5.out.keep (Keep.putObj W8 D (.deferred none)) (by omega)
      refine ⟨two (findS (hasPlan B j) 500 0 500) 0, by simp [results, Tryd.results32, go_sem, c9, c10, two], by rw [Hr.out, hhas, cond_true], ?_⟩
      exact hb8.trans ((Keep.putObj _ _ _).below (fun k _ e => by omega) hb8.size)
    case done =>
      rintro D W8 hD hK ⟨hnil, hK8⟩ hd
      have hhas : hasPlan B j 0 = false := by
        unfold hasPlan
        rw [← allPlans_bookAt B g c' j 0, hnil]; rfl
      have hb8 : Below w.heap.size w W8 := HE7.out.old.trans (hK8.below (fun k _ e => by omega) ho7)
      have k48 := K47.out.keep hK8 (by omega)
      have k58 := K57.out.keep hK8 (by omega)
      obtain ⟨hs4, hs5, hk45⟩ := two_store k48 k58 (by omega) (.int .i64 0) (.int .i64 4)
      have hb9 : Below w.heap.size w _ := hb8.trans (hk45.below (fun k _ e => by omega) hb8.size)
      have hd9 := (hk45.block D (Array.getElem?_eq_some_iff.1 hd).1 (by omega)).trans hd
      have Hs4 := Lib.hid hs4
      have Hs5 := Lib.hid hs5
      have Hb9 := Lib.hid hb9
      have Hd9 := Lib.hid hd9
      obtain ⟨c4, f4, l4⟩ := k48
      obtain ⟨c5, f5, l5⟩ := k58
      clear hs4 hs5 hk45 hb9 hd9 hd hK
      gi_wp2
      refine ⟨by simp, .inl ⟨_, _, rfl, run_takeDeferred Hd9.out, ?_⟩⟩
      obtain ⟨c9, f9, l9⟩ := Hs4.out.keep (Keep.putObj _ D (.deferred none)) (by omega)
      obtain ⟨c10, f10, l10⟩ := Hs5.out.keep (Keep.putObj _ D (.deferred none)) (by omega)
      refine ⟨two 0 4, by simp [results, Tryd.results32, go_sem, c9, c10, two], by rw [Hr.out, hhas, cond_false], ?_⟩
      exact Hb9.out.trans ((Keep.putObj _ _ _).below (fun k _ e => by omega) Hb9.out.size)
    case round =>
      rintro l pre x rest vs W8 hxs hl hle ⟨rfl, hK⟩ hE
      obtain ⟨A, cc, rfl, _⟩ := hE
      gi_wp2
      refine ⟨Keep.refl _ _, ?_⟩
      rintro W9 r hlr hk2
      have hK9 : Keep (fun k => w7.heap.size ≤ k) w7 W9 := hK.trans (hk2.mono fun k _ e => by omega)
      have hE9 := HE7.out.keep hK9 (fun x hx => ⟨by omega, by omega, by omega, by omega, by omega⟩)
      have K49 := Lib.hid (K47.out.keep hK9 (by omega))
      have K59 := Lib.hid (K57.out.keep hK9 (by omega))
      obtain ⟨cf, ff, lf⟩ := hE9.kf
      have HE9 := Lib.hid hE9
      clear hE9 hk2 hlr hxs
      gi_wp2_with fail
      refine ⟨trivial, rfl, ?_⟩
      refine ((callsIn_wide.2 (find_calls B Hg.out w HB.out HM.out g c' j bb (w.heap.size + 1) W3.heap.size hj (by omega) ⟨by omega, by omega, by omega, by omega, by omega, by omega⟩ 500 0 500 (by omega) (by omega) (by omega) (by omega) 0 0 W9 HE9.out)).inRound l).mono ?_
      rintro e W10 ⟨rfl, hk10⟩
      have k410 := K49.out.keep hk10 (by omega)
      have k510 := K59.out.keep hk10 (by omega)
      obtain ⟨hs4, hs5, hk45⟩ := two_store k410 k510 (by omega) (.int .i64 (findS (hasPlan B j) 500 0 500)) (.int .i64 0)
      have Hs4 := Lib.hid hs4
      have Hs5 := Lib.hid hs5
      have HK := Lib.hid ((hk10.mono (M' := fun k => k = g ∨ k = w.heap.size + 1 + 1 ∨ k = w.heap.size + 1 + 1 + 1) fun k _ e => .inl e).trans (hk45.mono fun k _ e => .inr e))
      obtain ⟨c4, f4, l4⟩ := k410
      obtain ⟨c5, f5, l5⟩ := k510
      clear hs4 hs5 hk45 hk10 cf ff lf
      gi_wp2
      exact ⟨HK.out, rfl, by simp, Hs4.out, Hs5.out⟩
end
end Go.Proofs.YtljikigmfkfkiaaDoor
