import Derived.Test.YtljikigmfkfkiaaDoorAT
import Derived.Maps.AppendAt
namespace Go.Proofs.YtljikigmfkfkiaaDoor
open Go.RowKit Go.Shelf
set_option linter.unusedSimpArgs false
set_option linter.unusedVariables false

/-! The book whose players all do the one end of what they can. -/
def ecs (hi : Bool) (cs : List (Int × Int)) : List (Int × Int) := cs.map fun c => (endOf (!hi) c.1 c.2, endOf (!hi) c.1 c.2)
theorem ecs_len (hi : Bool) (cs : List (Int × Int)) : (ecs hi cs).length = cs.length := by simp [ecs]
theorem gs_ecs (hi : Bool) (cs : List (Int × Int)) {k : Nat} (h : k < cs.length) : gs (ecs hi cs) k = (endOf (!hi) (gs cs k).1 (gs cs k).2, endOf (!hi) (gs cs k).1 (gs cs k).2) := by
  unfold gs ecs
  rw [List.getD_eq_getElem?_getD, List.getElem?_map, List.getElem?_eq_getElem h, List.getD_eq_getElem?_getD, List.getElem?_eq_getElem h]
  rfl
theorem ecs_take_succ (hi : Bool) (cs : List (Int × Int)) {k : Nat} (h : k < cs.length) : (ecs hi cs).take (k + 1) = (ecs hi cs).take k ++ [(endOf (!hi) (gs cs k).1 (gs cs k).2, endOf (!hi) (gs cs k).1 (gs cs k).2)] := by
  have hl : k < (ecs hi cs).length := by rw [ecs_len]; exact h
  rw [List.take_add_one, List.getElem?_eq_getElem hl, ← gs_ecs hi cs h]
  unfold gs
  rw [List.getD_eq_getElem?_getD, List.getElem?_eq_getElem hl]; rfl
/-- the first players of the book at one end -/
def EdgeOf (hi : Bool) (l ps : List PlayerV) (n : Nat) : Prop :=
  ps.length = n ∧ ∀ j, j < n → (gp ps j).lo = endOf hi (gp l j).lo (gp l j).hi ∧ (gp ps j).hi = endOf hi (gp l j).lo (gp l j).hi ∧ (gp ps j).catches = ecs hi (gp l j).catches
theorem gp_snoc_lt (l : List PlayerV) (p : PlayerV) {j : Nat} (h : j < l.length) : gp (l ++ [p]) j = gp l j := by
  unfold gp; rw [List.getD_eq_getElem?_getD, List.getElem?_append_left h, ← List.getD_eq_getElem?_getD]
theorem gp_snoc_at (l : List PlayerV) (p : PlayerV) : gp (l ++ [p]) l.length = p := by
  unfold gp; rw [List.getD_eq_getElem?_getD, List.getElem?_append_right (Nat.le_refl _)]; simp
theorem EdgeOf.snoc {hi : Bool} {l ps : List PlayerV} {n : Nat} (h : EdgeOf hi l ps n) (A : Option Addr) (c : Nat) :
    EdgeOf hi l (ps ++ [⟨endOf hi (gp l n).lo (gp l n).hi, endOf hi (gp l n).lo (gp l n).hi, A, c, ecs hi (gp l n).catches⟩]) (n + 1) := by
  obtain ⟨h1, h2⟩ := h
  refine ⟨by simp [h1], fun j hj => ?_⟩
  by_cases hl : j < n
  · rw [gp_snoc_lt _ _ (by omega)]; exact h2 j hl
  · obtain rfl : j = n := by omega
    have := gp_snoc_at ps ⟨endOf hi (gp l j).lo (gp l j).hi, endOf hi (gp l j).lo (gp l j).hi, A, c, ecs hi (gp l j).catches⟩
    rw [h1] at this
    rw [this]
    exact ⟨rfl, rfl, rfl⟩
def bookEdge (B : BookV) (hi : Bool) (A : Option Addr) (c : Nat) (ps : List PlayerV) : BookV := { B with slo := endOf hi B.slo B.shi, shi := endOf hi B.slo B.shi, pA := A, pCap := c, players := ps }
theorem endOf_bd {hi : Bool} {a b x y : Int} (h1 : x ≤ a) (h2 : a ≤ b) (h3 : b ≤ y) : x ≤ endOf hi a b ∧ endOf hi a b ≤ y := by
  cases hi <;> simp only [endOf, cond_true, cond_false] <;> omega
theorem bookEdge_good {B : BookV} (g : B.Good) {hi : Bool} {A : Option Addr} {c : Nat} {ps : List PlayerV} (h : EdgeOf hi B.players ps B.players.length) : (bookEdge B hi A c ps).Good := by
  obtain ⟨hl, h⟩ := h
  refine ⟨g.parts, g.size, g.beatsLen, g.start, g.fin, g.time, ?_, g.notice, by show 1 ≤ ps.length ∧ ps.length ≤ 5; rw [hl]; exact g.many, g.beats, ?_, ?_, ?_⟩
  · have := endOf_bd (hi := hi) g.slip.1 g.slip.2.1 g.slip.2.2
    exact ⟨this.1, Int.le_refl _, this.2⟩
  · intro j hj
    have hj' : j < B.players.length := by rw [← hl]; exact hj
    obtain ⟨h1, h2, _⟩ := h j hj'
    have g1 := g.late j hj'
    have := endOf_bd (hi := hi) g1.1 g1.2.1 g1.2.2
    show 0 ≤ (gp ps j).lo ∧ (gp ps j).lo ≤ (gp ps j).hi ∧ (gp ps j).hi ≤ 500
    rw [h1, h2]
    exact ⟨this.1, Int.le_refl _, this.2⟩
  · intro j hj
    have hj' : j < B.players.length := by rw [← hl]; exact hj
    show (gp ps j).catches.length = 4
    rw [(h j hj').2.2, ecs_len]; exact g.catchLen j hj'
  · intro j hj k hk
    have hj' : j < B.players.length := by rw [← hl]; exact hj
    show 0 ≤ (gs (gp ps j).catches k).1 ∧ (gs (gp ps j).catches k).1 ≤ (gs (gp ps j).catches k).2 ∧ (gs (gp ps j).catches k).2 ≤ 100
    rw [(h j hj').2.2, gs_ecs hi _ (by rw [g.catchLen j hj']; exact hk)]
    have g1 := g.catches j hj' k hk
    have := endOf_bd (hi := !hi) g1.1 g1.2.1 g1.2.2
    exact ⟨this.1, Int.le_refl _, this.2⟩
theorem endOf_same (b : Bool) (x : Int) : endOf b x x = x := by cases b <;> rfl
theorem edge_late {B : BookV} (g : B.Good) {hi : Bool} {A : Option Addr} {c : Nat} {ps : List PlayerV} (h : EdgeOf hi B.players ps B.players.length) {path : List Int} (hr : ∀ k, 0 ≤ gi path k ∧ gi path k ≤ 3) {j : Nat} (hj : j < B.players.length) (b : Bool) :
    ∀ k, lateTo (bookEdge B hi A c ps) path (gp ps j) b k = lateTo B path (gp B.players j) hi k
  | 0 => by
    obtain ⟨h1, h2, _⟩ := h.2 j hj
    simp only [lateTo, h1, h2, endOf_same]
  | k + 1 => by
    have ih := edge_late g h (A := A) (c := c) hr hj b k
    have hs : slipAt (bookEdge B hi A c ps) path b k = slipAt B path hi k := by
      unfold slipAt
      show (if k % B.size.toNat = 0 ∧ 0 < partOf B.size k ∧ gi path (partOf B.size k) ≠ gi path (partOf B.size k - 1) then endOf b (endOf hi B.slo B.shi) (endOf hi B.slo B.shi) else 0) = _
      rw [endOf_same]
    have hc : catchAt (bookEdge B hi A c ps) path (gp ps j) b k = catchAt B path (gp B.players j) hi k := by
      unfold catchAt
      show endOf (!b) (gs (gp ps j).catches (gi path (partOf B.size k)).toNat).1 (gs (gp ps j).catches (gi path (partOf B.size k)).toNat).2 = _
      have := hr (partOf B.size k)
      rw [(h.2 j hj).2.2, gs_ecs hi _ (by rw [g.catchLen j hj]; omega), endOf_same]
    simp only [lateTo, ih, hs, hc]
theorem edge_plan {B : BookV} (g : B.Good) {A : Option Addr} {c : Nat} {ps : List PlayerV} (h : EdgeOf true B.players ps B.players.length) {path : List Int} (hr : ∀ k, 0 ≤ gi path k ∧ gi path k ≤ 3) : isPlanS (bookEdge B true A c ps) path = isPlanS B path := by
  have ht : ∀ k, timeTo (bookEdge B true A c ps) path k = timeTo B path k := by
    intro k
    induction k with
    | zero => rfl
    | succ k ih => simp only [timeTo, ih]; rfl
  have hl : ∀ j, lastAt (bookEdge B true A c ps) path ps.length j = lastAt B path B.players.length j := by
    intro j
    unfold lastAt
    rw [h.1]
    by_cases hj : j < B.players.length
    · rw [if_pos hj, if_pos hj]
      exact edge_late g h hr hj true _
    · rw [if_neg hj, if_neg hj]
  unfold isPlanS noneLate
  rw [ht]
  show (decide (gi path (path.length - 1) = B.fin) && (inB (timeTo B path path.length) B.tlo B.thi && (decide (lastAt (bookEdge B true A c ps) path ps.length 0 = 0) && (decide (lastAt (bookEdge B true A c ps) path ps.length 1 = 0) && (decide (lastAt (bookEdge B true A c ps) path ps.length 2 = 0) && (decide (lastAt (bookEdge B true A c ps) path ps.length 3 = 0) && decide (lastAt (bookEdge B true A c ps) path ps.length 4 = 0))))))) = _
  rw [hl, hl, hl, hl, hl]
theorem edge_path {B : BookV} {hi : Bool} {A : Option Addr} {c : Nat} {ps : List PlayerV} {path : List Int} (ip : IsPath B path) : IsPath (bookEdge B hi A c ps) path := ⟨ip.len, ip.start, ip.range, ip.step⟩
/-! What lies in memory. -/
theorem info24 : (Tryd.prog.info? 24).map (fun i => (i.zero, i.size, i.bytes)) = some (some (.agg #[.int .i64 0, .int .i64 0]), 2, 16) := by kernel_rfl
theorem under66 : Tryd.prog.underlying 66 = some (.slice 24) := by kernel_rfl
def OwnSpans (w : World) (base : Nat) (v : Value) (xs : List (Int × Int)) : Prop := w.ownsRow base 24 2 v xs.length (pairs xs)
theorem OwnSpans.nil (w : World) (base : Nat) : OwnSpans w base (.slice none 0 0) [] := World.ownsRow_nil _ _ _ _
theorem owns_keep {M : Nat → Prop} {w w' : World} {base : Nat} {e : TypeId} {size : Nat} {v : Value} {n : Nat} {xs : List Value} (h : w.ownsRow base e size v n xs) (k : Keep M w w') (hM : ∀ x, M x → v.ownBlock ≠ some x) : w'.ownsRow base e size v n xs := by
  obtain ⟨h1, h2⟩ := h
  rcases h2 with ⟨rfl, hn⟩ | ⟨g, cap, cur, rfl, hg, hb, hn, hc, hs, ht⟩
  · exact ⟨h1, .inl ⟨rfl, hn⟩⟩
  · exact ⟨h1, .inr ⟨g, cap, cur, rfl, hg, (k.block g (Array.getElem?_eq_some_iff.1 hb).1 (fun hm => hM g hm rfl)).trans hb, hn, hc, hs, ht⟩⟩
theorem own_base {w : World} {base : Nat} {e : TypeId} {size : Nat} {v : Value} {n : Nat} {xs : List Value} (h : w.ownsRow base e size v n xs) {x : Nat} (hx : x < base) : v.ownBlock ≠ some x := fun e => by have := (World.ownsRow.lt h x e).1; omega
theorem OwnSpans.keep {M : Nat → Prop} {w w' : World} {base : Nat} {v : Value} {xs : List (Int × Int)} (h : OwnSpans w base v xs) (k : Keep M w w') (hM : ∀ x, M x → x < base) : OwnSpans w' base v xs := owns_keep h k fun x hx => own_base h (hM x hx)
theorem OwnSpans.below {w w' : World} {base : Nat} {v : Value} {xs : List (Int × Int)} (h : OwnSpans w base v xs) (k : Below w.heap.size w w') : OwnSpans w' base v xs := h.keep (Keep.of_below (M := fun _ => False) k) fun _ f => f.elim
theorem OwnSpans.reads {w : World} {base : Nat} {v : Value} {xs : List (Int × Int)} (h : OwnSpans w base v xs) (h0 : 0 < xs.length) :
    ∃ g c, v = .slice (some ⟨g, 0, none⟩) xs.length c ∧ SpansAt w (some ⟨g, 0, none⟩) xs ∧ xs.length ≤ c ∧ base ≤ g ∧ g < w.heap.size := by
  obtain ⟨h1, h2⟩ := h
  rcases h2 with ⟨rfl, hn⟩ | ⟨g, cap, cur, rfl, hg, hb, hn, hc, hs, ht⟩
  · omega
  · have hcs := World.ownsRow.cells (w := w) (base := base) (e := 24) (size := 2) (v := .slice (some ⟨g, 0, none⟩) xs.length cap) (n := xs.length) (xs := pairs xs) ⟨h1, .inr ⟨g, cap, cur, rfl, hg, hb, hn, hc, hs, ht⟩⟩ (g := g) rfl
    simp only [addr_add0] at hcs
    refine ⟨g, cap, rfl, ⟨by unfold maxLen at hc; omega, .inr ⟨g, 0, rfl, fun j hj => ?_⟩⟩, hn, hg, (Array.getElem?_eq_some_iff.1 hb).1⟩
    have hp := pairs_get xs j hj
    rw [Nat.zero_add]
    exact ⟨hcs _ _ hp.1, hcs _ _ hp.2⟩
theorem wp_appS {o : Oper} {a : Act} {K : Act → World → Prop} {Q : Exit → Act → World → Prop} (w : World) (s x : Operand)
    (ho : o.op = .call { callee := .builtin .append, args := #[s, x], argTypes := #[66, 66] })
    (base : Nat) (v : Value) (xs : List (Int × Int)) (hs : a.eval s = v) (hown : OwnSpans w base v xs)
    (g c : Nat) (n m : Int) (hx : a.eval x = .slice (some ⟨g, 0, none⟩) 1 c) (hc : w.cell? ⟨g, 0, none⟩ = some (.int .i64 n)) (hc1 : w.cell? ⟨g, 1, none⟩ = some (.int .i64 m)) (hlen : xs.length ≤ 1000000) (hbase : base ≤ w.heap.size)
    (h : ∀ v' w', OwnSpans w' base v' (xs ++ [(n, m)]) → Below base w w' → K (a.put o.dst v') w') : o.wp Tryd.prog a w K Q := by
  obtain ⟨i0, hi, hz0, hz1, hz2⟩ := info_parts info24
  refine wp_append_own w s x 66 ho base 24 i0 (.agg #[.int .i64 0, .int .i64 0]) 2 16 under66 hi hz0 hz1 hz2 rfl (by decide) v xs.length (pairs xs) hs hown ⟨g, 0, none⟩ 1 c [.int .i64 n, .int .i64 m] hx rfl ?_ ?_ (by unfold maxLen; omega) (by omega) hbase ?_
  · intro j u hj
    rw [addr_add0]
    match j, hj with
    | 0, hj => simp at hj; subst hj; exact hc
    | 1, hj => simp at hj; subst hj; exact hc1
  · intro u hu; simp at hu; rcases hu with rfl | rfl <;> rfl
  · intro v' w' h1 h2 _
    refine h v' w' ?_ ((Below.refl _ _).grown h2 hbase fun k hk => (World.ownsRow.lt hown k hk).1)
    unfold OwnSpans
    rw [List.length_append, show pairs (xs ++ [(n, m)]) = pairs xs ++ [.int .i64 n, .int .i64 m] by simp [pairs]]
    exact h1
/-- players of the call's own, their catches in other blocks -/
def OwnPl (w : World) (base : Nat) (v : Value) (ps : List PlayerV) : Prop :=
  w.ownsRow base 68 3 v ps.length (pcells ps) ∧ ∀ p, p ∈ ps → (SpansAt w p.cA p.catches ∧ p.catches.length ≤ p.cCap) ∧ ∃ b, p.cA = some ⟨b, 0, none⟩ ∧ v.ownBlock ≠ some b ∧ base ≤ b ∧ b < w.heap.size
theorem OwnPl.nil (w : World) (base : Nat) : OwnPl w base (.slice none 0 0) [] := ⟨World.ownsRow_nil _ _ _ _, fun p h => by simp at h⟩
theorem OwnPl.keep {M : Nat → Prop} {w w' : World} {base : Nat} {v : Value} {ps : List PlayerV} (h : OwnPl w base v ps) (k : Keep M w w') (hM : ∀ x, M x → x < base) : OwnPl w' base v ps := by
  refine ⟨owns_keep h.1 k fun x hx => own_base h.1 (hM x hx), fun p hp => ?_⟩
  obtain ⟨⟨h1, h2⟩, b, e, h3, h4, h5⟩ := h.2 p hp
  refine ⟨⟨?_, h2⟩, b, e, h3, h4, Nat.lt_of_lt_of_le h5 k.size⟩
  rw [e] at h1 ⊢
  exact h1.keepG k fun hm => by have := hM b hm; omega
theorem OwnPl.below {w w' : World} {base : Nat} {v : Value} {ps : List PlayerV} (h : OwnPl w base v ps) (k : Below w.heap.size w w') : OwnPl w' base v ps := h.keep (Keep.of_below (M := fun _ => False) k) fun _ f => f.elim
theorem OwnPl.reads {w : World} {base : Nat} {v : Value} {ps : List PlayerV} (h : OwnPl w base v ps) : ∃ A c, v = .slice A ps.length c ∧ PlayersAt w A ps := by
  obtain ⟨⟨h1, h2⟩, h3⟩ := h
  rcases h2 with ⟨rfl, hn⟩ | ⟨g, cap, cur, rfl, hg, hb, hn, hc, hs, ht⟩
  · have : ps = [] := List.eq_nil_of_length_eq_zero hn
    subst this
    exact ⟨none, 0, rfl, by simp, .inl rfl, fun p hp => by simp at hp⟩
  · have hcs := World.ownsRow.cells (w := w) (base := base) (e := 68) (size := 3) (v := .slice (some ⟨g, 0, none⟩) ps.length cap) (n := ps.length) (xs := pcells ps) ⟨h1, .inr ⟨g, cap, cur, rfl, hg, hb, hn, hc, hs, ht⟩⟩ (g := g) rfl
    simp only [addr_add0] at hcs
    refine ⟨_, _, rfl, by unfold maxLen at hc; omega, .inr ⟨g, 0, rfl, fun j hj => ?_⟩, fun p hp => (h3 p hp).1⟩
    obtain ⟨p0, p1, p2⟩ := pcells_get ps j hj
    rw [Nat.zero_add]
    exact ⟨hcs _ _ p0, hcs _ _ p1, hcs _ _ p2⟩
theorem wpList_appP {ops : Array Oper} {rest : List Oper} {o : Oper} {a : Act} {Q : Exit → Act → World → Prop} (w : World) (hgd : o.guard = none) (s x : Operand)
    (ho : o.op = .call { callee := .builtin .append, args := #[s, x], argTypes := #[25, 25] })
    (base : Nat) (v : Value) (ps : List PlayerV) (hs : a.eval s = v) (hown : OwnPl w base v ps)
    (g c : Nat) (p : PlayerV) (hx : a.eval x = .slice (some ⟨g, 0, none⟩) 1 c) (hc : BoxAt w g #[.int .i64 p.lo, .int .i64 p.hi, .slice p.cA p.catches.length p.cCap]) (hlen : ps.length ≤ 1000000) (hbase : base ≤ w.heap.size)
    (hp : (SpansAt w p.cA p.catches ∧ p.catches.length ≤ p.cCap) ∧ ∃ b, p.cA = some ⟨b, 0, none⟩ ∧ v.ownBlock ≠ some b ∧ base ≤ b ∧ b < w.heap.size)
    (h : ∀ v' w', OwnPl w' base v' (ps ++ [p]) → Below base w w' → (∀ k, k < w.heap.size → some k ≠ v.ownBlock → w'.heap[k]? = w.heap[k]?) → wpList Tryd.prog ops Q rest (a.put o.dst v') w') : wpList Tryd.prog ops Q (o :: rest) a w := by
  obtain ⟨i0, hi, hz0, hz1, hz2⟩ := info_parts info68
  refine wpList_append_own_at w hgd s x 25 ho base 68 i0 (.agg #[.int .i64 0, .int .i64 0, .slice none 0 0]) 3 40 under25 hi hz0 hz1 hz2 rfl (by decide) v ps.length (pcells ps) hs hown.1 ⟨g, 0, none⟩ 1 c [.int .i64 p.lo, .int .i64 p.hi, .slice p.cA p.catches.length p.cCap] hx rfl ?_ ?_ (by unfold maxLen; omega) (by omega) hbase ?_
  · intro j u hj
    rw [addr_add0, hc.cell]
    simpa using hj
  · intro u hu; simp at hu; rcases hu with rfl | rfl | rfl <;> rfl
  · intro v' w' h1 h2 _ hat
    refine h v' w' ⟨?_, fun q hq => ?_⟩ ((Below.refl _ _).grown h2 hbase fun k hk => (World.ownsRow.lt hown.1 k hk).1) h2.block
    · rw [List.length_append, show pcells (ps ++ [p]) = pcells ps ++ [.int .i64 p.lo, .int .i64 p.hi, .slice p.cA p.catches.length p.cCap] by simp [pcells]]
      exact h1
    · have hq' : (SpansAt w q.cA q.catches ∧ q.catches.length ≤ q.cCap) ∧ ∃ b, q.cA = some ⟨b, 0, none⟩ ∧ v.ownBlock ≠ some b ∧ base ≤ b ∧ b < w.heap.size := by
        rcases List.mem_append.1 hq with hq | hq
        · exact hown.2 q hq
        · simp at hq; subst hq; exact hp
      obtain ⟨⟨q1, q2⟩, b, e, q3, q4, q5⟩ := hq'
      refine ⟨⟨?_, q2⟩, b, e, ?_, q4, Nat.lt_of_lt_of_le q5 h2.size⟩
      · rw [e] at q1 ⊢
        have hk : Keep (fun k => some k = v.ownBlock) w w' := ⟨h2.os, h2.tape, h2.output, h2.size, fun k hk hn => h2.block k hk hn⟩
        exact q1.keepG hk fun hm => q3 hm.symm
      · rcases hat with e2 | e2
        · rw [e2]; exact q3
        · rw [e2]; intro e3; cases e3; omega
end Go.Proofs.YtljikigmfkfkiaaDoor
