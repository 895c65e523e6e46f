import Derived.WalkKit
import Derived.WalkLawsBesides
import Derived.BigQuiet
import Derived.Deep.QuietTactic
import Derived.Lib.Hide
import Derived.Outline
import Derived.Test.YtgfbfbfajnfbjaaDoorProg
import Derived.Below
import Derived.LoopIn
import Derived.Laws.EntriesVeiled
import Derived.Deep.RegionHeld3
import Derived.Deep.DrawnRows
import Derived.Deep.DeepCutAuto
import Derived.Deep.CutBlock
import Derived.Deep.DeepFit
import Derived.RangeFuncNested
import Derived.RangeFuncBound
import Derived.RangeFuncCalls
import Derived.RangeFuncLeaves
import Derived.Shelf.Abstract
import Derived.Shelf.RegionOpen
import Derived.OwnWalkIn
import Derived.TacticsInMore
import Derived.LoopNIn
import Derived.Sort.QuietIn
import Derived.Sort.BigQuietIn
import Derived.Sort.CutIn
import Derived.Stop.RegionWithIn
import Derived.OrdersHeld
import Derived.OwnWalk
import Derived.ArgAppend
namespace Go.Proofs.YtgfbfbfajnfbjaaDoor
section
set_option linter.unusedVariables false
set_option linter.unusedSimpArgs false
open Go.RowKit
def inB (n low high : Int) : Bool := decide (low ≤ n) && decide (n ≤ high)
theorem in_calls (n lo hi : Int) (w : World) : Calls Tryd.prog 65 #[.int .i64 n, .int .i64 lo, .int .i64 hi] w fun e w' => e = .returned (.bool (inB n lo hi)) ∧ w = w' := by
  by_cases h1 : lo ≤ n <;> by_cases h2 : n ≤ hi
  all_goals
    go_enter Tryd.func65, Tryd.ntmps65
    go_wp2
    go_ret
    exact ⟨by simp [inB, h1, h2], rfl⟩
/-- what the walk asks of an old block against the new ones -/
theorem old_lt {p n : Nat} (h : p < n) : p < n + 1 ∧ p < n + 1 + 1 ∧ p < n + 1 + 1 + 1 ∧ p < n + 1 + 1 + 1 + 1 ∧ p < n + 1 + 1 + 1 + 1 + 1 ∧ p < n + 1 + 1 + 1 + 1 + 1 + 1 := by omega
/-- the number at a place (closed to simp) -/
def gi (l : List Int) (k : Nat) : Int := l.getD k 0
def gs (l : List (Int × Int)) (k : Nat) : Int × Int := l.getD k (0, 0)
/-- A slice of whole numbers that reads as xs. -/
def IntsAt (w : World) (A : Option Addr) (xs : List Int) : Prop :=
  xs.length ≤ 9223372036854775807 ∧ (xs = [] ∨ ∃ b o, A = some ⟨b, o, none⟩ ∧ ∀ j, j < xs.length → w.cell? ⟨b, o + j, none⟩ = some (.int .i64 (gi xs j)))
def SpansAt (w : World) (A : Option Addr) (xs : List (Int × Int)) : Prop :=
  xs.length ≤ 9223372036854775807 ∧ (xs = [] ∨ ∃ b o, A = some ⟨b, o, none⟩ ∧ ∀ j, j < xs.length → w.cell? ⟨b, o + j * 2, none⟩ = some (.int .i64 (gs xs j).1) ∧ w.cell? ⟨b, o + j * 2 + 1, none⟩ = some (.int .i64 (gs xs j).2))
theorem cell_below {w w1 : World} (h : Below w.heap.size w w1) {a : Addr} {v : Value} (hc : w.cell? a = some v) : w1.cell? a = some v := (h.cell (World.block_lt_of_cell? w a hc)).trans hc
theorem IntsAt.below {w w1 : World} {A : Option Addr} {xs : List Int} (h : IntsAt w A xs) (hb : Below w.heap.size w w1) : IntsAt w1 A xs :=
  ⟨h.1, h.2.imp id fun ⟨b, o, e, hc⟩ => ⟨b, o, e, fun j hj => cell_below hb (hc j hj)⟩⟩
theorem SpansAt.below {w w1 : World} {A : Option Addr} {xs : List (Int × Int)} (h : SpansAt w A xs) (hb : Below w.heap.size w w1) : SpansAt w1 A xs :=
  ⟨h.1, h.2.imp id fun ⟨b, o, e, hc⟩ => ⟨b, o, e, fun j hj => ⟨cell_below hb (hc j hj).1, cell_below hb (hc j hj).2⟩⟩⟩
/-- A block of cells, known whole. -/
structure BoxAt (w : World) (b : Nat) (cs : Array Value) : Prop where
  cell : ∀ i, w.cell? ⟨b, i, none⟩ = cs[i]?
  frozen : ∀ i, w.frozen? ⟨b, i, none⟩ = false
  lt : b < w.heap.size
theorem BoxAt.of_heap {w : World} {b : Nat} {cs : Array Value} {t : TypeId} (h : w.heap[b]? = some (.cells cs t (0, 0))) : BoxAt w b cs :=
  ⟨fun i => by simp [World.cell?, h], fun i => by simp [World.frozen?, h], (Array.getElem?_eq_some_iff.1 h).1⟩
theorem BoxAt.new (w : World) (cs : Array Value) (t : TypeId) : BoxAt (w.alloc (.cells cs t)) w.heap.size cs :=
  BoxAt.of_heap (t := t) (by show (w.heap.push _)[w.heap.size]? = _; simp)
theorem BoxAt.below {w w1 : World} {b : Nat} {cs : Array Value} (h : BoxAt w b cs) (hb : Below w.heap.size w w1) : BoxAt w1 b cs :=
  ⟨fun i => (hb.cell (p := ⟨b, i, none⟩) h.lt).trans (h.cell i), fun i => (hb.frozen (p := ⟨b, i, none⟩) h.lt).trans (h.frozen i), Nat.lt_of_lt_of_le h.lt hb.size⟩
theorem BoxAt.alloc {w : World} {b : Nat} {cs : Array Value} (h : BoxAt w b cs) (o : Obj) : BoxAt (w.alloc o) b cs := h.below ((Below.refl _ _).alloc (Nat.le_refl _) _)
theorem BoxAt.set1 {w : World} {b : Nat} {v : Value} (h : BoxAt w b #[v]) (u : Value) : BoxAt (w.setCell ⟨b, 0, none⟩ u) b #[u] := by
  refine ⟨fun i => ?_, fun i => by rw [World.frozen?_setCell]; exact h.frozen i, by simpa [World.setCell] using h.lt⟩
  have h0 := h.cell i
  unfold World.cell? World.setCell at *
  simp only [Array.getElem?_modify, if_true] at *
  cases hh : w.heap[b]? with
  | none => rw [hh] at h0; simp at h0 ⊢; cases i with | zero => simp at h0 | succ i => simp
  | some o =>
    rw [hh] at h0
    cases o with
    | cells c t f =>
      simp at h0 ⊢
      cases i with
      | zero =>
        simp at h0 ⊢
        have : 0 < c.size := by
          rcases Nat.eq_zero_or_pos c.size with e | e
          · rw [Array.eq_empty_of_size_eq_zero e] at h0; simp at h0
          · exact e
        simp [Array.getElem?_setIfInBounds, this]
      | succ i => rw [Array.getElem?_setIfInBounds_ne (by omega)]; simpa using h0
    | _ => simp at h0 ⊢; cases i with | zero => simp at h0 | succ i => simp
theorem cell?_setCell_at (w : World) (b i j : Nat) (v : Value) {c : Array Value} {t : TypeId} {f : Nat × Nat} (h : w.heap[b]? = some (.cells c t f)) :
    (w.setCell ⟨b, i, none⟩ v).cell? ⟨b, j, none⟩ = (c.setIfInBounds i v)[j]? := by
  simp [World.cell?, World.setCell, Array.getElem?_modify, h]
theorem BoxAt.block {w : World} {b : Nat} {cs : Array Value} (h : BoxAt w b cs) (hs : 0 < cs.size) : ∃ t f, w.heap[b]? = some (.cells cs t f) := by
  have h0 := h.cell 0
  have key : ∀ c t f, w.heap[b]? = some (.cells c t f) → c = cs := fun c t f hh => by
    apply Array.ext_getElem?
    intro i
    have := h.cell i
    simpa [World.cell?, hh] using this
  cases hh : w.heap[b]? with
  | none => simp [World.cell?, hh, Array.getElem?_eq_getElem hs] at h0
  | some o =>
    cases o with
    | cells c t f => exact ⟨t, f, by rw [key c t f hh]⟩
    | _ => simp [World.cell?, hh, Array.getElem?_eq_getElem hs] at h0
theorem BoxAt.put {w : World} {b : Nat} {cs : Array Value} (h : BoxAt w b cs) (i : Nat) (v : Value) (hi : i < cs.size) : BoxAt (w.setCell ⟨b, i, none⟩ v) b (cs.setIfInBounds i v) := by
  obtain ⟨t, f, hh⟩ := h.block (by omega)
  refine ⟨fun j => cell?_setCell_at w b i j v hh, fun j => by rw [World.frozen?_setCell]; exact h.frozen j, by simpa [World.setCell] using h.lt⟩
theorem arr2 {cs : Array Value} (h : cs.size = 2) : ∃ x0 x1, cs = #[x0, x1] := by
  obtain ⟨l⟩ := cs
  match l, h with
  | [x0, x1], _ => exact ⟨_, _, rfl⟩
theorem box_store2 {w : World} {b : Nat} {cs : Array Value} (h : BoxAt w b cs) (hs : cs.size = 2) (v0 v1 : Value) :
    BoxAt ((w.setCell ⟨b, 0, none⟩ v0).setCell ⟨b, 1, none⟩ v1) b #[v0, v1] ∧ ∀ n, n ≤ b → Below n w ((w.setCell ⟨b, 0, none⟩ v0).setCell ⟨b, 1, none⟩ v1) := by
  obtain ⟨x0, x1, rfl⟩ := arr2 hs
  clear hs
  have h0 : BoxAt (w.setCell ⟨b, 0, none⟩ v0) b #[v0, x1] := h.put 0 v0 (by simp)
  have h1 : BoxAt ((w.setCell ⟨b, 0, none⟩ v0).setCell ⟨b, 1, none⟩ v1) b #[v0, v1] := h0.put 1 v1 (by simp)
  exact ⟨h1, fun n hn => (((Below.refl _ _).setCell (p := ⟨b, 0, none⟩) hn v0).setCell (p := ⟨b, 1, none⟩) hn v1)⟩
theorem arr3 {cs : Array Value} (h : cs.size = 3) : ∃ x0 x1 x2, cs = #[x0, x1, x2] := by
  obtain ⟨l⟩ := cs
  match l, h with
  | [x0, x1, x2], _ => exact ⟨_, _, _, rfl⟩
theorem box_store3 {w : World} {b : Nat} {cs : Array Value} (h : BoxAt w b cs) (hs : cs.size = 3) (v0 v1 v2 : Value) :
    BoxAt (((w.setCell ⟨b, 0, none⟩ v0).setCell ⟨b, 1, none⟩ v1).setCell ⟨b, 2, none⟩ v2) b #[v0, v1, v2] ∧ ∀ n, n ≤ b → Below n w (((w.setCell ⟨b, 0, none⟩ v0).setCell ⟨b, 1, none⟩ v1).setCell ⟨b, 2, none⟩ v2) := by
  obtain ⟨x0, x1, x2, rfl⟩ := arr3 hs
  clear hs
  have h0 : BoxAt (w.setCell ⟨b, 0, none⟩ v0) b #[v0, x1, x2] := h.put 0 v0 (by simp)
  have h1 : BoxAt ((w.setCell ⟨b, 0, none⟩ v0).setCell ⟨b, 1, none⟩ v1) b #[v0, v1, x2] := h0.put 1 v1 (by simp)
  have h2 : BoxAt (((w.setCell ⟨b, 0, none⟩ v0).setCell ⟨b, 1, none⟩ v1).setCell ⟨b, 2, none⟩ v2) b #[v0, v1, v2] := h1.put 2 v2 (by simp)
  exact ⟨h2, fun n hn => ((((Below.refl _ _).setCell (p := ⟨b, 0, none⟩) hn v0).setCell (p := ⟨b, 1, none⟩) hn v1).setCell (p := ⟨b, 2, none⟩) hn v2)⟩
section
variable {P : Program} {f : FuncId} {w : World} {R : Ending → World → Prop} {v v' x y z u t : Value}
theorem eq0_1 (e : v = v') (h : Calls P f #[v'] w R) : Calls P f #[v] w R := e ▸ h
theorem eq0_2 (e : v = v') (h : Calls P f #[v', x] w R) : Calls P f #[v, x] w R := e ▸ h
theorem eq0_3 (e : v = v') (h : Calls P f #[v', x, y] w R) : Calls P f #[v, x, y] w R := e ▸ h
theorem eq0_4 (e : v = v') (h : Calls P f #[v', x, y, z] w R) : Calls P f #[v, x, y, z] w R := e ▸ h
theorem eq0_6 (e : v = v') (h : Calls P f #[v', x, y, z, u, t] w R) : Calls P f #[v, x, y, z, u, t] w R := e ▸ h
end
theorem wrap_in {n : Int} (h1 : -9223372036854775808 ≤ n) (h2 : n ≤ 9223372036854775807) : IntKind.i64.wrap n = n := by
  rw [IntKind.wrap_i64]; omega
/-- the ways through 'a && b && ..' -/
theorem chain1 (a : Bool) : a = false ∨ a = true := by cases a <;> simp
theorem chain2 (a b : Bool) : a = false ∨ (a = true ∧ b = false) ∨ (a = true ∧ b = true) := by cases a <;> cases b <;> simp
theorem chain3 (a b c : Bool) : a = false ∨ (a = true ∧ b = false) ∨ (a = true ∧ b = true ∧ c = false) ∨ (a = true ∧ b = true ∧ c = true) := by cases a <;> cases b <;> cases c <;> simp
theorem chain4 (a b c d : Bool) : a = false ∨ (a = true ∧ b = false) ∨ (a = true ∧ b = true ∧ c = false) ∨ (a = true ∧ b = true ∧ c = true ∧ d = false) ∨ (a = true ∧ b = true ∧ c = true ∧ d = true) := by cases a <;> cases b <;> cases c <;> cases d <;> simp
theorem below_then {B : Nat} {w w1 w2 : World} (h : Below B w w1) (hB : B ≤ w1.heap.size) (k : Below w1.heap.size w1 w2) : Below B w w2 := h.trans (k.mono hB)
theorem range_all_succ (p : Nat → Bool) (n : Nat) : (List.range (n + 1)).all p = ((List.range n).all p && p n) := by
  rw [List.range_succ, List.all_append]; simp
theorem range_all_le {p : Nat → Bool} {n m : Nat} (h : (List.range n).all p = true) (hm : m ≤ n) : (List.range m).all p = true := by
  rw [List.all_eq_true] at *; intro x hx; exact h x (by rw [List.mem_range] at *; omega)
theorem inB_true {n a b : Int} (h : inB n a b = true) : a ≤ n ∧ n ≤ b := by simpa [inB] using h
theorem range_all_get {p : Nat → Bool} {n : Nat} (h : (List.range n).all p = true) (k : Nat) (hk : k < n) : p k = true := List.all_eq_true.1 h k (List.mem_range.2 hk)
def spanB (a b lo hi : Int) : Bool := decide (lo ≤ a) && decide (a ≤ b) && decide (b ≤ hi)
theorem isSpan_calls (a b lo hi : Int) (w : World) : Calls Tryd.prog 68 #[.agg #[.int .i64 a, .int .i64 b], .int .i64 lo, .int .i64 hi] w fun e w' => e = .returned (.bool (spanB a b lo hi)) ∧ Below w.heap.size w w' := by
  by_cases h1 : lo ≤ a <;> by_cases h2 : a ≤ b <;> by_cases h3 : b ≤ hi
  all_goals
    go_enter Tryd.func68, Tryd.ntmps68
    go_wp2
    go_ret
    exact ⟨by simp [spanB, h1, h2, h3], (Below.refl _ _).alloc (Nat.le_refl _) _⟩

theorem spanB_iff {a b lo hi : Int} : spanB a b lo hi = true ↔ lo ≤ a ∧ a ≤ b ∧ b ≤ hi := by simp [spanB, and_assoc]
theorem inB_iff {n a b : Int} : inB n a b = true ↔ a ≤ n ∧ n ≤ b := by simp [inB]
end
section
set_option linter.unusedVariables false
set_option linter.unusedSimpArgs false
open Go.RowKit Go.Shelf
/-- Between two worlds all blocks lie as they lay, but for those of M. -/
structure Keep (M : Nat → Prop) (a b : World) : Prop where
  os : b.os = a.os
  tape : b.tape = a.tape
  output : b.output = a.output
  size : a.heap.size ≤ b.heap.size
  block : ∀ k, k < a.heap.size → ¬ M k → b.heap[k]? = a.heap[k]?
variable {M M' : Nat → Prop} {a b c : World}
theorem Keep.refl (M : Nat → Prop) (a : World) : Keep M a a := ⟨rfl, rfl, rfl, Nat.le_refl _, fun _ _ _ => rfl⟩
theorem Keep.trans (h : Keep M a b) (k : Keep M b c) : Keep M a c :=
  ⟨k.os.trans h.os, k.tape.trans h.tape, k.output.trans h.output, Nat.le_trans h.size k.size, fun i hi hm => (k.block i (Nat.lt_of_lt_of_le hi h.size) hm).trans (h.block i hi hm)⟩
theorem Keep.mono (h : Keep M a b) (hm : ∀ k, k < a.heap.size → M k → M' k) : Keep M' a b := ⟨h.os, h.tape, h.output, h.size, fun i hi hn => h.block i hi fun hM => hn (hm i hi hM)⟩
theorem Keep.of_below (h : Below a.heap.size a b) : Keep M a b := ⟨h.os, h.tape, h.output, h.size, fun i hi _ => h.block i hi⟩
theorem Keep.below {n : Nat} (h : Keep M a b) (hm : ∀ k, k < a.heap.size → M k → n ≤ k) (hn : n ≤ a.heap.size) : Below n a b :=
  ⟨h.os, h.tape, h.output, h.size, fun i hi => h.block i (by omega) fun hM => by have := hm i (by omega) hM; omega⟩
theorem Keep.none_below (h : Keep (fun _ => False) a b) : Below a.heap.size a b := h.below (fun _ _ f => f.elim) (Nat.le_refl _)
theorem Keep.cell (h : Keep M a b) {p : Addr} {v : Value} (hc : a.cell? p = some v) (hm : ¬ M p.block) : b.cell? p = some v :=
  (World.cell?_of_block (w := a) (h.block p.block (World.block_lt_of_cell? a p hc) hm)).trans hc
theorem Keep.frozen (h : Keep M a b) {p : Addr} (hp : p.block < a.heap.size) (hm : ¬ M p.block) : b.frozen? p = a.frozen? p := World.frozen?_of_block (w := a) (h.block p.block hp hm)
theorem Keep.alloc (h : Keep M a b) (o : Obj) : Keep M a (b.alloc o) := h.trans (Keep.of_below ((Below.refl _ _).alloc (Nat.le_refl _) _))
theorem Keep.drewN (h : Keep M a b) (n : Nat) : Keep M a (b.drewN n) := h.trans ⟨rfl, rfl, rfl, Nat.le_refl _, fun _ _ _ => rfl⟩
theorem Keep.drew (h : Keep M a b) : Keep M a b.drew := h.trans ⟨rfl, rfl, rfl, Nat.le_refl _, fun _ _ _ => rfl⟩
theorem Keep.setCell (h : Keep M a b) {p : Addr} (hp : M p.block ∨ a.heap.size ≤ p.block) (v : Value) : Keep M a (b.setCell p v) :=
  ⟨h.os, h.tape, h.output, by simpa [World.setCell] using h.size, fun i hi hm => (Below.heap_setCell b p v i (by
    rintro rfl
    rcases hp with hp | hp
    · exact hm hp
    · omega)).trans (h.block i hi hm)⟩
theorem Keep.putObj (W : World) (l : Nat) (o : Obj) : Keep (fun k => k = l) W (W.putObj l o) :=
  ⟨rfl, rfl, rfl, by simp, fun i _ hm => World.putObj_heap_other hm⟩
theorem cell_ne_loop {A : World} {l : Nat} {r : Loop} (hl : A.heap[l]? = some (.loop r)) {p : Addr} {v : Value} (hc : A.cell? p = some v) : p.block ≠ l := by
  rintro rfl
  simp [World.cell?, hl] at hc
/-- A cell behind a step of the loop's record. -/
theorem Keep.cell_l {A B : World} {l : Nat} {r : Loop} (h : Keep (fun k => k = l) A B) (hl : A.heap[l]? = some (.loop r)) {p : Addr} {v : Value} (hc : A.cell? p = some v) : B.cell? p = some v := h.cell hc (cell_ne_loop hl hc)

/-- THE ITERATOR's CONTRACT: it hands xs on, one by one, each as Enc tells, as long as rounds want more. -/
def SeqX {β : Type} (P : Program) (g : Nat) (lb : Array Value) (Enc : β → Array Value → World → Prop) (xs : List β) (M : Nat → Prop) (w : World) : Prop :=
  ∀ (l : Nat) (J Jx : List β → World → Prop) (W : World), w.heap.size ≤ l → l < W.heap.size → Below w.heap.size w W →
    (∀ pre A B, J pre A → Below A.heap.size A B → J pre B) → (∀ pre A B, Jx pre A → Below A.heap.size A B → Jx pre B) →
    (∀ pre x rest vs W1, xs = pre ++ x :: rest → J pre W1 → Enc x vs W1 → YieldAt Fence.wide 0 P l vs W1 fun e W' =>
      (e = .returned (.bool true) ∧ J (pre ++ [x]) W' ∧ Keep (fun k => M k ∨ k = l) W1 W') ∨ (e = .returned (.bool false) ∧ Jx (pre ++ [x]) W')) →
    J [] W →
    CallsIn Fence.wide 0 P g (#[.func (.yield l) #[] #[]] ++ lb) W fun e W' => (∃ v, e = .returned v) ∧ (J xs W' ∨ ∃ pre, pre <+: xs ∧ Jx pre W')

def ownPostX {β : Type} (M M2 : Nat → Prop) (I : List β → World → Prop) (Ix : Code → List β → World → Prop) (xs : List β) (W : World) : Exit → Act → World → Prop
  | .normal, _, W' => Keep M W W' ∧ I xs W'
  | .ret, _, W' => Keep M2 W W' ∧ Ix .ret xs W'
  | .exit id, _, W' => Keep M2 W W' ∧ Ix (.exit id) xs W'
  | .goto t, _, W' => Keep M2 W W' ∧ Ix (.goto t) xs W'
  | .panic _, _, _ => False
  | .outgrown, _, _ => False

/-- What abides the law's own book-keeping: a turn of the loop's record. -/
def Abide {β : Type} (N : Nat) (I : β → World → Prop) : Prop :=
  ∀ (l : Nat) (s : β) (A B : World) (r : Loop), N ≤ l → A.heap[l]? = some (.loop r) → Keep (fun k => k = l) A B → I s A → I s B
theorem Abide.alloc {β : Type} {I : β → World → Prop} (h : ∀ s A B, I s A → Below A.heap.size A B → I s B) {s : β} {A : World} (o : Obj) (hI : I s A) : I s (A.alloc o) := h s A _ hI ((Below.refl _ _).alloc (Nat.le_refl _) _)

variable {P : Program}
theorem wpIn_range_x {β : Type} {g : Operand} {ps : Array Tmp} {assign body : Code} {Q : Exit → Act → World → Prop} {a : Act} {w : World}
    {gf : Nat} {lb : Array Value} (hg : a.eval g = .func (.func gf) #[] lb) (eg : ∀ args w, (callFunc gf args).run P w = .ok (.enter gf args) w)
    {Enc : β → Array Value → World → Prop} {xs : List β} {M : Nat → Prop} (hseq : SeqX P gf lb Enc xs M w)
    (M2 : Nat → Prop) (hM : ∀ k, M k → k < w.heap.size) (hM2 : ∀ k, M2 k → k < w.heap.size) (hps : ∀ x vs W, Enc x vs W → vs.size = ps.size)
    (I : List β → World → Prop) (Ix : Code → List β → World → Prop)
    (hI : Abide w.heap.size I) (hIb : ∀ s A B, I s A → Below A.heap.size A B → I s B)
    (hIx : ∀ c, Abide w.heap.size (Ix c)) (hIxb : ∀ c s A B, Ix c s A → Below A.heap.size A B → Ix c s B)
    (h0 : I [] w)
    (hround : ∀ (l : Nat) (pre : List β) (x : β) (rest : List β) (vs : Array Value) (W : World), xs = pre ++ x :: rest → w.heap.size < l → w.heap.size ≤ W.heap.size → I pre W → Enc x vs W →
      assign.wpIn (Fence.wide.inRound l) 0 P (Exit.then (fun a₁ W₁ => Keep M W W₁ ∧ ∀ (W₂ : World) (r : Loop), W₁.heap[l]? = some (.loop r) → Keep (fun k => k = l) W₁ W₂ →
        body.wpIn (Fence.wide.inRound l) 0 P (ownPostX M M2 I Ix (pre ++ [x]) W₂) a₁ W₂) (fun _ _ _ => False)) { tmps := (ps.zip vs).foldl (fun t (p, v) => t.setIfInBounds p v) a.tmps, defers := [] } W)
    (hdone : ∀ (D : Nat) (W : World), w.heap.size ≤ D → Keep (fun k => M k ∨ w.heap.size ≤ k) w W → I xs W → W.heap[D]? = some (.deferred (some [])) → Q .normal { a with defers := { target := .collected D, args := #[] } :: a.defers } W)
    (hstop : ∀ (D : Nat) (c : Code) (pre : List β) (W : World), w.heap.size ≤ D → Keep (fun k => (M k ∨ M2 k) ∨ w.heap.size ≤ k) w W → pre <+: xs → Ix c pre W → W.heap[D]? = some (.deferred (some [])) → c.wpIn Fence.wide 0 P Q { a with defers := { target := .collected D, args := #[] } :: a.defers } W) :
    (Code.rangeFunc g ps assign body).wpIn Fence.wide 0 P Q a w := by
  refine wpIn_rangeFunc ?_
  intro fn hfn
  obtain ⟨rec, hrec⟩ : ∃ rec : LoopState → Option Code → Loop, rec = fun st pe => { state := st, pending := pe, fn, tmps := a.tmps, params := ps, assign, body, defers := w.heap.size } := ⟨_, rfl⟩
  obtain ⟨W1, hW1⟩ : ∃ W1, (w.alloc (.deferred (some []))).alloc (.loop (rec .ready none)) = W1 := ⟨_, rfl⟩
  have hL1 : W1.heap[w.heap.size + 1]? = some (.loop (rec .ready none)) := by
    rw [← hW1]; have := World.alloc_heap_new (w.alloc (.deferred (some []))) (.loop (rec .ready none)); rwa [World.size_alloc] at this
  have hK1 : W1.heap[w.heap.size]? = some (.deferred (some [])) := by
    rw [← hW1]; exact (Below.heap_alloc _ _ _ (by simp)).trans (World.alloc_heap_new w _)
  have hb1 : Below w.heap.size w W1 := by
    rw [← hW1]; exact ((Below.refl _ w).alloc (Nat.le_refl _) _).alloc (by simp) _
  have hI1 : I [] W1 := hIb _ _ _ h0 hb1
  have hs1 : w.heap.size + 1 < W1.heap.size := (Array.getElem?_eq_some_iff.1 hL1).1
  have hMl : ∀ {k}, M k → k ≠ w.heap.size + 1 := fun h e => by have := hM _ h; omega
  have hMd : ∀ {k}, M k → k ≠ w.heap.size := fun h e => by have := hM _ h; omega
  have hNl : ∀ {k}, (M k ∨ M2 k) → k ≠ w.heap.size + 1 := fun h e => by rcases h with h | h; (have := hM _ h; omega); (have := hM2 _ h; omega)
  have hNd : ∀ {k}, (M k ∨ M2 k) → k ≠ w.heap.size := fun h e => by rcases h with h | h; (have := hM _ h; omega); (have := hM2 _ h; omega)
  refine ⟨w.heap.size + 1, [{ target := .collected w.heap.size, args := #[] }], W1, { target := .fn (.func gf) lb, args := #[.func (.yield (w.heap.size + 1)) #[] #[]] }, W1, gf,
    #[.func (.yield (w.heap.size + 1)) #[] #[]] ++ lb, W1, ?_, ?_, ?_, ?_, ?_, ?_⟩
  · rw [← hW1, hrec]; exact run_enterLoop_outer _ _ _ _ _
  · simp only [resolve, hg]
    simp [go_sem]
  · intro f' hf'; trivial
  · simp [invoke, go_sem, eg]
  · intro h; simp [Fence.wide] at h
  · have kb : ∀ {A B : World} {k : Nat} {o : Obj}, Below A.heap.size A B → A.heap[k]? = some o → B.heap[k]? = some o := fun h ho => (h.block _ (Array.getElem?_eq_some_iff.1 ho).1).trans ho
    -- J: the caller's invariant, the record, the block for deferred calls, and what is kept since the loop began
    refine (hseq (w.heap.size + 1)
      (fun pre W => I pre W ∧ W.heap[w.heap.size + 1]? = some (.loop (rec .ready none)) ∧ W.heap[w.heap.size]? = some (.deferred (some [])) ∧ Keep (fun k => M k ∨ w.heap.size ≤ k) w W)
      (fun pre W => ∃ c, Ix c pre W ∧ W.heap[w.heap.size + 1]? = some (.loop (rec .done (some c))) ∧ W.heap[w.heap.size]? = some (.deferred (some [])) ∧ Keep (fun k => (M k ∨ M2 k) ∨ w.heap.size ≤ k) w W)
      W1 (by omega) hs1 hb1
      (fun pre A B hJ hB => ⟨hIb _ _ _ hJ.1 hB, kb hB hJ.2.1, kb hB hJ.2.2.1, hJ.2.2.2.trans (Keep.of_below hB)⟩)
      (fun pre A B hJ hB => by obtain ⟨c, h1, h2, h3, h4⟩ := hJ; exact ⟨c, hIxb _ _ _ _ h1 hB, kb hB h2, kb hB h3, h4.trans (Keep.of_below hB)⟩)
      ?_ ⟨hI1, hL1, hK1, Keep.of_below hb1⟩).mono ?_
    · -- ONE ROUND
      rintro pre x rest vs W hxs ⟨hi, hl, hk, hkeep⟩ hE
      have hle : w.heap.size ≤ W.heap.size := hkeep.size
      have hy := run_yield (P := P) (args := vs) hl (by rw [hrec]; exact hps _ _ _ hE)
      rw [hrec] at hy
      refine ⟨fn, _, assign, body, hy, roundIn_of_wpIn hfn (wpIn_mono (hround (w.heap.size + 1) pre x rest vs W hxs (by omega) hle hi hE) ?_)⟩
      clear hy
      intro e0 a' Wa h0'
      cases e0 with
      | normal => ?_
      | _ => exact h0'.elim
      obtain ⟨hkA, hbody⟩ := h0'
      have hl' := (hkA.block _ (Array.getElem?_eq_some_iff.1 hl).1 (fun h => hMl h rfl)).trans hl
      have hk' := (hkA.block _ (Array.getElem?_eq_some_iff.1 hk).1 (fun h => hMd h rfl)).trans hk
      have hlt : w.heap.size + 1 < Wa.heap.size := (Array.getElem?_eq_some_iff.1 hl').1
      refine ⟨_, run_beginRound hl' (by rw [hrec]), ?_⟩
      have hP := Keep.putObj Wa (w.heap.size + 1) (.loop { rec .ready none with state := .busy })
      have hl2 : (Wa.putObj (w.heap.size + 1) (.loop { rec .ready none with state := .busy })).heap[w.heap.size + 1]? = some (.loop { rec .ready none with state := .busy }) := World.putObj_heap_same hlt
      have hk2 : (Wa.putObj (w.heap.size + 1) (.loop { rec .ready none with state := .busy })).heap[w.heap.size]? = some (.deferred (some [])) := (World.putObj_heap_other (by omega)).trans hk'
      refine wpIn_mono (hbody _ _ hl' hP) ?_
      have fin : ∀ (N : Nat → Prop) (jump : Option Code) (W3 : World), (∀ k, N k → M k ∨ M2 k) → Keep N (Wa.putObj (w.heap.size + 1) (.loop { rec .ready none with state := .busy })) W3 →
          (Instr.endRound (w.heap.size + 1) jump).run P W3 = .ok (.bool jump.isNone) (W3.putObj (w.heap.size + 1) (.loop (rec (if jump.isNone then .ready else .done) jump))) ∧
          W3.heap[w.heap.size + 1]? = some (.loop { rec .ready none with state := .busy }) ∧
          (W3.putObj (w.heap.size + 1) (.loop (rec (if jump.isNone then .ready else .done) jump))).heap[w.heap.size + 1]? = some (.loop (rec (if jump.isNone then .ready else .done) jump)) ∧
          (W3.putObj (w.heap.size + 1) (.loop (rec (if jump.isNone then .ready else .done) jump))).heap[w.heap.size]? = some (.deferred (some [])) ∧
          Keep (fun k => (M k ∨ N k) ∨ k = w.heap.size + 1) W (W3.putObj (w.heap.size + 1) (.loop (rec (if jump.isNone then .ready else .done) jump))) := fun N jump W3 hN hk3 => by
        have hl3 := (hk3.block _ (Array.getElem?_eq_some_iff.1 hl2).1 (fun h => hNl (hN _ h) rfl)).trans hl2
        have hkk := (hk3.block _ (Array.getElem?_eq_some_iff.1 hk2).1 (fun h => hNd (hN _ h) rfl)).trans hk2
        have hr := run_endRound (P := P) jump hl3
        have hall : Keep (fun k => (M k ∨ N k) ∨ k = w.heap.size + 1) W (W3.putObj (w.heap.size + 1) (.loop (rec (if jump.isNone then .ready else .done) jump))) :=
          (((hkA.mono fun _ _ h => .inl (.inl h)).trans (hP.mono fun _ _ h => .inr h)).trans (hk3.mono fun _ _ h => .inl (.inr h))).trans ((Keep.putObj _ _ _).mono fun _ _ h => .inr h)
        rw [hrec] at hr hall hl3 ⊢
        exact ⟨hr, hl3, World.putObj_heap_same (Array.getElem?_eq_some_iff.1 hl3).1, (World.putObj_heap_other (by omega)).trans hkk, hall⟩
      have wide : ∀ {X : World} {N : Nat → Prop} {N' : Nat → Prop}, (∀ k, N k → N' k) → Keep (fun k => (M k ∨ N k) ∨ k = w.heap.size + 1) W X → (∀ k, M k → N' k) → Keep (fun k => N' k ∨ w.heap.size ≤ k) w X := fun h1 h h2 =>
        (hkeep.mono fun k _ e => e.imp (h2 k) id).trans (h.mono fun k _ e => by
          rcases e with (e | e) | e
          · exact .inl (h2 k e)
          · exact .inl (h1 k e)
          · exact .inr (by omega))
      rintro e a3 W3 hp
      cases e with
      | normal =>
        obtain ⟨hk3, hi3⟩ := hp
        obtain ⟨hr, hl3, hl4, hk4, hall⟩ := fin M none W3 (fun _ h => .inl h) hk3
        exact ⟨_, _, hr, .inl ⟨rfl, ⟨hI _ _ _ _ _ (by omega) hl3 (Keep.putObj _ _ _) hi3, hl4, hk4, wide (fun _ h => h) hall (fun _ h => h)⟩, hall.mono fun k _ e => e.imp (fun e => e.elim id id) id⟩⟩
      | ret =>
        obtain ⟨hk3, hi3⟩ := hp
        obtain ⟨hr, hl3, hl4, hk4, hall⟩ := fin M2 (some .ret) W3 (fun _ h => .inr h) hk3
        have hw := wide (N' := fun k => M k ∨ M2 k) (fun _ h => .inr h) hall (fun _ h => .inl h)
        exact ⟨_, _, hr, .inr ⟨rfl, .ret, hIx _ _ _ _ _ _ (by omega) hl3 (Keep.putObj _ _ _) hi3, hl4, hk4, hw⟩⟩
      | exit id =>
        obtain ⟨hk3, hi3⟩ := hp
        obtain ⟨hr, hl3, hl4, hk4, hall⟩ := fin M2 (some (.exit id)) W3 (fun _ h => .inr h) hk3
        have hw := wide (N' := fun k => M k ∨ M2 k) (fun _ h => .inr h) hall (fun _ h => .inl h)
        exact ⟨_, _, hr, .inr ⟨rfl, .exit id, hIx _ _ _ _ _ _ (by omega) hl3 (Keep.putObj _ _ _) hi3, hl4, hk4, hw⟩⟩
      | goto t =>
        obtain ⟨hk3, hi3⟩ := hp
        obtain ⟨hr, hl3, hl4, hk4, hall⟩ := fin M2 (some (.goto t)) W3 (fun _ h => .inr h) hk3
        have hw := wide (N' := fun k => M k ∨ M2 k) (fun _ h => .inr h) hall (fun _ h => .inl h)
        exact ⟨_, _, hr, .inr ⟨rfl, .goto t, hIx _ _ _ _ _ _ (by omega) hl3 (Keep.putObj _ _ _) hi3, hl4, hk4, hw⟩⟩
      | panic ch => exact hp.elim
      | outgrown => exact hp.elim
    · -- BEHIND THE ITERATOR
      have kp : ∀ {N : Nat → Prop} {W2 : World} (o : Obj), Keep (fun k => N k ∨ w.heap.size ≤ k) w W2 → Keep (fun k => N k ∨ w.heap.size ≤ k) w (W2.putObj (w.heap.size + 1) o) := fun o h =>
        h.trans ((Keep.putObj _ _ _).mono fun k _ e => .inr (by omega))
      rintro e W2 ⟨⟨v, rfl⟩, (⟨hi, hl, hk, hw⟩ | ⟨pre, hSp, c, hi, hl, hk, hw⟩)⟩
      · exact ⟨none, _, by have := run_endLoop (P := P) hl (by rw [hrec]; simp); rw [hrec] at this; exact this, hdone _ _ (Nat.le_refl _) (kp _ hw) (hI _ _ _ _ _ (by omega) hl (Keep.putObj _ _ _) hi) ((World.putObj_heap_other (by omega)).trans hk)⟩
      · exact ⟨some c, _, by have := run_endLoop (P := P) hl (by rw [hrec]; simp); rw [hrec] at this; exact this, hstop _ c pre _ (Nat.le_refl _) (kp _ hw) hSp (hIx _ _ _ _ _ _ (by omega) hl (Keep.putObj _ _ _) hi) ((World.putObj_heap_other (by omega)).trans hk)⟩
end
section
set_option linter.unusedVariables false
set_option linter.unusedSimpArgs false
open Go.RowKit Go.Shelf
attribute [local go_sem] Oper.semAt_some
theorem BoxAt.keep {M : Nat → Prop} {w w1 : World} {b : Nat} {cs : Array Value} (h : BoxAt w b cs) (k : Keep M w w1) (hm : ¬ M b) : BoxAt w1 b cs :=
  ⟨fun i => (World.cell?_of_block (w := w) (a := ⟨b, i, none⟩) (k.block b h.lt hm)).trans (h.cell i), fun i => (World.frozen?_of_block (w := w) (a := ⟨b, i, none⟩) (k.block b h.lt hm)).trans (h.frozen i), Nat.lt_of_lt_of_le h.lt k.size⟩
theorem range_at {n : Nat} {pre : List Nat} {x : Nat} {rest : List Nat} (h : List.range n = pre ++ x :: rest) : x = pre.length ∧ pre.length < n := by
  have h1 : (List.range n)[pre.length]? = some x := by rw [h]; simp
  have h2 := congrArg List.length h
  simp at h2
  have h3 : pre.length < n := by omega
  rw [List.getElem?_range h3] at h1
  exact ⟨by injection h1 with h1; exact h1.symm, h3⟩
theorem range_split {n : Nat} (k : Nat) (hk : k < n) : List.range n = List.range k ++ k :: (List.range' (k + 1) (n - k - 1)) := by
  rw [List.range_eq_range', List.range_eq_range']
  have : n = k + (1 + (n - k - 1)) := by omega
  conv => lhs; rw [this, ← List.range'_append_1, ← List.range'_append_1]
  simp [List.range']

end

end Go.Proofs.YtgfbfbfajnfbjaaDoor
/- A region that draws its order, within a round of a range over a function: by the laws of a region outside (the loads first). -/
namespace Go.Proofs.YtgfbfbfajnfbjaaDoor
section
set_option linter.unusedVariables false
set_option linter.unusedSimpArgs false
open Go.RowKit Go.Shelf
variable {P : Program} {ops : Array Oper} {Q : Exit → Act → World → Prop} {l n : Nat}

theorem Oper.wpIn_round {o : Oper} {a : Act} {w : World} {K : Act → World → Prop} (hd : ∀ c, o.op ≠ .defer c) (h : o.wp P a w K Q) : o.wpIn (Fence.wide.inRound l) n P a w K Q := by
  unfold Oper.wpIn
  refine ⟨fun _ _ => trivial, ?_⟩
  rw [Oper.semAt_eq _ _ _ hd]
  unfold Oper.wp at h
  generalize (execOp a.eval o).run P w = r at *
  cases r with
  | ok x w' =>
    cases x <;> simp only [Oper.upon, Oper.uponIn] at h ⊢ <;> first
      | exact h
      | exact ⟨fun h => by simp [Fence.wide, Fence.inRound] at h, (callsIn_wide.2 h).inRound l⟩
      | exact ⟨fun h => by simp [Fence.wide, Fence.inRound] at h, fun c cs _ => let ⟨v, w', r, s⟩ := h c cs; ⟨v, w', r, stepsIn_wide.2 s⟩⟩
  | halt x w' => cases x <;> simp only [Oper.upon, Oper.uponIn] at h ⊢ <;> exact h

def noDefer (ops : Array Oper) : Bool := ops.all fun o => match o.op with | .defer _ => false | _ => true
theorem noDefer_spec (h : noDefer ops = true) {i : Nat} {o : Oper} (ho : ops[i]? = some o) : ∀ c, o.op ≠ .defer c := by
  intro c e
  have := Array.all_eq_true'.1 h o (Array.mem_of_getElem? ho)
  rw [e] at this; cases this

theorem wpAnyIn_round (hd : noDefer ops = true) (hno : ∀ a w, ¬ Q .outgrown a w) {md : Region.Mode} : ∀ (fuel : Nat) (listed : Array Bool) (a : Act) (w : World),
    wpAny P md ops Q fuel listed a w → wpAnyIn (Fence.wide.inRound l) n P md ops Q fuel listed a w
  | 0, _, _, _, h => h
  | fuel + 1, listed, a, w, h => ⟨h.1, fun i hi => by
      have h2 := h.2 i hi
      unfold wpOp at h2
      unfold wpOpIn
      cases ho : ops[i]? with
      | none => rw [ho] at h2; exact wpAnyIn_round hd hno fuel _ _ _ h2
      | some o =>
        rw [ho] at h2
        simp only at h2 ⊢
        split
        · rename_i hw
          rw [if_pos hw] at h2
          rcases h2 with h2 | ⟨_, a', w', h2⟩
          · exact Oper.wpIn_mono (fun a w h => wpAnyIn_round hd hno fuel _ a w h) (Oper.wpIn_round (noDefer_spec hd ho) h2)
          · exact absurd h2 (hno _ _)
        · rename_i hw
          rw [if_neg hw] at h2
          exact ⟨fun _ _ => trivial, wpAnyIn_round hd hno fuel _ _ _ h2⟩⟩

/-- Whatever order is picked from here on, and S holds behind every operation but number T (the last: a store into what S tells of). -/
def wpAnyT (P : Program) (md : Region.Mode) (ops : Array Oper) (Q : Exit → Act → World → Prop) (S : World → Prop) (T : Nat) : Nat → Array Bool → Act → World → Prop
  | 0, listed, a, w => Region.ready md ops listed = [] ∧ Q .normal a w
  | fuel + 1, listed, a, w =>
    (Region.ready md ops listed = [] → Q .normal a w) ∧
    ∀ i ∈ Region.ready md ops listed, wpOp P ops Q i (fun a' w' => (i ≠ T → S w') ∧ wpAnyT P md ops Q S T fuel (listed.setIfInBounds i true) a' w') a w
theorem wpAny_of_T {md : Region.Mode} {S : World → Prop} {T : Nat} : ∀ (fuel : Nat) (listed : Array Bool) (a : Act) (w : World), wpAnyT P md ops Q S T fuel listed a w → wpAny P md ops Q fuel listed a w
  | 0, _, _, _, h => h
  | fuel + 1, _, _, _, h => ⟨h.1, fun i hi => wpOp_mono (fun a' w' h' => wpAny_of_T fuel _ a' w' h'.2) (h.2 i hi)⟩
def waitsOn (md : Region.Mode) (ops : Array Oper) (T i : Nat) : Bool := match ops[T]? with
  | some o => o.after.any fun e => Region.binds md e && e.on == i
  | none => true
theorem wpAnyT_first {md : Region.Mode} {S : World → Prop} {T : Nat} {i : Nat} {oi : Oper} {v : Value} (hi : ops[i]? = some oi) (hsel : ∀ (j : Nat) (o : Oper) cs b, ops[j]? = some o → o.op ≠ .select cs b)
    (hT : waitsOn md ops T i = true) (hQ : ∀ c a w, Q (.panic c) (a.put oi.dst v) w → Q (.panic c) a w) :
    ∀ (fuel : Nat) (listed : Array Bool) (a : Act) (w : World),
      (∀ j oj, ops[j]? = some oj → j ≠ i → listed.getD j true = false → (∀ e ∈ oj.after, Region.binds md e = true → e.on ≠ i) → oi.apart ops oj = true) →
      i ∈ Region.ready md ops listed → YieldsIf P ops S oi v a → S w →
      wpAnyT P md ops Q S T fuel (listed.setIfInBounds i true) (a.put oi.dst v) w → wpAnyT P md ops Q S T (fuel + 1) listed a w := by
  intro fuel
  induction fuel with
  | zero =>
    intro listed a w _ hr hy hS H
    refine ⟨fun h => (by rw [h] at hr; cases hr), fun j hj => ?_⟩
    by_cases hji : j = i
    · subst hji; exact hy.wpOp hi hS ⟨fun _ => hS, H⟩
    · have := ready_mono hj hji
      rw [H.1] at this
      cases this
  | succ fuel ih =>
    intro listed a w hfree hr hy hS H
    refine ⟨fun h => (by rw [h] at hr; cases hr), fun j hj => ?_⟩
    by_cases hji : j = i
    · subst hji; exact hy.wpOp hi hS ⟨fun _ => hS, H⟩
    · have h1 := H.2 j (ready_mono hj hji)
      obtain ⟨hjun, oj, hoj, hall⟩ := mem_ready.1 hj
      have hnot : ∀ e ∈ oj.after, Region.binds md e = true → e.on ≠ i := fun e he hb heq => by
        have h1 := hall e he hb
        have h0 := (mem_ready.1 hr).1
        rw [heq] at h1
        rcases Nat.lt_or_ge i listed.size with h' | h'
        · simp [h'] at h0 h1; rw [h0] at h1; cases h1
        · simp [Array.getElem?_eq_none h'] at h1
      have hjT : j ≠ T := fun e => by
        subst e
        unfold waitsOn at hT
        rw [hoj] at hT
        obtain ⟨e, he, hb⟩ := Array.any_eq_true'.1 hT
        rw [Bool.and_eq_true] at hb
        exact hnot e he hb.1 (by simpa using hb.2)
      have h2 := wpOp_putIf hoj (hfree j oj hoj hji hjun hnot) (fun cs b => hsel i oi cs b hi) (fun cs b => hsel j oj cs b hoj) hQ hy h1
      have hfree' : ∀ k ok, ops[k]? = some ok → k ≠ i → (listed.setIfInBounds j true).getD k true = false →
          (∀ e ∈ ok.after, Region.binds md e = true → e.on ≠ i) → oi.apart ops ok = true := fun k ok hk hki hun hno => by
        refine hfree k ok hk hki ?_ hno
        by_cases hjk : j = k
        · subst hjk; exact hjun
        · rw [getD_set_ne true hjk] at hun; exact hun
      refine wpOp_mono (fun a' w' h3 => ⟨fun _ => h3.2.1 hjT, ih (listed.setIfInBounds j true) a' w' hfree' (ready_mono hr (Ne.symm hji)) h3.1 (h3.2.1 hjT) ?_⟩) h2
      rw [Array.setIfInBounds_comm _ _ hji]
      exact h3.2.2
theorem anyT_take {md : Region.Mode} {S : World → Prop} {T : Nat} (i : Nat) (d : Option Tmp) {oi : Oper} {v : Value} {fuel : Nat} {listed : Array Bool} {a : Act} {w : World} (hi : ops[i]? = some oi) (hd : oi.dst = d)
    (hs : Region.noSelect ops = true) (hf : Region.free md ops listed i = true) (hr : (Region.ready md ops listed).contains i = true) (hT : waitsOn md ops T i = true)
    (hQ : ∀ c a w, Q (.panic c) (a.put d v) w → Q (.panic c) a w) (hy : YieldsIf P ops S oi v a) (hS : S w)
    (h : wpAnyT P md ops Q S T fuel (listed.setIfInBounds i true) (a.put d v) w) : wpAnyT P md ops Q S T (fuel + 1) listed a w := by
  subst hd
  exact wpAnyT_first hi (Region.noSelect_spec hs) hT hQ fuel listed a w (Region.free_spec hi hf) (by simpa using hr) hy hS h
theorem anyT_done {md : Region.Mode} {S : World → Prop} {T : Nat} {listed : Array Bool} {a : Act} {w : World} (hr : Region.ready md ops listed = []) (h : Q .normal a w) :
    ∀ fuel, wpAnyT P md ops Q S T fuel listed a w
  | 0 => ⟨hr, h⟩
  | _ + 1 => ⟨fun _ => h, by rw [hr]; simp⟩
/-- One operation alone may come up (not the last). -/
theorem anyT_one {S : World → Prop} {md : Region.Mode} {T fuel : Nat} {listed : Array Bool} {a : Act} {w : World} (i : Nat) {o : Oper} (hr : Region.ready md ops listed = [i]) (ho : ops[i]? = some o)
    (h : ∀ K' : Act → World → Prop, Shut (∀ a w, S w → (S w → wpAnyT P md ops Q S T fuel (listed.setIfInBounds i true) a w) → K' a w) → if Region.wanted o (yielded ops a.tmps) = true then Oper.wp P o a w K' Q else K' (a.put o.dst undef) w) :
    wpAnyT P md ops Q S T (fuel + 1) listed a w :=
  ⟨fun h0 => absurd (hr ▸ h0) (by simp), by
    rw [hr]; intro j hj; obtain rfl : j = i := by simpa using hj
    exact wpOp_step ho fun K' hK => h K' fun a w hS hW => hK a w ⟨fun _ => hS, hW hS⟩⟩
/-- The last one. -/
theorem anyT_last {S : World → Prop} {md : Region.Mode} {T fuel : Nat} {listed : Array Bool} {a : Act} {w : World} {o : Oper} (hr : Region.ready md ops listed = [T]) (ho : ops[T]? = some o)
    (h : ∀ K' : Act → World → Prop, Shut (∀ a w, wpAnyT P md ops Q S T fuel (listed.setIfInBounds T true) a w → K' a w) → if Region.wanted o (yielded ops a.tmps) = true then Oper.wp P o a w K' Q else K' (a.put o.dst undef) w) :
    wpAnyT P md ops Q S T (fuel + 1) listed a w :=
  ⟨fun h0 => absurd (hr ▸ h0) (by simp), by
    rw [hr]; intro j hj; obtain rfl : j = T := by simpa using hj
    exact wpOp_step ho fun K' hK => h K' fun a w hW => hK a w ⟨fun hn => absurd rfl hn, hW⟩⟩
/-- The beginning, in a round. -/
theorem region_round {S : World → Prop} (T : Nat) {id : Nat} {a : Act} {w : World} (hm : P.follows .mixedOrders = true) (hd : noDefer ops = true) (hno : ∀ a w, ¬ Q .outgrown a w) (hS : S w.drew)
    (h : S w.drew → wpAnyT P .any ops Q S T ops.size (Array.replicate ops.size false) a w.drew) : (Code.region id ops true).wpIn (Fence.wide.inRound l) n P Q a w :=
  wpIn_region_any hm (wpAnyIn_round hd hno _ _ _ _ (wpAny_of_T _ _ _ _ (h hS)))
/-- The beginning, outside. -/
theorem region_plain {S : World → Prop} (T : Nat) {id : Nat} {a : Act} {w : World} (hm : P.follows .mixedOrders = true) (hS : S w.drew)
    (h : S w.drew → wpAnyT P .any ops Q S T ops.size (Array.replicate ops.size false) a w.drew) : (Code.region id ops true).wp P Q a w :=
  wp_region_any hm (wpAny_of_T _ _ _ _ (h hS))
/-- The beginning, in the wide fence, outside any round. -/
theorem region_wide {S : World → Prop} (T : Nat) {id : Nat} {a : Act} {w : World} (hm : P.follows .mixedOrders = true) (hS : S w.drew)
    (h : S w.drew → wpAnyT P .any ops Q S T ops.size (Array.replicate ops.size false) a w.drew) : (Code.region id ops true).wpIn Fence.wide n P Q a w :=
  wpIn_wide.2 (region_plain T hm hS h)
end
end Go.Proofs.YtgfbfbfajnfbjaaDoor
/- A region that draws its order, once more: what S tells of is asked only as long as the operation T has not come up (a call that may end otherwise, say). -/
namespace Go.Proofs.YtgfbfbfajnfbjaaDoor
section
set_option linter.unusedVariables false
set_option linter.unusedSimpArgs false
open Go.RowKit Go.Shelf
variable {P : Program} {ops : Array Oper} {Q : Exit → Act → World → Prop} {l n : Nat}
def wpAnyU (P : Program) (md : Region.Mode) (ops : Array Oper) (Q : Exit → Act → World → Prop) (S : World → Prop) (T : Nat) : Nat → Array Bool → Act → World → Prop
  | 0, listed, a, w => Region.ready md ops listed = [] ∧ Q .normal a w
  | fuel + 1, listed, a, w =>
    (Region.ready md ops listed = [] → Q .normal a w) ∧
    ∀ i ∈ Region.ready md ops listed, wpOp P ops Q i (fun a' w' => ((listed.setIfInBounds i true).getD T true = false → S w') ∧ wpAnyU P md ops Q S T fuel (listed.setIfInBounds i true) a' w') a w
theorem wpAny_of_U {md : Region.Mode} {S : World → Prop} {T : Nat} : ∀ (fuel : Nat) (listed : Array Bool) (a : Act) (w : World), wpAnyU P md ops Q S T fuel listed a w → wpAny P md ops Q fuel listed a w
  | 0, _, _, _, h => h
  | fuel + 1, _, _, _, h => ⟨h.1, fun i hi => wpOp_mono (fun a' w' h' => wpAny_of_U fuel _ a' w' h'.2) (h.2 i hi)⟩
theorem wpAnyU_free {md : Region.Mode} {S : World → Prop} {T : Nat} {i : Nat} {oi : Oper} {v : Value} (hi : ops[i]? = some oi) (hiT : i ≠ T) (hsel : ∀ (j : Nat) (o : Oper) cs b, ops[j]? = some o → o.op ≠ .select cs b)
    (hQ : ∀ c a w, Q (.panic c) (a.put oi.dst v) w → Q (.panic c) a w) :
    ∀ (fuel : Nat) (listed : Array Bool) (a : Act) (w : World),
      (∀ j oj, ops[j]? = some oj → j ≠ i → listed.getD j true = false → (∀ e ∈ oj.after, Region.binds md e = true → e.on ≠ i) → oi.apart ops oj = true) →
      i ∈ Region.ready md ops listed → YieldsIf P ops (fun _ => True) oi v a → (listed.getD T true = false → S w) →
      wpAnyU P md ops Q S T fuel (listed.setIfInBounds i true) (a.put oi.dst v) w → wpAnyU P md ops Q S T (fuel + 1) listed a w := by
  intro fuel
  induction fuel with
  | zero =>
    intro listed a w _ hr hy hS H
    refine ⟨fun h => (by rw [h] at hr; cases hr), fun j hj => ?_⟩
    by_cases hji : j = i
    · subst hji; exact hy.wpOp hi trivial ⟨fun h => hS (by rwa [getD_set_ne true hiT] at h), H⟩
    · have := ready_mono hj hji
      rw [H.1] at this
      cases this
  | succ fuel ih =>
    intro listed a w hfree hr hy hS H
    refine ⟨fun h => (by rw [h] at hr; cases hr), fun j hj => ?_⟩
    by_cases hji : j = i
    · subst hji; exact hy.wpOp hi trivial ⟨fun h => hS (by rwa [getD_set_ne true hiT] at h), H⟩
    · have h1 := H.2 j (ready_mono hj hji)
      obtain ⟨hjun, oj, hoj, hall⟩ := mem_ready.1 hj
      have hnot : ∀ e ∈ oj.after, Region.binds md e = true → e.on ≠ i := fun e he hb heq => by
        have h1 := hall e he hb
        have h0 := (mem_ready.1 hr).1
        rw [heq] at h1
        rcases Nat.lt_or_ge i listed.size with h' | h'
        · simp [h'] at h0 h1; rw [h0] at h1; cases h1
        · simp [Array.getElem?_eq_none h'] at h1
      have h2 := wpOp_putIf hoj (hfree j oj hoj hji hjun hnot) (fun cs b => hsel i oi cs b hi) (fun cs b => hsel j oj cs b hoj) hQ hy h1
      have hfree' : ∀ k ok, ops[k]? = some ok → k ≠ i → (listed.setIfInBounds j true).getD k true = false →
          (∀ e ∈ ok.after, Region.binds md e = true → e.on ≠ i) → oi.apart ops ok = true := fun k ok hk hki hun hno => by
        refine hfree k ok hk hki ?_ hno
        by_cases hjk : j = k
        · subst hjk; exact hjun
        · rw [getD_set_ne true hjk] at hun; exact hun
      have hcomm : (listed.setIfInBounds i true).setIfInBounds j true = (listed.setIfInBounds j true).setIfInBounds i true := Array.setIfInBounds_comm _ _ (Ne.symm hji)
      refine wpOp_mono (fun a' w' h3 => ?_) h2
      have hS' : (listed.setIfInBounds j true).getD T true = false → S w' := fun h => by
        exact h3.2.1 (by rw [hcomm, getD_set_ne true hiT]; exact h)
      refine ⟨hS', ih (listed.setIfInBounds j true) a' w' hfree' (ready_mono hr (Ne.symm hji)) h3.1 hS' ?_⟩
      rw [← hcomm]
      exact h3.2.2
theorem wpAnyU_first {md : Region.Mode} {S : World → Prop} {T : Nat} {i : Nat} {oi : Oper} {v : Value} (hi : ops[i]? = some oi) (hiT : i ≠ T) (hsel : ∀ (j : Nat) (o : Oper) cs b, ops[j]? = some o → o.op ≠ .select cs b)
    (hT : waitsOn md ops T i = true) (hQ : ∀ c a w, Q (.panic c) (a.put oi.dst v) w → Q (.panic c) a w) :
    ∀ (fuel : Nat) (listed : Array Bool) (a : Act) (w : World),
      (∀ j oj, ops[j]? = some oj → j ≠ i → listed.getD j true = false → (∀ e ∈ oj.after, Region.binds md e = true → e.on ≠ i) → oi.apart ops oj = true) →
      i ∈ Region.ready md ops listed → listed.getD T true = false → YieldsIf P ops S oi v a → S w →
      wpAnyU P md ops Q S T fuel (listed.setIfInBounds i true) (a.put oi.dst v) w → wpAnyU P md ops Q S T (fuel + 1) listed a w := by
  intro fuel
  induction fuel with
  | zero =>
    intro listed a w _ hr _ hy hS H
    refine ⟨fun h => (by rw [h] at hr; cases hr), fun j hj => ?_⟩
    by_cases hji : j = i
    · subst hji; exact hy.wpOp hi hS ⟨fun _ => hS, H⟩
    · have := ready_mono hj hji
      rw [H.1] at this
      cases this
  | succ fuel ih =>
    intro listed a w hfree hr hTl hy hS H
    refine ⟨fun h => (by rw [h] at hr; cases hr), fun j hj => ?_⟩
    by_cases hji : j = i
    · subst hji; exact hy.wpOp hi hS ⟨fun _ => hS, H⟩
    · have h1 := H.2 j (ready_mono hj hji)
      obtain ⟨hjun, oj, hoj, hall⟩ := mem_ready.1 hj
      have hnot : ∀ e ∈ oj.after, Region.binds md e = true → e.on ≠ i := fun e he hb heq => by
        have h1 := hall e he hb
        have h0 := (mem_ready.1 hr).1
        rw [heq] at h1
        rcases Nat.lt_or_ge i listed.size with h' | h'
        · simp [h'] at h0 h1; rw [h0] at h1; cases h1
        · simp [Array.getElem?_eq_none h'] at h1
      have hjT : j ≠ T := fun e => by
        subst e
        unfold waitsOn at hT
        rw [hoj] at hT
        obtain ⟨e, he, hb⟩ := Array.any_eq_true'.1 hT
        rw [Bool.and_eq_true] at hb
        exact hnot e he hb.1 (by simpa using hb.2)
      have h2 := wpOp_putIf hoj (hfree j oj hoj hji hjun hnot) (fun cs b => hsel i oi cs b hi) (fun cs b => hsel j oj cs b hoj) hQ hy h1
      have hfree' : ∀ k ok, ops[k]? = some ok → k ≠ i → (listed.setIfInBounds j true).getD k true = false →
          (∀ e ∈ ok.after, Region.binds md e = true → e.on ≠ i) → oi.apart ops ok = true := fun k ok hk hki hun hno => by
        refine hfree k ok hk hki ?_ hno
        by_cases hjk : j = k
        · subst hjk; exact hjun
        · rw [getD_set_ne true hjk] at hun; exact hun
      have hcomm : (listed.setIfInBounds i true).setIfInBounds j true = (listed.setIfInBounds j true).setIfInBounds i true := Array.setIfInBounds_comm _ _ (Ne.symm hji)
      refine wpOp_mono (fun a' w' h3 => ?_) h2
      have hTl' : (listed.setIfInBounds j true).getD T true = false := by rw [getD_set_ne true hjT]; exact hTl
      have hS' : S w' := h3.2.1 (by rw [hcomm, getD_set_ne true hiT]; exact hTl')
      refine ⟨fun _ => hS', ih (listed.setIfInBounds j true) a' w' hfree' (ready_mono hr (Ne.symm hji)) hTl' h3.1 hS' ?_⟩
      rw [← hcomm]
      exact h3.2.2
theorem anyU_take {md : Region.Mode} {S : World → Prop} {T : Nat} (i : Nat) (d : Option Tmp) {oi : Oper} {v : Value} {fuel : Nat} {listed : Array Bool} {a : Act} {w : World} (hi : ops[i]? = some oi) (hd : oi.dst = d) (hiT : (i == T) = false)
    (hs : Region.noSelect ops = true) (hf : Region.free md ops listed i = true) (hr : (Region.ready md ops listed).contains i = true) (hT : waitsOn md ops T i = true) (hTl : listed.getD T true = false)
    (hQ : ∀ c a w, Q (.panic c) (a.put d v) w → Q (.panic c) a w) (hy : YieldsIf P ops S oi v a) (hS : S w)
    (h : wpAnyU P md ops Q S T fuel (listed.setIfInBounds i true) (a.put d v) w) : wpAnyU P md ops Q S T (fuel + 1) listed a w := by
  subst hd
  exact wpAnyU_first hi (by simpa using hiT) (Region.noSelect_spec hs) hT hQ fuel listed a w (Region.free_spec hi hf) (by simpa using hr) hTl hy hS h
theorem anyU_free {md : Region.Mode} {S : World → Prop} {T : Nat} (i : Nat) (d : Option Tmp) {oi : Oper} {v : Value} {fuel : Nat} {listed : Array Bool} {a : Act} {w : World} (hi : ops[i]? = some oi) (hd : oi.dst = d) (hiT : (i == T) = false)
    (hs : Region.noSelect ops = true) (hf : Region.free md ops listed i = true) (hr : (Region.ready md ops listed).contains i = true)
    (hQ : ∀ c a w, Q (.panic c) (a.put d v) w → Q (.panic c) a w) (hy : YieldsIf P ops (fun _ => True) oi v a) (hS : listed.getD T true = false → S w)
    (h : wpAnyU P md ops Q S T fuel (listed.setIfInBounds i true) (a.put d v) w) : wpAnyU P md ops Q S T (fuel + 1) listed a w := by
  subst hd
  exact wpAnyU_free hi (by simpa using hiT) (Region.noSelect_spec hs) hQ fuel listed a w (Region.free_spec hi hf) (by simpa using hr) hy hS h
theorem anyU_done {md : Region.Mode} {S : World → Prop} {T : Nat} {listed : Array Bool} {a : Act} {w : World} (hr : Region.ready md ops listed = []) (h : Q .normal a w) :
    ∀ fuel, wpAnyU P md ops Q S T fuel listed a w
  | 0 => ⟨hr, h⟩
  | _ + 1 => ⟨fun _ => h, by rw [hr]; simp⟩
/-- One operation alone may come up (T still to come). -/
theorem anyU_one {S : World → Prop} {md : Region.Mode} {T fuel : Nat} {listed : Array Bool} {a : Act} {w : World} (i : Nat) {o : Oper} (hr : Region.ready md ops listed = [i]) (ho : ops[i]? = some o)
    (h : ∀ K' : Act → World → Prop, Shut (∀ a w, S w → (S w → wpAnyU P md ops Q S T fuel (listed.setIfInBounds i true) a w) → K' a w) → if Region.wanted o (yielded ops a.tmps) = true then Oper.wp P o a w K' Q else K' (a.put o.dst undef) w) :
    wpAnyU P md ops Q S T (fuel + 1) listed a w :=
  ⟨fun h0 => absurd (hr ▸ h0) (by simp), by
    rw [hr]; intro j hj; obtain rfl : j = i := by simpa using hj
    exact wpOp_step ho fun K' hK => h K' fun a w hS hW => hK a w ⟨fun _ => hS, hW hS⟩⟩
/-- T itself, or what comes behind it. -/
theorem anyU_last {S : World → Prop} {md : Region.Mode} {T fuel : Nat} {listed : Array Bool} {a : Act} {w : World} (i : Nat) {o : Oper} (hr : Region.ready md ops listed = [i]) (ho : ops[i]? = some o) (hT : (listed.setIfInBounds i true).getD T true = true)
    (h : ∀ K' : Act → World → Prop, Shut (∀ a w, wpAnyU P md ops Q S T fuel (listed.setIfInBounds i true) a w → K' a w) → if Region.wanted o (yielded ops a.tmps) = true then Oper.wp P o a w K' Q else K' (a.put o.dst undef) w) :
    wpAnyU P md ops Q S T (fuel + 1) listed a w :=
  ⟨fun h0 => absurd (hr ▸ h0) (by simp), by
    rw [hr]; intro j hj; obtain rfl : j = i := by simpa using hj
    exact wpOp_step ho fun K' hK => h K' fun a w hW => hK a w ⟨fun hn => absurd (hn.symm.trans hT) (by simp), hW⟩⟩
theorem regionU_round {S : World → Prop} (T : Nat) {id : Nat} {a : Act} {w : World} (hm : P.follows .mixedOrders = true) (hd : noDefer ops = true) (hno : ∀ a w, ¬ Q .outgrown a w) (hS : S w.drew)
    (h : S w.drew → wpAnyU P .any ops Q S T ops.size (Array.replicate ops.size false) a w.drew) : (Code.region id ops true).wpIn (Fence.wide.inRound l) n P Q a w :=
  wpIn_region_any hm (wpAnyIn_round hd hno _ _ _ _ (wpAny_of_U _ _ _ _ (h hS)))
theorem regionU_plain {S : World → Prop} (T : Nat) {id : Nat} {a : Act} {w : World} (hm : P.follows .mixedOrders = true) (hS : S w.drew)
    (h : S w.drew → wpAnyU P .any ops Q S T ops.size (Array.replicate ops.size false) a w.drew) : (Code.region id ops true).wp P Q a w :=
  wp_region_any hm (wpAny_of_U _ _ _ _ (h hS))
theorem regionU_wide {S : World → Prop} (T : Nat) {id : Nat} {a : Act} {w : World} (hm : P.follows .mixedOrders = true) (hS : S w.drew)
    (h : S w.drew → wpAnyU P .any ops Q S T ops.size (Array.replicate ops.size false) a w.drew) : (Code.region id ops true).wpIn Fence.wide n P Q a w :=
  wpIn_wide.2 (regionU_plain T hm hS h)
end
section
set_option linter.unusedVariables false
set_option linter.unusedSimpArgs false
open Go.RowKit Go.Shelf
attribute [local go_sem] Oper.semAt_some
theorem bcell {W w1 : World} (hb : Below W.heap.size W w1) : (∀ b o, b < W.heap.size → w1.cell? ⟨b, o, none⟩ = W.cell? ⟨b, o, none⟩) ∧ (∀ b o, b < W.heap.size → w1.frozen? ⟨b, o, none⟩ = W.frozen? ⟨b, o, none⟩) :=
  ⟨fun b o h => hb.cell (p := ⟨b, o, none⟩) h, fun b o h => hb.frozen (p := ⟨b, o, none⟩) h⟩
theorem IntsAt.at_ {w : World} {b o : Nat} {xs : List Int} (h : IntsAt w (some ⟨b, o, none⟩) xs) {k : Nat} (hk : k < xs.length) : w.cell? ⟨b, o + k, none⟩ = some (.int .i64 (gi xs k)) := by
  rcases h.2 with h | ⟨b', o', e, h⟩
  · rw [h] at hk; simp at hk
  · cases e; exact h k hk
theorem cell_new1 (w : World) (v : Value) (t : TypeId) : (w.alloc (.cells #[v] t)).cell? ⟨w.heap.size, 0, none⟩ = some v := (BoxAt.new w #[v] t).cell 0
theorem gi_out {l : List Int} {k : Nat} (h : ¬ k < l.length) : gi l k = 0 := by unfold gi; rw [List.getD_eq_getElem?_getD, List.getElem?_eq_none (by omega)]; rfl
theorem IntsAt.some_ {w : World} {A : Option Addr} {xs : List Int} (h : IntsAt w A xs) (hn : 0 < xs.length) : ∃ b o, A = some ⟨b, o, none⟩ := by
  rcases h.2 with e | ⟨b, o, e, _⟩
  · rw [e] at hn; simp at hn
  · exact ⟨b, o, e⟩
theorem kcell {n : Nat} {W w1 : World} (hb : Keep (fun k => k = n) W w1) : (∀ b o, b < W.heap.size → b ≠ n → w1.cell? ⟨b, o, none⟩ = W.cell? ⟨b, o, none⟩) ∧ (∀ b o, b < W.heap.size → b ≠ n → w1.frozen? ⟨b, o, none⟩ = W.frozen? ⟨b, o, none⟩) :=
  ⟨fun b o h hn => World.cell?_of_block (w := W) (hb.block b h hn), fun b o h hn => World.frozen?_of_block (w := W) (hb.block b h hn)⟩
theorem Keep.of_belowX {M : Nat → Prop} {a b c : World} (h : Keep M a b) (k : Below b.heap.size b c) : Keep M a c := h.trans (Keep.of_below k)
theorem IntsAt.keep {M : Nat → Prop} {w w1 : World} {A : Option Addr} {xs : List Int} (h : IntsAt w A xs) (hb : Keep M w w1) (hA : ∀ b o, A = some ⟨b, o, none⟩ → ¬ M b) : IntsAt w1 A xs :=
  ⟨h.1, h.2.imp id fun ⟨b, o, e, hc⟩ => ⟨b, o, e, fun j hj => hb.cell (hc j hj) (hA b o e)⟩⟩

end
end Go.Proofs.YtgfbfbfajnfbjaaDoor
