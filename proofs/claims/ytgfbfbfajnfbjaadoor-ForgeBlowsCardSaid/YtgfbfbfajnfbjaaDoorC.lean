import Derived.Test.YtgfbfbfajnfbjaaDoorA
/- What a book of the forge is, in memory and by itself; and what the functions of the layer compute, in plain lists. -/
namespace Go.Proofs.YtgfbfbfajnfbjaaDoor
section
set_option linter.unusedVariables false
set_option linter.unusedSimpArgs false
open Go.RowKit Go.Shelf
structure LotV where
  bars : Int
  lo : Int
  hi : Int
instance : Inhabited LotV := ⟨⟨0, 0, 0⟩⟩
def gl (l : List LotV) (k : Nat) : LotV := l.getD k default
structure LookV where
  blows : Int
  thick : Int
  err : Int
instance : Inhabited LookV := ⟨⟨0, 0, 0⟩⟩
def glk (l : List LookV) (k : Nat) : LookV := l.getD k default
def LotsAt (w : World) (A : Option Addr) (xs : List LotV) : Prop :=
  xs.length ≤ 9223372036854775807 ∧ (xs = [] ∨ ∃ b o, A = some ⟨b, o, none⟩ ∧ ∀ j, j < xs.length →
    w.cell? ⟨b, o + j * 3, none⟩ = some (.int .i64 (gl xs j).bars) ∧ w.cell? ⟨b, o + j * 3 + 1, none⟩ = some (.int .i64 (gl xs j).lo) ∧ w.cell? ⟨b, o + j * 3 + 2, none⟩ = some (.int .i64 (gl xs j).hi))
def LooksAt (w : World) (A : Option Addr) (xs : List LookV) : Prop :=
  xs.length ≤ 9223372036854775807 ∧ (xs = [] ∨ ∃ b o, A = some ⟨b, o, none⟩ ∧ ∀ j, j < xs.length →
    w.cell? ⟨b, o + j * 3, none⟩ = some (.int .i64 (glk xs j).blows) ∧ w.cell? ⟨b, o + j * 3 + 1, none⟩ = some (.int .i64 (glk xs j).thick) ∧ w.cell? ⟨b, o + j * 3 + 2, none⟩ = some (.int .i64 (glk xs j).err))
structure ForgeV where
  lA : Option Addr
  lCap : Nat
  lots : List LotV
  tlo : Int
  thi : Int
  thick : Int
  crack : Int
  glo : Int
  ghi : Int
  sA : Option Addr
  sCap : Nat
  thins : List (Int × Int)
  hot : Int
  least : Int
  clo : Int
  chi : Int
  coal : Int
  kA : Option Addr
  kCap : Nat
  looks : List LookV
def ForgeV.cells (B : ForgeV) : Array Value :=
  #[.slice B.lA B.lots.length B.lCap, .int .i64 B.tlo, .int .i64 B.thi, .int .i64 B.thick, .int .i64 B.crack, .int .i64 B.glo, .int .i64 B.ghi, .slice B.sA B.thins.length B.sCap,
    .int .i64 B.hot, .int .i64 B.least, .int .i64 B.clo, .int .i64 B.chi, .int .i64 B.coal, .slice B.kA B.looks.length B.kCap]
def ForgeV.val (B : ForgeV) : Value := .agg B.cells
structure ForgeV.Reads (w : World) (B : ForgeV) : Prop where
  lots : LotsAt w B.lA B.lots
  thins : SpansAt w B.sA B.thins
  looks : LooksAt w B.kA B.looks
theorem LotsAt.below {w w1 : World} {A : Option Addr} {xs : List LotV} (h : LotsAt w A xs) (hb : Below w.heap.size w w1) : LotsAt w1 A xs :=
  ⟨h.1, h.2.imp id fun ⟨b, o, e, hc⟩ => ⟨b, o, e, fun j hj => ⟨cell_below hb (hc j hj).1, cell_below hb (hc j hj).2.1, cell_below hb (hc j hj).2.2⟩⟩⟩
theorem LooksAt.below {w w1 : World} {A : Option Addr} {xs : List LookV} (h : LooksAt w A xs) (hb : Below w.heap.size w w1) : LooksAt w1 A xs :=
  ⟨h.1, h.2.imp id fun ⟨b, o, e, hc⟩ => ⟨b, o, e, fun j hj => ⟨cell_below hb (hc j hj).1, cell_below hb (hc j hj).2.1, cell_below hb (hc j hj).2.2⟩⟩⟩
theorem ForgeV.Reads.below {w w1 : World} {B : ForgeV} (h : B.Reads w) (hb : Below w.heap.size w w1) : B.Reads w1 := ⟨h.lots.below hb, h.thins.below hb, h.looks.below hb⟩
theorem LotsAt.some_ {w : World} {A : Option Addr} {xs : List LotV} (h : LotsAt w A xs) (hn : 0 < xs.length) : ∃ b o, A = some ⟨b, o, none⟩ := by
  rcases h.2 with rfl | ⟨b, o, e, _⟩
  · simp at hn
  · exact ⟨b, o, e⟩
theorem LooksAt.some_ {w : World} {A : Option Addr} {xs : List LookV} (h : LooksAt w A xs) (hn : 0 < xs.length) : ∃ b o, A = some ⟨b, o, none⟩ := by
  rcases h.2 with rfl | ⟨b, o, e, _⟩
  · simp at hn
  · exact ⟨b, o, e⟩
theorem SpansAt.some_ {w : World} {A : Option Addr} {xs : List (Int × Int)} (h : SpansAt w A xs) (hn : 0 < xs.length) : ∃ b o, A = some ⟨b, o, none⟩ := by
  rcases h.2 with rfl | ⟨b, o, e, _⟩
  · simp at hn
  · exact ⟨b, o, e⟩
theorem LotsAt.at_ {w : World} {b o : Nat} {xs : List LotV} (h : LotsAt w (some ⟨b, o, none⟩) xs) {k : Nat} (hk : k < xs.length) :
    w.cell? ⟨b, o + k * 3, none⟩ = some (.int .i64 (gl xs k).bars) ∧ w.cell? ⟨b, o + k * 3 + 1, none⟩ = some (.int .i64 (gl xs k).lo) ∧ w.cell? ⟨b, o + k * 3 + 2, none⟩ = some (.int .i64 (gl xs k).hi) := by
  rcases h.2 with h | ⟨b', o', e, h⟩
  · rw [h] at hk; simp at hk
  · cases e; exact h k hk
theorem LooksAt.at_ {w : World} {b o : Nat} {xs : List LookV} (h : LooksAt w (some ⟨b, o, none⟩) xs) {k : Nat} (hk : k < xs.length) :
    w.cell? ⟨b, o + k * 3, none⟩ = some (.int .i64 (glk xs k).blows) ∧ w.cell? ⟨b, o + k * 3 + 1, none⟩ = some (.int .i64 (glk xs k).thick) ∧ w.cell? ⟨b, o + k * 3 + 2, none⟩ = some (.int .i64 (glk xs k).err) := by
  rcases h.2 with h | ⟨b', o', e, h⟩
  · rw [h] at hk; simp at hk
  · cases e; exact h k hk
theorem SpansAt.at_ {w : World} {b o : Nat} {xs : List (Int × Int)} (h : SpansAt w (some ⟨b, o, none⟩) xs) {k : Nat} (hk : k < xs.length) :
    w.cell? ⟨b, o + k * 2, none⟩ = some (.int .i64 (gs xs k).1) ∧ w.cell? ⟨b, o + k * 2 + 1, none⟩ = some (.int .i64 (gs xs k).2) := by
  rcases h.2 with h | ⟨b', o', e, h⟩
  · rw [h] at hk; simp at hk
  · cases e; exact h k hk
theorem LotsAt.keep {M : Nat → Prop} {w w1 : World} {A : Option Addr} {xs : List LotV} (h : LotsAt w A xs) (k : Keep M w w1) (hm : ∀ b o, A = some ⟨b, o, none⟩ → ¬ M b) : LotsAt w1 A xs :=
  ⟨h.1, h.2.imp id fun ⟨b, o, e, hc⟩ => ⟨b, o, e, fun j hj => ⟨k.cell (hc j hj).1 (hm b o e), k.cell (hc j hj).2.1 (hm b o e), k.cell (hc j hj).2.2 (hm b o e)⟩⟩⟩
theorem LooksAt.keep {M : Nat → Prop} {w w1 : World} {A : Option Addr} {xs : List LookV} (h : LooksAt w A xs) (k : Keep M w w1) (hm : ∀ b o, A = some ⟨b, o, none⟩ → ¬ M b) : LooksAt w1 A xs :=
  ⟨h.1, h.2.imp id fun ⟨b, o, e, hc⟩ => ⟨b, o, e, fun j hj => ⟨k.cell (hc j hj).1 (hm b o e), k.cell (hc j hj).2.1 (hm b o e), k.cell (hc j hj).2.2 (hm b o e)⟩⟩⟩
theorem SpansAt.keep {M : Nat → Prop} {w w1 : World} {A : Option Addr} {xs : List (Int × Int)} (h : SpansAt w A xs) (k : Keep M w w1) (hm : ∀ b o, A = some ⟨b, o, none⟩ → ¬ M b) : SpansAt w1 A xs :=
  ⟨h.1, h.2.imp id fun ⟨b, o, e, hc⟩ => ⟨b, o, e, fun j hj => ⟨k.cell (hc j hj).1 (hm b o e), k.cell (hc j hj).2 (hm b o e)⟩⟩⟩
/-- The package's table of methods. -/
def EndsAt (w : World) : Prop := w.cell? ⟨0, 0, none⟩ = some (.func (.func 130) #[] #[]) ∧ w.cell? ⟨0, 1, none⟩ = some (.func (.func 131) #[] #[])
theorem EndsAt.below {w w1 : World} (h : EndsAt w) (hb : Below w.heap.size w w1) : EndsAt w1 := ⟨cell_below hb h.1, cell_below hb h.2⟩

/-! A valid book. -/
def lotB (l : LotV) : Bool := inB l.bars 0 6 && spanB l.lo l.hi 0 1000
def lookB (l : LookV) : Bool := inB l.blows 0 300 && (inB l.thick 0 3000 && inB l.err 0 50)
def thinB (p : Int × Int) : Bool := spanB p.1 p.2 1 20
def lotsB (l : List LotV) (k : Nat) : Bool := (List.range k).all fun j => lotB (gl l j)
def thinsB (l : List (Int × Int)) (k : Nat) : Bool := (List.range k).all fun j => thinB (gs l j)
def looksB (l : List LookV) (k : Nat) : Bool := (List.range k).all fun j => lookB (glk l j)
def head1B (B : ForgeV) : Bool := inB B.lots.length 1 4 && spanB B.tlo B.thi 0 1000
def head2B (B : ForgeV) : Bool := inB B.thick 1 3000 && (inB B.crack 0 3000 && (spanB B.glo B.ghi 0 3000 && decide (B.thins.length = 3)))
def head3B (B : ForgeV) : Bool := inB B.hot 0 1500 && (inB B.least 0 B.hot && (spanB B.clo B.chi 1 300 && (inB B.coal 0 100 && decide (B.looks.length ≤ 8))))
def goodF (B : ForgeV) : Bool := (((((head1B B && head2B B) && head3B B) && lotsB B.lots B.lots.length) && thinsB B.thins B.thins.length) && looksB B.looks B.looks.length)
structure ForgeV.Good (B : ForgeV) : Prop where
  many : 1 ≤ B.lots.length ∧ B.lots.length ≤ 4
  tin : 0 ≤ B.tlo ∧ B.tlo ≤ B.thi ∧ B.thi ≤ 1000
  thick : 1 ≤ B.thick ∧ B.thick ≤ 3000
  crack : 0 ≤ B.crack ∧ B.crack ≤ 3000
  goal : 0 ≤ B.glo ∧ B.glo ≤ B.ghi ∧ B.ghi ≤ 3000
  thinsLen : B.thins.length = 3
  hot : 0 ≤ B.hot ∧ B.hot ≤ 1500
  least : 0 ≤ B.least ∧ B.least ≤ B.hot
  cool : 1 ≤ B.clo ∧ B.clo ≤ B.chi ∧ B.chi ≤ 300
  coal : 0 ≤ B.coal ∧ B.coal ≤ 100
  looksLen : B.looks.length ≤ 8
  lot : ∀ j, j < B.lots.length → (0 ≤ (gl B.lots j).bars ∧ (gl B.lots j).bars ≤ 6) ∧ 0 ≤ (gl B.lots j).lo ∧ (gl B.lots j).lo ≤ (gl B.lots j).hi ∧ (gl B.lots j).hi ≤ 1000
  thin : ∀ j, j < 3 → 1 ≤ (gs B.thins j).1 ∧ (gs B.thins j).1 ≤ (gs B.thins j).2 ∧ (gs B.thins j).2 ≤ 20
  look : ∀ j, j < B.looks.length → (0 ≤ (glk B.looks j).blows ∧ (glk B.looks j).blows ≤ 300) ∧ (0 ≤ (glk B.looks j).thick ∧ (glk B.looks j).thick ≤ 3000) ∧ 0 ≤ (glk B.looks j).err ∧ (glk B.looks j).err ≤ 50
theorem goodF_iff (B : ForgeV) : goodF B = true ↔ B.Good := by
  simp only [goodF, head1B, head2B, head3B, lotsB, thinsB, looksB, lotB, thinB, lookB, Bool.and_eq_true, inB_iff, spanB_iff, decide_eq_true_eq, List.all_eq_true, List.mem_range]
  constructor
  · rintro ⟨⟨⟨⟨⟨⟨h1, h2⟩, h3, h4, h5, h6⟩, h7, h8, h9, h10, h11⟩, h12⟩, h13⟩, h14⟩
    exact ⟨by omega, h2, h3, h4, h5, h6, h7, h8, h9, h10, h11, h12, fun j hj => h13 j (by omega), h14⟩
  · rintro ⟨h1, h2, h3, h4, h5, h6, h7, h8, h9, h10, h11, h12, h13, h14⟩
    exact ⟨⟨⟨⟨⟨⟨by omega, h2⟩, h3, h4, h5, h6⟩, h7, h8, h9, h10, h11⟩, h12⟩, fun j hj => h13 j (by omega)⟩, h14⟩

/-! Melts. -/
/-- four numbers, as an array has them -/
def pad4 (m : List Int) : Array Value := #[.int .i64 (gi m 0), .int .i64 (gi m 1), .int .i64 (gi m 2), .int .i64 (gi m 3)]
def endOf (hi : Bool) (a b : Int) : Int := bif hi then b else a
/-- the least, or the greatest, tin of the bars of the first lots -/
def tinTo (lots : List LotV) (m : List Int) (hi : Bool) : Nat → Int
  | 0 => 0
  | k + 1 => tinTo lots m hi k + gi m k * endOf hi (gl lots k).lo (gl lots k).hi
def sumTo (m : List Int) : Nat → Int
  | 0 => 0
  | k + 1 => sumTo m k + gi m k
def rightS (B : ForgeV) (m : List Int) : Bool :=
  !(decide (gi m 0 = 0) && (decide (gi m 1 = 0) && (decide (gi m 2 = 0) && decide (gi m 3 = 0)))) &&
    (decide (sumTo m 4 * B.tlo ≤ tinTo B.lots m false B.lots.length) && decide (tinTo B.lots m true B.lots.length ≤ sumTo m 4 * B.thi))
def stockS (B : ForgeV) : List Int := B.lots.map (·.bars)
/-- all ways to take so many bars out of some, in their order -/
def choices : List Int → Int → List (List Int)
  | [], m => if 0 < m then [] else [[]]
  | h :: t, m => (List.range (min h m + 1).toNat).flatMap fun k : Nat => (choices t (m - k)).map ((k : Int) :: ·)
def meltsS (B : ForgeV) (have_ : List Int) (many : Int) : List (List Int) := (choices have_ many).filter (rightS B)
def lotsTo (m : List Int) : Nat → Nat
  | 0 => 0
  | k + 1 => lotsTo m k + if 0 < gi m k then 1 else 0
def lotsS (m : List Int) : Nat := lotsTo m 4
def bestStep (b : Option (List Int)) (p : List Int) : Option (List Int) := match b with
  | none => some p
  | some q => if lotsS p < lotsS q then some p else some q
def bestOf (l : List (List Int)) : Option (List Int) := l.foldl bestStep none
def mostS (B : ForgeV) : Nat → Nat
  | 0 => 0
  | n + 1 => if (meltsS B (stockS B) ((n : Int) + 1)).isEmpty then mostS B n else n + 1
def subL (a b : List Int) : List Int := List.zipWith (· - ·) a b
def castsS (B : ForgeV) : List Int → List Int → Option (List (List Int))
  | _, [] => some []
  | left, s :: ss => (meltsS B left s).findSome? fun m => (castsS B (subL left m) ss).map (m :: ·)

/-! Blows. -/
def struckS (blows k : Int) : Int := (blows + 2 - k) / 3
def afterS (B : ForgeV) (x : List Int) (blows : Int) : Int := B.thick - gi x 0 * struckS blows 0 - gi x 1 * struckS blows 1 - gi x 2 * struckS blows 2
/-- is the look wrong, if the strikers do so? -/
def missB (B : ForgeV) (x : List Int) (left : Int) (i : Nat) : Bool :=
  decide (left / 2 ^ i % 2 = 0) && !inB (afterS B x (glk B.looks i).blows) ((glk B.looks i).thick - (glk B.looks i).err) ((glk B.looks i).thick + (glk B.looks i).err)
def seenTo (B : ForgeV) (x : List Int) (left : Int) (k : Nat) : Bool := (List.range k).all fun i => !missB B x left i
def between (lo hi : Int) : List Int := (List.range (hi - lo + 1).toNat).map fun k : Nat => lo + k
def truthsFrom (B : ForgeV) (left : Int) : Nat → List Int → List (List Int)
  | 0, x => if seenTo B x left B.looks.length then [x] else []
  | n + 1, x => (between (gs B.thins x.length).1 (gs B.thins x.length).2).flatMap fun v => truthsFrom B left n (x ++ [v])
def truthsS (B : ForgeV) (left : Int) : List (List Int) := truthsFrom B left 3 []
def canS (B : ForgeV) (left : Int) : Bool := !(truthsS B left).isEmpty
end
end Go.Proofs.YtgfbfbfajnfbjaaDoor
