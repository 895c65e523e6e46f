import Derived.Test.YtgfbfbfajnfbjaaDoorC
import Derived.Test.YtgfbfbfajnfbjaaDoorB
/- Small words: a block stored whole, from its first cell on; results that lie in cells. -/
namespace Go.Proofs.YtgfbfbfajnfbjaaDoor
section
set_option linter.unusedVariables false
set_option linter.unusedSimpArgs false
open Go.RowKit Go.Shelf
section
variable {P : Program} {ops : Array Oper} {Q : Exit → Act → World → Prop}
/-- Two operations may come up (neither the last). -/
theorem anyT_two {S : World → Prop} {md : Region.Mode} {T fuel : Nat} {listed : Array Bool} {a : Act} {w : World} (i j : Nat) {oi oj : Oper} (hr : Region.ready md ops listed = [i, j]) (hoi : ops[i]? = some oi) (hoj : ops[j]? = some oj)
    (hi : ∀ K' : Act → World → Prop, Shut (∀ a w, S w → (S w → wpAnyT P md ops Q S T fuel (listed.setIfInBounds i true) a w) → K' a w) → if Region.wanted oi (yielded ops a.tmps) = true then Oper.wp P oi a w K' Q else K' (a.put oi.dst undef) w)
    (hj : ∀ K' : Act → World → Prop, Shut (∀ a w, S w → (S w → wpAnyT P md ops Q S T fuel (listed.setIfInBounds j true) a w) → K' a w) → if Region.wanted oj (yielded ops a.tmps) = true then Oper.wp P oj a w K' Q else K' (a.put oj.dst undef) w) :
    wpAnyT P md ops Q S T (fuel + 1) listed a w :=
  ⟨fun h0 => absurd (hr ▸ h0) (by simp), by
    rw [hr]; intro k hk
    rcases (show k = i ∨ k = j by simpa using hk) with rfl | rfl
    · exact wpOp_step hoi fun K' hK => hi K' fun a w hS hW => hK a w ⟨fun _ => hS, hW hS⟩
    · exact wpOp_step hoj fun K' hK => hj K' fun a w hS hW => hK a w ⟨fun _ => hS, hW hS⟩⟩
def Told (f : Nat → Act) (F : Nat → World → Prop) : Exit → Act → World → Prop
  | .normal, a, w => ∃ m, a = f m ∧ F m w
  | _, _, _ => False
/-- A region that draws its order, in the wide fence: what holds behind it, told of the frame by one number (where a block lies that was laid meanwhile). -/
theorem region_told {S : World → Prop} {f : Nat → Act} {F : Nat → World → Prop} {n : Nat} {id : Nat} {a : Act} {w : World} (T : Nat) (hm : P.follows .mixedOrders = true) (k0 : S w.drew)
    (reg : S w.drew → wpAnyT P .any ops (Told f F) S T ops.size (Array.replicate ops.size false) a w.drew) (rest : ∀ m w, F m w → Q .normal (f m) w) : (Code.region id ops true).wpIn Fence.wide n P Q a w :=
  wpIn_mono (region_wide (Q := Told f F) T hm k0 reg) (fun e _ _ h => by cases e <;> first | exact h.elim | (obtain ⟨m, rfl, h⟩ := h; exact rest _ _ h))
theorem region_told0 {S : World → Prop} {f : Nat → Act} {F : Nat → World → Prop} {id : Nat} {a : Act} {w : World} (T : Nat) (hm : P.follows .mixedOrders = true) (k0 : S w.drew)
    (reg : S w.drew → wpAnyT P .any ops (Told f F) S T ops.size (Array.replicate ops.size false) a w.drew) (rest : ∀ m w, F m w → Q .normal (f m) w) : (Code.region id ops true).wp P Q a w :=
  Code.wp_mono (fun e _ _ h => by cases e <;> first | exact h.elim | (obtain ⟨m, rfl, h⟩ := h; exact rest _ _ h)) (region_plain (Q := Told f F) T hm k0 reg)
theorem region_plainN {S : World → Prop} (T : Nat) {id : Nat} {a : Act} {w : World} (hm : P.follows .mixedOrders = true) (hS : S w.drew)
    (h : S w.drew → wpAnyT P .any ops (NP Q) S T ops.size (Array.replicate ops.size false) a w.drew) : (Code.region id ops true).wp P Q a w :=
  Code.wp_mono (fun _ _ _ h => h.out) (region_plain (Q := NP Q) T hm hS h)
theorem wpIn_gen {F : Fence} {n : Nat} {c : Code} {a : Act} {w : World} (h : ∀ a0, a0 = a → c.wpIn F n P Q a0 w) : c.wpIn F n P Q a w := h a rfl
theorem wp_gen {c : Code} {a : Act} {w : World} (h : ∀ a0, a0 = a → c.wp P Q a0 w) : c.wp P Q a w := h a rfl
end
/-- the cells of a block, stored one by one from i on -/
def putAll (w : World) (b : Nat) : Nat → List Value → World
  | _, [] => w
  | i, v :: l => putAll (w.setCell ⟨b, i, none⟩ v) b (i + 1) l
theorem putAll_cells {b : Nat} : ∀ (l : List Value) (i : Nat) (w : World) (cs : Array Value), BoxAt w b cs → i + l.length ≤ cs.size →
    ∃ cs', BoxAt (putAll w b i l) b cs' ∧ cs'.size = cs.size ∧ ∀ j, cs'[j]? = if i ≤ j ∧ j < i + l.length then l[j - i]? else cs[j]?
  | [], i, w, cs, h, _ => ⟨cs, h, rfl, fun j => by rw [if_neg (by simp <;> omega)]⟩
  | v :: l, i, w, cs, h, hi => by
    simp only [List.length_cons] at hi
    obtain ⟨cs', h1, h2, h3⟩ := putAll_cells l (i + 1) (w.setCell ⟨b, i, none⟩ v) (cs.setIfInBounds i v) (h.put i v (by omega)) (by simp; omega)
    refine ⟨cs', h1, by simpa using h2, fun j => ?_⟩
    rw [h3 j]
    by_cases e : j = i
    · subst e
      rw [if_neg (by omega), if_pos (by simp), Array.getElem?_setIfInBounds, if_pos rfl, if_pos (by omega)]
      simp
    · by_cases hj : i + 1 ≤ j ∧ j < i + 1 + l.length
      · rw [if_pos hj, if_pos (by simp only [List.length_cons]; omega), show j - i = (j - (i + 1)) + 1 by omega]
        simp
      · rw [if_neg hj, if_neg (by simp only [List.length_cons]; omega), Array.getElem?_setIfInBounds, if_neg (by omega)]
theorem putAll_keep (b : Nat) : ∀ (l : List Value) (i : Nat) (w : World), Keep (fun k => k = b) w (putAll w b i l)
  | [], _, w => Keep.refl _ _
  | v :: l, i, w => (Keep.setCell (M := fun k => k = b) (Keep.refl _ w) (p := ⟨b, i, none⟩) (Or.inl rfl) v).trans (putAll_keep b l (i + 1) _)
theorem putAll_box {w : World} {b : Nat} {cs : Array Value} (h : BoxAt w b cs) (l : List Value) (hl : l.length = cs.size) : BoxAt (putAll w b 0 l) b l.toArray := by
  obtain ⟨cs', h1, h2, h3⟩ := putAll_cells l 0 w cs h (by omega)
  have : cs' = l.toArray := by
    apply Array.ext_getElem?
    intro j
    rw [h3 j]
    by_cases hj : j < l.length
    · rw [if_pos (by omega)]; simp
    · rw [if_neg (by omega), Array.getElem?_eq_none (by omega), Array.getElem?_eq_none (by simpa using hj)]
  exact this ▸ h1
theorem putAll_size (w : World) (b i : Nat) (l : List Value) : (putAll w b i l).heap.size = w.heap.size := by
  induction l generalizing i w with
  | nil => rfl
  | cons v l ih => rw [putAll, ih]; simp [World.setCell]
/-- the book that is returned beside an error -/
def zeroF : Array Value := #[.slice none 0 0, .int .i64 0, .int .i64 0, .int .i64 0, .int .i64 0, .int .i64 0, .int .i64 0, .slice none 0 0, .int .i64 0, .int .i64 0, .int .i64 0, .int .i64 0, .int .i64 0, .slice none 0 0]
end
end Go.Proofs.YtgfbfbfajnfbjaaDoor
