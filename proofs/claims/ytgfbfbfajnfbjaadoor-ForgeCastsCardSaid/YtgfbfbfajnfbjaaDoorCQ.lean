import Derived.Test.YtgfbfbfajnfbjaaDoorCE
import Derived.Test.YtgfbfbfajnfbjaaDoorCH
namespace Go.Proofs.YtgfbfbfajnfbjaaDoor
section
open Go.RowKit Go.Shelf
set_option linter.unusedSimpArgs false
set_option linter.unusedVariables false
/-! Melts for several discs: what is told is right, and with easier books there still are some; with no program in sight. -/
theorem choices_iff {l x : List Int} {m : Int} (hl : ∀ k, 0 ≤ gi l k) (hm : 0 ≤ m) : x ∈ choices l m ↔ x.length = l.length ∧ (∀ k, 0 ≤ gi x k ∧ gi x k ≤ gi l k) ∧ sumTo x x.length = m := by
  constructor
  · intro h
    have h1 := choices_mem l m x hl h
    exact ⟨h1.1, h1.2, choices_sum l m x hm h⟩
  · rintro ⟨h1, h2, rfl⟩
    exact choices_all l x h1 h2
theorem melts_iff {B : ForgeV} {l x : List Int} {m : Int} (hl : ∀ k, 0 ≤ gi l k) (hm : 0 ≤ m) : x ∈ meltsS B l m ↔ (x.length = l.length ∧ (∀ k, 0 ≤ gi x k ∧ gi x k ≤ gi l k) ∧ sumTo x x.length = m) ∧ rightS B x = true := by
  unfold meltsS
  rw [List.mem_filter, choices_iff hl hm]
/-- melts, one for each disc, out of what is left -/
def Fit (B : ForgeV) : List Int → List Int → List (List Int) → Prop
  | _, [], ms => ms = []
  | left, s :: ss, ms => ∃ m r, ms = m :: r ∧ m ∈ meltsS B left s ∧ Fit B (subL left m) ss r
theorem fit_of : ∀ (B : ForgeV) (sizes left : List Int) (ms : List (List Int)), castsS B left sizes = some ms → Fit B left sizes ms
  | B, [], left, ms, h => by simp [castsS] at h; simp only [Fit]; first | exact h | exact h.symm
  | B, s :: ss, left, ms, h => by
    rw [castsS_step] at h
    obtain ⟨l1, x, l2, h2, h3, _⟩ := List.findSome?_eq_some_iff.1 h
    obtain ⟨r, hr, rfl⟩ := Option.map_eq_some_iff.1 h3
    exact ⟨x, r, rfl, by rw [h2]; simp, fit_of B ss _ r hr⟩
theorem of_fit : ∀ (B : ForgeV) (sizes left : List Int) (ms : List (List Int)), Fit B left sizes ms → ∃ ns, castsS B left sizes = some ns
  | B, [], left, ms, h => ⟨[], rfl⟩
  | B, s :: ss, left, ms, h => by
    obtain ⟨m, r, rfl, hm, hr⟩ := h
    obtain ⟨ns, hns⟩ := of_fit B ss _ r hr
    cases hc : castsS B left (s :: ss) with
    | some ns => exact ⟨ns, rfl⟩
    | none =>
      rw [castsS_step, List.findSome?_eq_none_iff] at hc
      have := hc m hm
      rw [hns] at this
      cases this
theorem subL_nn {a b : List Int} (h : a.length = b.length) (hb : ∀ k, gi b k ≤ gi a k) (k : Nat) : 0 ≤ gi (subL a b) k := by
  rw [gi_subL a b h]; have := hb k; omega
/-- with easier books, and no fewer bars left -/
theorem fit_easier {B X : ForgeV} (h : Easier B X) : ∀ (sizes left left' : List Int) (ms : List (List Int)), (∀ s, s ∈ sizes → 0 ≤ s) → left.length = left'.length → (∀ k, 0 ≤ gi left k ∧ gi left k ≤ gi left' k) →
    Fit B left sizes ms → Fit X left' sizes ms
  | [], left, left', ms, _, _, _, hf => hf
  | s :: ss, left, left', ms, hs, hl, hle, hf => by
    obtain ⟨m, r, rfl, hm, hr⟩ := hf
    have hs0 := hs s (List.mem_cons_self ..)
    have hm1 := (melts_iff (fun k => (hle k).1) hs0).1 hm
    have hl1 : left'.length = m.length := by rw [hm1.1.1, hl]
    refine ⟨m, r, rfl, (melts_iff (fun k => by have := hle k; omega) hs0).2 ⟨⟨hl1.symm, fun k => ?_, hm1.1.2.2⟩, ?_⟩, fit_easier h ss _ _ r (fun x hx => hs x (List.mem_cons_of_mem _ hx)) ?_ (fun k => ?_) hr⟩
    · have := hle k; have := hm1.1.2.1 k; omega
    · have hnn := fun k => (hm1.1.2.1 k).1
      have ht := easier_tin h hnn B.lots.length (Nat.le_refl _)
      have hsm := sum_nn m hnn 4
      have a1 := mulm hsm h.tlo
      have a2 := mulm hsm h.thi
      have h2 := hm1.2
      unfold rightS at h2 ⊢
      rw [h.len]
      simp only [Bool.and_eq_true, decide_eq_true_eq] at h2 ⊢
      exact ⟨h2.1, by omega, by omega⟩
    · rw [subL_len _ _ hm1.1.1.symm, subL_len _ _ hl1]; exact hl
    · rw [gi_subL _ _ hm1.1.1.symm, gi_subL _ _ hl1]
      have := hle k; have := hm1.1.2.1 k; omega
theorem casts_easier {B X : ForgeV} (g : B.Good) (gX : X.Good) (h : Easier B X) {sizes : List Int} (hs : ∀ s, s ∈ sizes → 0 ≤ s) {ms : List (List Int)} (hc : castsS B (stockS B) sizes = some ms) : ∃ ns, castsS X (stockS X) sizes = some ns := by
  refine of_fit X sizes _ ms (fit_easier h sizes _ _ ms hs (by simp [stockS, h.len]) (fun k => ?_) (fit_of B sizes _ ms hc))
  refine ⟨(stock_bd g k).1, ?_⟩
  by_cases hk : k < B.lots.length
  · rw [gi_stock B k hk, gi_stock X k (by rw [h.len]; exact hk)]; exact (h.lot k hk).1
  · rw [gi_out (l := stockS B) (by simpa [stockS] using hk), gi_out (l := stockS X) (by simpa [stockS, h.len] using hk)]
    exact Int.le_refl _
theorem fit_take {B : ForgeV} : ∀ (n : Nat) (sizes left : List Int) (ms : List (List Int)), Fit B left sizes ms → Fit B left (sizes.take n) (ms.take n)
  | 0, sizes, left, ms, _ => by simp [Fit]
  | n + 1, [], left, ms, h => by simp only [Fit] at h ⊢; subst h; simp [Fit]
  | n + 1, s :: ss, left, ms, h => by
    obtain ⟨m, r, rfl, hm, hr⟩ := h
    exact ⟨m, r.take n, rfl, hm, fit_take n ss _ r hr⟩
theorem casts_take {B : ForgeV} {sizes : List Int} {ms : List (List Int)} (n : Nat) (hc : castsS B (stockS B) sizes = some ms) : ∃ ns, castsS B (stockS B) (sizes.take n) = some ns :=
  of_fit B _ _ _ (fit_take n _ _ _ (fit_of B sizes _ ms hc))
/-- one disc: there are melts just if one can be cast -/
theorem casts_one {B : ForgeV} (left : List Int) (s : Int) : (castsS B left [s] = none ↔ bestOf (meltsS B left s) = none) ∧ ∀ ms, castsS B left [s] = some ms → ms.length = 1 := by
  have h1 : castsS B left [s] = (meltsS B left s).head?.map fun m => [m] := by
    rw [castsS_step]
    cases meltsS B left s with
    | nil => rfl
    | cons x l => rfl
  rw [h1]
  constructor
  · cases h : meltsS B left s with
    | nil => simp [bestOf]
    | cons x l =>
      obtain ⟨q, hq⟩ := bestOf_some (x :: l) (by simp)
      rw [hq]; simp
  · intro ms h
    obtain ⟨m, _, rfl⟩ := Option.map_eq_some_iff.1 h
    rfl
/-- what is left behind some discs -/
def leftAt : List Int → List (List Int) → Nat → List Int
  | l, _, 0 => l
  | l, ms, k + 1 => subL (leftAt l ms k) (gm ms k)
theorem leftAt_cons (l : List Int) (m : List Int) (ms : List (List Int)) : ∀ k, leftAt l (m :: ms) (k + 1) = leftAt (subL l m) ms k
  | 0 => rfl
  | k + 1 => by
    rw [leftAt, leftAt_cons l m ms k, leftAt]
    rfl
theorem fit_at {B : ForgeV} : ∀ (sizes left : List Int) (ms : List (List Int)), (∀ s, s ∈ sizes → 0 ≤ s) → (∀ k, 0 ≤ gi left k) → Fit B left sizes ms → ms.length = sizes.length ∧ ∀ k, k < ms.length →
    (leftAt left ms k).length = left.length ∧ (gm ms k).length = left.length ∧ (∀ j, 0 ≤ gi (gm ms k) j ∧ gi (gm ms k) j ≤ gi (leftAt left ms k) j) ∧ sumTo (gm ms k) (gm ms k).length = gi sizes k ∧ rightS B (gm ms k) = true
  | [], left, ms, _, _, h => by simp only [Fit] at h; subst h; exact ⟨rfl, fun k hk => absurd hk (Nat.not_lt_zero _)⟩
  | s :: ss, left, ms, hs, hl, h => by
    obtain ⟨m, r, rfl, hm, hr⟩ := h
    have hm1 := (melts_iff hl (hs s (List.mem_cons_self ..))).1 hm
    have ih := fit_at ss (subL left m) r (fun x hx => hs x (List.mem_cons_of_mem _ hx)) (subL_nn hm1.1.1.symm fun k => (hm1.1.2.1 k).2) hr
    refine ⟨by simp [ih.1], fun k hk => ?_⟩
    cases k with
    | zero => exact ⟨rfl, hm1.1.1, hm1.1.2.1, hm1.1.2.2, hm1.2⟩
    | succ k =>
      have := ih.2 k (by simpa using hk)
      rw [leftAt_cons]
      rw [subL_len _ _ hm1.1.1.symm] at this
      exact this
/-- what the law asks of the discs that are told -/
structure KeptS (B : ForgeV) (sizes : List Int) (ms : List (List Int)) : Prop where
  len : ms.length = sizes.length
  each : ∀ k, k < ms.length → withinS B (gm ms k) = true ∧ rightS B (gm ms k) = true ∧ sumTo (gm ms k) (gm ms k).length = gi sizes k
  left : ∀ k, k ≤ ms.length → (leftAt (stockS B) ms k).length = B.lots.length ∧ ∀ j, 0 ≤ gi (leftAt (stockS B) ms k) j ∧ gi (leftAt (stockS B) ms k) j ≤ 6
  sum : ∀ k, k ≤ ms.length → sumTo (leftAt (stockS B) ms k) B.lots.length + sumTo sizes k = sumTo (stockS B) B.lots.length
theorem sumTo_sub {a b : List Int} (h : a.length = b.length) : ∀ k, sumTo (subL a b) k = sumTo a k - sumTo b k
  | 0 => rfl
  | k + 1 => by rw [sumTo, sumTo, sumTo, sumTo_sub h k, gi_subL a b h]; omega
theorem kept_of {B : ForgeV} (g : B.Good) {sizes : List Int} (hs : ∀ s, s ∈ sizes → 0 ≤ s) {ms : List (List Int)} (hc : castsS B (stockS B) sizes = some ms) : KeptS B sizes ms := by
  have hsl : (stockS B).length = B.lots.length := by simp [stockS]
  obtain ⟨h1, h2⟩ := fit_at sizes (stockS B) ms hs (fun k => (stock_bd g k).1) (fit_of B sizes _ ms hc)
  have hleft : ∀ k, k ≤ ms.length → (leftAt (stockS B) ms k).length = B.lots.length ∧ ∀ j, 0 ≤ gi (leftAt (stockS B) ms k) j ∧ gi (leftAt (stockS B) ms k) j ≤ gi (stockS B) j := by
    intro k
    induction k with
    | zero => intro _; exact ⟨hsl, fun j => ⟨(stock_bd g j).1, Int.le_refl _⟩⟩
    | succ k ih =>
      intro hk
      obtain ⟨i1, i2⟩ := ih (by omega)
      obtain ⟨f1, f2, f3, _⟩ := h2 k (by omega)
      have he : (leftAt (stockS B) ms k).length = (gm ms k).length := by omega
      rw [leftAt]
      refine ⟨by rw [subL_len _ _ he]; exact i1, fun j => ?_⟩
      rw [gi_subL _ _ he]
      have := f3 j; have := i2 j; omega
  refine ⟨h1, fun k hk => ?_, fun k hk => ⟨(hleft k hk).1, fun j => ⟨((hleft k hk).2 j).1, Int.le_trans ((hleft k hk).2 j).2 (stock_bd g j).2⟩⟩, fun k => ?_⟩
  · obtain ⟨f1, f2, f3, f4, f5⟩ := h2 k hk
    refine ⟨within_of (f2.trans hsl) fun j hj => ?_, f5, f4⟩
    have a := f3 j
    have b := (hleft k (by omega)).2 j
    rw [gi_stock B j hj] at b
    omega
  · induction k with
    | zero => intro _; simp [leftAt, sumTo]
    | succ k ih =>
      intro hk
      have i := ih (by omega)
      obtain ⟨f1, f2, f3, f4, _⟩ := h2 k (by omega)
      have he : (leftAt (stockS B) ms k).length = (gm ms k).length := by omega
      rw [leftAt, sumTo_sub he]
      have e2 : sumTo sizes (k + 1) = sumTo sizes k + gi sizes k := rfl
      have e3 : (gm ms k).length = B.lots.length := by omega
      rw [e3] at f4
      omega
/-! The numbers that the law chooses. -/
def sizesTo (nl : List Int) (k : Nat) : List Int := (List.range k).map fun i : Nat => 1 + turnZ (gi nl i) 10
theorem sizesTo_succ (nl : List Int) (k : Nat) : sizesTo nl (k + 1) = sizesTo nl k ++ [1 + turnZ (gi nl k) 10] := by
  unfold sizesTo
  rw [List.range_succ, List.map_append]; rfl
theorem sizesTo_len (nl : List Int) (k : Nat) : (sizesTo nl k).length = k := by unfold sizesTo; simp
theorem sizesTo_get (nl : List Int) (n k : Nat) (h : k < n) : gi (sizesTo nl n) k = 1 + turnZ (gi nl k) 10 := by
  unfold sizesTo gi
  rw [List.getD_eq_getElem?_getD, List.getElem?_map, List.getElem?_range h]; rfl
theorem sizesTo_bd (nl : List Int) (n k : Nat) (h : k < n) : 1 ≤ gi (sizesTo nl n) k ∧ gi (sizesTo nl n) k ≤ 10 := by
  rw [sizesTo_get nl n k h]
  have := turnZ_bd (n := gi nl k) (b := 10) (by decide)
  omega
theorem casts_asks {l : List Int} (h0 : 1 ≤ l.length ∧ l.length ≤ 4) (h : ∀ k, k < l.length → 1 ≤ gi l k ∧ gi l k ≤ 24) : castsAsk l = true := by
  unfold castsAsk askTo
  rw [Bool.and_eq_true, List.all_eq_true]
  exact ⟨inB_iff.2 (by omega), fun k hk => inB_iff.2 (h k (List.mem_range.1 hk))⟩
theorem take_one {l : List Int} (h : 0 < l.length) : l.take 1 = [gi l 0] := by
  match l, h with
  | x :: l, _ => rfl
theorem nn_of {l : List Int} (h : ∀ k, k < l.length → 0 ≤ gi l k) : ∀ s, s ∈ l → 0 ≤ s := by
  intro s hs
  obtain ⟨k, hk, rfl⟩ := List.getElem_of_mem hs
  have := h k hk
  unfold gi at this
  rwa [List.getD_eq_getElem?_getD, List.getElem?_eq_getElem hk] at this
theorem IntsAt.take1 {w : World} {A : Option Addr} {l : List Int} (h : IntsAt w A l) (h0 : 0 < l.length) : IntsAt w A [gi l 0] := by
  rcases h.2 with e | ⟨b, o, e, hc⟩
  · rw [e] at h0; simp at h0
  · refine ⟨by simp, .inr ⟨b, o, e, fun j hj => ?_⟩⟩
    obtain rfl : j = 0 := by simpa using hj
    exact hc 0 h0
theorem IntsAt.at0 {w : World} {b o : Nat} {l : List Int} (h : IntsAt w (some ⟨b, o, none⟩) l) (h0 : 0 < l.length) : w.cell? ⟨b, o, none⟩ = some (.int .i64 (gi l 0)) := by
  rcases h.2 with e | ⟨b', o', e, hc⟩
  · rw [e] at h0; simp at h0
  · cases e; exact hc 0 h0
/-- a block of whole numbers -/
def IntBox (w : World) (g : Nat) (l : List Int) : Prop := BoxAt w g (l.map (Value.int .i64)).toArray
theorem IntBox.at_ {w : World} {g : Nat} {l : List Int} (h : IntBox w g l) {k : Nat} (hk : k < l.length) : w.cell? ⟨g, k, none⟩ = some (.int .i64 (gi l k)) := by
  rw [h.cell k]
  simp [gi, hk]
theorem IntBox.put {w : World} {g : Nat} {l : List Int} (h : IntBox w g l) {k : Nat} (hk : k < l.length) (v : Int) : IntBox (w.setCell ⟨g, k, none⟩ (.int .i64 v)) g (l.set k v) := by
  have h1 := BoxAt.put h k (.int .i64 v) (by simpa using hk)
  unfold IntBox
  rw [List.map_set]
  simpa using h1
theorem infoI : (Tryd.prog.info? 3).map (fun i => (i.zero, i.size, i.bytes)) = some (some (.int .i64 0), 1, 8) := by kernel_rfl
set_option maxRecDepth 100000 in
theorem makeInts (W : World) (n : Nat) (h : n ≤ 1000) : (Instr.makeSlice 29 (.int .i64 n) (.int .i64 n)).run Tryd.prog W = .ok (.slice (some ⟨W.heap.size, 0, none⟩) n n) (W.alloc (.cells (Array.replicate n (.int .i64 0)) 3)) := by
  obtain ⟨i0, hi, hz0, hz1, hz2⟩ := info_parts infoI
  have := run_makeSlice (P := Tryd.prog) W 29 3 i0 _ under22 hi hz0 .i64 .i64 n n (by omega) (Int.le_refl _) (by rw [hz1]; omega) (by rw [hz2]; omega) (by omega)
  rw [this, hz1]
  congr 2
  rw [show (n : Int).toNat * 1 = n by omega]
  congr 1
  apply Array.ext_getElem?
  intro j
  unfold madeCells
  rw [Array.getElem?_map]
  by_cases hj : j < n
  · rw [Array.getElem?_range, if_pos hj]
    simp [hj, Value.cells, Nat.mod_one]
  · rw [Array.getElem?_range, if_neg hj]
    simp [hj]
theorem IntBox.zeros {w : World} {g n : Nat} (h : BoxAt w g (Array.replicate n (.int .i64 0))) : IntBox w g (List.replicate n 0) := by
  unfold IntBox
  rw [List.map_replicate, List.toArray_replicate]
  exact h
/-- the numbers behind some steps of a loop that takes a melt from what is left -/
def midL (a m : List Int) (j : Nat) : List Int := (List.range a.length).map fun i => if i < j then gi a i - gi m i else gi a i
theorem midL_len (a m : List Int) (j : Nat) : (midL a m j).length = a.length := by unfold midL; simp
theorem midL_get (a m : List Int) (j k : Nat) (h : k < a.length) : gi (midL a m j) k = if k < j then gi a k - gi m k else gi a k := by
  unfold midL
  rw [gi, List.getD_eq_getElem?_getD, List.getElem?_map, List.getElem?_range h]; rfl
theorem list_ext_gi {a b : List Int} (hl : a.length = b.length) (h : ∀ k, k < a.length → gi a k = gi b k) : a = b := by
  apply List.ext_getElem hl
  intro k h1 h2
  have := h k h1
  unfold gi at this
  rwa [List.getD_eq_getElem?_getD, List.getD_eq_getElem?_getD, List.getElem?_eq_getElem h1, List.getElem?_eq_getElem h2] at this
theorem midL_zero (a m : List Int) : midL a m 0 = a := list_ext_gi (midL_len a m 0) fun k hk => by
  rw [midL_len] at hk
  rw [midL_get a m 0 k hk, if_neg (Nat.not_lt_zero _)]
theorem midL_all (a m : List Int) (h : a.length = m.length) : midL a m a.length = subL a m := list_ext_gi (by rw [midL_len, subL_len a m h]) fun k hk => by
  rw [midL_len] at hk
  rw [midL_get a m _ k hk, if_pos hk, gi_subL a m h]
theorem gi_set (l : List Int) (k j : Nat) (v : Int) (h : k < l.length) : gi (l.set k v) j = if j = k then v else gi l j := by
  unfold gi
  rw [List.getD_eq_getElem?_getD, List.getD_eq_getElem?_getD, List.getElem?_set]
  by_cases e : k = j
  · subst e; rw [if_pos rfl, if_pos rfl, if_pos h]; rfl
  · rw [if_neg e, if_neg (fun h => e h.symm)]
theorem midL_set (a m : List Int) (j : Nat) (h : j < a.length) : (midL a m j).set j (gi a j - gi m j) = midL a m (j + 1) := list_ext_gi (by rw [List.length_set, midL_len, midL_len]) fun k hk => by
  rw [List.length_set, midL_len] at hk
  rw [gi_set _ _ _ _ (by rw [midL_len]; exact h), midL_get _ _ _ _ hk, midL_get _ _ _ _ hk]
  by_cases e : k = j
  · subst e; rw [if_pos rfl, if_pos (Nat.lt_succ_self _)]
  · rw [if_neg e]
    by_cases c : k < j
    · rw [if_pos c, if_pos (by omega)]
    · rw [if_neg c, if_neg (by omega)]
/-- the numbers of the lots' bars, laid one behind the other -/
def stockTo (B : ForgeV) (j : Nat) : List Int := (List.range B.lots.length).map fun i => if i < j then (gl B.lots i).bars else 0
theorem stockTo_len (B : ForgeV) (j : Nat) : (stockTo B j).length = B.lots.length := by unfold stockTo; simp
theorem stockTo_get (B : ForgeV) (j k : Nat) (h : k < B.lots.length) : gi (stockTo B j) k = if k < j then (gl B.lots k).bars else 0 := by
  unfold stockTo
  rw [gi, List.getD_eq_getElem?_getD, List.getElem?_map, List.getElem?_range h]; rfl
theorem stockTo_zero (B : ForgeV) : stockTo B 0 = List.replicate B.lots.length 0 := list_ext_gi (by rw [stockTo_len, List.length_replicate]) fun k hk => by
  rw [stockTo_len] at hk
  rw [stockTo_get B 0 k hk, if_neg (Nat.not_lt_zero _)]
  unfold gi
  rw [List.getD_eq_getElem?_getD, List.getElem?_replicate, if_pos hk]; rfl
theorem stockTo_all (B : ForgeV) : stockTo B B.lots.length = stockS B := list_ext_gi (by rw [stockTo_len]; simp [stockS]) fun k hk => by
  rw [stockTo_len] at hk
  rw [stockTo_get B _ k hk, if_pos hk, gi_stock B k hk]
theorem stockTo_set (B : ForgeV) (j : Nat) (h : j < B.lots.length) : (stockTo B j).set j (gl B.lots j).bars = stockTo B (j + 1) := list_ext_gi (by rw [List.length_set, stockTo_len, stockTo_len]) fun k hk => by
  rw [List.length_set, stockTo_len] at hk
  rw [gi_set _ _ _ _ (by rw [stockTo_len]; exact h), stockTo_get _ _ _ hk, stockTo_get _ _ _ hk]
  by_cases e : k = j
  · subst e; rw [if_pos rfl, if_pos (Nat.lt_succ_self _)]
  · rw [if_neg e]
    by_cases c : k < j
    · rw [if_pos c, if_pos (by omega)]
    · rw [if_neg c, if_neg (by omega)]
end
end Go.Proofs.YtgfbfbfajnfbjaaDoor
