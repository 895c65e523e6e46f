import Derived.ProofKit
import Derived.LaidMore
import Derived.OpenShut
import Derived.Carry
import Derived.Stop.Joined
import Derived.Test.YtgfbfbfajnfbjaaDoorRows
import Derived.Test.YtgfbfbfajnfbjaaDoorTie
import Derived.Test.YtgfbfbfajnfbjaaDoorC
import Derived.Test.YtgfbfbfajnfbjaaDoorCards
import Derived.SevenTiedAt
namespace Go.Proofs.YtgfbfbfajnfbjaaDoor
section
set_option linter.unusedVariables false
set_option linter.unusedSimpArgs false
open Go.ChangeShapes Go.WideShapes Go.ChangeAt Go.RowKit

/-! What the row gives a walk: the arguments as numbers and lists, and the package's table of methods. -/
section
variable {H : Type} {enc : TypeId × Value → H} {w : World} {fuel : Nat}
theorem c3_ : Tryd.prog.cellsOf 3 = 1 := by kernel_rfl
theorem cSpan : Tryd.prog.cellsOf 24 = 2 := by kernel_rfl
theorem cLot : Tryd.prog.cellsOf 62 = 3 := by kernel_rfl
theorem cLook : Tryd.prog.cellsOf 75 = 3 := by kernel_rfl
theorem cBook : Tryd.prog.cellsOf 28 = 14 := by kernel_rfl
theorem cInts : Tryd.prog.cellsOf 29 = 1 := by kernel_rfl
theorem cSpans : Tryd.prog.cellsOf 25 = 1 := by kernel_rfl
theorem cLots : Tryd.prog.cellsOf 22 = 1 := by kernel_rfl
theorem cLooks : Tryd.prog.cellsOf 26 = 1 := by kernel_rfl
theorem u3_ : Tryd.prog.underlying 3 = some (.int .i64) := by kernel_rfl
theorem uInts : Tryd.prog.underlying 29 = some (.slice 3) := by kernel_rfl
theorem uSpans : Tryd.prog.underlying 25 = some (.slice 24) := by kernel_rfl
theorem uLots : Tryd.prog.underlying 22 = some (.slice 62) := by kernel_rfl
theorem uLooks : Tryd.prog.underlying 26 = some (.slice 75) := by kernel_rfl
theorem uSpan : Tryd.prog.underlying 24 = some (.struct (Tryd.prog.fieldsOf 24)) := by kernel_rfl
theorem uLot : Tryd.prog.underlying 62 = some (.struct (Tryd.prog.fieldsOf 62)) := by kernel_rfl
theorem uLook : Tryd.prog.underlying 75 = some (.struct (Tryd.prog.fieldsOf 75)) := by kernel_rfl
theorem uBook : Tryd.prog.underlying 28 = some (.struct (Tryd.prog.fieldsOf 28)) := by kernel_rfl
theorem sub_field {T : TypeId} {fs : Array Field} {cs : List Value} {x : DataW H × List MemPlace} (ht : Tryd.prog.underlying T = some (.struct fs)) (h : DataW.trod enc Tryd.prog w 0 (fun _ => true) true fuel T cs = some x) (i t o : Nat)
    (hi : fs[i]?.map (fun f => (f.type, f.offset)) = some (t, o)) : ∃ n y, DataW.trod enc Tryd.prog w 0 (fun _ => true) true n t ((cs.drop o).take (Tryd.prog.cellsOf t)) = some y := by
  obtain ⟨xs, n, _, _, _, hl, hf⟩ := DataW.trod_struct ht h
  cases hfi : fs[i]? with
  | none => rw [hfi] at hi; cases hi
  | some f =>
    rw [hfi] at hi
    simp only [Option.map_some, Option.some.injEq, Prod.mk.injEq] at hi
    obtain ⟨rfl, rfl⟩ := hi
    have h1 := hf i f hfi
    have hlt : i < xs.length := by rw [hl]; exact (Array.getElem?_eq_some_iff.1 hfi).1
    rw [List.getElem?_eq_getElem hlt] at h1
    exact ⟨n, _, h1⟩
theorem int_of {c : Value} {y : DataW H × List MemPlace} (h : DataW.trod enc Tryd.prog w 0 (fun _ => true) true fuel 3 [c] = some y) : ∃ k, c = .int .i64 k := by
  obtain ⟨k, e, _⟩ := DataW.trod_int u3_ h
  simp at e
  exact ⟨k, e⟩
set_option maxRecDepth 100000 in
theorem span_of {c d : Value} {y : DataW H × List MemPlace} (h : DataW.trod enc Tryd.prog w 0 (fun _ => true) true fuel 24 [c, d] = some y) : ∃ a b, c = .int .i64 a ∧ d = .int .i64 b := by
  obtain ⟨n0, y0, h0⟩ := sub_field uSpan h 0 3 0 (by kernel_rfl)
  obtain ⟨n1, y1, h1⟩ := sub_field uSpan h 1 3 1 (by kernel_rfl)
  rw [c3_] at h0 h1
  obtain ⟨a, rfl⟩ := int_of h0
  obtain ⟨b, rfl⟩ := int_of h1
  exact ⟨a, b, rfl, rfl⟩
theorem addr_plus (b o n : Nat) : (⟨b, o, none⟩ : Addr).add n = ⟨b, o + n, none⟩ := by
  unfold Addr.add; split
  · subst_vars; rfl
  · rfl
theorem arr14 {cs : Array Value} (h : cs.size = 14) : ∃ x0 x1 x2 x3 x4 x5 x6 x7 x8 x9 x10 x11 x12 x13, cs = #[x0, x1, x2, x3, x4, x5, x6, x7, x8, x9, x10, x11, x12, x13] := by
  obtain ⟨l⟩ := cs
  match l, h with
  | [a, b, c, d, e, f, g, i, j, k, m, n, o, p], _ => exact ⟨_, _, _, _, _, _, _, _, _, _, _, _, _, _, rfl⟩
/-- a slice, element by element -/
theorem slice_of {T e : TypeId} {k : Nat} {c : Value} {y : DataW H × List MemPlace} (ht : Tryd.prog.underlying T = some (.slice e)) (hc : Tryd.prog.cellsOf e = k) (hk : 0 < k) (h : DataW.trod enc Tryd.prog w 0 (fun _ => true) true fuel T [c] = some y) :
    ∃ A n cap, c = .slice A n cap ∧ n ≤ cap ∧ n ≤ 9223372036854775807 ∧ (n = 0 ∨ ∃ b o, A = some ⟨b, o, none⟩ ∧ ∀ i, i < n → ∃ cs m z, cs.length = k ∧ (∀ j, j < k → w.cell? ⟨b, o + i * k + j, none⟩ = cs[j]?) ∧ DataW.trod enc Tryd.prog w 0 (fun _ => true) true m e cs = some z) := by
  rcases DataW.trod_slice ht h with ⟨e1, _⟩ | ⟨a, len, cap, elems, rest, n, _, e1, _, _, hl, hm, hlen, hel, _⟩
  · simp at e1; exact ⟨none, 0, 0, e1, by omega, by omega, .inl rfl⟩
  · simp at e1
    refine ⟨some a, len, cap, e1, hl, by unfold maxLen at hm; omega, ?_⟩
    rcases Nat.eq_zero_or_pos len with h0 | h0
    · exact .inl h0
    · have each : ∀ i, i < len → ∃ cs z, w.cells? 0 (a.add (i * k)) k = some cs ∧ DataW.trod enc Tryd.prog w 0 (fun _ => true) true n e cs = some z := by
        intro i hi
        have h1 := hel i hi
        rw [List.getElem?_eq_getElem (by omega), hc] at h1
        obtain ⟨cs, hcs, hz⟩ := Option.bind_eq_some_iff.1 h1
        exact ⟨cs, _, hcs, hz⟩
      obtain ⟨cs0, z0, hcs0, _⟩ := each 0 h0
      obtain ⟨_, hcl0, hat0⟩ := World.cells?_some hcs0
      have h00 := hat0 0 hk
      rw [List.getElem?_eq_getElem (by omega)] at h00
      have hsp : a.spot = none := by have := World.cell?_spot h00; simpa [Addr.add] using this
      obtain ⟨b, o, sp⟩ := a
      simp only at hsp
      subst hsp
      refine .inr ⟨b, o, rfl, fun i hi => ?_⟩
      obtain ⟨cs, z, hcs, hz⟩ := each i hi
      obtain ⟨_, hcl, hat⟩ := World.cells?_some hcs
      refine ⟨cs, n, z, hcl, fun j hj => ?_, hz⟩
      have := hat j hj
      rwa [addr_plus, addr_plus] at this
theorem gi_ofFn {n : Nat} (f : Fin n → Int) (j : Nat) (hj : j < n) : gi (List.ofFn f) j = f ⟨j, hj⟩ := by simp [gi, hj]
theorem gs_ofFn {n : Nat} (f : Fin n → Int × Int) (j : Nat) (hj : j < n) : gs (List.ofFn f) j = f ⟨j, hj⟩ := by simp [gs, hj]
theorem gl_ofFn {n : Nat} (f : Fin n → LotV) (j : Nat) (hj : j < n) : gl (List.ofFn f) j = f ⟨j, hj⟩ := by simp [gl, hj]
theorem glk_ofFn {n : Nat} (f : Fin n → LookV) (j : Nat) (hj : j < n) : glk (List.ofFn f) j = f ⟨j, hj⟩ := by simp [glk, hj]
theorem list1 {l : List Value} (h : l.length = 1) : ∃ a, l = [a] := by match l, h with | [a], _ => exact ⟨_, rfl⟩
theorem list2 {l : List Value} (h : l.length = 2) : ∃ a b, l = [a, b] := by match l, h with | [a, b], _ => exact ⟨_, _, rfl⟩
theorem list3 {l : List Value} (h : l.length = 3) : ∃ a b c, l = [a, b, c] := by match l, h with | [a, b, c], _ => exact ⟨_, _, _, rfl⟩
theorem ints_of {c : Value} {y : DataW H × List MemPlace} (h : DataW.trod enc Tryd.prog w 0 (fun _ => true) true fuel 29 [c] = some y) : ∃ A xs cap, c = .slice A xs.length cap ∧ IntsAt w A xs ∧ xs.length ≤ cap := by
  obtain ⟨A, n, cap, rfl, hl, hm, he⟩ := slice_of uInts c3_ (by omega) h
  rcases he with rfl | ⟨b, o, rfl, he⟩
  · exact ⟨A, [], cap, rfl, ⟨by simp, .inl rfl⟩, by simp⟩
  · have : ∀ i : Fin n, ∃ k : Int, w.cell? ⟨b, o + i.1, none⟩ = some (.int .i64 k) := by
      intro i
      obtain ⟨cs, m, z, hcl, hat, hz⟩ := he i.1 i.2
      obtain ⟨c0, rfl⟩ := list1 hcl
      obtain ⟨k, rfl⟩ := int_of hz
      exact ⟨k, by simpa using hat 0 (by omega)⟩
    obtain ⟨f, hf⟩ := Classical.axiomOfChoice this
    refine ⟨some ⟨b, o, none⟩, List.ofFn f, cap, by simp, ⟨by simpa using hm, .inr ⟨b, o, rfl, fun j hj => ?_⟩⟩, by simpa using hl⟩
    have hj' : j < n := by simpa using hj
    rw [gi_ofFn f j hj']; exact hf ⟨j, hj'⟩
theorem spans_of {c : Value} {y : DataW H × List MemPlace} (h : DataW.trod enc Tryd.prog w 0 (fun _ => true) true fuel 25 [c] = some y) : ∃ A xs cap, c = .slice A xs.length cap ∧ SpansAt w A xs ∧ xs.length ≤ cap := by
  obtain ⟨A, n, cap, rfl, hl, hm, he⟩ := slice_of uSpans cSpan (by omega) h
  rcases he with rfl | ⟨b, o, rfl, he⟩
  · exact ⟨A, [], cap, rfl, ⟨by simp, .inl rfl⟩, by simp⟩
  · have : ∀ i : Fin n, ∃ k : Int × Int, w.cell? ⟨b, o + i.1 * 2, none⟩ = some (.int .i64 k.1) ∧ w.cell? ⟨b, o + i.1 * 2 + 1, none⟩ = some (.int .i64 k.2) := by
      intro i
      obtain ⟨cs, m, z, hcl, hat, hz⟩ := he i.1 i.2
      obtain ⟨c0, c1, rfl⟩ := list2 hcl
      obtain ⟨p, q, rfl, rfl⟩ := span_of hz
      exact ⟨(p, q), by simpa using hat 0 (by omega), by simpa using hat 1 (by omega)⟩
    obtain ⟨f, hf⟩ := Classical.axiomOfChoice this
    refine ⟨some ⟨b, o, none⟩, List.ofFn f, cap, by simp, ⟨by simpa using hm, .inr ⟨b, o, rfl, fun j hj => ?_⟩⟩, by simpa using hl⟩
    have hj' : j < n := by simpa using hj
    rw [gs_ofFn f j hj']; exact hf ⟨j, hj'⟩
set_option maxRecDepth 100000 in
theorem lot_of {c0 c1 c2 : Value} {y : DataW H × List MemPlace} (h : DataW.trod enc Tryd.prog w 0 (fun _ => true) true fuel 62 [c0, c1, c2] = some y) :
    ∃ p : LotV, c0 = .int .i64 p.bars ∧ c1 = .int .i64 p.lo ∧ c2 = .int .i64 p.hi := by
  obtain ⟨n0, y0, h0⟩ := sub_field uLot h 0 3 0 (by kernel_rfl)
  obtain ⟨n1, y1, h1⟩ := sub_field uLot h 1 24 1 (by kernel_rfl)
  rw [c3_] at h0
  rw [cSpan] at h1
  obtain ⟨a, rfl⟩ := int_of h0
  obtain ⟨b, c, rfl, rfl⟩ := span_of h1
  exact ⟨⟨a, b, c⟩, rfl, rfl, rfl⟩
set_option maxRecDepth 100000 in
theorem look_of {c0 c1 c2 : Value} {y : DataW H × List MemPlace} (h : DataW.trod enc Tryd.prog w 0 (fun _ => true) true fuel 75 [c0, c1, c2] = some y) :
    ∃ p : LookV, c0 = .int .i64 p.blows ∧ c1 = .int .i64 p.thick ∧ c2 = .int .i64 p.err := by
  obtain ⟨n0, y0, h0⟩ := sub_field uLook h 0 3 0 (by kernel_rfl)
  obtain ⟨n1, y1, h1⟩ := sub_field uLook h 1 3 1 (by kernel_rfl)
  obtain ⟨n2, y2, h2⟩ := sub_field uLook h 2 3 2 (by kernel_rfl)
  rw [c3_] at h0 h1 h2
  obtain ⟨a, rfl⟩ := int_of h0
  obtain ⟨b, rfl⟩ := int_of h1
  obtain ⟨c, rfl⟩ := int_of h2
  exact ⟨⟨a, b, c⟩, rfl, rfl, rfl⟩
theorem lots_of {c : Value} {y : DataW H × List MemPlace} (h : DataW.trod enc Tryd.prog w 0 (fun _ => true) true fuel 22 [c] = some y) : ∃ A xs cap, c = .slice A xs.length cap ∧ LotsAt w A xs ∧ xs.length ≤ cap := by
  obtain ⟨A, n, cap, rfl, hl, hm, he⟩ := slice_of uLots cLot (by omega) h
  rcases he with rfl | ⟨b, o, rfl, he⟩
  · exact ⟨A, [], cap, rfl, ⟨by simp, .inl rfl⟩, by simp⟩
  · have : ∀ i : Fin n, ∃ p : LotV, w.cell? ⟨b, o + i.1 * 3, none⟩ = some (.int .i64 p.bars) ∧ w.cell? ⟨b, o + i.1 * 3 + 1, none⟩ = some (.int .i64 p.lo) ∧ w.cell? ⟨b, o + i.1 * 3 + 2, none⟩ = some (.int .i64 p.hi) := by
      intro i
      obtain ⟨cs, m, z, hcl, hat, hz⟩ := he i.1 i.2
      obtain ⟨c0, c1, c2, rfl⟩ := list3 hcl
      obtain ⟨p, rfl, rfl, rfl⟩ := lot_of hz
      exact ⟨p, by simpa using hat 0 (by omega), by simpa using hat 1 (by omega), by simpa using hat 2 (by omega)⟩
    obtain ⟨f, hf⟩ := Classical.axiomOfChoice this
    refine ⟨some ⟨b, o, none⟩, List.ofFn f, cap, by simp, ⟨by simpa using hm, .inr ⟨b, o, rfl, fun j hj => ?_⟩⟩, by simpa using hl⟩
    have hj' : j < n := by simpa using hj
    rw [gl_ofFn f j hj']; exact hf ⟨j, hj'⟩
theorem looks_of {c : Value} {y : DataW H × List MemPlace} (h : DataW.trod enc Tryd.prog w 0 (fun _ => true) true fuel 26 [c] = some y) : ∃ A xs cap, c = .slice A xs.length cap ∧ LooksAt w A xs ∧ xs.length ≤ cap := by
  obtain ⟨A, n, cap, rfl, hl, hm, he⟩ := slice_of uLooks cLook (by omega) h
  rcases he with rfl | ⟨b, o, rfl, he⟩
  · exact ⟨A, [], cap, rfl, ⟨by simp, .inl rfl⟩, by simp⟩
  · have : ∀ i : Fin n, ∃ p : LookV, w.cell? ⟨b, o + i.1 * 3, none⟩ = some (.int .i64 p.blows) ∧ w.cell? ⟨b, o + i.1 * 3 + 1, none⟩ = some (.int .i64 p.thick) ∧ w.cell? ⟨b, o + i.1 * 3 + 2, none⟩ = some (.int .i64 p.err) := by
      intro i
      obtain ⟨cs, m, z, hcl, hat, hz⟩ := he i.1 i.2
      obtain ⟨c0, c1, c2, rfl⟩ := list3 hcl
      obtain ⟨p, rfl, rfl, rfl⟩ := look_of hz
      exact ⟨p, by simpa using hat 0 (by omega), by simpa using hat 1 (by omega), by simpa using hat 2 (by omega)⟩
    obtain ⟨f, hf⟩ := Classical.axiomOfChoice this
    refine ⟨some ⟨b, o, none⟩, List.ofFn f, cap, by simp, ⟨by simpa using hm, .inr ⟨b, o, rfl, fun j hj => ?_⟩⟩, by simpa using hl⟩
    have hj' : j < n := by simpa using hj
    rw [glk_ofFn f j hj']; exact hf ⟨j, hj'⟩
set_option maxRecDepth 100000 in
theorem open_book {base : Nat} {r : Reach} {v : Value} {d : DataW H} {ps : List MemPlace} (hv : Value.okWide Tryd.prog w r base 28 v) (h : DataW.Trod enc Tryd.prog w 0 (fun _ => true) true 28 v d ps) : ∃ B : ForgeV, v = B.val ∧ B.Reads w := by
  obtain ⟨cs, rfl, hsz⟩ := okWide_struct uBook hv
  rw [cBook] at hsz
  obtain ⟨x0, x1, x2, x3, x4, x5, x6, x7, x8, x9, x10, x11, x12, x13, rfl⟩ := arr14 hsz
  obtain ⟨fuel, hf⟩ := h
  obtain ⟨n0, y0, h0⟩ := sub_field uBook hf 0 22 0 (by kernel_rfl)
  obtain ⟨n1, y1, h1⟩ := sub_field uBook hf 1 24 1 (by kernel_rfl)
  obtain ⟨n2, y2, h2⟩ := sub_field uBook hf 2 3 3 (by kernel_rfl)
  obtain ⟨n3, y3, h3⟩ := sub_field uBook hf 3 3 4 (by kernel_rfl)
  obtain ⟨n4, y4, h4⟩ := sub_field uBook hf 4 24 5 (by kernel_rfl)
  obtain ⟨n5, y5, h5⟩ := sub_field uBook hf 5 25 7 (by kernel_rfl)
  obtain ⟨n6, y6, h6⟩ := sub_field uBook hf 6 3 8 (by kernel_rfl)
  obtain ⟨n7, y7, h7⟩ := sub_field uBook hf 7 3 9 (by kernel_rfl)
  obtain ⟨n8, y8, h8⟩ := sub_field uBook hf 8 24 10 (by kernel_rfl)
  obtain ⟨n9, y9, h9⟩ := sub_field uBook hf 9 3 12 (by kernel_rfl)
  obtain ⟨n10, y10, h10⟩ := sub_field uBook hf 10 26 13 (by kernel_rfl)
  rw [c3_] at h2 h3 h6 h7 h9
  rw [cLots] at h0
  rw [cSpans] at h5
  rw [cLooks] at h10
  rw [cSpan] at h1 h4 h8
  simp only [Value.cells, List.drop_succ_cons, List.drop_zero, List.take_succ_cons, List.take_zero] at h0 h1 h2 h3 h4 h5 h6 h7 h8 h9 h10
  obtain ⟨lA, lots, lC, rfl, hl, _⟩ := lots_of h0
  obtain ⟨t0, t1, rfl, rfl⟩ := span_of h1
  obtain ⟨thick, rfl⟩ := int_of h2
  obtain ⟨crack, rfl⟩ := int_of h3
  obtain ⟨g0, g1, rfl, rfl⟩ := span_of h4
  obtain ⟨sA, thins, sC, rfl, hs, _⟩ := spans_of h5
  obtain ⟨hot, rfl⟩ := int_of h6
  obtain ⟨least, rfl⟩ := int_of h7
  obtain ⟨k0, k1, rfl, rfl⟩ := span_of h8
  obtain ⟨coal, rfl⟩ := int_of h9
  obtain ⟨kA, looks, kC, rfl, hk, _⟩ := looks_of h10
  exact ⟨⟨lA, lC, lots, t0, t1, thick, crack, g0, g1, sA, sC, thins, hot, least, k0, k1, coal, kA, kC, looks⟩, rfl, hl, hs, hk⟩
set_option maxRecDepth 100000 in
theorem open_list {base : Nat} {r : Reach} {v : Value} {d : DataW H} {ps : List MemPlace} (hv : Value.okWide Tryd.prog w r base 29 v) (h : DataW.Trod enc Tryd.prog w 0 (fun _ => true) true 29 v d ps) : ∃ A xs cap, v = .slice A xs.length cap ∧ IntsAt w A xs ∧ xs.length ≤ cap := by
  obtain ⟨a, l, c, rfl⟩ := okWide_slice uInts hv
  obtain ⟨fuel, hf⟩ := h
  exact ints_of hf
set_option maxRecDepth 100000 in
theorem open_two {base : Nat} {r : Reach} {v : Value} {d : DataW H} {ps : List MemPlace} (hv : Value.okWide Tryd.prog w r base 47 v) (h : DataW.Trod enc Tryd.prog w 0 (fun _ => true) true 47 v d ps) : ∃ a b, v = .agg #[.int .i64 a, .int .i64 b] := by
  have ua : Tryd.prog.underlying 47 = some (.array 2 3) := by kernel_rfl
  have ca : Tryd.prog.cellsOf 47 = 2 := by kernel_rfl
  unfold Value.okWide at hv
  rw [ua] at hv
  obtain ⟨cs, rfl, hsz, _⟩ := hv
  rw [ca] at hsz
  obtain ⟨x0, x1, rfl⟩ := arr2 hsz
  obtain ⟨fuel, hf⟩ := h
  obtain ⟨xs, m, _, _, _, hl, he⟩ := DataW.trod_array ua hf
  have h0 := he 0 (by omega)
  have h1 := he 1 (by omega)
  rw [List.getElem?_eq_getElem (by omega), c3_] at h0 h1
  simp only [Value.cells, Nat.zero_mul, Nat.one_mul, List.drop_succ_cons, List.drop_zero, List.take_succ_cons, List.take_zero] at h0 h1
  obtain ⟨a, rfl⟩ := int_of h0
  obtain ⟨b, rfl⟩ := int_of h1
  exact ⟨a, b, rfl⟩
end
end
end Go.Proofs.YtgfbfbfajnfbjaaDoor
namespace Go.Proofs.YtgfbfbfajnfbjaaDoor
section
set_option linter.unusedVariables false
set_option linter.unusedSimpArgs false
open Go.ChangeShapes Go.WideShapes Go.ChangeAt Go.RowKit

theorem ownK : ownKnob Tryd.prog.godebug = none := by kernel_rfl
theorem gMarks : Tryd.prog.globalNamed "saron/forge.ends" = some 0 := by kernel_rfl
theorem tMarks : (Tryd.prog.globals[0]?).map (·.type) = some 139 := by kernel_rfl
theorem uMarks : Tryd.prog.underlying 139 = some (.array 2 138) := by kernel_rfl
theorem cMark : Tryd.prog.cellsOf 138 = 1 := by kernel_rfl
theorem cMarks : Tryd.prog.cellsOf 139 = 2 := by kernel_rfl
theorem uMark : Tryd.prog.underlying 138 = some (.func #[87, 3] #[3] false) := by kernel_rfl
def laidM : List (String × DataW Unit) := [("saron/forge.ends", Rows.laid_saron_forge_ends)]
/-- the package's table, from the row's condition -/
theorem marks_of_laid {W : World} (h : laidMetH Tryd.prog laidM W) : EndsAt W := by
  obtain ⟨g, t, cs, fuel, p, hg, ht, hv, hd⟩ := h.funcs (n := "saron/forge.ends") (List.mem_singleton.2 rfl)
  obtain rfl := Option.some.inj (gMarks.symm.trans hg)
  obtain rfl := Option.some.inj (tMarks.symm.trans ht)
  have hd' : DataW.trod (funcToken Tryd.prog) Tryd.prog W 0 (fun _ => true) true fuel 139 cs.toList = some (.agg [.held [40, 115, 97, 114, 111, 110, 47, 102, 111, 114, 103, 101, 46, 98, 111, 111, 107, 41, 46, 108, 111, 119], .held [40, 115, 97, 114, 111, 110, 47, 102, 111, 114, 103, 101, 46, 98, 111, 111, 107, 41, 46, 104, 105, 103, 104]], p) := hd
  obtain ⟨xs, m, _, hx, hl, hn, he⟩ := DataW.trod_array uMarks hd'
  rw [cMarks] at hl
  obtain ⟨x0, x1, rfl⟩ := arr2 (cs := cs) (by simpa using hl)
  have h0 := he 0 (by omega)
  have h1 := he 1 (by omega)
  rw [cMark] at h0 h1
  simp only [Nat.zero_mul, Nat.one_mul, List.drop_succ_cons, List.drop_zero, List.take_succ_cons, List.take_zero] at h0 h1
  obtain ⟨y0, y1, rfl⟩ : ∃ y0 y1, xs = [y0, y1] := by match xs, hn with | [a, b], _ => exact ⟨_, _, rfl⟩
  simp only [List.map_cons, List.map_nil, Prod.mk.injEq, DataW.agg.injEq, List.cons.injEq, and_true] at hx
  obtain ⟨⟨e0, e1⟩, _⟩ := hx
  obtain ⟨d0, q0⟩ := y0
  obtain ⟨d1, q1⟩ := y1
  simp only at e0 e1
  subst e0; subst e1
  obtain rfl := func_of_trod (f0 := 130) uMark (by kernel_rfl) h0
  obtain rfl := func_of_trod (f0 := 131) uMark (by kernel_rfl) h1
  exact ⟨by simpa using World.var?_cell hg hv 0, by simpa using World.var?_cell hg hv 1⟩
/-- The door's own heap meets the condition. -/
theorem door_met (os : Os) (args : Array Value) : laidMetH Tryd.prog laidM ((World.doorLaid Tryd.prog 14 os).forCall (fun _ _ => 0) ⟨#[], args, []⟩).memory :=
  laidMetH_of_parts3 (fuel := 8) (laidMet_of_run' 8 (by kernel_rfl) (by kernel_rfl)) (by kernel_rfl) (by kernel_rfl)
theorem laidOut : laidOutB Tryd.prog = true := by kernel_rfl
theorem u4_ : Tryd.prog.underlying 4 = some .bool := by kernel_rfl
theorem rBook : Tryd.prog.readableRec 28 = true := by kernel_rfl
theorem rInts : Tryd.prog.readableRec 29 = true := by kernel_rfl
theorem rTwo : Tryd.prog.readableRec 47 = true := by kernel_rfl
theorem sTypes : 130 < Tryd.prog.types.size := of_decide_eq_true (by kernel_rfl)
end
end Go.Proofs.YtgfbfbfajnfbjaaDoor
