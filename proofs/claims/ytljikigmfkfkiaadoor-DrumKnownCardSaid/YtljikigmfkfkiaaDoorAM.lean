import Derived.Test.YtljikigmfkfkiaaDoorAI
import Derived.WideKeyRuns
import Derived.Laws.StructEq
namespace Go.Proofs.YtljikigmfkfkiaaDoor
section
open Go.RowKit
set_option linter.unusedSimpArgs false
set_option linter.unusedVariables false
def heardTo (l : List Int) (k : Nat) : Bool := (List.range k).all fun j => inB (gi l j) (-2) 1
theorem heardTo_succ (l : List Int) (k : Nat) : heardTo l (k + 1) = (heardTo l k && inB (gi l k) (-2) 1) := range_all_succ _ _
def knowsHead (B : BookV) (heard : List Int) (part : Int) : Bool := ((heard.length : Int) == B.parts - 1) && inB part 0 (B.parts - 1)
def knowsAsk (B : BookV) (heard : List Int) (part : Int) : Bool := knowsHead B heard part && heardTo heard heard.length
set_option maxRecDepth 100000 in
set_option maxHeartbeats 2000000 in
theorem Knows1_calls (B : BookV) (g : B.Good) (A : Option Addr) (c : Nat) (heard : List Int) (part : Int) (b1 b2 : Nat) (w : World) (h1 : BoxAt w b1 #[.slice A heard.length c]) (h2 : BoxAt w b2 #[.int .i64 part]) (hp : IntsAt w A heard) :
    Calls Tryd.prog 83 (#[B.val] ++ #[.pointer (some ⟨b1, 0, none⟩), .pointer (some ⟨b2, 0, none⟩)]) w fun e w' => e = .returned (.bool (knowsAsk B heard part)) ∧ Below w.heap.size w w' := by
  have hpar := g.parts
  clear g
  have hw1 : IntKind.i64.wrap (B.parts - 1) = B.parts - 1 := wrap_in (by omega) (by omega)
  have hlen := hp.1
  have HP := Lib.hid hp
  clear hp
  obtain ⟨c1, f1, l1⟩ := h1
  obtain ⟨c2, f2, l2⟩ := h2
  obtain ⟨n1, n2, n3, n4, n5, n6⟩ := old_lt l1
  obtain ⟨m1, m2, m3, m4, m5, m6⟩ := old_lt l2
  show Calls Tryd.prog 83 #[B.val, .pointer (some ⟨b1, 0, none⟩), .pointer (some ⟨b2, 0, none⟩)] w _
  have Hb : Below w.heap.size w (w.alloc (.cells B.cells 78)) := (Below.refl _ _).alloc (Nat.le_refl _) _
  have hcase := chain2 ((heard.length : Int) == B.parts - 1) (inB part 0 (B.parts - 1))
  have hh : Hid (knowsHead B heard part = (((heard.length : Int) == B.parts - 1) && inB part 0 (B.parts - 1))) := Lib.hid rfl
  have hr : Hid (knowsAsk B heard part = (knowsHead B heard part && heardTo heard heard.length)) := Lib.hid rfl
  unfold BookV.val BookV.cells
  unfold BookV.cells at Hb
  have HH := Lib.hid Hb
  clear Hb
  rcases hcase with hi | ⟨hi, hj⟩ | ⟨hi, hj⟩
  all_goals
    have hk0 : ∃ b, knowsHead B heard part = b := ⟨_, rfl⟩
    obtain ⟨b0, hb0⟩ := hk0
    have Hb0 := Lib.hid hb0
    go_enter Tryd.func83, Tryd.ntmps83
    have hbv : b0 = (((heard.length : Int) == B.parts - 1) && inB part 0 (B.parts - 1)) := by rw [← Hb0.out, hh.out]
    simp only [hi, Bool.false_and, Bool.true_and] at hbv
    try rw [hj] at hbv
    go_upto_block 0 with (go_at_call 62; refine (in_calls _ _ _ _).mono ?_; rintro e w' ⟨rfl, rfl⟩)
    try rw [hj]
    have h0 : (knowsHead B heard part && heardTo heard 0) = b0 := by rw [Hb0.out]; simp [heardTo]
    rw [hbv] at h0
    have H0 := Lib.hid h0
    clear hbv hi h0 hb0
    try clear hj
    generalize hW : w.alloc _ = W at *
    have Hbe := Lib.hid HH.out
    clear hW
    go_wp2
    go_loopg [25, 5] heard.length (fun gk i v wr => ∃ k : Nat, k ≤ heard.length ∧ gk = heard.length - k ∧ i = .int .i64 k ∧ v = .bool (knowsHead B heard part && heardTo heard k) ∧ wr = W)
    case atStart => exact ⟨0, Nat.zero_le _, rfl, rfl, by rw [H0.out], rfl⟩
    case round =>
      obtain ⟨k, hk, hgk, rfl, rfl, rfl⟩ := hrel
      have Hgk := Lib.hid hgk
      clear hgk
      by_cases hlt : k < heard.length
      · obtain ⟨ab, ao, rfl⟩ := HP.out.some_ (by omega)
        have ck := cell_below Hbe.out (HP.out.at_ hlt)
        have hki : (k : Int) < heard.length := by omega
        have hkw : (k : Int) + 1 ≤ 9223372036854775807 := by omega
        have hst : (knowsHead B heard part && heardTo heard (k + 1)) = ((knowsHead B heard part && heardTo heard k) && inB (gi heard k) (-2) 1) := by rw [heardTo_succ, Bool.and_assoc]
        have Hst := Lib.hid hst
        clear hst
        cases hx : (knowsHead B heard part && heardTo heard k) with
        | false =>
          rw [hx] at Hst
          have Hx := Lib.hid hx
          clear hx
          go_wp2
          go_roundg (heard.length - (k + 1))
          case measure => have := Hgk.out; omega
          case rel => exact ⟨k + 1, by omega, rfl, by go_num, by rw [Hst.out]; rfl, rfl⟩
        | true =>
          rw [hx] at Hst
          have Hx := Lib.hid hx
          clear hx
          go_wp2_with (go_at_call 62; refine (in_calls _ _ _ _).mono ?_; rintro e w' ⟨rfl, rfl⟩)
          go_roundg (heard.length - (k + 1))
          case measure => have := Hgk.out; omega
          case rel => exact ⟨k + 1, by omega, rfl, by go_num, by rw [Hst.out]; rfl, rfl⟩
      · obtain rfl : k = heard.length := by omega
        go_wp2
        go_ret
        exact ⟨by rw [hr.out]; rfl, Hbe.out⟩
end
end Go.Proofs.YtljikigmfkfkiaaDoor
namespace Go.Proofs.YtljikigmfkfkiaaDoor
section
open Go.RowKit
set_option linter.unusedSimpArgs false
set_option linter.unusedVariables false
/-! The map of Knows: from a part and a density to true. -/
def spotK (part l : Int) : Value := .agg #[.int .i64 part, .int .i64 l]
theorem under98 : Tryd.prog.underlying 98 = some (.map 100 4) := by kernel_rfl
theorem eqSpot (a b c d : Int) (w : World) : (Op.equalIn 10000 100 (spotK a b) (spotK c d)).run Tryd.prog w = .ok (a == c && b == d) w := by
  have u3 := under3
  have hS : Tryd.prog.underlying 100 = some (.struct (Tryd.prog.fieldsOf 100)) := by kernel_rfl
  have hp : Tryd.prog.stoodInHeld 100 = false := by kernel_rfl
  unfold spotK
  rw [show (10000 : Nat) = 9999 + 1 from rfl, run_equalIn_struct w 9999 100 _ _ hS hp]
  obtain ⟨f0, f1, hf, n0, n1, t0, t1, o0, o1⟩ : ∃ f0 f1 : Field, (Tryd.prog.fieldsOf 100).toList = [f0, f1] ∧ (f0.name == "_") = false ∧ (f1.name == "_") = false ∧ f0.type = 3 ∧ f1.type = 3 ∧ f0.offset = 0 ∧ f1.offset = 1 :=
    ⟨(Tryd.prog.fieldsOf 100)[0]!, (Tryd.prog.fieldsOf 100)[1]!, by kernel_rfl, by kernel_rfl, by kernel_rfl, by kernel_rfl, by kernel_rfl, by kernel_rfl, by kernel_rfl⟩
  have p0 : ∀ (x y : Int) (w : World), (part 3 #[.int .i64 x, .int .i64 y] 0).run Tryd.prog w = .ok (.int .i64 x) w := fun x y w => by kernel_rfl
  have p1 : ∀ (x y : Int) (w : World), (part 3 #[.int .i64 x, .int .i64 y] 1).run Tryd.prog w = .ok (.int .i64 y) w := fun x y w => by kernel_rfl
  have e3 : ∀ (x y : Int) (w : World), (Op.equalIn 9999 3 (.int .i64 x) (.int .i64 y)).run Tryd.prog w = .ok (x == y) w := fun x y w => run_equalIn_int w 9998 3 .i64 .i64 x y u3
  rw [hf]
  have m0 : f0.name ≠ "_" := by simpa using n0
  have m1 : f1.name ≠ "_" := by simpa using n1
  simp only [Op.eqFields, if_pos m0, if_pos m1, t0, t1, o0, o1, Sem.run_bind, p0, p1, e3, Result.andThen_ok]
  cases h1 : (a == c) <;> cases h2 : (b == d) <;> simp [p1, e3, h2]
theorem checkSpot (a b : Int) (em : Bool) (w : World) : (Instr.checkKey em 10000 100 (spotK a b)).run Tryd.prog w = .ok () w := by
  unfold spotK
  kernel_rfl
/-- A map that holds the densities ls of the part, each at true. -/
def MapAt (W : World) (b : Nat) (part : Int) (ls : List Int) : Prop :=
  ∃ es clock, W.heap[b]? = some (.map es clock) ∧ es.toList.map (·.key) = ls.map (spotK part) ∧ ∀ e ∈ es.toList, e.val = .bool true
theorem findSpot (part l : Int) (w : World) : ∀ (es : List MapEntry) (ls : List Int) (i : Nat), es.map (·.key) = ls.map (spotK part) → (∀ e ∈ es, e.val = .bool true) →
    ∃ r, (Instr.findAsking 100 (spotK part l) es i).run Tryd.prog w = .ok r w ∧ ((l ∈ ls ∧ ∃ k, i ≤ k ∧ k < i + es.length ∧ ls[k - i]? = some l ∧ r = some (k, .bool true)) ∨ (l ∉ ls ∧ r = none))
  | [], ls, i, h, _ => by
    have : ls = [] := by cases ls; rfl; simp at h
    subst this
    exact ⟨none, by unfold Instr.findAsking; simp, .inr ⟨by simp, rfl⟩⟩
  | e :: es, ls, i, h, hv => by
    obtain ⟨x, ls, rfl⟩ : ∃ x l', ls = x :: l' := by cases ls with | nil => simp at h | cons x l' => exact ⟨x, l', rfl⟩
    simp only [List.map_cons, List.cons.injEq] at h
    have he : (Op.equal 100 (spotK part l) e.key).run Tryd.prog w = .ok (l == x) w := by
      rw [h.1]; unfold Op.equal; exact (eqSpot part l part x w).trans (by simp)
    by_cases hx : l = x
    · subst hx
      refine ⟨some (i, .bool true), ?_, .inl ⟨by simp, i, Nat.le_refl _, by simp, by simp, rfl⟩⟩
      unfold Instr.findAsking
      simp [he, hv e (by simp)]
    · obtain ⟨r, hr, hr2⟩ := findSpot part l w es ls (i + 1) h.2 (fun e he => hv e (by simp [he]))
      refine ⟨r, ?_, ?_⟩
      · unfold Instr.findAsking
        have : (l == x) = false := by simpa using hx
        simp [he, this, hr]
      · rcases hr2 with ⟨h1, k, h2, h3, h4, h5⟩ | ⟨h1, h2⟩
        · refine .inl ⟨by simp [h1], k, by omega, by simp; omega, ?_, h5⟩
          rw [show k - i = (k - (i + 1)) + 1 by omega]; simpa using h4
        · exact .inr ⟨by simp [h1, hx], h2⟩
theorem find98 (part l : Int) (w : World) (es : List MapEntry) : (Instr.findKey 100 (spotK part l) es).run Tryd.prog w = (Instr.findAsking 100 (spotK part l) es).run Tryd.prog w := run_findKey_eq (P := Tryd.prog) (w := w) (by kernel_rfl) _ _
theorem bitsSpot (p l : Int) : Instr.sameBits 10000 (spotK p l) (spotK p l) = true := by
  unfold spotK
  rw [show (10000 : Nat) = 9998 + 1 + 1 from rfl]
  simp [Instr.sameBits]
theorem stays98 (p l : Int) (W : World) : (Instr.keyThatStays (spotK p l) (spotK p l)).run Tryd.prog W = .ok (spotK p l) W := by
  unfold Instr.keyThatStays
  rw [if_pos (bitsSpot p l)]
  simp
theorem lookup98 {W : World} {b : Nat} {part : Int} {ls : List Int} (h : MapAt W b part ls) (l : Int) : (Instr.lookup 98 (.map (some b)) (spotK part l) false).run Tryd.prog W = .ok (.bool (decide (l ∈ ls))) W := by
  obtain ⟨es, clock, hb, hk, hv⟩ := h
  obtain ⟨r, hr, hr2⟩ := findSpot part l W es.toList ls 0 hk hv
  have hz : (zeroValue 4).run Tryd.prog W = .ok (.bool false) W := by kernel_rfl
  have hg := MapKept.run_getObj_map (P := Tryd.prog) hb
  unfold Instr.lookup
  simp only [Sem.run_bind, run_underlying under98, Result.andThen_ok]
  rcases hr2 with ⟨h1, k, _, h3, h4, rfl⟩ | ⟨h1, rfl⟩
  · simp [hg, checkSpot, find98, hr, h1]
  · simp [hg, checkSpot, find98, hr, h1, hz]
theorem update98 {W : World} {b : Nat} {part : Int} {ls : List Int} (h : MapAt W b part ls) (l : Int) :
    ∃ W', (Instr.mapUpdate 98 (.map (some b)) (spotK part l) (.bool true)).run Tryd.prog W = .ok () W' ∧ MapAt W' b part (if l ∈ ls then ls else ls ++ [l]) ∧ Keep (fun k => k = b) W W' := by
  obtain ⟨es, clock, hb, hk, hv⟩ := h
  obtain ⟨r, hr, hr2⟩ := findSpot part l W es.toList ls 0 hk hv
  have hg := MapKept.run_getObj_map (P := Tryd.prog) hb
  have hs := fun o => MapKept.run_setObj_map (P := Tryd.prog) o hb
  have hbl : b < W.heap.size := (Array.getElem?_eq_some_iff.1 hb).1
  have hkeep : ∀ o, Keep (fun k => k = b) W { W with heap := W.heap.setIfInBounds b o } := fun o =>
    ⟨rfl, rfl, rfl, by simp, fun k hk hn => by simp only; rw [Array.getElem?_setIfInBounds, if_neg (fun e => hn e.symm)]⟩
  unfold Instr.mapUpdate
  simp only [Sem.run_bind, run_underlying under98, Result.andThen_ok]
  rcases hr2 with ⟨h1, k, _, h3, h4, rfl⟩ | ⟨h1, rfl⟩
  · have hkl : k < es.toList.length := by omega
    have hkey : (es[k]?.map (·.key)).getD (spotK part l) = spotK part l := by
      have h5 := congrArg (fun x => x[k]?) hk
      simp only [List.getElem?_map] at h5
      rw [Nat.sub_zero] at h4
      rw [h4] at h5
      rw [← Array.getElem?_toList, h5]; rfl
    simp only [hg, checkSpot, find98, hr, Sem.run_bind, Result.andThen_ok, hkey, stays98, hs, if_pos h1]
    refine ⟨_, rfl, ⟨_, clock, by simp [hbl]; rfl, ?_, ?_⟩, hkeep _⟩
    · rw [← hk]
      refine List.ext_getElem? fun n => ?_
      simp only [Array.toList_modify, List.getElem?_map, List.getElem?_modify]
      by_cases e : k = n
      · subst e
        rw [Array.getElem?_toList]
        cases hek : es[k]? with
        | none => simp
        | some x => rw [hek] at hkey; simp at hkey ⊢; exact hkey.symm
      · simp [e]
    · intro e he
      simp only [Array.toList_modify] at he
      obtain ⟨n, hn⟩ := List.mem_iff_getElem?.1 he
      rw [List.getElem?_modify] at hn
      by_cases e' : k = n
      · subst e'
        cases hek : es.toList[k]? with
        | none => rw [hek] at hn; simp at hn
        | some x => rw [hek] at hn; simp at hn; rw [← hn]
      · cases hek : es.toList[n]? with
        | none => rw [hek] at hn; simp at hn
        | some x => rw [hek] at hn; simp [e'] at hn; rw [← hn]; exact hv x (List.mem_of_getElem? hek)
  · simp only [hg, checkSpot, find98, hr, Sem.run_bind, Result.andThen_ok, hs, if_neg h1]
    refine ⟨_, rfl, ⟨_, clock + 1, by simp [hbl]; rfl, ?_, ?_⟩, hkeep _⟩
    · simp [hk]
    · intro e he
      simp at he
      rcases he with he | rfl
      · exact hv e (by simpa using he)
      · rfl
end
end Go.Proofs.YtljikigmfkfkiaaDoor
namespace Go.Proofs.YtljikigmfkfkiaaDoor
section
open Go.RowKit Go.Shelf
attribute [local go_sem] Oper.semAt_some
set_option linter.unusedSimpArgs false
set_option linter.unusedVariables false
theorem MapAt.keep {M : Nat → Prop} {W W' : World} {b : Nat} {p : Int} {ls : List Int} (h : MapAt W b p ls) (k : Keep M W W') (hm : ¬ M b) : MapAt W' b p ls := by
  obtain ⟨es, c, hb, hk, hv⟩ := h
  exact ⟨es, c, (k.block b (Array.getElem?_eq_some_iff.1 hb).1 hm).trans hb, hk, hv⟩
theorem MapAt.below {W W' : World} {b : Nat} {p : Int} {ls : List Int} (h : MapAt W b p ls) (k : Below W.heap.size W W') : MapAt W' b p ls := by
  obtain ⟨es, c, hb, hk, hv⟩ := h
  exact ⟨es, c, (k.block b (Array.getElem?_eq_some_iff.1 hb).1).trans hb, hk, hv⟩
theorem MapAt.lt {W : World} {b : Nat} {p : Int} {ls : List Int} (h : MapAt W b p ls) : b < W.heap.size := by
  obtain ⟨es, c, hb, hk, hv⟩ := h
  exact (Array.getElem?_eq_some_iff.1 hb).1
theorem MapAt.new (W : World) (p : Int) : MapAt (W.alloc (.map #[] 0)) W.heap.size p [] := ⟨#[], 0, World.alloc_heap_new W _, by simp, by simp⟩
/-- does a path do what was heard at its first k marks? -/
def hitB (path heard : List Int) (j : Nat) : Bool := (gi heard j == -2) || (gi path (j + 1) - gi path j == gi heard j)
def fitsTo (path heard : List Int) (k : Nat) : Bool := (List.range k).all (hitB path heard)
theorem fitsTo_succ (path heard : List Int) (k : Nat) : fitsTo path heard (k + 1) = (fitsTo path heard k && hitB path heard k) := range_all_succ _ _
def metStep (heard : List Int) (part : Nat) (ls : List Int) (p : List Int) : List Int := if fitsTo p heard heard.length then (if gi p part ∈ ls then ls else ls ++ [gi p part]) else ls
/-- the densities that the part has in those of the plans that fit -/
def metOf (heard : List Int) (part : Nat) (l : List (List Int)) : List Int := l.foldl (metStep heard part) []
theorem metOf_snoc (heard : List Int) (part : Nat) (l : List (List Int)) (p : List Int) : metOf heard part (l ++ [p]) = metStep heard part (metOf heard part l) p := by unfold metOf; rw [List.foldl_append]; rfl
/-- of the first k densities those that the part can have -/
def knowsTo (B : BookV) (heard : List Int) (part : Nat) (k : Nat) : List Int := ((List.range k).filter fun l : Nat => decide ((l : Int) ∈ metOf heard part (allPlans B))).map Int.ofNat
theorem knowsTo_succ (B : BookV) (heard : List Int) (part k : Nat) : knowsTo B heard part (k + 1) = knowsTo B heard part k ++ bif decide ((k : Int) ∈ metOf heard part (allPlans B)) then [(k : Int)] else [] := by
  unfold knowsTo
  rw [List.range_succ, List.filter_append, List.map_append]
  cases h : decide ((k : Int) ∈ metOf heard part (allPlans B)) <;> simp_all
theorem knowsTo_le (B : BookV) (heard : List Int) (part k : Nat) : (knowsTo B heard part k).length ≤ k := by
  unfold knowsTo
  rw [List.length_map]
  exact Nat.le_trans (List.length_filter_le _ _) (by simp)
theorem enters83 : ∀ args w, (callFunc 83 args).run Tryd.prog w = .ok (.enter 83 args) w := enters_of Tryd.func83 (by kernel_rfl) rfl
@[local go_sem] theorem eqSpot' (a b c d : Int) (w : World) : (Op.equalIn 10000 100 (.agg #[.int .i64 a, .int .i64 b]) (.agg #[.int .i64 c, .int .i64 d])).run Tryd.prog w = .ok (a == c && b == d) w := eqSpot a b c d w
/-- what Knows returns, but for where the list lies -/
def KnowsR (B : BookV) (heard : List Int) (part : Int) (e : Ending) (w' : World) : Prop :=
  (goodB B = false ∧ e = .returned (.tuple #[.slice none 0 0, .int .i64 80])) ∨ (goodB B = true ∧ knowsAsk B heard part = false ∧ e = .returned (.tuple #[.slice none 0 0, .int .i64 81])) ∨
  (goodB B = true ∧ knowsAsk B heard part = true ∧ knowsTo B heard part.toNat 4 = [] ∧ e = .returned (.tuple #[.slice none 0 0, .int .i64 4])) ∨
  (goodB B = true ∧ knowsAsk B heard part = true ∧ knowsTo B heard part.toNat 4 ≠ [] ∧ ∃ A, e = .returned (.tuple #[.slice A (knowsTo B heard part.toNat 4).length (knowsTo B heard part.toNat 4).length, .int .i64 0]) ∧ IntsAt w' A (knowsTo B heard part.toNat 4))
end
end Go.Proofs.YtljikigmfkfkiaaDoor
namespace Go.Proofs.YtljikigmfkfkiaaDoor
section
open Go.RowKit Go.Shelf
attribute [local go_sem] Oper.semAt_some
set_option linter.unusedSimpArgs false
set_option linter.unusedVariables false
@[local go_sem] theorem make98 (W : World) : (Instr.makeMap 98 none).run Tryd.prog W = .ok (.map (some W.heap.size)) (W.alloc (.map #[] 0)) := run_makeMap _ _
set_option maxRecDepth 100000 in
set_option maxHeartbeats 4000000 in
theorem Knows_calls (B : BookV) (A : Option Addr) (c : Nat) (heard : List Int) (part : Int) (w : World) (hB : B.Reads w) (hp : IntsAt w A heard) (hM : MarksAt w) :
    Calls Tryd.prog 37 #[B.val, .slice A heard.length c, .int .i64 part] w fun e w' => KnowsR B heard part e w' ∧ Below w.heap.size w w' := by
  have HB := Lib.hid hB
  have HP := Lib.hid hp
  have HM := Lib.hid hM
  clear hB hp hM
  have Hb : Below w.heap.size w (((w.alloc (.cells B.cells 27)).alloc (.cells #[.slice A heard.length c] 22)).alloc (.cells #[.int .i64 part] 3)) :=
    (((Below.refl _ _).alloc (Nat.le_refl _) _).alloc (by simp) _).alloc (by simp; omega) _
  have k4 := (BoxAt.new (w.alloc (.cells B.cells 27)) #[.slice A heard.length c] 22).alloc (.cells #[.int .i64 part] 3)
  have k5 := BoxAt.new ((w.alloc (.cells B.cells 27)).alloc (.cells #[.slice A heard.length c] 22)) #[.int .i64 part] 3
  simp only [World.size_alloc] at k4 k5
  have hask := asked_calls B _ (HB.out.below Hb) 83 #[.pointer (some ⟨w.heap.size + 1, 0, none⟩), .pointer (some ⟨w.heap.size + 1 + 1, 0, none⟩)] (knowsAsk B heard part) enters83
    (fun hg w' hw => Knows1_calls B ((goodB_iff B).1 hg) A c heard part _ _ w' (k4.below hw) (k5.below hw) ((HP.out.below Hb).below hw))
  have Hask := Lib.hid hask
  have K4 := Lib.hid k4
  have K5 := Lib.hid k5
  clear hask k4 k5
  have hcase : (∃ n, (∀ w', KnowsR B heard part (.returned (.tuple #[.slice none 0 0, .int .i64 n])) w') ∧ askR B (knowsAsk B heard part) = .tuple #[zB, .int .i64 n] ∧ n ≠ 0) ∨ (goodB B = true ∧ knowsAsk B heard part = true) := by
    rcases chain2 (goodB B) (knowsAsk B heard part) with hg | ⟨hg, hi⟩ | ⟨hg, hi⟩
    · exact .inl ⟨80, fun _ => .inl ⟨hg, rfl⟩, by simp [askR, hg], by simp⟩
    · exact .inl ⟨81, fun _ => .inr (.inl ⟨hg, hi, rfl⟩), by simp [askR, hg, hi], by simp⟩
    · exact .inr ⟨hg, hi⟩
  rcases hcase with ⟨n, hr, ha, hn⟩ | ⟨hg, hi⟩
  · have Hr := Lib.hid hr
    have Ha := Lib.hid ha
    clear ha hr
    unfold BookV.val BookV.cells
    go_enter Tryd.func37, Tryd.ntmps37
    go_wp2_with fail
    refine wp_scope_straight ?_
    go_wp2_with fail
    refine (eq0_2 (v' := B.val) rfl Hask.out).mono ?_
    rintro e w1 ⟨rfl, hb⟩
    rw [Ha.out]
    have H1 := below_then Hb (by simp; omega) hb
    clear hb
    unfold zB
    go_wp2
    rw [Exit.noGoto_ret]
    go_ret2
    exact ⟨Hr.out _, H1.alloc H1.size _⟩
  · unfold BookV.val BookV.cells
    refine (callsIn_wide (n := 0)).1 ?_
    refine callsIn_of_wp_marks Tryd.func37 rfl trivial ?_ rfl
    simp only [Tryd.ntmps37, List.size_toArray, List.length_cons, List.length_nil, Nat.reduceAdd, Nat.reduceSub, Array.replicate_succ, Array.replicate_zero, List.push_toArray, List.append_toArray, List.nil_append, List.cons_append]
    gi_wp2_with fail
    refine wpIn_scope_w ?_
    gi_wp2_with fail
    refine ⟨trivial, rfl, ?_⟩
    refine (callsIn_wide.2 (eq0_2 (v' := B.val) rfl Hask.out)).mono ?_
    rintro e w1 ⟨rfl, hb⟩
    have H1 := below_then Hb (by simp; omega) hb
    have g := (goodB_iff B).1 hg
    have ha : askR B (knowsAsk B heard part) = .tuple #[B.val, .int .i64 0] := by simp [askR, hg, hi]
    rw [ha]
    clear ha
    have Hg := Lib.hid g
    have Hgg := Lib.hid hg
    have Hi := Lib.hid hi
    have K41 := Lib.hid (K4.out.below hb)
    have K51 := Lib.hid (K5.out.below hb)
    clear g hg hi hb
    unfold BookV.val BookV.cells
    gi_wp2_with fail
    refine wpIn_label_w ?_
    have k8 := ((BoxAt.new w1 B.cells 78).alloc (.map #[] 0)).alloc (.cells #[.map (some (w1.heap.size + 1))] 98)
    have km := (MapAt.new (w1.alloc (.cells B.cells 78)) part).below ((Below.refl _ _).alloc (Nat.le_refl _) (.cells #[.map (some (w1.heap.size + 1))] 98))
    have k10 := BoxAt.new ((w1.alloc (.cells B.cells 78)).alloc (.map #[] 0)) #[.map (some (w1.heap.size + 1))] 98
    have hW : Below w1.heap.size w1 (((w1.alloc (.cells B.cells 78)).alloc (.map #[] 0)).alloc (.cells #[.map (some (w1.heap.size + 1))] 98)) := (((Below.refl _ _).alloc (Nat.le_refl _) _).alloc (by simp) _).alloc (by simp; omega) _
    simp only [World.size_alloc] at km k10
    unfold BookV.cells at k8 km k10 hW
    generalize ((w1.alloc _).alloc _).alloc _ = W2 at *
    have H2 : Below w.heap.size w W2 := H1.trans (hW.mono H1.size)
    have K42 := Lib.hid (K41.out.below hW)
    have K52 := Lib.hid (K51.out.below hW)
    have Km := Lib.hid km
    have K10 := Lib.hid k10
    have hs1 : w.heap.size + 1 + 1 < w1.heap.size := K51.out.lt
    obtain ⟨c8, f8, l8⟩ := k8
    clear km k10 hW
    gi_wp2_with fail
    refine ⟨trivial, rfl, ?_⟩
    refine (callsIn_wide.2 (eq0_1 (v' := B.val) (by unfold BookV.val BookV.cells; rfl) (plans_calls B _))).mono ?_
    rintro e w3 ⟨bB, rfl, kB, hle, hb⟩
    have H3 := below_then H2 H2.size hb
    have K43 := Lib.hid (K42.out.below hb)
    have K53 := Lib.hid (K52.out.below hb)
    have Km3 := Lib.hid (Km.out.below hb)
    have K103 := Lib.hid (K10.out.below hb)
    have hmlt := Km.out.lt
    have hm3 := Km3.out.lt
    generalize hbm : w1.heap.size + 1 = bm at *
    have h10 : w1.heap.size + 1 + 1 = bm + 1 := by omega
    clear hb c8 f8 l8
    have hpart : 0 ≤ part ∧ part < B.parts := by
      have h := Hi.out
      unfold knowsAsk knowsHead at h
      rw [Bool.and_eq_true, Bool.and_eq_true, inB_iff] at h
      omega
    have hlen : (heard.length : Int) = B.parts - 1 := by
      have h := Hi.out
      unfold knowsAsk knowsHead at h
      rw [Bool.and_eq_true, Bool.and_eq_true] at h
      simpa using h.1.1
    have Hlen := Lib.hid hlen
    have hheard : ∀ j, j < heard.length → -2 ≤ gi heard j ∧ gi heard j ≤ 1 := by
      intro j hj
      have h := Hi.out
      unfold knowsAsk heardTo at h
      rw [Bool.and_eq_true, List.all_eq_true] at h
      exact inB_iff.1 (h.2 j (by simpa using hj))
    clear hlen
    gi_wp2_with fail
    refine wpIn_range_x (gf := 94) (lb := #[.pointer (some ⟨bB, 0, none⟩)]) rfl enters94
      (plans_seq B Hg.out w HB.out HM.out bB (fun k => k = bm) w3 H3 kB (by rintro k rfl; exact ⟨by have := H1.size; omega, hm3, by omega⟩)) (fun _ => False) (by rintro k rfl; exact hm3) (fun _ h => h.elim) (fun x vs W hE => by obtain ⟨A, c, rfl, _⟩ := hE; rfl)
      (fun pre W => MapAt W bm part (metOf heard part.toNat pre) ∧ Keep (fun k => k = bm ∨ w3.heap.size ≤ k) w3 W) (fun _ _ _ => False)
      (fun l s X Y r hl hr hk hI => ⟨hI.1.keep hk (by omega), hI.2.trans (hk.mono fun k _ e => .inr (by omega))⟩)
      (fun s X Y hI hb => ⟨hI.1.below hb, hI.2.trans (Keep.of_below hb)⟩)
      (fun _ _ _ _ _ _ _ _ _ h => h) (fun _ _ _ _ h _ => h)
      ⟨Km3.out, Keep.refl _ _⟩ ?round ?done ?stop
    case stop => rintro D co pre W _ _ _ h; exact h.elim
    case done =>
      rintro D W4 hD hK ⟨hN, hK4⟩ hd
      have hb4 : Below w.heap.size w W4 := H3.trans (hK4.below (fun k _ e => by have := H1.size; have := H3.size; omega) H3.size)
      have Hb4 := Lib.hid hb4
      have Hd := Lib.hid hd
      have HN := Lib.hid hN
      have k54 := K53.out.keep hK4 (by have := K53.out.lt; omega)
      have k104 := K103.out.keep hK4 (by have := K103.out.lt; omega)
      have K54 := Lib.hid k54
      have K104 := Lib.hid k104
      clear hb4 hd hN hK4 hK k54 k104
      gi_upto_region 13 with (fail)
      refine wpIn_wide.2 ?_
      go_wp2
      refine wpIn_wide.2 ?_
      go_upto_block 4 with (fail)
      go_wp2
      go_loopg [61, 14] 4 (fun gk i v wr => ∃ k : Nat, k ≤ 4 ∧ gk = 4 - k ∧ i = .int .i64 k ∧ OwnInts wr W4.heap.size v (knowsTo B heard part.toNat k) ∧ Below W4.heap.size W4 wr)
      case atStart => exact ⟨0, Nat.zero_le _, rfl, rfl, OwnInts.nil _ _, Below.refl _ _⟩
      case round =>
        obtain ⟨k, hk, hgk, rfl, hown, hbe⟩ := hrel
        have Hgk := Lib.hid hgk
        have Hown := Lib.hid hown
        have Hbe := Lib.hid hbe
        clear hgk hown hbe
        by_cases hlt : k < 4
        · have hlt' : (k : Int) < 4 := by omega
          have hs := knowsTo_succ B heard part.toNat k
          have hmr := (HN.out.below Hbe.out).below ((Below.refl _ _).alloc (Nat.le_refl _) (.cells #[.int .i64 part, .int .i64 k] 100))
          have hlk := lookup98 hmr k
          unfold spotK at hlk
          obtain ⟨c5, f5, l5⟩ := K54.out.below Hbe.out
          obtain ⟨c10, f10, l10⟩ := K104.out.below Hbe.out
          have hk1 : ((k : Int) == -1) = false := by rw [beq_eq_false_iff_ne]; omega
          have k16 := BoxAt.new wr #[.int .i64 part, .int .i64 k] 100
          have hbk : Below W4.heap.size W4 (wr.alloc (.cells #[.int .i64 part, .int .i64 k] 100)) := Hbe.out.alloc Hbe.out.size _
          have Hown2 := Lib.hid (Hown.out.alloc (.cells #[.int .i64 part, .int .i64 k] 100))
          have c10' := (BoxAt.alloc ⟨c10, f10, l10⟩ (.cells #[.int .i64 part, .int .i64 k] 100))
          have c5' := (BoxAt.alloc ⟨c5, f5, l5⟩ (.cells #[.int .i64 part, .int .i64 k] 100))
          generalize hmm : decide ((k : Int) ∈ metOf heard part.toNat (allPlans B)) = mm at *
          clear hmr hmm
          go_upto_region 18 with (fail)
          generalize wr.alloc (.cells #[.int .i64 part, .int .i64 k] 100) = Wk at *
          have Hbk := Lib.hid hbk
          clear hbk c5 f5 l5 c10 f10 l10
          obtain ⟨c5, f5, l5⟩ := c5'
          obtain ⟨c10, f10, l10⟩ := c10'
          obtain ⟨c16, f16, l16⟩ := k16
          cases mm with
          | true =>
            simp only [cond_true] at hs
            have Hs := Lib.hid hs
            clear hs
            go_wp2_with (at_builtin; refine wpList_app1 _ rfl _ _ rfl W4.heap.size _ _ rfl (Hown2.out.alloc _) _ _ _ rfl (cell_new1 _ _ _) (by have := knowsTo_le B heard part.toNat k; omega) (by have := Hbk.out.size; simp; omega) ?_)
            intro v' w5 ho hb5 hsz _
            have Hho := Lib.hid ho
            have Hb5 := Lib.hid hb5
            clear ho hb5 hsz
            go_wp2
            go_roundg (4 - (k + 1))
            case measure => have := Hgk.out; omega
            case rel => exact ⟨k + 1, by omega, rfl, by go_num, by rw [Hs.out]; exact Hho.out, (Hbk.out.alloc Hbk.out.size _).trans Hb5.out⟩
          | false =>
            simp only [cond_false, List.append_nil] at hs
            have Hs := Lib.hid hs
            clear hs
            go_wp2
            go_roundg (4 - (k + 1))
            case measure => have := Hgk.out; omega
            case rel => exact ⟨k + 1, by omega, rfl, by go_num, by rw [Hs.out]; exact Hown2.out, Hbk.out⟩
        · obtain rfl : k = 4 := by omega
          obtain ⟨A', c', rfl, hi', hc', hm', hbA, h0⟩ := Hown.out.reads
          have Hi' := Lib.hid hi'
          have Hfin := Lib.hid (Hb4.out.trans (Hbe.out.mono Hb4.out.size))
          have hdl : D < W4.heap.size := (Array.getElem?_eq_some_iff.1 Hd.out).1
          have Hdr : Hid (wr.heap[D]? = some (.deferred (some []))) := (Hbe.out.block D hdl).trans Hd.out
          have Hh := Lib.hid h0
          clear hi' h0
          rcases Nat.eq_zero_or_pos (knowsTo B heard part.toNat 4).length with hz | hz
          · have Hz := Lib.hid (List.eq_nil_of_length_eq_zero hz)
            rw [hz]
            clear hz hc'
            go_wp2
            refine ⟨by simp, .inl ⟨_, _, rfl, run_takeDeferred Hdr.out, ?_⟩⟩
            refine ⟨_, results_tmp2 rfl _ _ _, .inr (.inr (.inl ⟨Hgg.out, Hi.out, Hz.out, rfl⟩)), ?_⟩
            exact Hfin.out.trans ((Keep.putObj _ _ _).below (fun k _ e => by have := H3.size; omega) Hfin.out.size)
          · obtain ⟨ab, ao, rfl⟩ := Hi'.out.some_ hz
            have hne : Hid (knowsTo B heard part.toNat 4 ≠ []) := fun e => by rw [e] at hz; simp at hz
            have hzi : ((knowsTo B heard part.toNat 4).length : Int) ≠ 0 := by omega
            have Hz := Lib.hid hz
            clear hz
            go_wp2
            refine ⟨by simp, .inl ⟨_, _, rfl, run_takeDeferred Hdr.out, ?_⟩⟩
            refine ⟨_, results_tmp2 rfl _ _ _, .inr (.inr (.inr ⟨Hgg.out, Hi.out, hne.out, _, rfl, ?_⟩)), ?_⟩
            · exact Hi'.out.keep (Keep.putObj _ _ _) (by rintro b' o' ⟨⟩ rfl; have := hbA _ _ rfl; omega)
            · exact Hfin.out.trans ((Keep.putObj _ _ _).below (fun k _ e => by have := H3.size; omega) Hfin.out.size)
    case round =>
      rintro l pre x rest vs W4 hxs hl hle ⟨hN, hK⟩ hE
      obtain ⟨xA, xc, rfl, hpc, hpi⟩ := hE
      have ip := (allPlans_mem Hg.out (show x ∈ allPlans B by rw [hxs]; simp)).1
      have hp0 := ip.pos Hg.out
      have Hxl := Lib.hid ip.len
      have hxh : x.length = heard.length + 1 := by have := Hxl.out; have := Hlen.out; omega
      have Hxh := Lib.hid hxh
      clear hxh
      have hxr := ip.range
      obtain ⟨xb, xo, rfl⟩ := hpi.some_ hp0
      have Hpi := Lib.hid hpi
      have Hxs := Lib.hid hxs
      have HN := Lib.hid hN
      have Hxr := Lib.hid hxr
      clear hxs hpi ip hN hxr
      gi_wp2
      refine ⟨Keep.refl _ _, ?_⟩
      rintro W5 r hlr hk2
      have HN5 := Lib.hid (HN.out.keep hk2 (by omega))
      have hK5 : Keep (fun k => k = bm ∨ w3.heap.size ≤ k) w3 W5 := hK.trans (hk2.mono fun k _ e => .inr (by omega))
      have HK5 := Lib.hid hK5
      have HP5 := Lib.hid (Hpi.out.keep_l hlr hk2)
      have Hb5 := Lib.hid (H3.trans (hK5.below (fun k _ e => by have := H1.size; have := H3.size; omega) H3.size))
      obtain ⟨c4, f4, l4⟩ := K43.out.keep hK5 (by have := K43.out.lt; omega)
      obtain ⟨c5, f5, l5⟩ := K53.out.keep hK5 (by have := K53.out.lt; omega)
      obtain ⟨c10, f10, l10⟩ := K103.out.keep hK5 (by have := K103.out.lt; omega)
      clear hlr hk2 hK5 hK
      gi_wp2_with fail
      gi_loopw [32] (fun i wr => ∃ k : Nat, k ≤ heard.length ∧ i = .int .i64 k ∧ fitsTo x heard k = true ∧ Below W5.heap.size W5 wr) (fun i _ => heard.length - (intOf i).toNat)
      case atStart => exact ⟨0, Nat.zero_le _, rfl, rfl, Below.refl _ _⟩
      case round =>
        obtain ⟨k, hk, rfl, hfit, hbe⟩ := hrel
        have Hfit := Lib.hid hfit
        have Hbe := Lib.hid hbe
        clear hfit hbe
        by_cases hlt : k < heard.length
        · obtain ⟨ab, ao, rfl⟩ := HP.out.some_ (show 0 < heard.length by omega)
          have hkl1 : k + 1 < x.length := by have := Hxh.out; omega
          have ck := cell_below (below_then Hb5.out Hb5.out.size Hbe.out) (HP.out.at_ hlt)
          have cx0 := cell_below Hbe.out (HP5.out.at_ (show k < x.length by have := Hxh.out; omega))
          have cx1 := cell_below Hbe.out (HP5.out.at_ (show k + 1 < x.length by omega))
          have bk := World.block_lt_of_cell? _ _ ck
          have bx := World.block_lt_of_cell? _ _ cx0
          simp only at bk bx
          have hki : (k : Int) < heard.length := by omega
          have hkx : (k : Int) < x.length := by have := Hxh.out; omega
          have hkx1 : (k : Int) + 1 < x.length := by omega
          have hpar := Hg.out.parts
          have r0 := Hxr.out k (by have := Hxh.out; omega)
          have r1 := Hxr.out (k + 1) (by omega)
          have hw2 : IntKind.i64.wrap (gi x (k + 1) - gi x k) = gi x (k + 1) - gi x k := wrap_in (by omega) (by omega)
          have hst : fitsTo x heard (k + 1) = ((gi heard k == -2) || (gi x (k + 1) - gi x k == gi heard k)) := by rw [fitsTo_succ, Hfit.out, Bool.true_and]; rfl
          have hk0 : (0 : Int) ≤ (k : Int) + 1 := by omega
          have hwk : IntKind.i64.wrap ((k : Int) + 1) = (k : Int) + 1 := wrap_in (by omega) (by have := Hlen.out; omega)
          rcases Bool.eq_false_or_eq_true (gi heard k == -2) with h2 | h2
          · have Hst := Lib.hid hst
            have h2' : gi heard k = -2 := by simpa using h2
            clear hst
            gi_upto_region 10 with (fail)
            refine region_round (S := fun w' => Below wr.heap.size wr w') 16 (by kernel_rfl) (by kernel_rfl) (fun _ _ h => h) ?_ (fun hHeld => ?_)
            · exact (Below.refl _ _).drew
            first | (refine anyT_take 0 (some 37) (v := ?_) rfl rfl (by kernel_rfl) (by kernel_rfl) (by kernel_rfl) (by kernel_rfl) (fun _ _ _ h => h) (Or.inl ⟨by rfl, ?_⟩) hHeld ?_; rotate_left; focus (intro wq hSw; obtain ⟨hcq, hfq⟩ := bcell hSw; go_simp; (try with_reducible rfl); done))
            (try simp only [Act.put, List.setIfInBounds_toArray, List.set_cons_zero, List.set_cons_succ])
            first | (refine anyT_take 1 (some 38) (v := ?_) rfl rfl (by kernel_rfl) (by kernel_rfl) (by kernel_rfl) (by kernel_rfl) (fun _ _ _ h => h) (Or.inl ⟨by rfl, ?_⟩) hHeld ?_; rotate_left; focus (intro wq hSw; obtain ⟨hcq, hfq⟩ := bcell hSw; go_simp; (try with_reducible rfl); done))
            (try simp only [Act.put, List.setIfInBounds_toArray, List.set_cons_zero, List.set_cons_succ])
            first | (refine anyT_take 2 (some 39) (v := ?_) rfl rfl (by kernel_rfl) (by kernel_rfl) (by kernel_rfl) (by kernel_rfl) (fun _ _ _ h => h) (Or.inl ⟨by rfl, ?_⟩) hHeld ?_; rotate_left; focus (intro wq hSw; obtain ⟨hcq, hfq⟩ := bcell hSw; go_simp; (try with_reducible rfl); done))
            (try simp only [Act.put, List.setIfInBounds_toArray, List.set_cons_zero, List.set_cons_succ])
            first | (refine anyT_take 3 (some 40) rfl rfl (by kernel_rfl) (by kernel_rfl) (by kernel_rfl) (by kernel_rfl) (fun _ _ _ h => h) (Or.inr ⟨by rfl, rfl⟩) hHeld ?_) | (refine anyT_take 3 (some 40) (v := ?_) rfl rfl (by kernel_rfl) (by kernel_rfl) (by kernel_rfl) (by kernel_rfl) (fun _ _ _ h => h) (Or.inl ⟨by rfl, ?_⟩) hHeld ?_; rotate_left; focus (intro wq hSw; obtain ⟨hcq, hfq⟩ := bcell hSw; go_simp; (try with_reducible rfl); done))
            (try simp only [Act.put, List.setIfInBounds_toArray, List.set_cons_zero, List.set_cons_succ])
            first | (refine anyT_take 4 (some 41) rfl rfl (by kernel_rfl) (by kernel_rfl) (by kernel_rfl) (by kernel_rfl) (fun _ _ _ h => h) (Or.inr ⟨by rfl, rfl⟩) hHeld ?_) | (refine anyT_take 4 (some 41) (v := ?_) rfl rfl (by kernel_rfl) (by kernel_rfl) (by kernel_rfl) (by kernel_rfl) (fun _ _ _ h => h) (Or.inl ⟨by rfl, ?_⟩) hHeld ?_; rotate_left; focus (intro wq hSw; obtain ⟨hcq, hfq⟩ := bcell hSw; go_simp; (try with_reducible rfl); done))
            (try simp only [Act.put, List.setIfInBounds_toArray, List.set_cons_zero, List.set_cons_succ])
            first | (refine anyT_take 5 (some 42) rfl rfl (by kernel_rfl) (by kernel_rfl) (by kernel_rfl) (by kernel_rfl) (fun _ _ _ h => h) (Or.inr ⟨by rfl, rfl⟩) hHeld ?_) | (refine anyT_take 5 (some 42) (v := ?_) rfl rfl (by kernel_rfl) (by kernel_rfl) (by kernel_rfl) (by kernel_rfl) (fun _ _ _ h => h) (Or.inl ⟨by rfl, ?_⟩) hHeld ?_; rotate_left; focus (intro wq hSw; obtain ⟨hcq, hfq⟩ := bcell hSw; go_simp; (try with_reducible rfl); done))
            (try simp only [Act.put, List.setIfInBounds_toArray, List.set_cons_zero, List.set_cons_succ])
            first | (refine anyT_take 6 (some 43) rfl rfl (by kernel_rfl) (by kernel_rfl) (by kernel_rfl) (by kernel_rfl) (fun _ _ _ h => h) (Or.inr ⟨by rfl, rfl⟩) hHeld ?_) | (refine anyT_take 6 (some 43) (v := ?_) rfl rfl (by kernel_rfl) (by kernel_rfl) (by kernel_rfl) (by kernel_rfl) (fun _ _ _ h => h) (Or.inl ⟨by rfl, ?_⟩) hHeld ?_; rotate_left; focus (intro wq hSw; obtain ⟨hcq, hfq⟩ := bcell hSw; go_simp; (try with_reducible rfl); done))
            (try simp only [Act.put, List.setIfInBounds_toArray, List.set_cons_zero, List.set_cons_succ])
            first | (refine anyT_take 7 (some 44) rfl rfl (by kernel_rfl) (by kernel_rfl) (by kernel_rfl) (by kernel_rfl) (fun _ _ _ h => h) (Or.inr ⟨by rfl, rfl⟩) hHeld ?_) | (refine anyT_take 7 (some 44) (v := ?_) rfl rfl (by kernel_rfl) (by kernel_rfl) (by kernel_rfl) (by kernel_rfl) (fun _ _ _ h => h) (Or.inl ⟨by rfl, ?_⟩) hHeld ?_; rotate_left; focus (intro wq hSw; obtain ⟨hcq, hfq⟩ := bcell hSw; go_simp; (try with_reducible rfl); done))
            (try simp only [Act.put, List.setIfInBounds_toArray, List.set_cons_zero, List.set_cons_succ])
            first | (refine anyT_take 8 (some 45) rfl rfl (by kernel_rfl) (by kernel_rfl) (by kernel_rfl) (by kernel_rfl) (fun _ _ _ h => h) (Or.inr ⟨by rfl, rfl⟩) hHeld ?_) | (refine anyT_take 8 (some 45) (v := ?_) rfl rfl (by kernel_rfl) (by kernel_rfl) (by kernel_rfl) (by kernel_rfl) (fun _ _ _ h => h) (Or.inl ⟨by rfl, ?_⟩) hHeld ?_; rotate_left; focus (intro wq hSw; obtain ⟨hcq, hfq⟩ := bcell hSw; go_simp; (try with_reducible rfl); done))
            (try simp only [Act.put, List.setIfInBounds_toArray, List.set_cons_zero, List.set_cons_succ])
            first | (refine anyT_take 9 (some 46) rfl rfl (by kernel_rfl) (by kernel_rfl) (by kernel_rfl) (by kernel_rfl) (fun _ _ _ h => h) (Or.inr ⟨by rfl, rfl⟩) hHeld ?_) | (refine anyT_take 9 (some 46) (v := ?_) rfl rfl (by kernel_rfl) (by kernel_rfl) (by kernel_rfl) (by kernel_rfl) (fun _ _ _ h => h) (Or.inl ⟨by rfl, ?_⟩) hHeld ?_; rotate_left; focus (intro wq hSw; obtain ⟨hcq, hfq⟩ := bcell hSw; go_simp; (try with_reducible rfl); done))
            (try simp only [Act.put, List.setIfInBounds_toArray, List.set_cons_zero, List.set_cons_succ])
            first | (refine anyT_take 10 (some 47) rfl rfl (by kernel_rfl) (by kernel_rfl) (by kernel_rfl) (by kernel_rfl) (fun _ _ _ h => h) (Or.inr ⟨by rfl, rfl⟩) hHeld ?_) | (refine anyT_take 10 (some 47) (v := ?_) rfl rfl (by kernel_rfl) (by kernel_rfl) (by kernel_rfl) (by kernel_rfl) (fun _ _ _ h => h) (Or.inl ⟨by rfl, ?_⟩) hHeld ?_; rotate_left; focus (intro wq hSw; obtain ⟨hcq, hfq⟩ := bcell hSw; go_simp; (try with_reducible rfl); done))
            (try simp only [Act.put, List.setIfInBounds_toArray, List.set_cons_zero, List.set_cons_succ])
            first | (refine anyT_take 11 (some 48) rfl rfl (by kernel_rfl) (by kernel_rfl) (by kernel_rfl) (by kernel_rfl) (fun _ _ _ h => h) (Or.inr ⟨by rfl, rfl⟩) hHeld ?_) | (refine anyT_take 11 (some 48) (v := ?_) rfl rfl (by kernel_rfl) (by kernel_rfl) (by kernel_rfl) (by kernel_rfl) (fun _ _ _ h => h) (Or.inl ⟨by rfl, ?_⟩) hHeld ?_; rotate_left; focus (intro wq hSw; obtain ⟨hcq, hfq⟩ := bcell hSw; go_simp; (try with_reducible rfl); done))
            (try simp only [Act.put, List.setIfInBounds_toArray, List.set_cons_zero, List.set_cons_succ])
            first | (refine anyT_take 12 (some 49) rfl rfl (by kernel_rfl) (by kernel_rfl) (by kernel_rfl) (by kernel_rfl) (fun _ _ _ h => h) (Or.inr ⟨by rfl, rfl⟩) hHeld ?_) | (refine anyT_take 12 (some 49) (v := ?_) rfl rfl (by kernel_rfl) (by kernel_rfl) (by kernel_rfl) (by kernel_rfl) (fun _ _ _ h => h) (Or.inl ⟨by rfl, ?_⟩) hHeld ?_; rotate_left; focus (intro wq hSw; obtain ⟨hcq, hfq⟩ := bcell hSw; go_simp; (try with_reducible rfl); done))
            (try simp only [Act.put, List.setIfInBounds_toArray, List.set_cons_zero, List.set_cons_succ])
            first | (refine anyT_take 13 (some 50) rfl rfl (by kernel_rfl) (by kernel_rfl) (by kernel_rfl) (by kernel_rfl) (fun _ _ _ h => h) (Or.inr ⟨by rfl, rfl⟩) hHeld ?_) | (refine anyT_take 13 (some 50) (v := ?_) rfl rfl (by kernel_rfl) (by kernel_rfl) (by kernel_rfl) (by kernel_rfl) (fun _ _ _ h => h) (Or.inl ⟨by rfl, ?_⟩) hHeld ?_; rotate_left; focus (intro wq hSw; obtain ⟨hcq, hfq⟩ := bcell hSw; go_simp; (try with_reducible rfl); done))
            (try simp only [Act.put, List.setIfInBounds_toArray, List.set_cons_zero, List.set_cons_succ])
            first | (refine anyT_take 14 (some 51) rfl rfl (by kernel_rfl) (by kernel_rfl) (by kernel_rfl) (by kernel_rfl) (fun _ _ _ h => h) (Or.inr ⟨by rfl, rfl⟩) hHeld ?_) | (refine anyT_take 14 (some 51) (v := ?_) rfl rfl (by kernel_rfl) (by kernel_rfl) (by kernel_rfl) (by kernel_rfl) (fun _ _ _ h => h) (Or.inl ⟨by rfl, ?_⟩) hHeld ?_; rotate_left; focus (intro wq hSw; obtain ⟨hcq, hfq⟩ := bcell hSw; go_simp; (try with_reducible rfl); done))
            (try simp only [Act.put, List.setIfInBounds_toArray, List.set_cons_zero, List.set_cons_succ])
            first | (refine anyT_take 15 (some 52) (v := ?_) rfl rfl (by kernel_rfl) (by kernel_rfl) (by kernel_rfl) (by kernel_rfl) (fun _ _ _ h => h) (Or.inl ⟨by rfl, ?_⟩) hHeld ?_; rotate_left; focus (intro wq hSw; obtain ⟨hcq, hfq⟩ := bcell hSw; go_simp; (try with_reducible rfl); done))
            (try simp only [Act.put, List.setIfInBounds_toArray, List.set_cons_zero, List.set_cons_succ])
            refine anyT_done (by kernel_rfl) ?_ _
            have Hh := Lib.hid hHeld
            clear hHeld
            gi_wp2
            go_roundw
            case rel => exact ⟨k + 1, by omega, by go_num, by rw [Hst.out]; simp [*], below_then Hbe.out Hbe.out.size Hh.out⟩
            case measure => simp [intOf]; omega
          · rcases Bool.eq_false_or_eq_true (gi x (k + 1) - gi x k == gi heard k) with h3 | h3
            · have Hst := Lib.hid hst
              have h2n : (gi heard k != -2) = true := by simp [bne, h2]
              have h3n : (gi x (k + 1) - gi x k != gi heard k) = false := by simp [bne, h3]
              clear hst
              gi_upto_region 10 with (fail)
              refine region_round (S := fun w' => Below wr.heap.size wr w') 16 (by kernel_rfl) (by kernel_rfl) (fun _ _ h => h) ?_ (fun hHeld => ?_)
              · exact (Below.refl _ _).drew
              first | (refine anyT_take 0 (some 37) (v := ?_) rfl rfl (by kernel_rfl) (by kernel_rfl) (by kernel_rfl) (by kernel_rfl) (fun _ _ _ h => h) (Or.inl ⟨by rfl, ?_⟩) hHeld ?_; rotate_left; focus (intro wq hSw; obtain ⟨hcq, hfq⟩ := bcell hSw; go_simp; (try with_reducible rfl); done))
              (try simp only [Act.put, List.setIfInBounds_toArray, List.set_cons_zero, List.set_cons_succ])
              first | (refine anyT_take 1 (some 38) (v := ?_) rfl rfl (by kernel_rfl) (by kernel_rfl) (by kernel_rfl) (by kernel_rfl) (fun _ _ _ h => h) (Or.inl ⟨by rfl, ?_⟩) hHeld ?_; rotate_left; focus (intro wq hSw; obtain ⟨hcq, hfq⟩ := bcell hSw; go_simp; (try with_reducible rfl); done))
              (try simp only [Act.put, List.setIfInBounds_toArray, List.set_cons_zero, List.set_cons_succ])
              first | (refine anyT_take 2 (some 39) (v := ?_) rfl rfl (by kernel_rfl) (by kernel_rfl) (by kernel_rfl) (by kernel_rfl) (fun _ _ _ h => h) (Or.inl ⟨by rfl, ?_⟩) hHeld ?_; rotate_left; focus (intro wq hSw; obtain ⟨hcq, hfq⟩ := bcell hSw; go_simp; (try with_reducible rfl); done))
              (try simp only [Act.put, List.setIfInBounds_toArray, List.set_cons_zero, List.set_cons_succ])
              first | (refine anyT_take 3 (some 40) rfl rfl (by kernel_rfl) (by kernel_rfl) (by kernel_rfl) (by kernel_rfl) (fun _ _ _ h => h) (Or.inr ⟨by rfl, rfl⟩) hHeld ?_) | (refine anyT_take 3 (some 40) (v := ?_) rfl rfl (by kernel_rfl) (by kernel_rfl) (by kernel_rfl) (by kernel_rfl) (fun _ _ _ h => h) (Or.inl ⟨by rfl, ?_⟩) hHeld ?_; rotate_left; focus (intro wq hSw; obtain ⟨hcq, hfq⟩ := bcell hSw; go_simp; (try with_reducible rfl); done))
              (try simp only [Act.put, List.setIfInBounds_toArray, List.set_cons_zero, List.set_cons_succ])
              first | (refine anyT_take 4 (some 41) rfl rfl (by kernel_rfl) (by kernel_rfl) (by kernel_rfl) (by kernel_rfl) (fun _ _ _ h => h) (Or.inr ⟨by rfl, rfl⟩) hHeld ?_) | (refine anyT_take 4 (some 41) (v := ?_) rfl rfl (by kernel_rfl) (by kernel_rfl) (by kernel_rfl) (by kernel_rfl) (fun _ _ _ h => h) (Or.inl ⟨by rfl, ?_⟩) hHeld ?_; rotate_left; focus (intro wq hSw; obtain ⟨hcq, hfq⟩ := bcell hSw; go_simp; (try with_reducible rfl); done))
              (try simp only [Act.put, List.setIfInBounds_toArray, List.set_cons_zero, List.set_cons_succ])
              first | (refine anyT_take 5 (some 42) rfl rfl (by kernel_rfl) (by kernel_rfl) (by kernel_rfl) (by kernel_rfl) (fun _ _ _ h => h) (Or.inr ⟨by rfl, rfl⟩) hHeld ?_) | (refine anyT_take 5 (some 42) (v := ?_) rfl rfl (by kernel_rfl) (by kernel_rfl) (by kernel_rfl) (by kernel_rfl) (fun _ _ _ h => h) (Or.inl ⟨by rfl, ?_⟩) hHeld ?_; rotate_left; focus (intro wq hSw; obtain ⟨hcq, hfq⟩ := bcell hSw; go_simp; (try with_reducible rfl); done))
              (try simp only [Act.put, List.setIfInBounds_toArray, List.set_cons_zero, List.set_cons_succ])
              first | (refine anyT_take 6 (some 43) rfl rfl (by kernel_rfl) (by kernel_rfl) (by kernel_rfl) (by kernel_rfl) (fun _ _ _ h => h) (Or.inr ⟨by rfl, rfl⟩) hHeld ?_) | (refine anyT_take 6 (some 43) (v := ?_) rfl rfl (by kernel_rfl) (by kernel_rfl) (by kernel_rfl) (by kernel_rfl) (fun _ _ _ h => h) (Or.inl ⟨by rfl, ?_⟩) hHeld ?_; rotate_left; focus (intro wq hSw; obtain ⟨hcq, hfq⟩ := bcell hSw; go_simp; (try with_reducible rfl); done))
              (try simp only [Act.put, List.setIfInBounds_toArray, List.set_cons_zero, List.set_cons_succ])
              first | (refine anyT_take 7 (some 44) rfl rfl (by kernel_rfl) (by kernel_rfl) (by kernel_rfl) (by kernel_rfl) (fun _ _ _ h => h) (Or.inr ⟨by rfl, rfl⟩) hHeld ?_) | (refine anyT_take 7 (some 44) (v := ?_) rfl rfl (by kernel_rfl) (by kernel_rfl) (by kernel_rfl) (by kernel_rfl) (fun _ _ _ h => h) (Or.inl ⟨by rfl, ?_⟩) hHeld ?_; rotate_left; focus (intro wq hSw; obtain ⟨hcq, hfq⟩ := bcell hSw; go_simp; (try with_reducible rfl); done))
              (try simp only [Act.put, List.setIfInBounds_toArray, List.set_cons_zero, List.set_cons_succ])
              first | (refine anyT_take 8 (some 45) rfl rfl (by kernel_rfl) (by kernel_rfl) (by kernel_rfl) (by kernel_rfl) (fun _ _ _ h => h) (Or.inr ⟨by rfl, rfl⟩) hHeld ?_) | (refine anyT_take 8 (some 45) (v := ?_) rfl rfl (by kernel_rfl) (by kernel_rfl) (by kernel_rfl) (by kernel_rfl) (fun _ _ _ h => h) (Or.inl ⟨by rfl, ?_⟩) hHeld ?_; rotate_left; focus (intro wq hSw; obtain ⟨hcq, hfq⟩ := bcell hSw; go_simp; (try with_reducible rfl); done))
              (try simp only [Act.put, List.setIfInBounds_toArray, List.set_cons_zero, List.set_cons_succ])
              first | (refine anyT_take 9 (some 46) rfl rfl (by kernel_rfl) (by kernel_rfl) (by kernel_rfl) (by kernel_rfl) (fun _ _ _ h => h) (Or.inr ⟨by rfl, rfl⟩) hHeld ?_) | (refine anyT_take 9 (some 46) (v := ?_) rfl rfl (by kernel_rfl) (by kernel_rfl) (by kernel_rfl) (by kernel_rfl) (fun _ _ _ h => h) (Or.inl ⟨by rfl, ?_⟩) hHeld ?_; rotate_left; focus (intro wq hSw; obtain ⟨hcq, hfq⟩ := bcell hSw; go_simp; (try with_reducible rfl); done))
              (try simp only [Act.put, List.setIfInBounds_toArray, List.set_cons_zero, List.set_cons_succ])
              first | (refine anyT_take 10 (some 47) rfl rfl (by kernel_rfl) (by kernel_rfl) (by kernel_rfl) (by kernel_rfl) (fun _ _ _ h => h) (Or.inr ⟨by rfl, rfl⟩) hHeld ?_) | (refine anyT_take 10 (some 47) (v := ?_) rfl rfl (by kernel_rfl) (by kernel_rfl) (by kernel_rfl) (by kernel_rfl) (fun _ _ _ h => h) (Or.inl ⟨by rfl, ?_⟩) hHeld ?_; rotate_left; focus (intro wq hSw; obtain ⟨hcq, hfq⟩ := bcell hSw; go_simp; (try with_reducible rfl); done))
              (try simp only [Act.put, List.setIfInBounds_toArray, List.set_cons_zero, List.set_cons_succ])
              first | (refine anyT_take 11 (some 48) rfl rfl (by kernel_rfl) (by kernel_rfl) (by kernel_rfl) (by kernel_rfl) (fun _ _ _ h => h) (Or.inr ⟨by rfl, rfl⟩) hHeld ?_) | (refine anyT_take 11 (some 48) (v := ?_) rfl rfl (by kernel_rfl) (by kernel_rfl) (by kernel_rfl) (by kernel_rfl) (fun _ _ _ h => h) (Or.inl ⟨by rfl, ?_⟩) hHeld ?_; rotate_left; focus (intro wq hSw; obtain ⟨hcq, hfq⟩ := bcell hSw; go_simp; (try with_reducible rfl); done))
              (try simp only [Act.put, List.setIfInBounds_toArray, List.set_cons_zero, List.set_cons_succ])
              first | (refine anyT_take 12 (some 49) rfl rfl (by kernel_rfl) (by kernel_rfl) (by kernel_rfl) (by kernel_rfl) (fun _ _ _ h => h) (Or.inr ⟨by rfl, rfl⟩) hHeld ?_) | (refine anyT_take 12 (some 49) (v := ?_) rfl rfl (by kernel_rfl) (by kernel_rfl) (by kernel_rfl) (by kernel_rfl) (fun _ _ _ h => h) (Or.inl ⟨by rfl, ?_⟩) hHeld ?_; rotate_left; focus (intro wq hSw; obtain ⟨hcq, hfq⟩ := bcell hSw; go_simp; (try with_reducible rfl); done))
              (try simp only [Act.put, List.setIfInBounds_toArray, List.set_cons_zero, List.set_cons_succ])
              first | (refine anyT_take 13 (some 50) rfl rfl (by kernel_rfl) (by kernel_rfl) (by kernel_rfl) (by kernel_rfl) (fun _ _ _ h => h) (Or.inr ⟨by rfl, rfl⟩) hHeld ?_) | (refine anyT_take 13 (some 50) (v := ?_) rfl rfl (by kernel_rfl) (by kernel_rfl) (by kernel_rfl) (by kernel_rfl) (fun _ _ _ h => h) (Or.inl ⟨by rfl, ?_⟩) hHeld ?_; rotate_left; focus (intro wq hSw; obtain ⟨hcq, hfq⟩ := bcell hSw; go_simp; (try with_reducible rfl); done))
              (try simp only [Act.put, List.setIfInBounds_toArray, List.set_cons_zero, List.set_cons_succ])
              first | (refine anyT_take 14 (some 51) rfl rfl (by kernel_rfl) (by kernel_rfl) (by kernel_rfl) (by kernel_rfl) (fun _ _ _ h => h) (Or.inr ⟨by rfl, rfl⟩) hHeld ?_) | (refine anyT_take 14 (some 51) (v := ?_) rfl rfl (by kernel_rfl) (by kernel_rfl) (by kernel_rfl) (by kernel_rfl) (fun _ _ _ h => h) (Or.inl ⟨by rfl, ?_⟩) hHeld ?_; rotate_left; focus (intro wq hSw; obtain ⟨hcq, hfq⟩ := bcell hSw; go_simp; (try with_reducible rfl); done))
              (try simp only [Act.put, List.setIfInBounds_toArray, List.set_cons_zero, List.set_cons_succ])
              first | (refine anyT_take 15 (some 52) (v := ?_) rfl rfl (by kernel_rfl) (by kernel_rfl) (by kernel_rfl) (by kernel_rfl) (fun _ _ _ h => h) (Or.inl ⟨by rfl, ?_⟩) hHeld ?_; rotate_left; focus (intro wq hSw; obtain ⟨hcq, hfq⟩ := bcell hSw; go_simp; (try with_reducible rfl); done))
              (try simp only [Act.put, List.setIfInBounds_toArray, List.set_cons_zero, List.set_cons_succ])
              refine anyT_done (by kernel_rfl) ?_ _
              have Hh := Lib.hid hHeld
              clear hHeld
              gi_wp2
              go_roundw
              case rel => exact ⟨k + 1, by omega, by go_num, by rw [Hst.out]; simp [*], below_then Hbe.out Hbe.out.size Hh.out⟩
              case measure => simp [intOf]; omega
            · have h2n : (gi heard k != -2) = true := by simp [bne, h2]
              have h3n : (gi x (k + 1) - gi x k != gi heard k) = true := by simp [bne, h3]
              have hno : fitsTo x heard heard.length = false := by
                unfold fitsTo
                rw [List.all_eq_false]
                exact ⟨k, by simpa using hlt, by unfold hitB; rw [h2, h3]; simp⟩
              have hmet : metOf heard part.toNat (pre ++ [x]) = metOf heard part.toNat pre := by rw [metOf_snoc]; unfold metStep; rw [hno]; rfl
              have Hmet := Lib.hid hmet
              clear hst hno hmet
              gi_upto_region 10 with (fail)
              refine region_round (S := fun w' => Below wr.heap.size wr w') 16 (by kernel_rfl) (by kernel_rfl) (fun _ _ h => h) ?_ (fun hHeld => ?_)
              · exact (Below.refl _ _).drew
              first | (refine anyT_take 0 (some 37) (v := ?_) rfl rfl (by kernel_rfl) (by kernel_rfl) (by kernel_rfl) (by kernel_rfl) (fun _ _ _ h => h) (Or.inl ⟨by rfl, ?_⟩) hHeld ?_; rotate_left; focus (intro wq hSw; obtain ⟨hcq, hfq⟩ := bcell hSw; go_simp; (try with_reducible rfl); done))
              (try simp only [Act.put, List.setIfInBounds_toArray, List.set_cons_zero, List.set_cons_succ])
              first | (refine anyT_take 1 (some 38) (v := ?_) rfl rfl (by kernel_rfl) (by kernel_rfl) (by kernel_rfl) (by kernel_rfl) (fun _ _ _ h => h) (Or.inl ⟨by rfl, ?_⟩) hHeld ?_; rotate_left; focus (intro wq hSw; obtain ⟨hcq, hfq⟩ := bcell hSw; go_simp; (try with_reducible rfl); done))
              (try simp only [Act.put, List.setIfInBounds_toArray, List.set_cons_zero, List.set_cons_succ])
              first | (refine anyT_take 2 (some 39) (v := ?_) rfl rfl (by kernel_rfl) (by kernel_rfl) (by kernel_rfl) (by kernel_rfl) (fun _ _ _ h => h) (Or.inl ⟨by rfl, ?_⟩) hHeld ?_; rotate_left; focus (intro wq hSw; obtain ⟨hcq, hfq⟩ := bcell hSw; go_simp; (try with_reducible rfl); done))
              (try simp only [Act.put, List.setIfInBounds_toArray, List.set_cons_zero, List.set_cons_succ])
              first | (refine anyT_take 3 (some 40) rfl rfl (by kernel_rfl) (by kernel_rfl) (by kernel_rfl) (by kernel_rfl) (fun _ _ _ h => h) (Or.inr ⟨by rfl, rfl⟩) hHeld ?_) | (refine anyT_take 3 (some 40) (v := ?_) rfl rfl (by kernel_rfl) (by kernel_rfl) (by kernel_rfl) (by kernel_rfl) (fun _ _ _ h => h) (Or.inl ⟨by rfl, ?_⟩) hHeld ?_; rotate_left; focus (intro wq hSw; obtain ⟨hcq, hfq⟩ := bcell hSw; go_simp; (try with_reducible rfl); done))
              (try simp only [Act.put, List.setIfInBounds_toArray, List.set_cons_zero, List.set_cons_succ])
              first | (refine anyT_take 4 (some 41) rfl rfl (by kernel_rfl) (by kernel_rfl) (by kernel_rfl) (by kernel_rfl) (fun _ _ _ h => h) (Or.inr ⟨by rfl, rfl⟩) hHeld ?_) | (refine anyT_take 4 (some 41) (v := ?_) rfl rfl (by kernel_rfl) (by kernel_rfl) (by kernel_rfl) (by kernel_rfl) (fun _ _ _ h => h) (Or.inl ⟨by rfl, ?_⟩) hHeld ?_; rotate_left; focus (intro wq hSw; obtain ⟨hcq, hfq⟩ := bcell hSw; go_simp; (try with_reducible rfl); done))
              (try simp only [Act.put, List.setIfInBounds_toArray, List.set_cons_zero, List.set_cons_succ])
              first | (refine anyT_take 5 (some 42) rfl rfl (by kernel_rfl) (by kernel_rfl) (by kernel_rfl) (by kernel_rfl) (fun _ _ _ h => h) (Or.inr ⟨by rfl, rfl⟩) hHeld ?_) | (refine anyT_take 5 (some 42) (v := ?_) rfl rfl (by kernel_rfl) (by kernel_rfl) (by kernel_rfl) (by kernel_rfl) (fun _ _ _ h => h) (Or.inl ⟨by rfl, ?_⟩) hHeld ?_; rotate_left; focus (intro wq hSw; obtain ⟨hcq, hfq⟩ := bcell hSw; go_simp; (try with_reducible rfl); done))
              (try simp only [Act.put, List.setIfInBounds_toArray, List.set_cons_zero, List.set_cons_succ])
              first | (refine anyT_take 6 (some 43) rfl rfl (by kernel_rfl) (by kernel_rfl) (by kernel_rfl) (by kernel_rfl) (fun _ _ _ h => h) (Or.inr ⟨by rfl, rfl⟩) hHeld ?_) | (refine anyT_take 6 (some 43) (v := ?_) rfl rfl (by kernel_rfl) (by kernel_rfl) (by kernel_rfl) (by kernel_rfl) (fun _ _ _ h => h) (Or.inl ⟨by rfl, ?_⟩) hHeld ?_; rotate_left; focus (intro wq hSw; obtain ⟨hcq, hfq⟩ := bcell hSw; go_simp; (try with_reducible rfl); done))
              (try simp only [Act.put, List.setIfInBounds_toArray, List.set_cons_zero, List.set_cons_succ])
              first | (refine anyT_take 7 (some 44) rfl rfl (by kernel_rfl) (by kernel_rfl) (by kernel_rfl) (by kernel_rfl) (fun _ _ _ h => h) (Or.inr ⟨by rfl, rfl⟩) hHeld ?_) | (refine anyT_take 7 (some 44) (v := ?_) rfl rfl (by kernel_rfl) (by kernel_rfl) (by kernel_rfl) (by kernel_rfl) (fun _ _ _ h => h) (Or.inl ⟨by rfl, ?_⟩) hHeld ?_; rotate_left; focus (intro wq hSw; obtain ⟨hcq, hfq⟩ := bcell hSw; go_simp; (try with_reducible rfl); done))
              (try simp only [Act.put, List.setIfInBounds_toArray, List.set_cons_zero, List.set_cons_succ])
              first | (refine anyT_take 8 (some 45) rfl rfl (by kernel_rfl) (by kernel_rfl) (by kernel_rfl) (by kernel_rfl) (fun _ _ _ h => h) (Or.inr ⟨by rfl, rfl⟩) hHeld ?_) | (refine anyT_take 8 (some 45) (v := ?_) rfl rfl (by kernel_rfl) (by kernel_rfl) (by kernel_rfl) (by kernel_rfl) (fun _ _ _ h => h) (Or.inl ⟨by rfl, ?_⟩) hHeld ?_; rotate_left; focus (intro wq hSw; obtain ⟨hcq, hfq⟩ := bcell hSw; go_simp; (try with_reducible rfl); done))
              (try simp only [Act.put, List.setIfInBounds_toArray, List.set_cons_zero, List.set_cons_succ])
              first | (refine anyT_take 9 (some 46) rfl rfl (by kernel_rfl) (by kernel_rfl) (by kernel_rfl) (by kernel_rfl) (fun _ _ _ h => h) (Or.inr ⟨by rfl, rfl⟩) hHeld ?_) | (refine anyT_take 9 (some 46) (v := ?_) rfl rfl (by kernel_rfl) (by kernel_rfl) (by kernel_rfl) (by kernel_rfl) (fun _ _ _ h => h) (Or.inl ⟨by rfl, ?_⟩) hHeld ?_; rotate_left; focus (intro wq hSw; obtain ⟨hcq, hfq⟩ := bcell hSw; go_simp; (try with_reducible rfl); done))
              (try simp only [Act.put, List.setIfInBounds_toArray, List.set_cons_zero, List.set_cons_succ])
              first | (refine anyT_take 10 (some 47) rfl rfl (by kernel_rfl) (by kernel_rfl) (by kernel_rfl) (by kernel_rfl) (fun _ _ _ h => h) (Or.inr ⟨by rfl, rfl⟩) hHeld ?_) | (refine anyT_take 10 (some 47) (v := ?_) rfl rfl (by kernel_rfl) (by kernel_rfl) (by kernel_rfl) (by kernel_rfl) (fun _ _ _ h => h) (Or.inl ⟨by rfl, ?_⟩) hHeld ?_; rotate_left; focus (intro wq hSw; obtain ⟨hcq, hfq⟩ := bcell hSw; go_simp; (try with_reducible rfl); done))
              (try simp only [Act.put, List.setIfInBounds_toArray, List.set_cons_zero, List.set_cons_succ])
              first | (refine anyT_take 11 (some 48) rfl rfl (by kernel_rfl) (by kernel_rfl) (by kernel_rfl) (by kernel_rfl) (fun _ _ _ h => h) (Or.inr ⟨by rfl, rfl⟩) hHeld ?_) | (refine anyT_take 11 (some 48) (v := ?_) rfl rfl (by kernel_rfl) (by kernel_rfl) (by kernel_rfl) (by kernel_rfl) (fun _ _ _ h => h) (Or.inl ⟨by rfl, ?_⟩) hHeld ?_; rotate_left; focus (intro wq hSw; obtain ⟨hcq, hfq⟩ := bcell hSw; go_simp; (try with_reducible rfl); done))
              (try simp only [Act.put, List.setIfInBounds_toArray, List.set_cons_zero, List.set_cons_succ])
              first | (refine anyT_take 12 (some 49) rfl rfl (by kernel_rfl) (by kernel_rfl) (by kernel_rfl) (by kernel_rfl) (fun _ _ _ h => h) (Or.inr ⟨by rfl, rfl⟩) hHeld ?_) | (refine anyT_take 12 (some 49) (v := ?_) rfl rfl (by kernel_rfl) (by kernel_rfl) (by kernel_rfl) (by kernel_rfl) (fun _ _ _ h => h) (Or.inl ⟨by rfl, ?_⟩) hHeld ?_; rotate_left; focus (intro wq hSw; obtain ⟨hcq, hfq⟩ := bcell hSw; go_simp; (try with_reducible rfl); done))
              (try simp only [Act.put, List.setIfInBounds_toArray, List.set_cons_zero, List.set_cons_succ])
              first | (refine anyT_take 13 (some 50) rfl rfl (by kernel_rfl) (by kernel_rfl) (by kernel_rfl) (by kernel_rfl) (fun _ _ _ h => h) (Or.inr ⟨by rfl, rfl⟩) hHeld ?_) | (refine anyT_take 13 (some 50) (v := ?_) rfl rfl (by kernel_rfl) (by kernel_rfl) (by kernel_rfl) (by kernel_rfl) (fun _ _ _ h => h) (Or.inl ⟨by rfl, ?_⟩) hHeld ?_; rotate_left; focus (intro wq hSw; obtain ⟨hcq, hfq⟩ := bcell hSw; go_simp; (try with_reducible rfl); done))
              (try simp only [Act.put, List.setIfInBounds_toArray, List.set_cons_zero, List.set_cons_succ])
              first | (refine anyT_take 14 (some 51) rfl rfl (by kernel_rfl) (by kernel_rfl) (by kernel_rfl) (by kernel_rfl) (fun _ _ _ h => h) (Or.inr ⟨by rfl, rfl⟩) hHeld ?_) | (refine anyT_take 14 (some 51) (v := ?_) rfl rfl (by kernel_rfl) (by kernel_rfl) (by kernel_rfl) (by kernel_rfl) (fun _ _ _ h => h) (Or.inl ⟨by rfl, ?_⟩) hHeld ?_; rotate_left; focus (intro wq hSw; obtain ⟨hcq, hfq⟩ := bcell hSw; go_simp; (try with_reducible rfl); done))
              (try simp only [Act.put, List.setIfInBounds_toArray, List.set_cons_zero, List.set_cons_succ])
              first | (refine anyT_take 15 (some 52) (v := ?_) rfl rfl (by kernel_rfl) (by kernel_rfl) (by kernel_rfl) (by kernel_rfl) (fun _ _ _ h => h) (Or.inl ⟨by rfl, ?_⟩) hHeld ?_; rotate_left; focus (intro wq hSw; obtain ⟨hcq, hfq⟩ := bcell hSw; go_simp; (try with_reducible rfl); done))
              (try simp only [Act.put, List.setIfInBounds_toArray, List.set_cons_zero, List.set_cons_succ])
              refine anyT_done (by kernel_rfl) ?_ _
              have Hh := Lib.hid hHeld
              clear hHeld
              gi_wp2
              have hb9 := below_then Hbe.out Hbe.out.size Hh.out
              exact ⟨Keep.of_below hb9, by rw [Hmet.out]; exact HN5.out.below hb9, HK5.out.trans (Keep.of_below hb9)⟩
        · obtain rfl : k = heard.length := by omega
          have hmet : metOf heard part.toNat (pre ++ [x]) = if gi x part.toNat ∈ metOf heard part.toNat pre then metOf heard part.toNat pre else metOf heard part.toNat pre ++ [gi x part.toNat] := by rw [metOf_snoc]; unfold metStep; rw [if_pos Hfit.out]
          have Hmet := Lib.hid hmet
          clear hmet
          obtain ⟨pn, hpn⟩ := Int.eq_ofNat_of_zero_le hpart.1
          have hpx : pn < x.length := by have := Hxl.out; omega
          have hpxi : (pn : Int) < x.length := by omega
          have hpt : part.toNat = pn := by omega
          have cx := cell_below Hbe.out (HP5.out.at_ hpx)
          have bx := World.block_lt_of_cell? _ _ cx
          simp only at bx
          obtain ⟨c5', f5', l5'⟩ := BoxAt.below ⟨c5, f5, l5⟩ Hbe.out
          obtain ⟨c10', f10', l10'⟩ := BoxAt.below ⟨c10, f10, l10⟩ Hbe.out
          have HNr := Lib.hid (HN5.out.below Hbe.out)
          rw [hpt] at Hmet HNr
          subst hpn
          clear c4 f4 l4 c5 f5 l5 c10 f10 l10 hpt
          gi_upto_region 12 with (fail)
          refine region_round (S := fun w' => Below wr.heap.size wr w') 7 (by kernel_rfl) (by kernel_rfl) (fun _ _ h => h) ?_ (fun hHeld => ?_)
          · exact (Below.refl _ _).drew
          first | (refine anyT_take 0 (some 54) (v := ?_) rfl rfl (by kernel_rfl) (by kernel_rfl) (by kernel_rfl) (by kernel_rfl) (fun _ _ _ h => h) (Or.inl ⟨by rfl, ?_⟩) hHeld ?_; rotate_left; focus (intro wq hSw; obtain ⟨hcq, hfq⟩ := bcell hSw; go_simp; (try with_reducible rfl); done))
          (try simp only [Act.put, List.setIfInBounds_toArray, List.set_cons_zero, List.set_cons_succ])
          first | (refine anyT_take 1 (some 55) (v := ?_) rfl rfl (by kernel_rfl) (by kernel_rfl) (by kernel_rfl) (by kernel_rfl) (fun _ _ _ h => h) (Or.inl ⟨by rfl, ?_⟩) hHeld ?_; rotate_left; focus (intro wq hSw; obtain ⟨hcq, hfq⟩ := bcell hSw; go_simp; (try with_reducible rfl); done))
          (try simp only [Act.put, List.setIfInBounds_toArray, List.set_cons_zero, List.set_cons_succ])
          first | (refine anyT_take 2 (some 56) (v := ?_) rfl rfl (by kernel_rfl) (by kernel_rfl) (by kernel_rfl) (by kernel_rfl) (fun _ _ _ h => h) (Or.inl ⟨by rfl, ?_⟩) hHeld ?_; rotate_left; focus (intro wq hSw; obtain ⟨hcq, hfq⟩ := bcell hSw; go_simp; (try with_reducible rfl); done))
          (try simp only [Act.put, List.setIfInBounds_toArray, List.set_cons_zero, List.set_cons_succ])
          first | (refine anyT_take 3 (some 57) (v := ?_) rfl rfl (by kernel_rfl) (by kernel_rfl) (by kernel_rfl) (by kernel_rfl) (fun _ _ _ h => h) (Or.inl ⟨by rfl, ?_⟩) hHeld ?_; rotate_left; focus (intro wq hSw; obtain ⟨hcq, hfq⟩ := bcell hSw; go_simp; (try with_reducible rfl); done))
          (try simp only [Act.put, List.setIfInBounds_toArray, List.set_cons_zero, List.set_cons_succ])
          first | (refine anyT_take 4 (some 58) (v := ?_) rfl rfl (by kernel_rfl) (by kernel_rfl) (by kernel_rfl) (by kernel_rfl) (fun _ _ _ h => h) (Or.inl ⟨by rfl, ?_⟩) hHeld ?_; rotate_left; focus (intro wq hSw; obtain ⟨hcq, hfq⟩ := bcell hSw; go_simp; (try with_reducible rfl); done))
          (try simp only [Act.put, List.setIfInBounds_toArray, List.set_cons_zero, List.set_cons_succ])
          first | (refine anyT_take 5 (some 59) (v := ?_) rfl rfl (by kernel_rfl) (by kernel_rfl) (by kernel_rfl) (by kernel_rfl) (fun _ _ _ h => h) (Or.inl ⟨by rfl, ?_⟩) hHeld ?_; rotate_left; focus (intro wq hSw; obtain ⟨hcq, hfq⟩ := bcell hSw; go_simp; (try with_reducible rfl); done))
          (try simp only [Act.put, List.setIfInBounds_toArray, List.set_cons_zero, List.set_cons_succ])
          first | (refine anyT_take 6 (some 60) (v := ?_) rfl rfl (by kernel_rfl) (by kernel_rfl) (by kernel_rfl) (by kernel_rfl) (fun _ _ _ h => h) (Or.inl ⟨by rfl, ?_⟩) hHeld ?_; rotate_left; focus (intro wq hSw; obtain ⟨hcq, hfq⟩ := bcell hSw; go_simp; (try with_reducible rfl); done))
          (try simp only [Act.put, List.setIfInBounds_toArray, List.set_cons_zero, List.set_cons_succ])
          refine anyT_last (by kernel_rfl) rfl (fun K hK => ?_)
          obtain ⟨W9, hrun, hmW, hkW⟩ := update98 (HNr.out.below hHeld) (gi x pn); unfold spotK at hrun
          go_simp
          refine hK.out _ _ ?_
          clear hK K
          (try simp only [Act.put, List.setIfInBounds_toArray, List.set_cons_zero, List.set_cons_succ])
          refine anyT_done (by kernel_rfl) ?_ _
          have hb9 := below_then Hbe.out Hbe.out.size hHeld
          have hk9 : Keep (fun k => k = bm) W5 W9 := (Keep.of_below hb9).trans hkW
          clear hrun hHeld
          gi_wp2
          exact ⟨hk9, by rw [Int.toNat_natCast, Hmet.out]; exact hmW, HK5.out.trans (hk9.mono (fun k _ e => .inl e))⟩
end
end Go.Proofs.YtljikigmfkfkiaaDoor
