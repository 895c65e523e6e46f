import Derived.Test.YtgfbfbfajnfbjaaDoorQ
namespace Go.Proofs.YtgfbfbfajnfbjaaDoor
section
open Go.RowKit Go.Shelf
attribute [local go_sem] Oper.semAt_some
set_option linter.unusedSimpArgs false
set_option linter.unusedVariables false
set_option maxRecDepth 100000 in
set_option maxHeartbeats 4000000 in
theorem truths_seqC (B : ForgeV) (g : B.Good) (left : Int) (hleft : 0 ≤ left ∧ left < 256) (w0 : World) (hB : B.Reads w0) (bB bL : Nat) (M : Nat → Prop) (w : World) (hw : Below w0.heap.size w0 w)
    (kB : BoxAt w bB B.cells) (kL : BoxAt w bL #[.int .i64 left]) (hM : ∀ k, M k → w0.heap.size ≤ k ∧ k < w.heap.size ∧ k ≠ bB ∧ k ≠ bL) :
    SeqC Tryd.prog 105 #[.pointer (some ⟨bB, 0, none⟩), .pointer (some ⟨bL, 0, none⟩)] EncThins (truthsS B left) M w := by
  intro l J Jx W hl hl2 hb hJ hJx hY h0
  have hon : ∀ (bY bO : Nat), l < bY → l < bO → ∀ n, SetCall B left w0 bB bO bL bY l W.heap.size (truthsS B left) M J Jx n := by
    intro bY bO h1 h2 n
    have hlt : (bB ≠ l ∧ ¬ M bB) ∧ (bL ≠ l ∧ ¬ M bL) ∧ l < bY ∧ l < bO := ⟨⟨by have := kB.lt; omega, fun h => (hM _ h).2.2.1 rfl⟩, ⟨by have := kL.lt; omega, fun h => (hM _ h).2.2.2 rfl⟩, h1, h2⟩
    have hM' : ∀ k, M k → w0.heap.size ≤ k ∧ k ≤ l := fun k h => ⟨(hM k h).1, by have := (hM k h).2.1; omega⟩
    have hl' : w0.heap.size ≤ l := Nat.le_trans hw.size hl
    have hN0 : w0.heap.size ≤ W.heap.size ∧ bB < W.heap.size ∧ bL < W.heap.size ∧ l < W.heap.size := by have := kB.lt; have := kL.lt; have := hb.size; omega
    induction n with
    | zero => exact set_zero B g left hleft w0 hB bB bO bL bY l _ _ M J Jx hJ hY
    | succ n ih => exact set_succ B g left w0 hB bB bO bL bY l _ _ M J Jx hl' hM' hlt hN0 hJ n ih
  have kB2 := kB.below hb
  have kL2 := kL.below hb
  have Hon := Lib.hid hon
  have HW := Lib.hid (hw.trans (hb.mono hw.size))
  have HJ := Lib.hid hJ
  have H0 := Lib.hid h0
  have hw0 := hw.size
  clear hon hY hJx hB hw hM hb hJ h0 g kB kL hleft
  refine callsIn_of_wp Tryd.func105 rfl trivial ?_ rfl
  simp only [Tryd.ntmps105, List.size_toArray, List.length_cons, List.length_nil, Nat.reduceAdd, Nat.reduceSub, Array.replicate_succ, Array.replicate_zero, List.push_toArray, List.append_toArray, List.nil_append, List.cons_append]
  have KB := Lib.hid kB2
  have KL := Lib.hid kL2
  clear kB2 kL2
  gi_upto_region 3 with (fail)
  have hE : TEnv B left w0 bB (W.heap.size + 1) bL W.heap.size l ((W.alloc (.cells #[.func (.yield l) #[] #[]] 133)).alloc (.cells #[.func (.func 106) #[] #[.pointer (some ⟨bB, 0, none⟩), .pointer (some ⟨W.heap.size + 1, 0, none⟩), .pointer (some ⟨bL, 0, none⟩), .pointer (some ⟨W.heap.size, 0, none⟩)]] 134)) :=
    ⟨(HW.out.alloc (by omega) _).alloc (by simp; omega) _, (KB.out.alloc _).alloc _, by
      have := BoxAt.new (W.alloc (.cells #[.func (.yield l) #[] #[]] 133)) #[.func (.func 106) #[] #[.pointer (some ⟨bB, 0, none⟩), .pointer (some ⟨W.heap.size + 1, 0, none⟩), .pointer (some ⟨bL, 0, none⟩), .pointer (some ⟨W.heap.size, 0, none⟩)]] 134
      rwa [World.size_alloc] at this, (KL.out.alloc _).alloc _, (BoxAt.new W _ _).alloc _⟩
  have hb4 : Below W.heap.size W ((W.alloc (.cells #[.func (.yield l) #[] #[]] 133)).alloc (.cells #[.func (.func 106) #[] #[.pointer (some ⟨bB, 0, none⟩), .pointer (some ⟨W.heap.size + 1, 0, none⟩), .pointer (some ⟨bL, 0, none⟩), .pointer (some ⟨W.heap.size, 0, none⟩)]] 134)) := ((Below.refl _ _).alloc (Nat.le_refl _) _).alloc (by simp) _
  generalize (W.alloc _).alloc _ = W4 at *
  have HE := Lib.hid hE
  have HJ4 := Lib.hid (HJ.out _ _ (fun _ => False) _ _ _ H0.out (Keep.of_below hb4) (fun _ h => h.elim) (fun _ h => h.elim))
  have hs4 := hb4.size
  obtain ⟨cO, fO, lO⟩ := hE.kO
  clear hb4 hE
  gi_wp2_with fail
  refine ⟨trivial, rfl, ?_⟩
  refine (Hon.out W.heap.size (W.heap.size + 1) (by omega) (by omega) 3 [] [] [] (by simp) (fun k => by simp [gi]) (fun _ => False) (fun _ => False) _ ⟨hs4, fun _ h => h.elim, fun _ h => h.elim⟩ HE.out (by simp [truthsS]) HJ4.out).mono ?_
  rintro e w6 hpost
  obtain ⟨r, rfl, hr⟩ := hpost.bool
  clear cO fO lO hpost
  gi_wp2
  go_end0
  refine ⟨⟨_, rfl⟩, ?_⟩
  rcases hr with ⟨_, ⟨C6, hj6, _⟩, _⟩ | ⟨_, pr, hpr, hj6⟩
  · exact .inl ⟨_, C6, by simpa [truthsS] using hj6⟩
  · exact .inr ⟨pr, hpr, hj6⟩
theorem truths_seq (B : ForgeV) (g : B.Good) (left : Int) (hleft : 0 ≤ left ∧ left < 256) (w0 : World) (hB : B.Reads w0) (bB bL : Nat) (M : Nat → Prop) (w : World) (hw : Below w0.heap.size w0 w)
    (kB : BoxAt w bB B.cells) (kL : BoxAt w bL #[.int .i64 left]) (hM : ∀ k, M k → w0.heap.size ≤ k ∧ k < w.heap.size ∧ k ≠ bB ∧ k ≠ bL) :
    SeqP Tryd.prog 105 #[.pointer (some ⟨bB, 0, none⟩), .pointer (some ⟨bL, 0, none⟩)] EncThins (truthsS B left) M w := (truths_seqC B g left hleft w0 hB bB bL M w hw kB kL hM).toP
set_option maxRecDepth 100000 in
/-- what truths returns: its closure, over boxes with the book and the looks left out -/
theorem truths_calls (B : ForgeV) (left : Int) (w : World) :
    Calls Tryd.prog 81 #[B.val, .int .i64 left] w fun e w' => ∃ bB bL, e = .returned (.func (.func 105) #[] #[.pointer (some ⟨bB, 0, none⟩), .pointer (some ⟨bL, 0, none⟩)]) ∧
      (BoxAt w' bB B.cells ∧ BoxAt w' bL #[.int .i64 left]) ∧ (w.heap.size ≤ bB ∧ w.heap.size ≤ bL) ∧ Below w.heap.size w w' := by
  have k1 := (BoxAt.new w B.cells 87).alloc (.cells #[.int .i64 left] 3)
  have k2 := BoxAt.new (w.alloc (.cells B.cells 87)) #[.int .i64 left] 3
  have hb : Below w.heap.size w ((w.alloc (.cells B.cells 87)).alloc (.cells #[.int .i64 left] 3)) := ((Below.refl _ _).alloc (Nat.le_refl _) _).alloc (by simp) _
  rw [World.size_alloc] at k2
  have K1 := Lib.hid k1
  have K2 := Lib.hid k2
  have HB := Lib.hid hb
  clear k1 k2 hb
  unfold ForgeV.val ForgeV.cells
  go_enter Tryd.func81, Tryd.ntmps81
  go_wp2
  go_ret
  exact ⟨_, _, rfl, ⟨K1.out, K2.out⟩, by omega, HB.out⟩
end
end Go.Proofs.YtgfbfbfajnfbjaaDoor
