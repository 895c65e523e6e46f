import Derived.Test.YtgfbfbfajnfbjaaDoorJ
namespace Go.Proofs.YtgfbfbfajnfbjaaDoor
section
open Go.RowKit Go.Shelf
attribute [local go_sem] Oper.semAt_some
set_option linter.unusedSimpArgs false
set_option linter.unusedVariables false
set_option maxRecDepth 100000 in
set_option maxHeartbeats 4000000 in
theorem melts_seq (B : ForgeV) (g : B.Good) (hv : List Int) (hvl : hv.length = B.lots.length) (hvb : ∀ k, 0 ≤ gi hv k ∧ gi hv k ≤ 24) (many : Int) (hm : 0 ≤ many ∧ many ≤ 24) (w0 : World) (hB : B.Reads w0) (hMk : EndsAt w0) (bB bH bm : Nat) (M : Nat → Prop) (w : World) (hw : Below w0.heap.size w0 w)
    (kB : BoxAt w bB B.cells) (kH : BoxAt w bH (pad4 hv)) (km : BoxAt w bm #[.int .i64 many]) (hM : ∀ k, M k → w0.heap.size ≤ k ∧ k < w.heap.size ∧ k ≠ bB ∧ k ≠ bH) :
    SeqP Tryd.prog 102 #[.pointer (some ⟨bB, 0, none⟩), .pointer (some ⟨bH, 0, none⟩), .pointer (some ⟨bm, 0, none⟩)] EncMelt (meltsS B hv many) M w := by
  intro l J Jx W hl hl2 hb hJ hJx hY h0
  have hon : ∀ (bY bO : Nat), l < bY → l < bO → ∀ n, TakeCall B hv w0 bB bY bH bO l W.heap.size (meltsS B hv many) M J Jx n := by
    intro bY bO h1 h2 n
    have hlt : (bB ≠ l ∧ ¬ M bB) ∧ (bH ≠ l ∧ ¬ M bH) ∧ l < bY ∧ l < bO := ⟨⟨by have := kB.lt; omega, fun h => (hM _ h).2.2.1 rfl⟩, ⟨by have := kH.lt; omega, fun h => (hM _ h).2.2.2 rfl⟩, h1, h2⟩
    have hM' : ∀ k, M k → w0.heap.size ≤ k ∧ k ≤ l := fun k h => ⟨(hM k h).1, by have := (hM k h).2.1; omega⟩
    have hl' : w0.heap.size ≤ l := Nat.le_trans hw.size hl
    induction n with
    | zero => exact take_zero B g hv hvl w0 hB hMk bB bY bH bO l _ _ M J Jx hJ hY
    | succ n ih => exact take_succ B g hv hvl hvb w0 bB bY bH bO l _ _ M J Jx hl' hM' hlt hJ n ih
  have kB2 := kB.below hb
  have kH2 := kH.below hb
  have km2 := km.below hb
  have Hon := Lib.hid hon
  have HW := Lib.hid (hw.trans (hb.mono hw.size))
  have HJ := Lib.hid hJ
  have H0 := Lib.hid h0
  have hw0 := hw.size
  have Hvl := Lib.hid hvl
  have Hm := Lib.hid hm
  clear hon hY hJx hB hMk hw hM hb hJ h0 g kB kH km hvl hvb hm
  refine callsIn_of_wp Tryd.func102 rfl trivial ?_ rfl
  simp only [Tryd.ntmps102, List.size_toArray, List.length_cons, List.length_nil, Nat.reduceAdd, Nat.reduceSub, Array.replicate_succ, Array.replicate_zero, List.push_toArray, List.append_toArray, List.nil_append, List.cons_append]
  have KB := Lib.hid kB2
  have KH := Lib.hid kH2
  have KM := Lib.hid km2
  clear kB2 kH2 km2
  gi_upto_region 3 with (fail)
  have hE : MEnv B hv w0 bB W.heap.size bH (W.heap.size + 1) l ((W.alloc (.cells #[.func (.yield l) #[] #[]] 88)).alloc (.cells #[.func (.func 103) #[] #[.pointer (some ⟨bB, 0, none⟩), .pointer (some ⟨W.heap.size, 0, none⟩), .pointer (some ⟨bH, 0, none⟩), .pointer (some ⟨W.heap.size + 1, 0, none⟩)]] 131)) :=
    ⟨(HW.out.alloc (by omega) _).alloc (by simp; omega) _, (KB.out.alloc _).alloc _, (BoxAt.new W _ _).alloc _, (KH.out.alloc _).alloc _, by
      have := BoxAt.new (W.alloc (.cells #[.func (.yield l) #[] #[]] 88)) #[.func (.func 103) #[] #[.pointer (some ⟨bB, 0, none⟩), .pointer (some ⟨W.heap.size, 0, none⟩), .pointer (some ⟨bH, 0, none⟩), .pointer (some ⟨W.heap.size + 1, 0, none⟩)]] 131
      rwa [World.size_alloc] at this⟩
  have hb4 : Below W.heap.size W ((W.alloc (.cells #[.func (.yield l) #[] #[]] 88)).alloc (.cells #[.func (.func 103) #[] #[.pointer (some ⟨bB, 0, none⟩), .pointer (some ⟨W.heap.size, 0, none⟩), .pointer (some ⟨bH, 0, none⟩), .pointer (some ⟨W.heap.size + 1, 0, none⟩)]] 131)) := ((Below.refl _ _).alloc (Nat.le_refl _) _).alloc (by simp) _
  have km4 := (KM.out.alloc (.cells #[.func (.yield l) #[] #[]] 88)).alloc (.cells #[.func (.func 103) #[] #[.pointer (some ⟨bB, 0, none⟩), .pointer (some ⟨W.heap.size, 0, none⟩), .pointer (some ⟨bH, 0, none⟩), .pointer (some ⟨W.heap.size + 1, 0, none⟩)]] 131)
  generalize (W.alloc _).alloc _ = W4 at *
  have HE := Lib.hid hE
  have HJ4 := Lib.hid (HJ.out _ _ (fun _ => False) _ _ H0.out (Keep.of_below hb4) (fun _ h => h.elim))
  have hs4 := hb4.size
  obtain ⟨cm, fm, lm⟩ := km4
  obtain ⟨cO, fO, lO⟩ := hE.kO
  clear hb4 hE
  refine regionU_wide (S := fun w' => Below W4.heap.size W4 w') 3 (by kernel_rfl) ?_ (fun hHeld => ?_)
  · exact (Below.refl _ _).drew
  first | (refine anyU_take 0 (some 7) (v := ?_) rfl rfl (by rfl) (by kernel_rfl) (by kernel_rfl) (by kernel_rfl) (by kernel_rfl) (by kernel_rfl) (fun _ _ _ h => h) (Or.inl ⟨by rfl, ?_⟩) hHeld ?_; rotate_left; focus (intro wq hSw; obtain ⟨hcq, hfq⟩ := bcell hSw; go_simp; (try with_reducible rfl); done)) | (refine anyU_take 0 (some 7) (v := ?_) rfl rfl (by rfl) (by kernel_rfl) (by kernel_rfl) (by kernel_rfl) (by kernel_rfl) (by kernel_rfl) (fun _ _ _ h => h) (Or.inl ⟨by rfl, ?_⟩) hHeld ?_; rotate_left; focus (intro wq hSw; obtain ⟨hcq, hfq⟩ := bcell hSw; go_simp; (try with_reducible rfl); done))
  (try simp only [Act.put, List.setIfInBounds_toArray, List.set_cons_zero, List.set_cons_succ])
  first | (refine anyU_take 2 (some 9) (v := ?_) rfl rfl (by rfl) (by kernel_rfl) (by kernel_rfl) (by kernel_rfl) (by kernel_rfl) (by kernel_rfl) (fun _ _ _ h => h) (Or.inl ⟨by rfl, ?_⟩) hHeld ?_; rotate_left; focus (intro wq hSw; obtain ⟨hcq, hfq⟩ := bcell hSw; go_simp; (try with_reducible rfl); done)) | (refine anyU_take 2 (some 9) (v := ?_) rfl rfl (by rfl) (by kernel_rfl) (by kernel_rfl) (by kernel_rfl) (by kernel_rfl) (by kernel_rfl) (fun _ _ _ h => h) (Or.inl ⟨by rfl, ?_⟩) hHeld ?_; rotate_left; focus (intro wq hSw; obtain ⟨hcq, hfq⟩ := bcell hSw; go_simp; (try with_reducible rfl); done))
  (try simp only [Act.put, List.setIfInBounds_toArray, List.set_cons_zero, List.set_cons_succ])
  refine anyU_one 1 (by kernel_rfl) rfl (fun K hK => ?_)
  go_simp
  refine (nothing_calls _).mono ?_; rintro e w5 ⟨rfl, hb5⟩
  refine hK.out _ _ ?_ (fun hHeld => ?_)
  · exact below_then hHeld hHeld.size hb5
  clear hK K
  (try simp only [Act.put, List.setIfInBounds_toArray, List.set_cons_zero, List.set_cons_succ])
  refine anyU_last 3 (by kernel_rfl) rfl (by kernel_rfl) (fun K hK => ?_)
  go_simp
  refine ((callsIn_wide (n := 0)).1 (Hon.out W.heap.size (W.heap.size + 1) (by omega) (by omega) B.lots.length [] [] [] many (by simp) Hm.out (fun k => by simp [gi]) (fun _ => False) _ ⟨by have := hHeld.size; omega, fun _ h => h.elim⟩ (HE.out.below hHeld) (by simp [meltsS_eq]) (HJ.out _ _ _ _ _ HJ4.out (Keep.of_below hHeld) (fun _ h => .inl h)))).mono ?_; rintro e w6 hpost; obtain ⟨r, rfl, hr⟩ := hpost.bool
  refine hK.out _ _ ?_
  clear hK K
  (try simp only [Act.put, List.setIfInBounds_toArray, List.set_cons_zero, List.set_cons_succ])
  refine anyU_done (by kernel_rfl) ?_ _
  clear cm fm lm cO fO lO
  gi_wp2
  go_end0
  refine ⟨⟨_, rfl⟩, ?_⟩
  rcases hr with ⟨_, hj6, _⟩ | ⟨_, pr, hpr, hj6⟩
  · exact .inl ⟨_, by simpa [meltsS_eq] using hj6⟩
  · exact .inr ⟨pr, hpr, hj6⟩
set_option maxRecDepth 100000 in
/-- what melts returns: its closure, over boxes with the book, the bars and how many -/
theorem melts_calls (B : ForgeV) (hv : List Int) (many : Int) (w : World) :
    Calls Tryd.prog 70 #[B.val, .agg (pad4 hv), .int .i64 many] w fun e w' => ∃ bB bH bm, e = .returned (.func (.func 102) #[] #[.pointer (some ⟨bB, 0, none⟩), .pointer (some ⟨bH, 0, none⟩), .pointer (some ⟨bm, 0, none⟩)]) ∧
      (BoxAt w' bB B.cells ∧ BoxAt w' bH (pad4 hv) ∧ BoxAt w' bm #[.int .i64 many]) ∧ (w.heap.size ≤ bB ∧ w.heap.size ≤ bH ∧ w.heap.size ≤ bm) ∧ Below w.heap.size w w' := by
  have k1 := ((BoxAt.new w B.cells 87).alloc (.cells (pad4 hv) 85)).alloc (.cells #[.int .i64 many] 3)
  have k2 := (BoxAt.new (w.alloc (.cells B.cells 87)) (pad4 hv) 85).alloc (.cells #[.int .i64 many] 3)
  have k3 := BoxAt.new ((w.alloc (.cells B.cells 87)).alloc (.cells (pad4 hv) 85)) #[.int .i64 many] 3
  have hb : Below w.heap.size w (((w.alloc (.cells B.cells 87)).alloc (.cells (pad4 hv) 85)).alloc (.cells #[.int .i64 many] 3)) := (((Below.refl _ _).alloc (Nat.le_refl _) _).alloc (by simp) _).alloc (by simp; omega) _
  rw [World.size_alloc] at k2
  rw [World.size_alloc, World.size_alloc] at k3
  have K1 := Lib.hid k1
  have K2 := Lib.hid k2
  have K3 := Lib.hid k3
  have HB := Lib.hid hb
  clear k1 k2 k3 hb
  unfold ForgeV.val ForgeV.cells pad4
  go_enter Tryd.func70, Tryd.ntmps70
  go_wp2
  go_ret
  exact ⟨_, _, _, rfl, ⟨K1.out, K2.out, K3.out⟩, by omega, HB.out⟩
end
end Go.Proofs.YtgfbfbfajnfbjaaDoor
