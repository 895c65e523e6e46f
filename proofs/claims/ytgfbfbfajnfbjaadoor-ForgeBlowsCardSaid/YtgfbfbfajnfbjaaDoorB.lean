import Derived.Test.YtgfbfbfajnfbjaaDoorA
/- A range over a function whose iterator writes into blocks of its own while it goes on (an array that it fills): Pv are those blocks; what the caller knows must abide writes there. -/
namespace Go.Proofs.YtgfbfbfajnfbjaaDoor
section
set_option linter.unusedVariables false
set_option linter.unusedSimpArgs false
open Go.RowKit Go.Shelf
def SeqP {β : Type} (P : Program) (g : Nat) (lb : Array Value) (Enc : β → Array Value → World → Prop) (xs : List β) (M : Nat → Prop) (w : World) : Prop :=
  ∀ (l : Nat) (J : List β → (Nat → Prop) → World → Prop) (Jx : List β → World → Prop) (W : World), w.heap.size ≤ l → l < W.heap.size → Below w.heap.size w W →
    (∀ pre Pv Pv' A B, J pre Pv A → Keep Pv A B → (∀ p, Pv' p → Pv p ∨ A.heap.size ≤ p) → J pre Pv' B) → (∀ pre A B, Jx pre A → Below A.heap.size A B → Jx pre B) →
    (∀ pre Pv x rest vs W1, xs = pre ++ x :: rest → J pre Pv W1 → (∀ p, Pv p → W.heap.size ≤ p ∧ p < W1.heap.size) → Enc x vs W1 → YieldAt Fence.wide 0 P l vs W1 fun e W' =>
      (e = .returned (.bool true) ∧ J (pre ++ [x]) Pv W' ∧ Keep (fun k => M k ∨ k = l) W1 W') ∨ (e = .returned (.bool false) ∧ Jx (pre ++ [x]) W')) →
    J [] (fun _ => False) W →
    CallsIn Fence.wide 0 P g (#[.func (.yield l) #[] #[]] ++ lb) W fun e W' => (∃ v, e = .returned v) ∧ ((∃ Pv, J xs Pv W') ∨ ∃ pre, pre <+: xs ∧ Jx pre W')
variable {P : Program}
theorem wpIn_range_p {β : Type} {g : Operand} {ps : Array Tmp} {assign body : Code} {Q : Exit → Act → World → Prop} {a : Act} {w : World}
    {gf : Nat} {lb : Array Value} (hg : a.eval g = .func (.func gf) #[] lb) (eg : ∀ args w, (callFunc gf args).run P w = .ok (.enter gf args) w)
    {Enc : β → Array Value → World → Prop} {xs : List β} {M : Nat → Prop} (hseq : SeqP P gf lb Enc xs M w)
    (M2 : Nat → Prop) (hM : ∀ k, M k → k < w.heap.size) (hM2 : ∀ k, M2 k → k < w.heap.size) (hps : ∀ x vs W, Enc x vs W → vs.size = ps.size)
    (I : List β → (Nat → Prop) → World → Prop) (Ix : Code → List β → World → Prop)
    (hI : ∀ Pv, Abide w.heap.size (fun s => I s Pv)) (hIb : ∀ s Pv Pv' A B, I s Pv A → Keep Pv A B → (∀ p, Pv p → w.heap.size < p) → (∀ p, Pv' p → Pv p ∨ A.heap.size ≤ p) → I s Pv' B)
    (hIx : ∀ c, Abide w.heap.size (Ix c)) (hIxb : ∀ c s A B, Ix c s A → Below A.heap.size A B → Ix c s B)
    (h0 : I [] (fun _ => False) w)
    (hround : ∀ (l : Nat) (Pv : Nat → Prop) (pre : List β) (x : β) (rest : List β) (vs : Array Value) (W : World), xs = pre ++ x :: rest → w.heap.size < l → w.heap.size ≤ W.heap.size → (∀ p, Pv p → l < p ∧ p < W.heap.size) → I pre Pv W → Enc x vs W →
      assign.wpIn (Fence.wide.inRound l) 0 P (Exit.then (fun a₁ W₁ => Keep M W W₁ ∧ ∀ (W₂ : World) (r : Loop), W₁.heap[l]? = some (.loop r) → Keep (fun k => k = l) W₁ W₂ →
        body.wpIn (Fence.wide.inRound l) 0 P (ownPostX M M2 (fun s => I s Pv) Ix (pre ++ [x]) W₂) a₁ W₂) (fun _ _ _ => False)) { tmps := (ps.zip vs).foldl (fun t (p, v) => t.setIfInBounds p v) a.tmps, defers := [] } W)
    (hdone : ∀ (D : Nat) (W : World), w.heap.size ≤ D → Keep (fun k => M k ∨ w.heap.size ≤ k) w W → (∃ Pv, I xs Pv W) → W.heap[D]? = some (.deferred (some [])) → Q .normal { a with defers := { target := .collected D, args := #[] } :: a.defers } W)
    (hstop : ∀ (D : Nat) (c : Code) (pre : List β) (W : World), w.heap.size ≤ D → Keep (fun k => (M k ∨ M2 k) ∨ w.heap.size ≤ k) w W → pre <+: xs → Ix c pre W → W.heap[D]? = some (.deferred (some [])) → c.wpIn Fence.wide 0 P Q { a with defers := { target := .collected D, args := #[] } :: a.defers } W) :
    (Code.rangeFunc g ps assign body).wpIn Fence.wide 0 P Q a w := by
  refine wpIn_rangeFunc ?_
  intro fn hfn
  obtain ⟨rec, hrec⟩ : ∃ rec : LoopState → Option Code → Loop, rec = fun st pe => { state := st, pending := pe, fn, tmps := a.tmps, params := ps, assign, body, defers := w.heap.size } := ⟨_, rfl⟩
  obtain ⟨W1, hW1⟩ : ∃ W1, (w.alloc (.deferred (some []))).alloc (.loop (rec .ready none)) = W1 := ⟨_, rfl⟩
  have hL1 : W1.heap[w.heap.size + 1]? = some (.loop (rec .ready none)) := by
    rw [← hW1]; have := World.alloc_heap_new (w.alloc (.deferred (some []))) (.loop (rec .ready none)); rwa [World.size_alloc] at this
  have hK1 : W1.heap[w.heap.size]? = some (.deferred (some [])) := by
    rw [← hW1]; exact (Below.heap_alloc _ _ _ (by simp)).trans (World.alloc_heap_new w _)
  have hb1 : Below w.heap.size w W1 := by
    rw [← hW1]; exact ((Below.refl _ w).alloc (Nat.le_refl _) _).alloc (by simp) _
  have hI1 : I [] (fun _ => False) W1 := hIb _ _ _ _ _ h0 (Keep.of_below hb1) (fun _ h => h.elim) (fun _ h => .inl h)
  have hs1 : w.heap.size + 1 < W1.heap.size := (Array.getElem?_eq_some_iff.1 hL1).1
  have hMl : ∀ {k}, M k → k ≠ w.heap.size + 1 := fun h e => by have := hM _ h; omega
  have hMd : ∀ {k}, M k → k ≠ w.heap.size := fun h e => by have := hM _ h; omega
  have hNl : ∀ {k}, (M k ∨ M2 k) → k ≠ w.heap.size + 1 := fun h e => by rcases h with h | h; (have := hM _ h; omega); (have := hM2 _ h; omega)
  have hNd : ∀ {k}, (M k ∨ M2 k) → k ≠ w.heap.size := fun h e => by rcases h with h | h; (have := hM _ h; omega); (have := hM2 _ h; omega)
  refine ⟨w.heap.size + 1, [{ target := .collected w.heap.size, args := #[] }], W1, { target := .fn (.func gf) lb, args := #[.func (.yield (w.heap.size + 1)) #[] #[]] }, W1, gf,
    #[.func (.yield (w.heap.size + 1)) #[] #[]] ++ lb, W1, ?_, ?_, ?_, ?_, ?_, ?_⟩
  · rw [← hW1, hrec]; exact run_enterLoop_outer _ _ _ _ _
  · simp only [resolve, hg]
    simp [go_sem]
  · intro f' hf'; trivial
  · simp [invoke, go_sem, eg]
  · intro h; simp [Fence.wide] at h
  · have kb : ∀ {A B : World} {k : Nat} {o : Obj}, Below A.heap.size A B → A.heap[k]? = some o → B.heap[k]? = some o := fun h ho => (h.block _ (Array.getElem?_eq_some_iff.1 ho).1).trans ho
    -- J: the caller's invariant, the record, the block for deferred calls, and what is kept since the loop began
    refine (hseq (w.heap.size + 1)
      (fun pre Pv W => I pre Pv W ∧ W.heap[w.heap.size + 1]? = some (.loop (rec .ready none)) ∧ W.heap[w.heap.size]? = some (.deferred (some [])) ∧ Keep (fun k => M k ∨ w.heap.size ≤ k) w W ∧ ∀ p, Pv p → w.heap.size + 1 < p)
      (fun pre W => ∃ c, Ix c pre W ∧ W.heap[w.heap.size + 1]? = some (.loop (rec .done (some c))) ∧ W.heap[w.heap.size]? = some (.deferred (some [])) ∧ Keep (fun k => (M k ∨ M2 k) ∨ w.heap.size ≤ k) w W)
      W1 (by omega) hs1 hb1
      (fun pre Pv Pv' A B hJ hB hP => ⟨hIb _ _ _ _ _ hJ.1 hB (fun p h => by have := hJ.2.2.2.2 p h; omega) hP, (hB.block _ (Array.getElem?_eq_some_iff.1 hJ.2.1).1 (fun h => by have := hJ.2.2.2.2 _ h; omega)).trans hJ.2.1, (hB.block _ (Array.getElem?_eq_some_iff.1 hJ.2.2.1).1 (fun h => by have := hJ.2.2.2.2 _ h; omega)).trans hJ.2.2.1, hJ.2.2.2.1.trans (hB.mono fun k _ h => .inr (by have := hJ.2.2.2.2 _ h; omega)), fun p h => (hP p h).elim (hJ.2.2.2.2 p) (fun h => by have := (Array.getElem?_eq_some_iff.1 hJ.2.1).1; omega)⟩)
      (fun pre A B hJ hB => by obtain ⟨c, h1, h2, h3, h4⟩ := hJ; exact ⟨c, hIxb _ _ _ _ h1 hB, kb hB h2, kb hB h3, h4.trans (Keep.of_below hB)⟩)
      ?_ ⟨hI1, hL1, hK1, Keep.of_below hb1, fun _ h => h.elim⟩).mono ?_
    · -- ONE ROUND
      rintro pre Pv x rest vs W hxs ⟨hi, hl, hk, hkeep, hpv⟩ hpl hE
      have hle : w.heap.size ≤ W.heap.size := hkeep.size
      have hy := run_yield (P := P) (args := vs) hl (by rw [hrec]; exact hps _ _ _ hE)
      rw [hrec] at hy
      refine ⟨fn, _, assign, body, hy, roundIn_of_wpIn hfn (wpIn_mono (hround (w.heap.size + 1) Pv pre x rest vs W hxs (by omega) hle (fun p h => ⟨hpv p h, (hpl p h).2⟩) hi hE) ?_)⟩
      clear hy
      intro e0 a' Wa h0'
      cases e0 with
      | normal => ?_
      | _ => exact h0'.elim
      obtain ⟨hkA, hbody⟩ := h0'
      have hl' := (hkA.block _ (Array.getElem?_eq_some_iff.1 hl).1 (fun h => hMl h rfl)).trans hl
      have hk' := (hkA.block _ (Array.getElem?_eq_some_iff.1 hk).1 (fun h => hMd h rfl)).trans hk
      have hlt : w.heap.size + 1 < Wa.heap.size := (Array.getElem?_eq_some_iff.1 hl').1
      refine ⟨_, run_beginRound hl' (by rw [hrec]), ?_⟩
      have hP := Keep.putObj Wa (w.heap.size + 1) (.loop { rec .ready none with state := .busy })
      have hl2 : (Wa.putObj (w.heap.size + 1) (.loop { rec .ready none with state := .busy })).heap[w.heap.size + 1]? = some (.loop { rec .ready none with state := .busy }) := World.putObj_heap_same hlt
      have hk2 : (Wa.putObj (w.heap.size + 1) (.loop { rec .ready none with state := .busy })).heap[w.heap.size]? = some (.deferred (some [])) := (World.putObj_heap_other (by omega)).trans hk'
      refine wpIn_mono (hbody _ _ hl' hP) ?_
      have fin : ∀ (N : Nat → Prop) (jump : Option Code) (W3 : World), (∀ k, N k → M k ∨ M2 k) → Keep N (Wa.putObj (w.heap.size + 1) (.loop { rec .ready none with state := .busy })) W3 →
          (Instr.endRound (w.heap.size + 1) jump).run P W3 = .ok (.bool jump.isNone) (W3.putObj (w.heap.size + 1) (.loop (rec (if jump.isNone then .ready else .done) jump))) ∧
          W3.heap[w.heap.size + 1]? = some (.loop { rec .ready none with state := .busy }) ∧
          (W3.putObj (w.heap.size + 1) (.loop (rec (if jump.isNone then .ready else .done) jump))).heap[w.heap.size + 1]? = some (.loop (rec (if jump.isNone then .ready else .done) jump)) ∧
          (W3.putObj (w.heap.size + 1) (.loop (rec (if jump.isNone then .ready else .done) jump))).heap[w.heap.size]? = some (.deferred (some [])) ∧
          Keep (fun k => (M k ∨ N k) ∨ k = w.heap.size + 1) W (W3.putObj (w.heap.size + 1) (.loop (rec (if jump.isNone then .ready else .done) jump))) := fun N jump W3 hN hk3 => by
        have hl3 := (hk3.block _ (Array.getElem?_eq_some_iff.1 hl2).1 (fun h => hNl (hN _ h) rfl)).trans hl2
        have hkk := (hk3.block _ (Array.getElem?_eq_some_iff.1 hk2).1 (fun h => hNd (hN _ h) rfl)).trans hk2
        have hr := run_endRound (P := P) jump hl3
        have hall : Keep (fun k => (M k ∨ N k) ∨ k = w.heap.size + 1) W (W3.putObj (w.heap.size + 1) (.loop (rec (if jump.isNone then .ready else .done) jump))) :=
          (((hkA.mono fun _ _ h => .inl (.inl h)).trans (hP.mono fun _ _ h => .inr h)).trans (hk3.mono fun _ _ h => .inl (.inr h))).trans ((Keep.putObj _ _ _).mono fun _ _ h => .inr h)
        rw [hrec] at hr hall hl3 ⊢
        exact ⟨hr, hl3, World.putObj_heap_same (Array.getElem?_eq_some_iff.1 hl3).1, (World.putObj_heap_other (by omega)).trans hkk, hall⟩
      have wide : ∀ {X : World} {N : Nat → Prop} {N' : Nat → Prop}, (∀ k, N k → N' k) → Keep (fun k => (M k ∨ N k) ∨ k = w.heap.size + 1) W X → (∀ k, M k → N' k) → Keep (fun k => N' k ∨ w.heap.size ≤ k) w X := fun h1 h h2 =>
        (hkeep.mono fun k _ e => e.imp (h2 k) id).trans (h.mono fun k _ e => by
          rcases e with (e | e) | e
          · exact .inl (h2 k e)
          · exact .inl (h1 k e)
          · exact .inr (by omega))
      rintro e a3 W3 hp
      cases e with
      | normal =>
        obtain ⟨hk3, hi3⟩ := hp
        obtain ⟨hr, hl3, hl4, hk4, hall⟩ := fin M none W3 (fun _ h => .inl h) hk3
        exact ⟨_, _, hr, .inl ⟨rfl, ⟨hI _ _ _ _ _ _ (by omega) hl3 (Keep.putObj _ _ _) hi3, hl4, hk4, wide (fun _ h => h) hall (fun _ h => h), hpv⟩, hall.mono fun k _ e => e.imp (fun e => e.elim id id) id⟩⟩
      | ret =>
        obtain ⟨hk3, hi3⟩ := hp
        obtain ⟨hr, hl3, hl4, hk4, hall⟩ := fin M2 (some .ret) W3 (fun _ h => .inr h) hk3
        have hw := wide (N' := fun k => M k ∨ M2 k) (fun _ h => .inr h) hall (fun _ h => .inl h)
        exact ⟨_, _, hr, .inr ⟨rfl, .ret, hIx _ _ _ _ _ _ (by omega) hl3 (Keep.putObj _ _ _) hi3, hl4, hk4, hw⟩⟩
      | exit id =>
        obtain ⟨hk3, hi3⟩ := hp
        obtain ⟨hr, hl3, hl4, hk4, hall⟩ := fin M2 (some (.exit id)) W3 (fun _ h => .inr h) hk3
        have hw := wide (N' := fun k => M k ∨ M2 k) (fun _ h => .inr h) hall (fun _ h => .inl h)
        exact ⟨_, _, hr, .inr ⟨rfl, .exit id, hIx _ _ _ _ _ _ (by omega) hl3 (Keep.putObj _ _ _) hi3, hl4, hk4, hw⟩⟩
      | goto t =>
        obtain ⟨hk3, hi3⟩ := hp
        obtain ⟨hr, hl3, hl4, hk4, hall⟩ := fin M2 (some (.goto t)) W3 (fun _ h => .inr h) hk3
        have hw := wide (N' := fun k => M k ∨ M2 k) (fun _ h => .inr h) hall (fun _ h => .inl h)
        exact ⟨_, _, hr, .inr ⟨rfl, .goto t, hIx _ _ _ _ _ _ (by omega) hl3 (Keep.putObj _ _ _) hi3, hl4, hk4, hw⟩⟩
      | panic ch => exact hp.elim
      | outgrown => exact hp.elim
    · -- BEHIND THE ITERATOR
      have kp : ∀ {N : Nat → Prop} {W2 : World} (o : Obj), Keep (fun k => N k ∨ w.heap.size ≤ k) w W2 → Keep (fun k => N k ∨ w.heap.size ≤ k) w (W2.putObj (w.heap.size + 1) o) := fun o h =>
        h.trans ((Keep.putObj _ _ _).mono fun k _ e => .inr (by omega))
      rintro e W2 ⟨⟨v, rfl⟩, (⟨Pv, hi, hl, hk, hw, hpv⟩ | ⟨pre, hSp, c, hi, hl, hk, hw⟩)⟩
      · exact ⟨none, _, by have := run_endLoop (P := P) hl (by rw [hrec]; simp); rw [hrec] at this; exact this, hdone _ _ (Nat.le_refl _) (kp _ hw) ⟨Pv, hI _ _ _ _ _ _ (by omega) hl (Keep.putObj _ _ _) hi⟩ ((World.putObj_heap_other (by omega)).trans hk)⟩
      · exact ⟨some c, _, by have := run_endLoop (P := P) hl (by rw [hrec]; simp); rw [hrec] at this; exact this, hstop _ c pre _ (Nat.le_refl _) (kp _ hw) hSp (hIx _ _ _ _ _ _ (by omega) hl (Keep.putObj _ _ _) hi) ((World.putObj_heap_other (by omega)).trans hk)⟩
end
section
set_option linter.unusedVariables false
set_option linter.unusedSimpArgs false
open Go.RowKit Go.Shelf
/-- the same post, but that nothing panics -/
def NP (Q : Exit → Act → World → Prop) : Exit → Act → World → Prop
  | .panic _, _, _ => False
  | e, a, w => Q e a w
theorem NP.out {Q : Exit → Act → World → Prop} {e : Exit} {a : Act} {w : World} (h : NP Q e a w) : Q e a w := by
  cases e <;> first | exact h | exact h.elim
theorem NP_normal (Q : Exit → Act → World → Prop) (a : Act) (w : World) : NP Q .normal a w = Q .normal a w := rfl
variable {P : Program} {ops : Array Oper} {Q : Exit → Act → World → Prop} {l n : Nat}
/-- A region that draws its order and does not panic, in the wide fence, outside any round (in a function that defers). -/
theorem region_wideN {S : World → Prop} (T : Nat) {id : Nat} {a : Act} {w : World} (hm : P.follows .mixedOrders = true) (hS : S w.drew)
    (h : S w.drew → wpAnyT P .any ops (NP Q) S T ops.size (Array.replicate ops.size false) a w.drew) : (Code.region id ops true).wpIn Fence.wide n P Q a w :=
  wpIn_mono (region_wide (Q := NP Q) T hm hS h) (fun _ _ _ h => h.out)
end
end Go.Proofs.YtgfbfbfajnfbjaaDoor
