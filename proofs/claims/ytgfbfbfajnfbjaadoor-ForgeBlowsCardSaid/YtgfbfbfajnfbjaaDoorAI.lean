import Derived.Test.YtgfbfbfajnfbjaaDoorAH
namespace Go.Proofs.YtgfbfbfajnfbjaaDoor
section
open Go.RowKit Go.Shelf
set_option linter.unusedSimpArgs false
set_option linter.unusedVariables false
/-- what each call of 'cast' finds in memory -/
structure CastEnv (B : ForgeV) (sizes : List Int) (SA : Option Addr) (sc : Nat) (w0 : World) (nS nV nB nC nO bm : Nat) (W : World) : Prop where
  old : Below w0.heap.size w0 W
  kS : BoxAt W nS #[.slice SA sizes.length sc]
  kV : BoxAt W nV #[.map (some bm)]
  kB : BoxAt W nB B.cells
  kC : BoxAt W nC #[.func (.func 78) #[] #[.pointer (some ⟨nS, 0, none⟩), .pointer (some ⟨nV, 0, none⟩), .pointer (some ⟨nB, 0, none⟩), .pointer (some ⟨nC, 0, none⟩), .pointer (some ⟨nO, 0, none⟩)]]
  kO : BoxAt W nO #[.slice none 0 0]
theorem CastEnv.keep {B : ForgeV} {sizes : List Int} {SA : Option Addr} {sc : Nat} {w0 : World} {nS nV nB nC nO bm : Nat} {M : Nat → Prop} {W W' : World} (h : CastEnv B sizes SA sc w0 nS nV nB nC nO bm W) (k : Keep M W W')
    (hM : ∀ x, x < W.heap.size → M x → w0.heap.size ≤ x) (h1 : ¬ M nS) (h2 : ¬ M nV) (h3 : ¬ M nB) (h4 : ¬ M nC) (h5 : ¬ M nO) : CastEnv B sizes SA sc w0 nS nV nB nC nO bm W' :=
  ⟨h.old.trans (k.below hM h.old.size), h.kS.keep k h1, h.kV.keep k h2, h.kB.keep k h3, h.kC.keep k h4, h.kO.keep k h5⟩
theorem CastEnv.below {B : ForgeV} {sizes : List Int} {SA : Option Addr} {sc : Nat} {w0 : World} {nS nV nB nC nO bm : Nat} {W W' : World} (h : CastEnv B sizes SA sc w0 nS nV nB nC nO bm W) (k : Below W.heap.size W W') : CastEnv B sizes SA sc w0 nS nV nB nC nO bm W' :=
  ⟨below_then h.old h.old.size k, h.kS.below k, h.kV.below k, h.kB.below k, h.kC.below k, h.kO.below k⟩
/-- all that was tried in vain is so -/
def VainS (B : ForgeV) (sizes : List Int) (vs : List RK) : Prop := ∀ (left : List Int) (d : Nat), left.length = B.lots.length → keyOf left d ∈ vs → castsS B left (sizes.drop d) = none
structure Apart (w0 : World) (nS nV nB nC nO bm : Nat) : Prop where
  m : bm ≠ nS ∧ bm ≠ nV ∧ bm ≠ nB ∧ bm ≠ nC ∧ bm ≠ nO
  o : nO ≠ nS ∧ nO ≠ nV ∧ nO ≠ nB ∧ nO ≠ nC
  lo : w0.heap.size ≤ bm ∧ w0.heap.size ≤ nO
def CastPost (B : ForgeV) (sizes : List Int) (nO bm : Nat) (left : List Int) (d : Nat) (W : World) (e : Ending) (W' : World) : Prop :=
  (e = .returned (.bool true) ∧ (∃ ms v, castsS B left (sizes.drop d) = some ms ∧ BoxAt W' nO #[v] ∧ OwnBars W' W.heap.size v ms.reverse) ∧ Keep (fun k => k = nO ∨ k = bm) W W') ∨
  (e = .returned (.bool false) ∧ castsS B left (sizes.drop d) = none ∧ (∃ vs, MapAt restK W' bm vs ∧ VainS B sizes vs) ∧ Keep (fun k => k = bm) W W')
theorem CastPost.split {B : ForgeV} {sizes : List Int} {nO bm : Nat} {left : List Int} {d : Nat} {W : World} {e : Ending} {W' : World} (h : CastPost B sizes nO bm left d W e W') : ∃ b, e = .returned (.bool b) ∧
    Hid ((b = true ∧ (∃ ms v, castsS B left (sizes.drop d) = some ms ∧ BoxAt W' nO #[v] ∧ OwnBars W' W.heap.size v ms.reverse) ∧ Keep (fun k => k = nO ∨ k = bm) W W') ∨
      (b = false ∧ castsS B left (sizes.drop d) = none ∧ (∃ vs, MapAt restK W' bm vs ∧ VainS B sizes vs) ∧ Keep (fun k => k = bm) W W')) := by
  rcases h with ⟨rfl, h⟩ | ⟨rfl, h⟩
  · exact ⟨_, rfl, Lib.hid (.inl ⟨rfl, h⟩)⟩
  · exact ⟨_, rfl, Lib.hid (.inr ⟨rfl, h⟩)⟩
def CastCall (B : ForgeV) (sizes : List Int) (SA : Option Addr) (sc : Nat) (w0 : World) (nS nV nB nC nO bm n : Nat) : Prop :=
  ∀ (left : List Int) (d : Nat) (W : World) (vs : List RK), left.length = B.lots.length → (∀ k, 0 ≤ gi left k ∧ gi left k ≤ 6) → d + n = sizes.length → CastEnv B sizes SA sc w0 nS nV nB nC nO bm W → MapAt restK W bm vs → VainS B sizes vs →
    Calls Tryd.prog 78 #[restK (keyOf left d), .pointer (some ⟨nS, 0, none⟩), .pointer (some ⟨nV, 0, none⟩), .pointer (some ⟨nB, 0, none⟩), .pointer (some ⟨nC, 0, none⟩), .pointer (some ⟨nO, 0, none⟩)] W (CastPost B sizes nO bm left d W)
theorem gi_subL (a b : List Int) (h : a.length = b.length) (k : Nat) : gi (subL a b) k = gi a k - gi b k := by
  unfold subL gi
  induction a generalizing b k with
  | nil => cases b with | nil => simp | cons _ _ => simp at h
  | cons x a ih =>
    cases b with
    | nil => simp at h
    | cons y b =>
      cases k with
      | zero => simp
      | succ k => simpa using ih b (by simpa using h) k
theorem subL_len (a b : List Int) (h : a.length = b.length) : (subL a b).length = a.length := by unfold subL; simp [h]
theorem castsS_step (B : ForgeV) (left : List Int) (s : Int) (ss : List Int) : castsS B left (s :: ss) = (meltsS B left s).findSome? fun m => (castsS B (subL left m) ss).map (m :: ·) := rfl
theorem castsS_none (B : ForgeV) (left : List Int) (s : Int) (ss : List Int) (h : ∀ m, m ∈ meltsS B left s → castsS B (subL left m) ss = none) : castsS B left (s :: ss) = none := by
  rw [castsS_step, List.findSome?_eq_none_iff]
  intro m hm
  rw [h m hm]; rfl
theorem castsS_some (B : ForgeV) (left : List Int) (s : Int) (ss : List Int) (pre rest : List (List Int)) (x : List Int) (ms : List (List Int)) (hx : meltsS B left s = pre ++ x :: rest) (hp : ∀ m, m ∈ pre → castsS B (subL left m) ss = none) (hm : castsS B (subL left x) ss = some ms) : castsS B left (s :: ss) = some (x :: ms) := by
  have h1 : pre.findSome? (fun m => (castsS B (subL left m) ss).map (m :: ·)) = none := by
    rw [List.findSome?_eq_none_iff]; intro m h; rw [hp m h]; rfl
  rw [castsS_step, hx, List.findSome?_append, h1, Option.none_or, List.findSome?_cons, hm]; rfl
/-- the cells of 'next' behind k steps -/
def nextV (left x : List Int) (k j : Nat) : Int := if j < k then gi left j - gi x j else gi left j
def nextC (left x : List Int) (k : Nat) (d : Int) : Array Value := #[.int .i64 (nextV left x k 0), .int .i64 (nextV left x k 1), .int .i64 (nextV left x k 2), .int .i64 (nextV left x k 3), .int .i64 d]
theorem nextC_get (left x : List Int) (k : Nat) (d : Int) (j : Nat) (h : j < 4) : (nextC left x k d)[j]? = some (.int .i64 (nextV left x k j)) := by
  have : j = 0 ∨ j = 1 ∨ j = 2 ∨ j = 3 := by omega
  rcases this with rfl | rfl | rfl | rfl <;> rfl
theorem nextC_step (left x : List Int) (k : Nat) (d : Int) (h : k < 4) : (nextC left x k d).setIfInBounds k (.int .i64 (gi left k - gi x k)) = nextC left x (k + 1) d := by
  have : k = 0 ∨ k = 1 ∨ k = 2 ∨ k = 3 := by omega
  rcases this with rfl | rfl | rfl | rfl <;> simp [nextC, nextV]
theorem nextC_zero (left x : List Int) (d : Int) : nextC left x 0 d = #[.int .i64 (gi left 0), .int .i64 (gi left 1), .int .i64 (gi left 2), .int .i64 (gi left 3), .int .i64 d] := rfl
theorem nextC_four (left x : List Int) (d : Int) : nextC left x 4 d = #[.int .i64 (gi left 0 - gi x 0), .int .i64 (gi left 1 - gi x 1), .int .i64 (gi left 2 - gi x 2), .int .i64 (gi left 3 - gi x 3), .int .i64 d] := rfl
end
section
open Go.RowKit Go.Shelf
attribute [local go_sem] Oper.semAt_some
set_option linter.unusedSimpArgs false
set_option linter.unusedVariables false
set_option maxRecDepth 100000 in
set_option maxHeartbeats 4000000 in
theorem cast_zero (B : ForgeV) (sizes : List Int) (SA : Option Addr) (sc : Nat) (w0 : World) (nS nV nB nC nO bm : Nat) (hs4 : sizes.length ≤ 4) : CastCall B sizes SA sc w0 nS nV nB nC nO bm 0 := by
  intro left d W vs hlen hlb hd hE hm hv
  obtain rfl : d = sizes.length := by omega
  have Hdn := Lib.hid (show sizes.drop sizes.length = [] by simp)
  have hs4i : (sizes.length : Int) ≤ 4 := by omega
  have HE := Lib.hid hE
  have hb2 : Below W.heap.size W ((W.alloc (.cells #[.int .i64 (gi left 0), .int .i64 (gi left 1), .int .i64 (gi left 2), .int .i64 (gi left 3), .int .i64 sizes.length] 101)).alloc (.cells #[.bool false] 4)) := ((Below.refl _ _).alloc (Nat.le_refl _) _).alloc (by simp) _
  have k6 := (BoxAt.new W #[.int .i64 (gi left 0), .int .i64 (gi left 1), .int .i64 (gi left 2), .int .i64 (gi left 3), .int .i64 sizes.length] 101).alloc (.cells #[.bool false] 4)
  have k7 := BoxAt.new (W.alloc (.cells #[.int .i64 (gi left 0), .int .i64 (gi left 1), .int .i64 (gi left 2), .int .i64 (gi left 3), .int .i64 sizes.length] 101)) #[.bool false] 4
  rw [World.size_alloc] at k7
  clear hlen hlb hd hE hm hv
  rw [show restK (keyOf left sizes.length) = .agg #[.int .i64 (gi left 0), .int .i64 (gi left 1), .int .i64 (gi left 2), .int .i64 (gi left 3), .int .i64 sizes.length] from rfl]
  refine (callsIn_wide (n := 0)).1 ?_
  refine callsIn_of_wp_marks Tryd.func78 rfl trivial ?_ rfl
  simp only [Tryd.ntmps78, List.size_toArray, List.length_cons, List.length_nil, Nat.reduceAdd, Nat.reduceSub, Array.replicate_succ, Array.replicate_zero, List.push_toArray, List.append_toArray, List.nil_append, List.cons_append]
  gi_wp2_with fail
  refine wpIn_scope_w ?_
  generalize (W.alloc _).alloc _ = W2 at *
  have hn7 : W.heap.size < W.heap.size + 1 := by omega
  generalize W.heap.size + 1 = n7 at *
  have hE2 := HE.out.below hb2
  obtain ⟨cS, fS, lS⟩ := hE2.kS
  obtain ⟨c6, f6, l6⟩ := k6
  have hks : Keep (fun q => q = n7) W2 (W2.setCell ⟨n7, 0, none⟩ (.bool true)) := Keep.setCell (M := fun q => q = n7) (Keep.refl _ _) (p := ⟨n7, 0, none⟩) (.inl rfl) _
  have Hs7 := Lib.hid (k7.set1 (.bool true))
  have HF := Lib.hid (show CastPost B sizes nO bm left sizes.length W (.returned (.bool true)) (W2.setCell ⟨n7, 0, none⟩ (.bool true)) from
    .inl ⟨rfl, ⟨[], .slice none 0 0, by rw [Hdn.out]; rfl, hE2.kO.keep hks (by have := HE.out.kO.lt; omega), OwnBars.nil _ _⟩, (Keep.of_below hb2).trans' hks (fun q hq e => by omega)⟩)
  obtain ⟨c7, f7, l7⟩ := k7
  clear hb2 hE2 hks
  gi_wp2
  obtain ⟨c7', f7', l7'⟩ := Hs7.out
  refine ⟨_, ?_, HF.out⟩
  simp [results, Tryd.results78, go_sem, c7']
end
end Go.Proofs.YtgfbfbfajnfbjaaDoor
