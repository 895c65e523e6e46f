import Derived.Test.YtljikigmfkfkiaaDoorAM
import Derived.Test.YtljikigmfkfkiaaDoorAW
namespace Go.Proofs.YtljikigmfkfkiaaDoor
section
set_option linter.unusedVariables false
set_option linter.unusedSimpArgs false
open Go.RowKit

/-! The chapter's book: what is said of it. -/
def bookB (a1 a2 a3 a4 : Nat) : BookV := ⟨4, 4, some ⟨a1, 0, none⟩, 4, [10, 16, 24, 40], 1, 2, 240, 320, 0, 2, 2, some ⟨a4, 0, none⟩, 2,
  [⟨0, 6, some ⟨a2, 0, none⟩, 4, [(0, 0), (0, 1), (1, 1), (1, 2)]⟩, ⟨2, 3, some ⟨a3, 0, none⟩, 4, [(0, 1), (1, 1), (1, 2), (2, 2)]⟩]⟩
section
variable (a1 a2 a3 a4 : Nat)
theorem bk_good : goodB (bookB a1 a2 a3 a4) = true := by kernel_rfl
theorem bk_path : isPathS 4 1 [1, 1, 2, 2] = true := by kernel_rfl
theorem bk_time : timeR (bookB a1 a2 a3 a4) [1, 1, 2, 2] = .tuple #[.int .i64 320, .int .i64 0] := by kernel_rfl
theorem bk_late : lateR (bookB a1 a2 a3 a4) [1, 1, 2, 2] 0 9 = .tuple #[spanV 0 7, .int .i64 0] := by kernel_rfl
theorem bk_path2 : isPathS 4 1 [1, 1, 1, 2] = true := by kernel_rfl
theorem bk_last : lastL (bookB a1 a2 a3 a4) [1, 1, 1, 2] 5 = [0] := by kernel_rfl
theorem bk_isPlan : isPlanR (bookB a1 a2 a3 a4) [1, 1, 2, 2] = .tuple #[.bool true, .int .i64 0] := by kernel_rfl
theorem bk_all : allPlans (bookB a1 a2 a3 a4) = [[1, 1, 2, 2]] := by kernel_rfl
theorem bk_bound : boundR (bookB a1 a2 a3 a4) 1 = .tuple #[.int .i64 14, .int .i64 0] := by kernel_rfl
theorem bk_ask : knowsAsk (bookB a1 a2 a3 a4) [-2, -2, 0] 2 = true := by kernel_rfl
theorem bk_knows : knowsTo (bookB a1 a2 a3 a4) [-2, -2, 0] 2 4 = [2] := by unfold knowsTo; rw [bk_all]; kernel_rfl
end
end
end Go.Proofs.YtljikigmfkfkiaaDoor
namespace Go.Proofs.YtljikigmfkfkiaaDoor
section
open Go.RowKit Go.Shelf
attribute [local go_sem] Oper.semAt_some
set_option linter.unusedSimpArgs false
set_option linter.unusedVariables false

theorem SpansAt.of4 {W : World} {g : Nat} {x0 y0 x1 y1 x2 y2 x3 y3 : Int} (h : BoxAt W g #[.int .i64 x0, .int .i64 y0, .int .i64 x1, .int .i64 y1, .int .i64 x2, .int .i64 y2, .int .i64 x3, .int .i64 y3]) : SpansAt W (some ⟨g, 0, none⟩) [(x0, y0), (x1, y1), (x2, y2), (x3, y3)] := by
  refine ⟨by simp, .inr ⟨g, 0, rfl, fun j hj => ?_⟩⟩
  have : j = 0 ∨ j = 1 ∨ j = 2 ∨ j = 3 := by simp at hj; omega
  rcases this with rfl | rfl | rfl | rfl <;> exact ⟨by rw [h.cell]; rfl, by rw [h.cell]; rfl⟩
set_option maxRecDepth 100000 in
theorem catches_calls (x0 y0 x1 y1 x2 y2 x3 y3 : Int) (w : World) :
    Calls Tryd.prog 88 #[.agg #[.int .i64 x0, .int .i64 y0], .agg #[.int .i64 x1, .int .i64 y1], .agg #[.int .i64 x2, .int .i64 y2], .agg #[.int .i64 x3, .int .i64 y3]] w fun e w' =>
      ∃ g, e = .returned (.slice (some ⟨g, 0, none⟩) 4 4) ∧ SpansAt w' (some ⟨g, 0, none⟩) [(x0, y0), (x1, y1), (x2, y2), (x3, y3)] ∧ w.heap.size ≤ g ∧ g < w'.heap.size ∧ Below w.heap.size w w' := by
  go_enter Tryd.func88, Tryd.ntmps88
  go_wp2
  have hb : Below w.heap.size w (((((w.alloc (.cells #[.int .i64 x0, .int .i64 y0] 24)).alloc (.cells #[.int .i64 x1, .int .i64 y1] 24)).alloc (.cells #[.int .i64 x2, .int .i64 y2] 24)).alloc (.cells #[.int .i64 x3, .int .i64 y3] 24)).alloc (.cells #[.int .i64 x0, .int .i64 y0, .int .i64 x1, .int .i64 y1, .int .i64 x2, .int .i64 y2, .int .i64 x3, .int .i64 y3] 24)) :=
    (((((Below.refl _ _).alloc (Nat.le_refl _) _).alloc (by simp) _).alloc (by simp; omega) _).alloc (by simp; omega) _).alloc (by simp; omega) _
  have k := BoxAt.new ((((w.alloc (.cells #[.int .i64 x0, .int .i64 y0] 24)).alloc (.cells #[.int .i64 x1, .int .i64 y1] 24)).alloc (.cells #[.int .i64 x2, .int .i64 y2] 24)).alloc (.cells #[.int .i64 x3, .int .i64 y3] 24)) #[.int .i64 x0, .int .i64 y0, .int .i64 x1, .int .i64 y1, .int .i64 x2, .int .i64 y2, .int .i64 x3, .int .i64 y3] 24
  simp only [World.size_alloc] at k
  generalize (w.alloc _).alloc _ = W at *
  go_ret
  exact ⟨_, rfl, SpansAt.of4 k, by omega, k.lt, hb⟩
theorem IntsAt.of_box {W : World} {g : Nat} (xs : List Int) (h : BoxAt W g (xs.map (Value.int .i64)).toArray) (hl : xs.length ≤ 1000) : IntsAt W (some ⟨g, 0, none⟩) xs := by
  refine ⟨by omega, .inr ⟨g, 0, rfl, fun j hj => ?_⟩⟩
  rw [h.cell]; simp [gi, hj]
theorem SpansAt.keepG {M : Nat → Prop} {W W' : World} {g : Nat} {xs : List (Int × Int)} (h : SpansAt W (some ⟨g, 0, none⟩) xs) (k : Keep M W W') (hm : ¬ M g) : SpansAt W' (some ⟨g, 0, none⟩) xs := by
  refine ⟨h.1, h.2.imp id ?_⟩
  rintro ⟨b, o, e, hc⟩
  cases e
  exact ⟨g, 0, rfl, fun j hj => ⟨k.cell (hc j hj).1 hm, k.cell (hc j hj).2 hm⟩⟩
theorem PlayersAt.of2 {W : World} {g g2 g3 : Nat} {l1 h1 l2 h2 : Int} {s1 s2 : List (Int × Int)} (h : BoxAt W g #[.int .i64 l1, .int .i64 h1, .slice (some ⟨g2, 0, none⟩) s1.length 4, .int .i64 l2, .int .i64 h2, .slice (some ⟨g3, 0, none⟩) s2.length 4])
    (hs1 : SpansAt W (some ⟨g2, 0, none⟩) s1) (hs2 : SpansAt W (some ⟨g3, 0, none⟩) s2) (h1l : s1.length ≤ 4) (h2l : s2.length ≤ 4) : PlayersAt W (some ⟨g, 0, none⟩) [⟨l1, h1, some ⟨g2, 0, none⟩, 4, s1⟩, ⟨l2, h2, some ⟨g3, 0, none⟩, 4, s2⟩] := by
  refine ⟨by simp, .inr ⟨g, 0, rfl, fun j hj => ?_⟩, fun p hp => ?_⟩
  · have : j = 0 ∨ j = 1 := by simp at hj; omega
    rcases this with rfl | rfl <;> exact ⟨by rw [h.cell]; rfl, by rw [h.cell]; rfl, by rw [h.cell]; rfl⟩
  · simp at hp
    rcases hp with rfl | rfl
    · exact ⟨hs1, h1l⟩
    · exact ⟨hs2, h2l⟩
def put11 (w : World) (b : Nat) (v0 v1 v2 v3 v4 v5 v6 v7 v8 v9 v10 : Value) : World := ((((((((((w.setCell ⟨b, 0, none⟩ v0).setCell ⟨b, 1, none⟩ v1).setCell ⟨b, 2, none⟩ v2).setCell ⟨b, 3, none⟩ v3).setCell ⟨b, 4, none⟩ v4).setCell ⟨b, 5, none⟩ v5).setCell ⟨b, 6, none⟩ v6).setCell ⟨b, 7, none⟩ v7).setCell ⟨b, 8, none⟩ v8).setCell ⟨b, 9, none⟩ v9).setCell ⟨b, 10, none⟩ v10
theorem put11_box {w : World} {b : Nat} {cs : Array Value} (h : BoxAt w b cs) (hs : cs.size = 11) (v0 v1 v2 v3 v4 v5 v6 v7 v8 v9 v10 : Value) : BoxAt (put11 w b v0 v1 v2 v3 v4 v5 v6 v7 v8 v9 v10) b #[v0, v1, v2, v3, v4, v5, v6, v7, v8, v9, v10] ∧ Below b w (put11 w b v0 v1 v2 v3 v4 v5 v6 v7 v8 v9 v10) := ⟨(box_store11 h hs v0 v1 v2 v3 v4 v5 v6 v7 v8 v9 v10).1, (box_store11 h hs v0 v1 v2 v3 v4 v5 v6 v7 v8 v9 v10).2 b (Nat.le_refl _)⟩
theorem put11_keep (w : World) (b : Nat) (v0 v1 v2 v3 v4 v5 v6 v7 v8 v9 v10 : Value) : Keep (fun k => k = b) w (put11 w b v0 v1 v2 v3 v4 v5 v6 v7 v8 v9 v10) := by
  unfold put11
  iterate 11 refine Keep.setCell (M := fun k => k = b) ?_ (Or.inl rfl) _
  exact Keep.refl _ _
theorem put11_size (w : World) (b : Nat) (v0 v1 v2 v3 v4 v5 v6 v7 v8 v9 v10 : Value) : (put11 w b v0 v1 v2 v3 v4 v5 v6 v7 v8 v9 v10).heap.size = w.heap.size := by simp [put11, World.setCell]
def zB11 : Array Value := #[.int .i64 0, .int .i64 0, .slice none 0 0, .int .i64 0, .int .i64 0, .int .i64 0, .int .i64 0, .int .i64 0, .int .i64 0, .int .i64 0, .slice none 0 0]
set_option maxRecDepth 100000 in
set_option maxHeartbeats 4000000 in
theorem book_calls (w : World) :
    Calls Tryd.prog 55 #[] w fun e w' => ∃ a1 a2 a3 a4, e = .returned (bookB a1 a2 a3 a4).val ∧ (bookB a1 a2 a3 a4).Reads w' ∧ w.heap.size ≤ a1 ∧ w.heap.size ≤ a2 ∧ w.heap.size ≤ a3 ∧ w.heap.size ≤ a4 ∧ Below w.heap.size w w' := by
  have HW : Below w.heap.size w ((w.alloc (.cells zB11 27)).alloc (.cells #[.int .i64 10, .int .i64 16, .int .i64 24, .int .i64 40] 3)) := ((Below.refl _ _).alloc (Nat.le_refl _) _).alloc (by simp) _
  have k0 := (BoxAt.new w zB11 27).alloc (.cells #[.int .i64 10, .int .i64 16, .int .i64 24, .int .i64 40] 3)
  have k1 := BoxAt.new (w.alloc (.cells zB11 27)) #[.int .i64 10, .int .i64 16, .int .i64 24, .int .i64 40] 3
  rw [World.size_alloc] at k1
  unfold zB11 at HW k0 k1
  go_enter Tryd.func55, Tryd.ntmps55
  go_wp2_with fail
  generalize (w.alloc _).alloc _ = W2 at *
  have K0 := Lib.hid k0
  have K1 := Lib.hid k1
  have Hc : Below W2.heap.size W2 W2 := Below.refl _ _
  clear k0 k1
  refine (Band_calls _ _ _).mono ?_
  rintro e w' ⟨rfl, hb⟩
  replace Hc := below_then Hc Hc.size hb
  clear hb
  go_wp2_with fail
  refine (Band_calls _ _ _).mono ?_
  rintro e w' ⟨rfl, hb⟩
  replace Hc := below_then Hc Hc.size hb
  clear hb
  go_wp2_with fail
  refine (Band_calls _ _ _).mono ?_
  rintro e w' ⟨rfl, hb⟩
  replace Hc := below_then Hc Hc.size hb
  clear hb
  go_wp2_with fail
  refine (Band_calls _ _ _).mono ?_
  rintro e w' ⟨rfl, hb⟩
  replace Hc := below_then Hc Hc.size hb
  clear hb
  go_wp2_with fail
  refine (Band_calls _ _ _).mono ?_
  rintro e w' ⟨rfl, hb⟩
  replace Hc := below_then Hc Hc.size hb
  clear hb
  go_wp2_with fail
  refine (Band_calls _ _ _).mono ?_
  rintro e w' ⟨rfl, hb⟩
  replace Hc := below_then Hc Hc.size hb
  clear hb
  go_wp2_with fail
  refine (Band_calls _ _ _).mono ?_
  rintro e w' ⟨rfl, hb⟩
  replace Hc := below_then Hc Hc.size hb
  clear hb
  go_wp2_with fail
  refine (catches_calls 0 0 0 1 1 1 1 2 _).mono ?_
  rintro e w2' ⟨g2, rfl, hs2, hg2, hl2, hb⟩
  have Hs2 := Lib.hid hs2
  have Hl2 : Hid (W2.heap.size ≤ g2) := Nat.le_trans Hc.size hg2
  replace Hc := below_then Hc Hc.size hb
  have Hc2 : Below w2'.heap.size w2' w2' := Below.refl _ _
  clear hb hs2 hg2 hl2
  go_wp2_with fail
  refine (Band_calls _ _ _).mono ?_
  rintro e w' ⟨rfl, hb⟩
  replace Hc := below_then Hc Hc.size hb
  replace Hc2 := below_then Hc2 Hc2.size hb
  clear hb
  go_wp2_with fail
  refine (Band_calls _ _ _).mono ?_
  rintro e w' ⟨rfl, hb⟩
  replace Hc := below_then Hc Hc.size hb
  replace Hc2 := below_then Hc2 Hc2.size hb
  clear hb
  go_wp2_with fail
  refine (Band_calls _ _ _).mono ?_
  rintro e w' ⟨rfl, hb⟩
  replace Hc := below_then Hc Hc.size hb
  replace Hc2 := below_then Hc2 Hc2.size hb
  clear hb
  go_wp2_with fail
  refine (Band_calls _ _ _).mono ?_
  rintro e w' ⟨rfl, hb⟩
  replace Hc := below_then Hc Hc.size hb
  replace Hc2 := below_then Hc2 Hc2.size hb
  clear hb
  go_wp2_with fail
  refine (Band_calls _ _ _).mono ?_
  rintro e w' ⟨rfl, hb⟩
  replace Hc := below_then Hc Hc.size hb
  replace Hc2 := below_then Hc2 Hc2.size hb
  clear hb
  go_wp2_with fail
  refine (catches_calls 0 1 1 1 1 2 2 2 _).mono ?_
  rintro e w3' ⟨g3, rfl, hs3, hg3, hl3, hb⟩
  have Hs3 := Lib.hid hs3
  have Hl3 : Hid (W2.heap.size ≤ g3) := Nat.le_trans Hc.size hg3
  replace Hc := below_then Hc Hc.size hb
  replace Hc2 := below_then Hc2 Hc2.size hb
  clear hb hs3 hg3 hl3
  have Hcc := Lib.hid Hc
  have Hcc2 := Lib.hid Hc2
  clear Hc Hc2
  have hs := put11_box (K0.out.below Hcc.out) rfl (.int .i64 4) (.int .i64 4) (.slice (some ⟨w.heap.size + 1, 0, none⟩) 4 4) (.int .i64 1) (.int .i64 2) (.int .i64 240) (.int .i64 320) (.int .i64 0) (.int .i64 2) (.int .i64 2) (.slice (some ⟨w3'.heap.size, 0, none⟩) 2 2)
  have hkp := put11_keep w3' w.heap.size (.int .i64 4) (.int .i64 4) (.slice (some ⟨w.heap.size + 1, 0, none⟩) 4 4) (.int .i64 1) (.int .i64 2) (.int .i64 240) (.int .i64 320) (.int .i64 0) (.int .i64 2) (.int .i64 2) (.slice (some ⟨w3'.heap.size, 0, none⟩) 2 2)
  have hsz := put11_size w3' w.heap.size (.int .i64 4) (.int .i64 4) (.slice (some ⟨w.heap.size + 1, 0, none⟩) 4 4) (.int .i64 1) (.int .i64 2) (.int .i64 240) (.int .i64 320) (.int .i64 0) (.int .i64 2) (.int .i64 2) (.slice (some ⟨w3'.heap.size, 0, none⟩) 2 2)
  obtain ⟨c0, f0, l0⟩ := K0.out.below Hcc.out
  have Hss := Lib.hid hs
  have Hkp := Lib.hid hkp
  have Hsz := Lib.hid hsz
  clear hs hkp hsz
  go_wp2
  change bodyPost _ _ _ _ _ ((put11 w3' w.heap.size (.int .i64 4) (.int .i64 4) (.slice (some ⟨w.heap.size + 1, 0, none⟩) 4 4) (.int .i64 1) (.int .i64 2) (.int .i64 240) (.int .i64 320) (.int .i64 0) (.int .i64 2) (.int .i64 2) (.slice (some ⟨w3'.heap.size, 0, none⟩) 2 2)).alloc (.cells #[.int .i64 0, .int .i64 6, .slice (some ⟨g2, 0, none⟩) 4 4, .int .i64 2, .int .i64 3, .slice (some ⟨g3, 0, none⟩) 4 4] 68))
  have hs := Hss.out
  have hkp := Hkp.out
  have hsz := Hsz.out
  clear Hss Hkp Hsz
  generalize put11 w3' w.heap.size (.int .i64 4) (.int .i64 4) (.slice (some ⟨w.heap.size + 1, 0, none⟩) 4 4) (.int .i64 1) (.int .i64 2) (.int .i64 240) (.int .i64 320) (.int .i64 0) (.int .i64 2) (.int .i64 2) (.slice (some ⟨w3'.heap.size, 0, none⟩) 2 2) = W9 at *
  have ka := (hs.1.alloc (.cells #[.int .i64 0, .int .i64 6, .slice (some ⟨g2, 0, none⟩) 4 4, .int .i64 2, .int .i64 3, .slice (some ⟨g3, 0, none⟩) 4 4] 68)).cell
  have kp := BoxAt.new W9 #[.int .i64 0, .int .i64 6, .slice (some ⟨g2, 0, none⟩) 4 4, .int .i64 2, .int .i64 3, .slice (some ⟨g3, 0, none⟩) 4 4] 68
  rw [hsz] at kp
  have hnew : Below W9.heap.size W9 (W9.alloc (.cells #[.int .i64 0, .int .i64 6, .slice (some ⟨g2, 0, none⟩) 4 4, .int .i64 2, .int .i64 3, .slice (some ⟨g3, 0, none⟩) 4 4] 68)) := (Below.refl _ _).alloc (Nat.le_refl _) _
  have hl1 := K1.out.lt
  generalize W9.alloc _ = W10 at *
  refine bodyPost_ret (v := (bookB (w.heap.size + 1) g2 g3 w3'.heap.size).val) (by simp [results, Tryd.results55, go_sem, ka, bookB, BookV.val, BookV.cells]) rfl ⟨_, _, _, _, rfl, ⟨?_, ?_⟩, by omega, ?_, ?_, ?_, ?_⟩
  · exact IntsAt.of_box [10, 16, 24, 40] (((K1.out.below Hcc.out).keep hkp (by omega)).below hnew) (by simp)
  · exact PlayersAt.of2 kp (((Hs2.out.below Hcc2.out).keepG hkp (by have := Hl2.out; omega)).below hnew) ((Hs3.out.keepG hkp (by have := Hl3.out; omega)).below hnew) (by simp) (by simp)
  · have := Hl2.out; omega
  · have := Hl3.out; omega
  · have := Hcc.out.size; omega
  · exact ((HW.trans (Hcc.out.mono HW.size)).trans hs.2).trans (hnew.mono (by rw [hsz]; have := Hcc.out.size; omega))
end
end Go.Proofs.YtljikigmfkfkiaaDoor
namespace Go.Proofs.YtljikigmfkfkiaaDoor
section
open Go.RowKit Go.Shelf
attribute [local go_sem] Oper.semAt_some
set_option linter.unusedSimpArgs false
set_option linter.unusedVariables false

@[local go_sem] theorem neqSp07 (w : World) : Sem.run Tryd.prog (binOp BinOp.neq 24 (.agg #[.int .i64 0, .int .i64 7]) (.agg #[.int .i64 0, .int .i64 7])) w = .ok (.bool false) w := by kernel_rfl
@[local go_sem] theorem eqCue1 (w : World) : Sem.run Tryd.prog (binOp BinOp.eql 73 (.agg #[.int .i64 2, .int .i64 (-1)]) (.agg #[.int .i64 2, .int .i64 (-1)])) w = .ok (.bool true) w := by kernel_rfl
@[local go_sem] theorem eqCue2 (w : World) : Sem.run Tryd.prog (binOp BinOp.eql 73 (.agg #[.int .i64 10, .int .i64 1]) (.agg #[.int .i64 10, .int .i64 1])) w = .ok (.bool true) w := by kernel_rfl
theorem bk_cues (a1 a2 a3 a4 : Nat) : cuesTo (bookB a1 a2 a3 a4) [1, 0, 1, 2] 3 = [(2, -1), (6, 1), (10, 1)] := by kernel_rfl
theorem bk_plans (a1 a2 a3 a4 : Nat) : plansR (bookB a1 a2 a3 a4) = .tuple #[.int .i64 1, .int .i64 0] := by unfold plansR; rw [bk_all, bk_good]; rfl
theorem bk_path3 : isPathS 4 1 [1, 0, 1, 2] = true := by kernel_rfl
set_option maxRecDepth 100000 in
set_option maxHeartbeats 8000000 in
theorem works_calls (w : World) (hM : MarksAt w) : Calls Tryd.prog 25 #[] w fun e w' => e = .returned (.bool true) ∧ Below w.heap.size w w' := by
  have HM := Lib.hid hM
  have H : Below w.heap.size w w := Below.refl _ _
  clear hM
  go_enter Tryd.func25, Tryd.ntmps25
  -- Time
  go_wp2_with fail
  refine (book_calls _).mono ?_
  rintro e w1 ⟨a1, a2, a3, a4, rfl, hr, -, -, -, -, hb⟩
  replace H := below_then H H.size hb
  clear hb
  go_wp2_with fail
  have hn : Below w1.heap.size w1 (w1.alloc (.cells #[.int .i64 1, .int .i64 1, .int .i64 2, .int .i64 2] 3)) := (Below.refl _ _).alloc (Nat.le_refl _) _
  replace H := below_then H H.size hn
  refine (Time_calls (bookB a1 a2 a3 a4) (some ⟨w1.heap.size, 0, none⟩) 4 [1, 1, 2, 2] _ (hr.below hn) (IntsAt.of_box [1, 1, 2, 2] (BoxAt.new w1 _ _) (by simp))).mono ?_
  rintro e w2 ⟨rfl, hb⟩
  rw [bk_time]
  replace H := below_then H H.size hb
  clear hb hn hr
  -- Late
  go_wp2_with fail
  refine (book_calls _).mono ?_
  rintro e w3 ⟨b1, b2, b3, b4, rfl, hr, -, -, -, -, hb⟩
  replace H := below_then H H.size hb
  clear hb
  go_wp2_with fail
  have hn : Below w3.heap.size w3 (w3.alloc (.cells #[.int .i64 1, .int .i64 1, .int .i64 2, .int .i64 2] 3)) := (Below.refl _ _).alloc (Nat.le_refl _) _
  replace H := below_then H H.size hn
  refine (Late_calls (bookB b1 b2 b3 b4) (some ⟨w3.heap.size, 0, none⟩) 4 [1, 1, 2, 2] 0 9 _ (hr.below hn) (IntsAt.of_box [1, 1, 2, 2] (BoxAt.new w3 _ _) (by simp)) (HM.out.below H)).mono ?_
  rintro e w4 ⟨rfl, hb⟩
  rw [bk_late]
  replace H := below_then H H.size hb
  clear hb hn hr
  unfold spanV
  go_upto_region 3 with (fail)
  replace H := H.alloc H.size (.cells #[.int .i64 0, .int .i64 7] 24)
  have ks := BoxAt.new w4 #[.int .i64 0, .int .i64 7] 24
  generalize w4.alloc _ = w5 at *
  generalize w4.heap.size = n4 at *
  -- Last
  go_wp2_with fail
  refine (book_calls _).mono ?_
  rintro e w6 ⟨c1, c2, c3, c4, rfl, hr, -, -, -, -, hb⟩
  replace H := below_then H H.size hb
  replace ks := ks.below hb
  clear hb
  go_wp2_with fail
  have hn : Below w6.heap.size w6 (w6.alloc (.cells #[.int .i64 1, .int .i64 1, .int .i64 1, .int .i64 2] 3)) := (Below.refl _ _).alloc (Nat.le_refl _) _
  replace H := below_then H H.size hn
  replace ks := ks.below hn
  refine (Last_calls (bookB c1 c2 c3 c4) (some ⟨w6.heap.size, 0, none⟩) 4 [1, 1, 1, 2] _ (hr.below hn) (IntsAt.of_box [1, 1, 1, 2] (BoxAt.new w6 _ _) (by simp)) (HM.out.below H)).mono ?_
  rintro e w7 ⟨hR, hb⟩
  obtain ⟨A7, rfl, hi7⟩ : ∃ A, e = .returned (.tuple #[.slice A 1 1, .int .i64 0]) ∧ IntsAt w7 A [0] := by
    rcases hR with ⟨h, _⟩ | ⟨_, h, _⟩ | ⟨_, _, A, rfl, hi⟩
    · rw [bk_good] at h; cases h
    · rw [show isPathS (bookB c1 c2 c3 c4).parts (bookB c1 c2 c3 c4).start [1, 1, 1, 2] = true from bk_path2] at h; cases h
    · rw [bk_last] at hi ⊢; exact ⟨A, rfl, hi⟩
  replace H := below_then H H.size hb
  replace ks := ks.below hb
  clear hb hn hr hR
  -- IsPlan
  go_wp2_with fail
  refine (book_calls _).mono ?_
  rintro e w8 ⟨d1, d2, d3, d4, rfl, hr, -, -, -, -, hb⟩
  replace H := below_then H H.size hb
  replace ks := ks.below hb
  replace hi7 := hi7.below hb
  clear hb
  go_wp2_with fail
  have hn : Below w8.heap.size w8 (w8.alloc (.cells #[.int .i64 1, .int .i64 1, .int .i64 2, .int .i64 2] 3)) := (Below.refl _ _).alloc (Nat.le_refl _) _
  replace H := below_then H H.size hn
  replace ks := ks.below hn
  replace hi7 := hi7.below hn
  refine (IsPlan_calls (bookB d1 d2 d3 d4) (some ⟨w8.heap.size, 0, none⟩) 4 [1, 1, 2, 2] _ (hr.below hn) (IntsAt.of_box [1, 1, 2, 2] (BoxAt.new w8 _ _) (by simp)) (HM.out.below H)).mono ?_
  rintro e w9 ⟨rfl, hb⟩
  rw [bk_isPlan]
  replace H := below_then H H.size hb
  replace ks := ks.below hb
  replace hi7 := hi7.below hb
  clear hb hn hr
  have Hi7 := Lib.hid hi7
  have H9 := Lib.hid H
  obtain ⟨cs, fs, ls⟩ := ks
  clear hi7 H
  go_upto_region 5 with (fail)
  refine region_plain (S := fun w' => Below w9.heap.size w9 w') 33 (by kernel_rfl) ?_ (fun hHeld => ?_)
  · exact (Below.refl _ _).drew
  first | (refine anyT_take 0 (some 39) (v := ?_) rfl rfl (by kernel_rfl) (by kernel_rfl) (by kernel_rfl) (by kernel_rfl) (fun _ _ _ h => h) (Or.inl ⟨by rfl, ?_⟩) hHeld ?_; rotate_left; focus (intro wq hSw; obtain ⟨hcq, hfq⟩ := bcell hSw; go_simp; (try with_reducible rfl); done))
  (try simp only [Act.put, List.setIfInBounds_toArray, List.set_cons_zero, List.set_cons_succ])
  first | (refine anyT_take 1 (some 40) (v := ?_) rfl rfl (by kernel_rfl) (by kernel_rfl) (by kernel_rfl) (by kernel_rfl) (fun _ _ _ h => h) (Or.inl ⟨by rfl, ?_⟩) hHeld ?_; rotate_left; focus (intro wq hSw; obtain ⟨hcq, hfq⟩ := bcell hSw; go_simp; (try with_reducible rfl); done))
  (try simp only [Act.put, List.setIfInBounds_toArray, List.set_cons_zero, List.set_cons_succ])
  first | (refine anyT_take 2 (some 41) (v := ?_) rfl rfl (by kernel_rfl) (by kernel_rfl) (by kernel_rfl) (by kernel_rfl) (fun _ _ _ h => h) (Or.inl ⟨by rfl, ?_⟩) hHeld ?_; rotate_left; focus (intro wq hSw; obtain ⟨hcq, hfq⟩ := bcell hSw; go_simp; (try with_reducible rfl); done))
  (try simp only [Act.put, List.setIfInBounds_toArray, List.set_cons_zero, List.set_cons_succ])
  first | (refine anyT_take 3 (some 42) rfl rfl (by kernel_rfl) (by kernel_rfl) (by kernel_rfl) (by kernel_rfl) (fun _ _ _ h => h) (Or.inr ⟨by rfl, rfl⟩) hHeld ?_) | (refine anyT_take 3 (some 42) (v := ?_) rfl rfl (by kernel_rfl) (by kernel_rfl) (by kernel_rfl) (by kernel_rfl) (fun _ _ _ h => h) (Or.inl ⟨by rfl, ?_⟩) hHeld ?_; rotate_left; focus (intro wq hSw; obtain ⟨hcq, hfq⟩ := bcell hSw; go_simp; (try with_reducible rfl); done))
  (try simp only [Act.put, List.setIfInBounds_toArray, List.set_cons_zero, List.set_cons_succ])
  first | (refine anyT_take 4 (some 43) rfl rfl (by kernel_rfl) (by kernel_rfl) (by kernel_rfl) (by kernel_rfl) (fun _ _ _ h => h) (Or.inr ⟨by rfl, rfl⟩) hHeld ?_) | (refine anyT_take 4 (some 43) (v := ?_) rfl rfl (by kernel_rfl) (by kernel_rfl) (by kernel_rfl) (by kernel_rfl) (fun _ _ _ h => h) (Or.inl ⟨by rfl, ?_⟩) hHeld ?_; rotate_left; focus (intro wq hSw; obtain ⟨hcq, hfq⟩ := bcell hSw; go_simp; (try with_reducible rfl); done))
  (try simp only [Act.put, List.setIfInBounds_toArray, List.set_cons_zero, List.set_cons_succ])
  first | (refine anyT_take 5 (some 44) (v := ?_) rfl rfl (by kernel_rfl) (by kernel_rfl) (by kernel_rfl) (by kernel_rfl) (fun _ _ _ h => h) (Or.inl ⟨by rfl, ?_⟩) hHeld ?_; rotate_left; focus (intro wq hSw; obtain ⟨hcq, hfq⟩ := bcell hSw; go_simp; (try with_reducible rfl); done))
  (try simp only [Act.put, List.setIfInBounds_toArray, List.set_cons_zero, List.set_cons_succ])
  first | (refine anyT_take 6 (some 45) (v := ?_) rfl rfl (by kernel_rfl) (by kernel_rfl) (by kernel_rfl) (by kernel_rfl) (fun _ _ _ h => h) (Or.inl ⟨by rfl, ?_⟩) hHeld ?_; rotate_left; focus (intro wq hSw; obtain ⟨hcq, hfq⟩ := bcell hSw; go_simp; (try with_reducible rfl); done))
  (try simp only [Act.put, List.setIfInBounds_toArray, List.set_cons_zero, List.set_cons_succ])
  first | (refine anyT_take 7 (some 46) rfl rfl (by kernel_rfl) (by kernel_rfl) (by kernel_rfl) (by kernel_rfl) (fun _ _ _ h => h) (Or.inr ⟨by rfl, rfl⟩) hHeld ?_) | (refine anyT_take 7 (some 46) (v := ?_) rfl rfl (by kernel_rfl) (by kernel_rfl) (by kernel_rfl) (by kernel_rfl) (fun _ _ _ h => h) (Or.inl ⟨by rfl, ?_⟩) hHeld ?_; rotate_left; focus (intro wq hSw; obtain ⟨hcq, hfq⟩ := bcell hSw; go_simp; (try with_reducible rfl); done))
  (try simp only [Act.put, List.setIfInBounds_toArray, List.set_cons_zero, List.set_cons_succ])
  first | (refine anyT_take 8 (some 47) rfl rfl (by kernel_rfl) (by kernel_rfl) (by kernel_rfl) (by kernel_rfl) (fun _ _ _ h => h) (Or.inr ⟨by rfl, rfl⟩) hHeld ?_) | (refine anyT_take 8 (some 47) (v := ?_) rfl rfl (by kernel_rfl) (by kernel_rfl) (by kernel_rfl) (by kernel_rfl) (fun _ _ _ h => h) (Or.inl ⟨by rfl, ?_⟩) hHeld ?_; rotate_left; focus (intro wq hSw; obtain ⟨hcq, hfq⟩ := bcell hSw; go_simp; (try with_reducible rfl); done))
  (try simp only [Act.put, List.setIfInBounds_toArray, List.set_cons_zero, List.set_cons_succ])
  first | (refine anyT_take 9 (some 48) (v := ?_) rfl rfl (by kernel_rfl) (by kernel_rfl) (by kernel_rfl) (by kernel_rfl) (fun _ _ _ h => h) (Or.inl ⟨by rfl, ?_⟩) hHeld ?_; rotate_left; focus (intro wq hSw; obtain ⟨hcq, hfq⟩ := bcell hSw; go_simp; (try with_reducible rfl); done))
  (try simp only [Act.put, List.setIfInBounds_toArray, List.set_cons_zero, List.set_cons_succ])
  first | (refine anyT_take 10 (some 49) (v := ?_) rfl rfl (by kernel_rfl) (by kernel_rfl) (by kernel_rfl) (by kernel_rfl) (fun _ _ _ h => h) (Or.inl ⟨by rfl, ?_⟩) hHeld ?_; rotate_left; focus (intro wq hSw; obtain ⟨hcq, hfq⟩ := bcell hSw; go_simp; (try with_reducible rfl); done))
  (try simp only [Act.put, List.setIfInBounds_toArray, List.set_cons_zero, List.set_cons_succ])
  first | (refine anyT_take 11 (some 50) rfl rfl (by kernel_rfl) (by kernel_rfl) (by kernel_rfl) (by kernel_rfl) (fun _ _ _ h => h) (Or.inr ⟨by rfl, rfl⟩) hHeld ?_) | (refine anyT_take 11 (some 50) (v := ?_) rfl rfl (by kernel_rfl) (by kernel_rfl) (by kernel_rfl) (by kernel_rfl) (fun _ _ _ h => h) (Or.inl ⟨by rfl, ?_⟩) hHeld ?_; rotate_left; focus (intro wq hSw; obtain ⟨hcq, hfq⟩ := bcell hSw; go_simp; (try with_reducible rfl); done))
  (try simp only [Act.put, List.setIfInBounds_toArray, List.set_cons_zero, List.set_cons_succ])
  first | (refine anyT_take 12 (some 51) rfl rfl (by kernel_rfl) (by kernel_rfl) (by kernel_rfl) (by kernel_rfl) (fun _ _ _ h => h) (Or.inr ⟨by rfl, rfl⟩) hHeld ?_) | (refine anyT_take 12 (some 51) (v := ?_) rfl rfl (by kernel_rfl) (by kernel_rfl) (by kernel_rfl) (by kernel_rfl) (fun _ _ _ h => h) (Or.inl ⟨by rfl, ?_⟩) hHeld ?_; rotate_left; focus (intro wq hSw; obtain ⟨hcq, hfq⟩ := bcell hSw; go_simp; (try with_reducible rfl); done))
  (try simp only [Act.put, List.setIfInBounds_toArray, List.set_cons_zero, List.set_cons_succ])
  first | (refine anyT_take 13 (some 52) (v := ?_) rfl rfl (by kernel_rfl) (by kernel_rfl) (by kernel_rfl) (by kernel_rfl) (fun _ _ _ h => h) (Or.inl ⟨by rfl, ?_⟩) hHeld ?_; rotate_left; focus (intro wq hSw; obtain ⟨hcq, hfq⟩ := bcell hSw; go_simp; (try with_reducible rfl); done))
  (try simp only [Act.put, List.setIfInBounds_toArray, List.set_cons_zero, List.set_cons_succ])
  first | (refine anyT_take 14 (some 53) (v := ?_) rfl rfl (by kernel_rfl) (by kernel_rfl) (by kernel_rfl) (by kernel_rfl) (fun _ _ _ h => h) (Or.inl ⟨by rfl, ?_⟩) hHeld ?_; rotate_left; focus (intro wq hSw; obtain ⟨hcq, hfq⟩ := bcell hSw; go_simp; (try with_reducible rfl); done))
  (try simp only [Act.put, List.setIfInBounds_toArray, List.set_cons_zero, List.set_cons_succ])
  first | (refine anyT_take 15 (some 54) rfl rfl (by kernel_rfl) (by kernel_rfl) (by kernel_rfl) (by kernel_rfl) (fun _ _ _ h => h) (Or.inr ⟨by rfl, rfl⟩) hHeld ?_) | (refine anyT_take 15 (some 54) (v := ?_) rfl rfl (by kernel_rfl) (by kernel_rfl) (by kernel_rfl) (by kernel_rfl) (fun _ _ _ h => h) (Or.inl ⟨by rfl, ?_⟩) hHeld ?_; rotate_left; focus (intro wq hSw; obtain ⟨hcq, hfq⟩ := bcell hSw; go_simp; (try with_reducible rfl); done))
  (try simp only [Act.put, List.setIfInBounds_toArray, List.set_cons_zero, List.set_cons_succ])
  first | (refine anyT_take 16 (some 55) rfl rfl (by kernel_rfl) (by kernel_rfl) (by kernel_rfl) (by kernel_rfl) (fun _ _ _ h => h) (Or.inr ⟨by rfl, rfl⟩) hHeld ?_) | (refine anyT_take 16 (some 55) (v := ?_) rfl rfl (by kernel_rfl) (by kernel_rfl) (by kernel_rfl) (by kernel_rfl) (fun _ _ _ h => h) (Or.inl ⟨by rfl, ?_⟩) hHeld ?_; rotate_left; focus (intro wq hSw; obtain ⟨hcq, hfq⟩ := bcell hSw; go_simp; (try with_reducible rfl); done))
  (try simp only [Act.put, List.setIfInBounds_toArray, List.set_cons_zero, List.set_cons_succ])
  first | (refine anyT_take 17 (some 56) (v := ?_) rfl rfl (by kernel_rfl) (by kernel_rfl) (by kernel_rfl) (by kernel_rfl) (fun _ _ _ h => h) (Or.inl ⟨by rfl, ?_⟩) hHeld ?_; rotate_left; focus (intro wq hSw; obtain ⟨hcq, hfq⟩ := bcell hSw; go_simp; (try with_reducible rfl); done))
  (try simp only [Act.put, List.setIfInBounds_toArray, List.set_cons_zero, List.set_cons_succ])
  first | (refine anyT_take 18 (some 57) (v := ?_) rfl rfl (by kernel_rfl) (by kernel_rfl) (by kernel_rfl) (by kernel_rfl) (fun _ _ _ h => h) (Or.inl ⟨by rfl, ?_⟩) hHeld ?_; rotate_left; focus (intro wq hSw; obtain ⟨hcq, hfq⟩ := bcell hSw; go_simp; (try with_reducible rfl); done))
  (try simp only [Act.put, List.setIfInBounds_toArray, List.set_cons_zero, List.set_cons_succ])
  first | (refine anyT_take 19 (some 58) rfl rfl (by kernel_rfl) (by kernel_rfl) (by kernel_rfl) (by kernel_rfl) (fun _ _ _ h => h) (Or.inr ⟨by rfl, rfl⟩) hHeld ?_) | (refine anyT_take 19 (some 58) (v := ?_) rfl rfl (by kernel_rfl) (by kernel_rfl) (by kernel_rfl) (by kernel_rfl) (fun _ _ _ h => h) (Or.inl ⟨by rfl, ?_⟩) hHeld ?_; rotate_left; focus (intro wq hSw; obtain ⟨hcq, hfq⟩ := bcell hSw; go_simp; (try with_reducible rfl); done))
  (try simp only [Act.put, List.setIfInBounds_toArray, List.set_cons_zero, List.set_cons_succ])
  refine anyT_one 20 (by kernel_rfl) rfl (fun K hK => ?_)
  go_simp
  refine (Band_calls _ _ _).mono ?_; rintro e w10 ⟨rfl, hb10⟩
  refine hK.out _ _ ?_ (fun hHeld => ?_)
  · exact below_then hHeld hHeld.size hb10
  clear hK K
  (try simp only [Act.put, List.setIfInBounds_toArray, List.set_cons_zero, List.set_cons_succ])
  first | (refine anyT_take 21 (some 60) rfl rfl (by kernel_rfl) (by kernel_rfl) (by kernel_rfl) (by kernel_rfl) (fun _ _ _ h => h) (Or.inr ⟨by rfl, rfl⟩) hHeld ?_) | (refine anyT_take 21 (some 60) (v := ?_) rfl rfl (by kernel_rfl) (by kernel_rfl) (by kernel_rfl) (by kernel_rfl) (fun _ _ _ h => h) (Or.inl ⟨by rfl, ?_⟩) hHeld ?_; rotate_left; focus (intro wq hSw; obtain ⟨hcq, hfq⟩ := bcell hSw; go_simp; (try with_reducible rfl); done))
  (try simp only [Act.put, List.setIfInBounds_toArray, List.set_cons_zero, List.set_cons_succ])
  first | (refine anyT_take 22 (some 61) (v := ?_) rfl rfl (by kernel_rfl) (by kernel_rfl) (by kernel_rfl) (by kernel_rfl) (fun _ _ _ h => h) (Or.inl ⟨by rfl, ?_⟩) hHeld ?_; rotate_left; focus (intro wq hSw; obtain ⟨hcq, hfq⟩ := bcell hSw; go_simp; (try with_reducible rfl); done))
  (try simp only [Act.put, List.setIfInBounds_toArray, List.set_cons_zero, List.set_cons_succ])
  first | (refine anyT_take 23 (some 62) (v := ?_) rfl rfl (by kernel_rfl) (by kernel_rfl) (by kernel_rfl) (by kernel_rfl) (fun _ _ _ h => h) (Or.inl ⟨by rfl, ?_⟩) hHeld ?_; rotate_left; focus (intro wq hSw; obtain ⟨hcq, hfq⟩ := bcell hSw; go_simp; (try with_reducible rfl); done))
  (try simp only [Act.put, List.setIfInBounds_toArray, List.set_cons_zero, List.set_cons_succ])
  first | (refine anyT_take 24 (some 63) rfl rfl (by kernel_rfl) (by kernel_rfl) (by kernel_rfl) (by kernel_rfl) (fun _ _ _ h => h) (Or.inr ⟨by rfl, rfl⟩) hHeld ?_) | (refine anyT_take 24 (some 63) (v := ?_) rfl rfl (by kernel_rfl) (by kernel_rfl) (by kernel_rfl) (by kernel_rfl) (fun _ _ _ h => h) (Or.inl ⟨by rfl, ?_⟩) hHeld ?_; rotate_left; focus (intro wq hSw; obtain ⟨hcq, hfq⟩ := bcell hSw; go_simp; (try with_reducible rfl); done))
  (try simp only [Act.put, List.setIfInBounds_toArray, List.set_cons_zero, List.set_cons_succ])
  refine anyT_one 25 (by kernel_rfl) rfl (fun K hK => ?_)
  go_simp
  refine hK.out _ _ ?_ (fun hHeld => ?_)
  · exact hHeld.alloc hHeld.size _
  clear hK K
  (try simp only [Act.put, List.setIfInBounds_toArray, List.set_cons_zero, List.set_cons_succ])
  refine anyT_one 26 (by kernel_rfl) rfl (fun K hK => ?_)
  go_simp
  refine (Equal_calls A7 1 [0] _ 1 [0] _ (Hi7.out.below hHeld) (IntsAt.of_box [0] (BoxAt.new _ _ _) (by simp))).mono ?_; rintro e w11 ⟨rfl, hb11⟩; rw [eqL_self]
  refine hK.out _ _ ?_ (fun hHeld => ?_)
  · exact below_then hHeld hHeld.size hb11
  clear hK K
  (try simp only [Act.put, List.setIfInBounds_toArray, List.set_cons_zero, List.set_cons_succ])
  first | (refine anyT_take 27 (some 66) rfl rfl (by kernel_rfl) (by kernel_rfl) (by kernel_rfl) (by kernel_rfl) (fun _ _ _ h => h) (Or.inr ⟨by rfl, rfl⟩) hHeld ?_) | (refine anyT_take 27 (some 66) (v := ?_) rfl rfl (by kernel_rfl) (by kernel_rfl) (by kernel_rfl) (by kernel_rfl) (fun _ _ _ h => h) (Or.inl ⟨by rfl, ?_⟩) hHeld ?_; rotate_left; focus (intro wq hSw; obtain ⟨hcq, hfq⟩ := bcell hSw; go_simp; (try with_reducible rfl); done))
  (try simp only [Act.put, List.setIfInBounds_toArray, List.set_cons_zero, List.set_cons_succ])
  first | (refine anyT_take 28 (some 67) (v := ?_) rfl rfl (by kernel_rfl) (by kernel_rfl) (by kernel_rfl) (by kernel_rfl) (fun _ _ _ h => h) (Or.inl ⟨by rfl, ?_⟩) hHeld ?_; rotate_left; focus (intro wq hSw; obtain ⟨hcq, hfq⟩ := bcell hSw; go_simp; (try with_reducible rfl); done))
  (try simp only [Act.put, List.setIfInBounds_toArray, List.set_cons_zero, List.set_cons_succ])
  first | (refine anyT_take 29 (some 68) (v := ?_) rfl rfl (by kernel_rfl) (by kernel_rfl) (by kernel_rfl) (by kernel_rfl) (fun _ _ _ h => h) (Or.inl ⟨by rfl, ?_⟩) hHeld ?_; rotate_left; focus (intro wq hSw; obtain ⟨hcq, hfq⟩ := bcell hSw; go_simp; (try with_reducible rfl); done))
  (try simp only [Act.put, List.setIfInBounds_toArray, List.set_cons_zero, List.set_cons_succ])
  first | (refine anyT_take 30 (some 69) rfl rfl (by kernel_rfl) (by kernel_rfl) (by kernel_rfl) (by kernel_rfl) (fun _ _ _ h => h) (Or.inr ⟨by rfl, rfl⟩) hHeld ?_) | (refine anyT_take 30 (some 69) (v := ?_) rfl rfl (by kernel_rfl) (by kernel_rfl) (by kernel_rfl) (by kernel_rfl) (fun _ _ _ h => h) (Or.inl ⟨by rfl, ?_⟩) hHeld ?_; rotate_left; focus (intro wq hSw; obtain ⟨hcq, hfq⟩ := bcell hSw; go_simp; (try with_reducible rfl); done))
  (try simp only [Act.put, List.setIfInBounds_toArray, List.set_cons_zero, List.set_cons_succ])
  first | (refine anyT_take 31 (some 70) rfl rfl (by kernel_rfl) (by kernel_rfl) (by kernel_rfl) (by kernel_rfl) (fun _ _ _ h => h) (Or.inr ⟨by rfl, rfl⟩) hHeld ?_) | (refine anyT_take 31 (some 70) (v := ?_) rfl rfl (by kernel_rfl) (by kernel_rfl) (by kernel_rfl) (by kernel_rfl) (fun _ _ _ h => h) (Or.inl ⟨by rfl, ?_⟩) hHeld ?_; rotate_left; focus (intro wq hSw; obtain ⟨hcq, hfq⟩ := bcell hSw; go_simp; (try with_reducible rfl); done))
  (try simp only [Act.put, List.setIfInBounds_toArray, List.set_cons_zero, List.set_cons_succ])
  first | (refine anyT_take 32 (some 71) (v := ?_) rfl rfl (by kernel_rfl) (by kernel_rfl) (by kernel_rfl) (by kernel_rfl) (fun _ _ _ h => h) (Or.inl ⟨by rfl, ?_⟩) hHeld ?_; rotate_left; focus (intro wq hSw; obtain ⟨hcq, hfq⟩ := bcell hSw; go_simp; (try with_reducible rfl); done))
  (try simp only [Act.put, List.setIfInBounds_toArray, List.set_cons_zero, List.set_cons_succ])
  refine anyT_done (by kernel_rfl) ?_ _
  replace H := below_then H9.out H9.out.size hHeld
  clear hHeld cs fs ls Hi7
  -- Plan
  go_wp2_with fail
  refine (book_calls _).mono ?_
  rintro e w12 ⟨a1, a2, a3, a4, rfl, hr, -, -, -, -, hb⟩
  replace H := below_then H H.size hb
  clear hb
  go_wp2_with fail
  refine (Plan_calls (bookB a1 a2 a3 a4) _ hr (HM.out.below H)).mono ?_
  rintro e w13 ⟨hR, hb⟩
  obtain ⟨A13, rfl, hi13⟩ : ∃ A, e = .returned (.tuple #[.slice A 4 4, .int .i64 0]) ∧ IntsAt w13 A [1, 1, 2, 2] := by
    rcases hR with ⟨h, _⟩ | ⟨_, h, _⟩ | ⟨_, q, A, hq, rfl, hi⟩
    · rw [bk_good] at h; cases h
    · rw [bk_all] at h; cases h
    · rw [bk_all] at hq; cases hq; exact ⟨A, rfl, hi⟩
  replace H := below_then H H.size hb
  clear hb hr hR
  -- Plans
  go_wp2_with fail
  refine (book_calls _).mono ?_
  rintro e w14 ⟨b1, b2, b3, b4, rfl, hr, -, -, -, -, hb⟩
  replace H := below_then H H.size hb
  replace hi13 := hi13.below hb
  clear hb
  go_wp2_with fail
  refine (Plans_calls (bookB b1 b2 b3 b4) _ hr (HM.out.below H)).mono ?_
  rintro e w15 ⟨rfl, hb⟩
  rw [bk_plans]
  replace H := below_then H H.size hb
  replace hi13 := hi13.below hb
  clear hb hr
  -- Bound
  go_wp2_with fail
  refine (book_calls _).mono ?_
  rintro e w16 ⟨c1, c2, c3, c4, rfl, hr, -, -, -, -, hb⟩
  replace H := below_then H H.size hb
  replace hi13 := hi13.below hb
  clear hb
  go_wp2_with fail
  refine (Bound_calls (bookB c1 c2 c3 c4) 1 _ hr (HM.out.below H)).mono ?_
  rintro e w17 ⟨rfl, hb⟩
  rw [bk_bound]
  replace H := below_then H H.size hb
  replace hi13 := hi13.below hb
  clear hb hr
  -- Cues
  go_wp2_with fail
  refine (book_calls _).mono ?_
  rintro e w18 ⟨d1, d2, d3, d4, rfl, hr, -, -, -, -, hb⟩
  replace H := below_then H H.size hb
  replace hi13 := hi13.below hb
  clear hb
  go_wp2_with fail
  have hn : Below w18.heap.size w18 (w18.alloc (.cells #[.int .i64 1, .int .i64 0, .int .i64 1, .int .i64 2] 3)) := (Below.refl _ _).alloc (Nat.le_refl _) _
  replace H := below_then H H.size hn
  replace hi13 := hi13.below hn
  refine (Cues_calls (bookB d1 d2 d3 d4) (some ⟨w18.heap.size, 0, none⟩) 4 [1, 0, 1, 2] _ (hr.below hn) (IntsAt.of_box [1, 0, 1, 2] (BoxAt.new w18 _ _) (by simp))).mono ?_
  rintro e w19 ⟨hR, hb⟩
  obtain ⟨A19, rfl, hi19⟩ : ∃ A, e = .returned (.tuple #[.slice A 3 3, .int .i64 0]) ∧ SpansAt w19 A [(2, -1), (6, 1), (10, 1)] := by
    rcases hR with ⟨h, _⟩ | ⟨_, h, _⟩ | ⟨_, _, A, rfl, hi⟩
    · rw [bk_good] at h; cases h
    · rw [show isPathS (bookB d1 d2 d3 d4).parts (bookB d1 d2 d3 d4).start [1, 0, 1, 2] = true from bk_path3] at h; cases h
    · rw [show ([1, 0, 1, 2] : List Int).length - 1 = 3 from rfl, bk_cues] at hi ⊢; exact ⟨A, rfl, hi⟩
  replace H := below_then H H.size hb
  replace hi13 := hi13.below hb
  clear hb hn hr hR
  -- Knows
  go_wp2_with fail
  refine (book_calls _).mono ?_
  rintro e w20 ⟨e1, e2, e3, e4, rfl, hr, -, -, -, -, hb⟩
  replace H := below_then H H.size hb
  replace hi13 := hi13.below hb
  replace hi19 := hi19.below hb
  clear hb
  go_wp2_with fail
  have hn : Below w20.heap.size w20 (w20.alloc (.cells #[.int .i64 (-2), .int .i64 (-2), .int .i64 0] 3)) := (Below.refl _ _).alloc (Nat.le_refl _) _
  replace H := below_then H H.size hn
  replace hi13 := hi13.below hn
  replace hi19 := hi19.below hn
  refine (Knows_calls (bookB e1 e2 e3 e4) (some ⟨w20.heap.size, 0, none⟩) 3 [-2, -2, 0] 2 _ (hr.below hn) (IntsAt.of_box [-2, -2, 0] (BoxAt.new w20 _ _) (by simp)) (HM.out.below H)).mono ?_
  rintro e w21 ⟨hR, hb⟩
  obtain ⟨A21, rfl, hi21⟩ : ∃ A, e = .returned (.tuple #[.slice A 1 1, .int .i64 0]) ∧ IntsAt w21 A [2] := by
    rcases hR with ⟨h, _⟩ | ⟨_, h, _⟩ | ⟨_, _, h, _⟩ | ⟨_, _, _, A, rfl, hi⟩
    · rw [bk_good] at h; cases h
    · rw [bk_ask] at h; cases h
    · rw [show ((2 : Int).toNat) = 2 from rfl, bk_knows] at h; cases h
    · rw [show ((2 : Int).toNat) = 2 from rfl, bk_knows] at hi ⊢; exact ⟨A, rfl, hi⟩
  replace H := below_then H H.size hb
  replace hi13 := hi13.below hb
  replace hi19 := hi19.below hb
  clear hb hn hr hR
  obtain ⟨xb, xo, rfl, hxc⟩ := hi19.2.resolve_left (by simp)
  have Hxc := Lib.hid hxc
  have H21 := Lib.hid H
  have Hi13 := Lib.hid hi13
  have Hi21 := Lib.hid hi21
  clear hxc H hi13 hi21 hi19
  go_wp2_with fail
  have hn : Below w21.heap.size w21 (w21.alloc (.cells #[.int .i64 1, .int .i64 1, .int .i64 2, .int .i64 2] 3)) := (Below.refl _ _).alloc (Nat.le_refl _) _
  refine (Equal_calls A13 4 [1, 1, 2, 2] _ 4 [1, 1, 2, 2] _ (Hi13.out.below hn) (IntsAt.of_box [1, 1, 2, 2] (BoxAt.new w21 _ _) (by simp))).mono ?_
  rintro e w22 ⟨rfl, hb⟩
  rw [eqL_self]
  have hb22 := below_then hn hn.size hb
  obtain ⟨x0, x1⟩ := Hxc.out 0 (by simp)
  obtain ⟨y0, y1⟩ := Hxc.out 2 (by simp)
  replace x0 := cell_below hb22 x0
  replace x1 := cell_below hb22 x1
  replace y0 := cell_below hb22 y0
  replace y1 := cell_below hb22 y1
  have bx := World.block_lt_of_cell? _ _ x0
  simp only [gs, Nat.zero_mul, Nat.add_zero, Nat.reduceMul] at x0 x1 y0 y1 bx
  have Hb22 := Lib.hid hb22
  clear hn hb hb22
  go_wp2_with fail
  have hn : Below w22.heap.size w22 (w22.alloc (.cells #[.int .i64 2] 3)) := (Below.refl _ _).alloc (Nat.le_refl _) _
  refine (Equal_calls A21 1 [2] _ 1 [2] _ ((Hi21.out.below Hb22.out).below hn) (IntsAt.of_box [2] (BoxAt.new w22 _ _) (by simp))).mono ?_
  rintro e w23 ⟨rfl, hb⟩
  rw [eqL_self]
  have hfin := below_then H21.out H21.out.size (below_then Hb22.out Hb22.out.size (below_then hn hn.size hb))
  clear hn hb
  go_wp2
  go_ret
  exact ⟨rfl, hfin⟩
end
end Go.Proofs.YtljikigmfkfkiaaDoor
