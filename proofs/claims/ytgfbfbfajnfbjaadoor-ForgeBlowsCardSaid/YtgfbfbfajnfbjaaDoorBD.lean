import Derived.Test.YtgfbfbfajnfbjaaDoorBC
namespace Go.Proofs.YtgfbfbfajnfbjaaDoor
section
open Go.RowKit Go.Shelf
attribute [local go_sem] Oper.semAt_some
set_option linter.unusedSimpArgs false
set_option linter.unusedVariables false
/-- the chapter's book, with some looks more -/
def bookF (a1 a2 : Nat) (A3 : Option Addr) (c3 : Nat) (more : List LookV) : ForgeV := ⟨some ⟨a1, 0, none⟩, 3, [⟨4, 180, 200⟩, ⟨3, 240, 260⟩, ⟨2, 0, 10⟩], 190, 230, 100, 20, 40, 50, some ⟨a2, 0, none⟩, 3, [(2, 3), (4, 4), (1, 2)], 800, 500, 40, 70, 3, A3, c3, [⟨3, 92, 1⟩, ⟨7, 80, 2⟩] ++ more⟩
theorem LotsAt.of3 {W : World} {g : Nat} {x0 y0 z0 x1 y1 z1 x2 y2 z2 : Int} (h : BoxAt W g #[.int .i64 x0, .int .i64 y0, .int .i64 z0, .int .i64 x1, .int .i64 y1, .int .i64 z1, .int .i64 x2, .int .i64 y2, .int .i64 z2]) : LotsAt W (some ⟨g, 0, none⟩) [⟨x0, y0, z0⟩, ⟨x1, y1, z1⟩, ⟨x2, y2, z2⟩] := by
  refine ⟨by simp, .inr ⟨g, 0, rfl, fun j hj => ?_⟩⟩
  have : j = 0 ∨ j = 1 ∨ j = 2 := by simp at hj; omega
  rcases this with rfl | rfl | rfl <;> exact ⟨by rw [h.cell]; rfl, by rw [h.cell]; rfl, by rw [h.cell]; rfl⟩
theorem SpansAt.of3 {W : World} {g : Nat} {x0 y0 x1 y1 x2 y2 : Int} (h : BoxAt W g #[.int .i64 x0, .int .i64 y0, .int .i64 x1, .int .i64 y1, .int .i64 x2, .int .i64 y2]) : SpansAt W (some ⟨g, 0, none⟩) [(x0, y0), (x1, y1), (x2, y2)] := by
  refine ⟨by simp, .inr ⟨g, 0, rfl, fun j hj => ?_⟩⟩
  have : j = 0 ∨ j = 1 ∨ j = 2 := by simp at hj; omega
  rcases this with rfl | rfl | rfl <;> exact ⟨by rw [h.cell]; rfl, by rw [h.cell]; rfl⟩
theorem LooksAt.of2 {W : World} {g : Nat} {x0 y0 z0 x1 y1 z1 : Int} (h : BoxAt W g #[.int .i64 x0, .int .i64 y0, .int .i64 z0, .int .i64 x1, .int .i64 y1, .int .i64 z1]) : LooksAt W (some ⟨g, 0, none⟩) [⟨x0, y0, z0⟩, ⟨x1, y1, z1⟩] := by
  refine ⟨by simp, .inr ⟨g, 0, rfl, fun j hj => ?_⟩⟩
  have : j = 0 ∨ j = 1 := by simp at hj; omega
  rcases this with rfl | rfl <;> exact ⟨by rw [h.cell]; rfl, by rw [h.cell]; rfl, by rw [h.cell]; rfl⟩
set_option maxRecDepth 100000 in
set_option maxHeartbeats 4000000 in
theorem book_nil (w : World) :
    Calls Tryd.prog 64 #[.slice none 0 0] w fun e w' => ∃ a1 a2 a3 c3, e = .returned (bookF a1 a2 (some ⟨a3, 0, none⟩) c3 []).val ∧ (bookF a1 a2 (some ⟨a3, 0, none⟩) c3 []).Reads w' ∧ Below w.heap.size w w' := by
  have k2 := BoxAt.new w zeroF 28
  have hb0 : Below w.heap.size w (w.alloc (.cells zeroF 28)) := (Below.refl _ _).alloc (Nat.le_refl _) _
  unfold zeroF at k2 hb0
  go_enter Tryd.func64, Tryd.ntmps64
  go_upto_region 1 with (fail)
  generalize w.alloc _ = W0 at *
  have HW0 := Lib.hid hb0
  have K2 := Lib.hid k2
  have hn2 : w.heap.size ≤ w.heap.size := Nat.le_refl _
  generalize hn2e : w.heap.size = n2 at K2 hn2 ⊢
  clear hb0 k2
  go_wp2_with fail
  refine (lot_calls 4 180 200 _).mono ?_
  rintro e w1 ⟨rfl, hb9⟩
  have Hw1 := Lib.hid (below_then HW0.out HW0.out.size hb9)
  replace K2 := Lib.hid (K2.out.below hb9)
  clear hb9
  go_wp2_with fail
  refine (lot_calls 3 240 260 _).mono ?_
  rintro e w2 ⟨rfl, hb9⟩
  have Hw2 := Lib.hid (below_then Hw1.out Hw1.out.size hb9)
  replace K2 := Lib.hid (K2.out.below hb9)
  clear hb9
  go_wp2_with fail
  refine (lot_calls 2 0 10 _).mono ?_
  rintro e w3 ⟨rfl, hb9⟩
  have Hw3 := Lib.hid (below_then Hw2.out Hw2.out.size hb9)
  replace K2 := Lib.hid (K2.out.below hb9)
  clear hb9
  have hlA := K2.out.lt
  have hk9 := BoxAt.new w3 #[.int .i64 4, .int .i64 180, .int .i64 200, .int .i64 3, .int .i64 240, .int .i64 260, .int .i64 2, .int .i64 0, .int .i64 10] 62
  have hb9 : Below w3.heap.size w3 (w3.alloc (.cells #[.int .i64 4, .int .i64 180, .int .i64 200, .int .i64 3, .int .i64 240, .int .i64 260, .int .i64 2, .int .i64 0, .int .i64 10] 62)) := (Below.refl _ _).alloc (Nat.le_refl _) _
  go_wp2_with fail
  generalize World.alloc w3 _ = X7 at *
  have HX7 := Lib.hid (below_then Hw3.out Hw3.out.size hb9)
  have hszX7 := Hw3.out.size
  replace K2 := Lib.hid (K2.out.below hb9)
  have K7 := Lib.hid hk9
  generalize w3.heap.size = a1 at *
  clear hb9 hk9
  refine (Band_calls 190 230 _).mono ?_
  rintro e w4 ⟨rfl, hb9⟩
  have Hw4 := Lib.hid (below_then HX7.out HX7.out.size hb9)
  replace K2 := Lib.hid (K2.out.below hb9)
  replace K7 := Lib.hid (K7.out.below hb9)
  clear hb9
  go_wp2_with fail
  refine (Band_calls 40 50 _).mono ?_
  rintro e w5 ⟨rfl, hb9⟩
  have Hw5 := Lib.hid (below_then Hw4.out Hw4.out.size hb9)
  replace K2 := Lib.hid (K2.out.below hb9)
  replace K7 := Lib.hid (K7.out.below hb9)
  clear hb9
  go_wp2_with fail
  refine (Band_calls 2 3 _).mono ?_
  rintro e w6 ⟨rfl, hb9⟩
  have Hw6 := Lib.hid (below_then Hw5.out Hw5.out.size hb9)
  replace K2 := Lib.hid (K2.out.below hb9)
  replace K7 := Lib.hid (K7.out.below hb9)
  clear hb9
  go_wp2_with fail
  refine (Band_calls 4 4 _).mono ?_
  rintro e w7 ⟨rfl, hb9⟩
  have Hw7 := Lib.hid (below_then Hw6.out Hw6.out.size hb9)
  replace K2 := Lib.hid (K2.out.below hb9)
  replace K7 := Lib.hid (K7.out.below hb9)
  clear hb9
  go_wp2_with fail
  refine (Band_calls 1 2 _).mono ?_
  rintro e w8 ⟨rfl, hb9⟩
  have Hw8 := Lib.hid (below_then Hw7.out Hw7.out.size hb9)
  replace K2 := Lib.hid (K2.out.below hb9)
  replace K7 := Lib.hid (K7.out.below hb9)
  clear hb9
  have hlB := K7.out.lt
  have hk9 := BoxAt.new w8 #[.int .i64 2, .int .i64 3, .int .i64 4, .int .i64 4, .int .i64 1, .int .i64 2] 24
  have hb9 : Below w8.heap.size w8 (w8.alloc (.cells #[.int .i64 2, .int .i64 3, .int .i64 4, .int .i64 4, .int .i64 1, .int .i64 2] 24)) := (Below.refl _ _).alloc (Nat.le_refl _) _
  go_wp2_with fail
  generalize World.alloc w8 _ = X13 at *
  have HX13 := Lib.hid (below_then Hw8.out Hw8.out.size hb9)
  have hszX13 := Hw8.out.size
  replace K2 := Lib.hid (K2.out.below hb9)
  replace K7 := Lib.hid (K7.out.below hb9)
  have K13 := Lib.hid hk9
  generalize w8.heap.size = a2 at *
  clear hb9 hk9
  refine (Band_calls 40 70 _).mono ?_
  rintro e w9 ⟨rfl, hb9⟩
  have Hw9 := Lib.hid (below_then HX13.out HX13.out.size hb9)
  replace K2 := Lib.hid (K2.out.below hb9)
  replace K7 := Lib.hid (K7.out.below hb9)
  replace K13 := Lib.hid (K13.out.below hb9)
  clear hb9
  go_wp2_with fail
  refine (look_calls 3 92 1 _).mono ?_
  rintro e w10 ⟨rfl, hb9⟩
  have Hw10 := Lib.hid (below_then Hw9.out Hw9.out.size hb9)
  replace K2 := Lib.hid (K2.out.below hb9)
  replace K7 := Lib.hid (K7.out.below hb9)
  replace K13 := Lib.hid (K13.out.below hb9)
  clear hb9
  go_wp2_with fail
  refine (look_calls 7 80 2 _).mono ?_
  rintro e w11 ⟨rfl, hb9⟩
  have Hw11 := Lib.hid (below_then Hw10.out Hw10.out.size hb9)
  replace K2 := Lib.hid (K2.out.below hb9)
  replace K7 := Lib.hid (K7.out.below hb9)
  replace K13 := Lib.hid (K13.out.below hb9)
  clear hb9
  have hlC := K13.out.lt
  have hk17 := (BoxAt.new w11 #[.int .i64 3, .int .i64 92, .int .i64 1, .int .i64 7, .int .i64 80, .int .i64 2] 75).alloc (.cells #[.slice (some ⟨a1, 0, none⟩) 3 3, .int .i64 190, .int .i64 230, .int .i64 100, .int .i64 20, .int .i64 40, .int .i64 50, .slice (some ⟨a2, 0, none⟩) 3 3, .int .i64 800, .int .i64 500, .int .i64 40, .int .i64 70, .int .i64 3, .slice (some ⟨w11.heap.size, 0, none⟩) 2 2] 28)
  have hk3 := BoxAt.new (w11.alloc (.cells #[.int .i64 3, .int .i64 92, .int .i64 1, .int .i64 7, .int .i64 80, .int .i64 2] 75)) #[.slice (some ⟨a1, 0, none⟩) 3 3, .int .i64 190, .int .i64 230, .int .i64 100, .int .i64 20, .int .i64 40, .int .i64 50, .slice (some ⟨a2, 0, none⟩) 3 3, .int .i64 800, .int .i64 500, .int .i64 40, .int .i64 70, .int .i64 3, .slice (some ⟨w11.heap.size, 0, none⟩) 2 2] 28
  have hb9 : Below w11.heap.size w11 ((w11.alloc (.cells #[.int .i64 3, .int .i64 92, .int .i64 1, .int .i64 7, .int .i64 80, .int .i64 2] 75)).alloc (.cells #[.slice (some ⟨a1, 0, none⟩) 3 3, .int .i64 190, .int .i64 230, .int .i64 100, .int .i64 20, .int .i64 40, .int .i64 50, .slice (some ⟨a2, 0, none⟩) 3 3, .int .i64 800, .int .i64 500, .int .i64 40, .int .i64 70, .int .i64 3, .slice (some ⟨w11.heap.size, 0, none⟩) 2 2] 28)) := ((Below.refl _ _).alloc (Nat.le_refl _) _).alloc (by simp) _
  rw [World.size_alloc] at hk3
  go_upto_region 2 with (fail)
  generalize (World.alloc w11 _).alloc _ = Y at *
  have HY := Lib.hid (below_then Hw11.out Hw11.out.size hb9)
  replace K2 := Lib.hid (K2.out.below hb9)
  replace K7 := Lib.hid (K7.out.below hb9)
  replace K13 := Lib.hid (K13.out.below hb9)
  have hs3 := Hw11.out.size
  have hn3 : w11.heap.size < w11.heap.size + 1 := by omega
  have hK2l : n2 < w11.heap.size + 1 := by omega
  generalize w11.heap.size + 1 = n3 at *
  generalize w11.heap.size = a3 at *
  have K17 := Lib.hid hk17
  have K3 := Lib.hid hk3
  obtain ⟨c3, f3, l3⟩ := hk3
  clear hb9 hk17
  have hna : n2 ≠ a1 ∧ n2 ≠ a2 ∧ n2 ≠ a3 ∧ n3 ≠ a1 ∧ n3 ≠ a2 := by omega
  have hk3 : Keep (fun k => k = n3) Y (Y.setCell ⟨n3, 13, none⟩ (.slice (some ⟨a3, 0, none⟩) 2 2)) := Keep.setCell (M := fun k => k = n3) (Keep.refl _ _) (p := ⟨n3, 13, none⟩) (.inl rfl) _
  have k29 := K2.out.keep hk3 (by omega)
  have hs2 := putAll_box k29 [.slice (some ⟨a1, 0, none⟩) 3 3, .int .i64 190, .int .i64 230, .int .i64 100, .int .i64 20, .int .i64 40, .int .i64 50, .slice (some ⟨a2, 0, none⟩) 3 3, .int .i64 800, .int .i64 500, .int .i64 40, .int .i64 70, .int .i64 3, .slice (some ⟨a3, 0, none⟩) 2 2] rfl
  have hkp := putAll_keep n2 [.slice (some ⟨a1, 0, none⟩) 3 3, .int .i64 190, .int .i64 230, .int .i64 100, .int .i64 20, .int .i64 40, .int .i64 50, .slice (some ⟨a2, 0, none⟩) 3 3, .int .i64 800, .int .i64 500, .int .i64 40, .int .i64 70, .int .i64 3, .slice (some ⟨a3, 0, none⟩) 2 2] 0 (Y.setCell ⟨n3, 13, none⟩ (.slice (some ⟨a3, 0, none⟩) 2 2))
  have HF := Lib.hid ((HY.out.trans (hk3.below (fun k _ e => by omega) HY.out.size)).trans (hkp.below (fun k _ e => by omega) (Nat.le_trans HY.out.size hk3.size)))
  have Hl := Lib.hid ((LotsAt.of3 K7.out |>.keep hk3 (by rintro b o ⟨⟩; omega)).keep hkp (by rintro b o ⟨⟩; omega))
  have Hs := Lib.hid ((SpansAt.of3 K13.out |>.keep hk3 (by rintro b o ⟨⟩; omega)).keep hkp (by rintro b o ⟨⟩; omega))
  have Hk := Lib.hid ((LooksAt.of2 K17.out |>.keep hk3 (by rintro b o ⟨⟩; omega)).keep hkp (by rintro b o ⟨⟩; omega))
  obtain ⟨c2, f2, l2⟩ := k29
  obtain ⟨c9, f9, l9⟩ := hs2
  have hk3n := (K3.out.put 13 (.slice (some ⟨a3, 0, none⟩) 2 2) (by simp))
  clear hk3 hkp
  go_wp2
  change bodyPost _ _ _ _ _ (putAll (Y.setCell ⟨n3, 13, none⟩ (.slice (some ⟨a3, 0, none⟩) 2 2)) n2 0 [.slice (some ⟨a1, 0, none⟩) 3 3, .int .i64 190, .int .i64 230, .int .i64 100, .int .i64 20, .int .i64 40, .int .i64 50, .slice (some ⟨a2, 0, none⟩) 3 3, .int .i64 800, .int .i64 500, .int .i64 40, .int .i64 70, .int .i64 3, .slice (some ⟨a3, 0, none⟩) 2 2])
  generalize putAll (Y.setCell ⟨n3, 13, none⟩ (.slice (some ⟨a3, 0, none⟩) 2 2)) n2 0 [.slice (some ⟨a1, 0, none⟩) 3 3, .int .i64 190, .int .i64 230, .int .i64 100, .int .i64 20, .int .i64 40, .int .i64 50, .slice (some ⟨a2, 0, none⟩) 3 3, .int .i64 800, .int .i64 500, .int .i64 40, .int .i64 70, .int .i64 3, .slice (some ⟨a3, 0, none⟩) 2 2] = Z at *
  exact bodyPost_ret (v := (bookF a1 a2 (some ⟨a3, 0, none⟩) 2 []).val) (by simp [results, Tryd.results64, go_sem, c9, bookF, ForgeV.val, ForgeV.cells]) rfl ⟨a1, a2, a3, 2, rfl, ⟨Hl.out, Hs.out, Hk.out⟩, HF.out⟩
set_option maxRecDepth 100000 in
set_option maxHeartbeats 4000000 in
theorem book_more (g gg c : Nat) (more : List LookV) (hm0 : 0 < more.length) (hml : more.length ≤ 100000) (w : World) (hm : LooksAt w (some ⟨g, gg, none⟩) more) :
    Calls Tryd.prog 64 #[.slice (some ⟨g, gg, none⟩) more.length c] w fun e w' => ∃ a1 a2 a3 c3, e = .returned (bookF a1 a2 (some ⟨a3, 0, none⟩) c3 more).val ∧ (bookF a1 a2 (some ⟨a3, 0, none⟩) c3 more).Reads w' ∧ Below w.heap.size w w' := by
  have HM := Lib.hid hm
  clear hm
  have k2 := BoxAt.new w zeroF 28
  have hb0 : Below w.heap.size w (w.alloc (.cells zeroF 28)) := (Below.refl _ _).alloc (Nat.le_refl _) _
  unfold zeroF at k2 hb0
  go_enter Tryd.func64, Tryd.ntmps64
  go_upto_region 1 with (fail)
  generalize w.alloc _ = W0 at *
  have HW0 := Lib.hid hb0
  have K2 := Lib.hid k2
  have hn2 : w.heap.size ≤ w.heap.size := Nat.le_refl _
  generalize hn2e : w.heap.size = n2 at K2 hn2 ⊢
  clear hb0 k2
  go_wp2_with fail
  refine (lot_calls 4 180 200 _).mono ?_
  rintro e w1 ⟨rfl, hb9⟩
  have Hw1 := Lib.hid (below_then HW0.out HW0.out.size hb9)
  replace K2 := Lib.hid (K2.out.below hb9)
  clear hb9
  go_wp2_with fail
  refine (lot_calls 3 240 260 _).mono ?_
  rintro e w2 ⟨rfl, hb9⟩
  have Hw2 := Lib.hid (below_then Hw1.out Hw1.out.size hb9)
  replace K2 := Lib.hid (K2.out.below hb9)
  clear hb9
  go_wp2_with fail
  refine (lot_calls 2 0 10 _).mono ?_
  rintro e w3 ⟨rfl, hb9⟩
  have Hw3 := Lib.hid (below_then Hw2.out Hw2.out.size hb9)
  replace K2 := Lib.hid (K2.out.below hb9)
  clear hb9
  have hlA := K2.out.lt
  have hk9 := BoxAt.new w3 #[.int .i64 4, .int .i64 180, .int .i64 200, .int .i64 3, .int .i64 240, .int .i64 260, .int .i64 2, .int .i64 0, .int .i64 10] 62
  have hb9 : Below w3.heap.size w3 (w3.alloc (.cells #[.int .i64 4, .int .i64 180, .int .i64 200, .int .i64 3, .int .i64 240, .int .i64 260, .int .i64 2, .int .i64 0, .int .i64 10] 62)) := (Below.refl _ _).alloc (Nat.le_refl _) _
  go_wp2_with fail
  generalize World.alloc w3 _ = X7 at *
  have HX7 := Lib.hid (below_then Hw3.out Hw3.out.size hb9)
  have hszX7 := Hw3.out.size
  replace K2 := Lib.hid (K2.out.below hb9)
  have K7 := Lib.hid hk9
  generalize w3.heap.size = a1 at *
  clear hb9 hk9
  refine (Band_calls 190 230 _).mono ?_
  rintro e w4 ⟨rfl, hb9⟩
  have Hw4 := Lib.hid (below_then HX7.out HX7.out.size hb9)
  replace K2 := Lib.hid (K2.out.below hb9)
  replace K7 := Lib.hid (K7.out.below hb9)
  clear hb9
  go_wp2_with fail
  refine (Band_calls 40 50 _).mono ?_
  rintro e w5 ⟨rfl, hb9⟩
  have Hw5 := Lib.hid (below_then Hw4.out Hw4.out.size hb9)
  replace K2 := Lib.hid (K2.out.below hb9)
  replace K7 := Lib.hid (K7.out.below hb9)
  clear hb9
  go_wp2_with fail
  refine (Band_calls 2 3 _).mono ?_
  rintro e w6 ⟨rfl, hb9⟩
  have Hw6 := Lib.hid (below_then Hw5.out Hw5.out.size hb9)
  replace K2 := Lib.hid (K2.out.below hb9)
  replace K7 := Lib.hid (K7.out.below hb9)
  clear hb9
  go_wp2_with fail
  refine (Band_calls 4 4 _).mono ?_
  rintro e w7 ⟨rfl, hb9⟩
  have Hw7 := Lib.hid (below_then Hw6.out Hw6.out.size hb9)
  replace K2 := Lib.hid (K2.out.below hb9)
  replace K7 := Lib.hid (K7.out.below hb9)
  clear hb9
  go_wp2_with fail
  refine (Band_calls 1 2 _).mono ?_
  rintro e w8 ⟨rfl, hb9⟩
  have Hw8 := Lib.hid (below_then Hw7.out Hw7.out.size hb9)
  replace K2 := Lib.hid (K2.out.below hb9)
  replace K7 := Lib.hid (K7.out.below hb9)
  clear hb9
  have hlB := K7.out.lt
  have hk9 := BoxAt.new w8 #[.int .i64 2, .int .i64 3, .int .i64 4, .int .i64 4, .int .i64 1, .int .i64 2] 24
  have hb9 : Below w8.heap.size w8 (w8.alloc (.cells #[.int .i64 2, .int .i64 3, .int .i64 4, .int .i64 4, .int .i64 1, .int .i64 2] 24)) := (Below.refl _ _).alloc (Nat.le_refl _) _
  go_wp2_with fail
  generalize World.alloc w8 _ = X13 at *
  have HX13 := Lib.hid (below_then Hw8.out Hw8.out.size hb9)
  have hszX13 := Hw8.out.size
  replace K2 := Lib.hid (K2.out.below hb9)
  replace K7 := Lib.hid (K7.out.below hb9)
  have K13 := Lib.hid hk9
  generalize w8.heap.size = a2 at *
  clear hb9 hk9
  refine (Band_calls 40 70 _).mono ?_
  rintro e w9 ⟨rfl, hb9⟩
  have Hw9 := Lib.hid (below_then HX13.out HX13.out.size hb9)
  replace K2 := Lib.hid (K2.out.below hb9)
  replace K7 := Lib.hid (K7.out.below hb9)
  replace K13 := Lib.hid (K13.out.below hb9)
  clear hb9
  go_wp2_with fail
  refine (look_calls 3 92 1 _).mono ?_
  rintro e w10 ⟨rfl, hb9⟩
  have Hw10 := Lib.hid (below_then Hw9.out Hw9.out.size hb9)
  replace K2 := Lib.hid (K2.out.below hb9)
  replace K7 := Lib.hid (K7.out.below hb9)
  replace K13 := Lib.hid (K13.out.below hb9)
  clear hb9
  go_wp2_with fail
  refine (look_calls 7 80 2 _).mono ?_
  rintro e w11 ⟨rfl, hb9⟩
  have Hw11 := Lib.hid (below_then Hw10.out Hw10.out.size hb9)
  replace K2 := Lib.hid (K2.out.below hb9)
  replace K7 := Lib.hid (K7.out.below hb9)
  replace K13 := Lib.hid (K13.out.below hb9)
  clear hb9
  have hlC := K13.out.lt
  have hk17 := (BoxAt.new w11 #[.int .i64 3, .int .i64 92, .int .i64 1, .int .i64 7, .int .i64 80, .int .i64 2] 75).alloc (.cells #[.slice (some ⟨a1, 0, none⟩) 3 3, .int .i64 190, .int .i64 230, .int .i64 100, .int .i64 20, .int .i64 40, .int .i64 50, .slice (some ⟨a2, 0, none⟩) 3 3, .int .i64 800, .int .i64 500, .int .i64 40, .int .i64 70, .int .i64 3, .slice (some ⟨w11.heap.size, 0, none⟩) 2 2] 28)
  have hk3 := BoxAt.new (w11.alloc (.cells #[.int .i64 3, .int .i64 92, .int .i64 1, .int .i64 7, .int .i64 80, .int .i64 2] 75)) #[.slice (some ⟨a1, 0, none⟩) 3 3, .int .i64 190, .int .i64 230, .int .i64 100, .int .i64 20, .int .i64 40, .int .i64 50, .slice (some ⟨a2, 0, none⟩) 3 3, .int .i64 800, .int .i64 500, .int .i64 40, .int .i64 70, .int .i64 3, .slice (some ⟨w11.heap.size, 0, none⟩) 2 2] 28
  have hb9 : Below w11.heap.size w11 ((w11.alloc (.cells #[.int .i64 3, .int .i64 92, .int .i64 1, .int .i64 7, .int .i64 80, .int .i64 2] 75)).alloc (.cells #[.slice (some ⟨a1, 0, none⟩) 3 3, .int .i64 190, .int .i64 230, .int .i64 100, .int .i64 20, .int .i64 40, .int .i64 50, .slice (some ⟨a2, 0, none⟩) 3 3, .int .i64 800, .int .i64 500, .int .i64 40, .int .i64 70, .int .i64 3, .slice (some ⟨w11.heap.size, 0, none⟩) 2 2] 28)) := ((Below.refl _ _).alloc (Nat.le_refl _) _).alloc (by simp) _
  rw [World.size_alloc] at hk3
  go_upto_region 2 with (fail)
  generalize (World.alloc w11 _).alloc _ = Y at *
  have HY := Lib.hid (below_then Hw11.out Hw11.out.size hb9)
  replace K2 := Lib.hid (K2.out.below hb9)
  replace K7 := Lib.hid (K7.out.below hb9)
  replace K13 := Lib.hid (K13.out.below hb9)
  have hs3 := Hw11.out.size
  have hn3 : w11.heap.size < w11.heap.size + 1 := by omega
  have hK2l : n2 < w11.heap.size + 1 := by omega
  generalize w11.heap.size + 1 = n3 at *
  generalize w11.heap.size = a3 at *
  have K17 := Lib.hid hk17
  have K3 := Lib.hid hk3
  obtain ⟨c3, f3, l3⟩ := hk3
  clear hb9 hk17
  have hna0 : n2 ≠ a1 ∧ n2 ≠ a2 ∧ n2 ≠ a3 ∧ n3 ≠ a1 ∧ n3 ≠ a2 ∧ n2 < n3 := by omega
  go_wp2_with (at_builtin; refine wpList_appLk _ rfl _ _ rfl a3 0 [⟨3, 92, 1⟩, ⟨7, 80, 2⟩] rfl (LooksAt.of2 K17.out) g gg c more rfl (HM.out.below HY.out) hm0 (by simp; omega) ?_)
  intro b3 c3 y hc3 hlk hb3 hby
  have Hlk := Lib.hid hlk
  have Hy := Lib.hid (below_then HY.out HY.out.size hby)
  replace K2 := Lib.hid (K2.out.below hby)
  replace K7 := Lib.hid (K7.out.below hby)
  replace K13 := Lib.hid (K13.out.below hby)
  replace K3 := Lib.hid (K3.out.below hby)
  have hlY3 := l3
  clear hlk hby f3 l3
  obtain ⟨c3x, f3x, l3x⟩ := K3.out
  have hna : n2 ≠ a1 ∧ n2 ≠ a2 ∧ n2 ≠ a3 ∧ n3 ≠ a1 ∧ n3 ≠ a2 ∧ n2 ≠ b3 ∧ n3 ≠ b3 := by omega
  have hk3 : Keep (fun k => k = n3) y (y.setCell ⟨n3, 13, none⟩ (.slice (some ⟨b3, 0, none⟩) (2 + more.length) c3)) := Keep.setCell (M := fun k => k = n3) (Keep.refl _ _) (p := ⟨n3, 13, none⟩) (.inl rfl) _
  have k29 := K2.out.keep hk3 (by omega)
  have hs2 := putAll_box k29 [.slice (some ⟨a1, 0, none⟩) 3 3, .int .i64 190, .int .i64 230, .int .i64 100, .int .i64 20, .int .i64 40, .int .i64 50, .slice (some ⟨a2, 0, none⟩) 3 3, .int .i64 800, .int .i64 500, .int .i64 40, .int .i64 70, .int .i64 3, .slice (some ⟨b3, 0, none⟩) (2 + more.length) c3] rfl
  have hkp := putAll_keep n2 [.slice (some ⟨a1, 0, none⟩) 3 3, .int .i64 190, .int .i64 230, .int .i64 100, .int .i64 20, .int .i64 40, .int .i64 50, .slice (some ⟨a2, 0, none⟩) 3 3, .int .i64 800, .int .i64 500, .int .i64 40, .int .i64 70, .int .i64 3, .slice (some ⟨b3, 0, none⟩) (2 + more.length) c3] 0 (y.setCell ⟨n3, 13, none⟩ (.slice (some ⟨b3, 0, none⟩) (2 + more.length) c3))
  have HF := Lib.hid ((Hy.out.trans (hk3.below (fun k _ e => by omega) Hy.out.size)).trans (hkp.below (fun k _ e => by omega) (Nat.le_trans Hy.out.size hk3.size)))
  have Hl := Lib.hid ((LotsAt.of3 K7.out |>.keep hk3 (by rintro b o ⟨⟩; omega)).keep hkp (by rintro b o ⟨⟩; omega))
  have Hs := Lib.hid ((SpansAt.of3 K13.out |>.keep hk3 (by rintro b o ⟨⟩; omega)).keep hkp (by rintro b o ⟨⟩; omega))
  have Hk := Lib.hid ((Hlk.out |>.keep hk3 (by rintro b o ⟨⟩; omega)).keep hkp (by rintro b o ⟨⟩; omega))
  obtain ⟨c2, f2, l2⟩ := k29
  obtain ⟨c9, f9, l9⟩ := hs2
  have hk3n := (K3.out.put 13 (.slice (some ⟨b3, 0, none⟩) (2 + more.length) c3) (by simp))
  clear hk3 hkp
  go_wp2
  change bodyPost _ _ _ _ _ (putAll (y.setCell ⟨n3, 13, none⟩ (.slice (some ⟨b3, 0, none⟩) (2 + more.length) c3)) n2 0 [.slice (some ⟨a1, 0, none⟩) 3 3, .int .i64 190, .int .i64 230, .int .i64 100, .int .i64 20, .int .i64 40, .int .i64 50, .slice (some ⟨a2, 0, none⟩) 3 3, .int .i64 800, .int .i64 500, .int .i64 40, .int .i64 70, .int .i64 3, .slice (some ⟨b3, 0, none⟩) (2 + more.length) c3])
  generalize putAll (y.setCell ⟨n3, 13, none⟩ (.slice (some ⟨b3, 0, none⟩) (2 + more.length) c3)) n2 0 [.slice (some ⟨a1, 0, none⟩) 3 3, .int .i64 190, .int .i64 230, .int .i64 100, .int .i64 20, .int .i64 40, .int .i64 50, .slice (some ⟨a2, 0, none⟩) 3 3, .int .i64 800, .int .i64 500, .int .i64 40, .int .i64 70, .int .i64 3, .slice (some ⟨b3, 0, none⟩) (2 + more.length) c3] = Z at *
  exact bodyPost_ret (v := (bookF a1 a2 (some ⟨b3, 0, none⟩) c3 more).val) (by simp [results, Tryd.results64, go_sem, c9, bookF, ForgeV.val, ForgeV.cells] <;> omega) rfl ⟨a1, a2, b3, c3, rfl, ⟨Hl.out, Hs.out, Hk.out⟩, HF.out⟩
end
end Go.Proofs.YtgfbfbfajnfbjaaDoor
