import Derived.Test.YtgfbfbfajnfbjaaDoorF
namespace Go.Proofs.YtgfbfbfajnfbjaaDoor
section
set_option linter.unusedVariables false
set_option linter.unusedSimpArgs false
open Go.RowKit Go.Shelf
attribute [local go_sem] Oper.semAt_some
theorem arr4 {cs : Array Value} (h : cs.size = 4) : ∃ x0 x1 x2 x3, cs = #[x0, x1, x2, x3] := by
  obtain ⟨l⟩ := cs
  match l, h with
  | [x0, x1, x2, x3], _ => exact ⟨_, _, _, _, rfl⟩
theorem box_store4 {w : World} {b : Nat} {cs : Array Value} (h : BoxAt w b cs) (hs : cs.size = 4) (v0 v1 v2 v3 : Value) :
    BoxAt ((((w.setCell ⟨b, 0, none⟩ v0).setCell ⟨b, 1, none⟩ v1).setCell ⟨b, 2, none⟩ v2).setCell ⟨b, 3, none⟩ v3) b #[v0, v1, v2, v3] ∧ Keep (fun k => k = b) w ((((w.setCell ⟨b, 0, none⟩ v0).setCell ⟨b, 1, none⟩ v1).setCell ⟨b, 2, none⟩ v2).setCell ⟨b, 3, none⟩ v3) := by
  obtain ⟨x0, x1, x2, x3, rfl⟩ := arr4 hs
  clear hs
  have h0 : BoxAt (w.setCell ⟨b, 0, none⟩ v0) b #[v0, x1, x2, x3] := h.put 0 v0 (by simp)
  have h1 : BoxAt ((w.setCell ⟨b, 0, none⟩ v0).setCell ⟨b, 1, none⟩ v1) b #[v0, v1, x2, x3] := h0.put 1 v1 (by simp)
  have h2 : BoxAt (((w.setCell ⟨b, 0, none⟩ v0).setCell ⟨b, 1, none⟩ v1).setCell ⟨b, 2, none⟩ v2) b #[v0, v1, v2, x3] := h1.put 2 v2 (by simp)
  have h3 : BoxAt ((((w.setCell ⟨b, 0, none⟩ v0).setCell ⟨b, 1, none⟩ v1).setCell ⟨b, 2, none⟩ v2).setCell ⟨b, 3, none⟩ v3) b #[v0, v1, v2, v3] := h2.put 3 v3 (by simp)
  refine ⟨h3, ?_⟩
  iterate 4 refine Keep.setCell (M := fun k => k = b) ?_ (Or.inl rfl) _
  exact Keep.refl _ _
theorem gi_take (l : List Int) (k j : Nat) : gi (l.take k) j = if j < k then gi l j else 0 := by
  unfold gi
  rw [List.getD_eq_getElem?_getD, List.getElem?_take]
  split
  · rw [List.getD_eq_getElem?_getD]
  · rfl
theorem pad4_set (m : List Int) (k : Nat) (h : k < 4) (m' : List Int) (hm : ∀ j, j < 4 → gi m' j = if j = k then gi m' k else gi m j) : (pad4 m).setIfInBounds k (.int .i64 (gi m' k)) = pad4 m' := by
  have h0 := hm 0 (by omega)
  have h1 := hm 1 (by omega)
  have h2 := hm 2 (by omega)
  have h3 := hm 3 (by omega)
  clear hm
  have : k = 0 ∨ k = 1 ∨ k = 2 ∨ k = 3 := by omega
  rcases this with rfl | rfl | rfl | rfl
  · rw [if_neg (by decide)] at h1 h2 h3; simp [pad4, h1, h2, h3]
  · rw [if_neg (by decide)] at h0 h2 h3; simp [pad4, h0, h2, h3]
  · rw [if_neg (by decide)] at h0 h1 h3; simp [pad4, h0, h1, h3]
  · rw [if_neg (by decide)] at h0 h1 h2; simp [pad4, h0, h1, h2]
theorem pad4_take_succ (l : List Int) (k : Nat) (h : k < 4) : (pad4 (l.take k)).setIfInBounds k (.int .i64 (gi l k)) = pad4 (l.take (k + 1)) := by
  have := pad4_set (l.take k) k h (l.take (k + 1)) (fun j hj => by
    rw [gi_take, gi_take, gi_take]
    by_cases e : j = k
    · subst e; simp
    · rw [if_neg e]
      by_cases e2 : j < k
      · rw [if_pos (by omega), if_pos e2]
      · rw [if_neg (by omega), if_neg e2])
  rw [gi_take, if_pos (by omega)] at this
  exact this
theorem gi_stock (B : ForgeV) (k : Nat) (h : k < B.lots.length) : gi (stockS B) k = (gl B.lots k).bars := by
  unfold gi stockS gl
  rw [List.getD_eq_getElem?_getD, List.getElem?_map, List.getElem?_eq_getElem h, List.getD_eq_getElem?_getD, List.getElem?_eq_getElem h]
  rfl
set_option maxRecDepth 100000 in
set_option maxHeartbeats 2000000 in
theorem stock_calls (B : ForgeV) (g : B.Good) (w : World) (hB : B.Reads w) :
    Calls Tryd.prog 71 #[B.val] w fun e w' => e = .returned (.agg (pad4 (stockS B))) ∧ Below w.heap.size w w' := by
  have hl4 := g.many
  obtain ⟨b, o, e⟩ := hB.lots.some_ (by omega)
  have hL := hB.lots
  rw [e] at hL
  have HL := Lib.hid hL
  clear hL hB
  unfold ForgeV.val ForgeV.cells
  rw [e]
  clear e
  have H3 : Below w.heap.size w (((w.alloc (.cells #[.slice (some ⟨b, o, none⟩) B.lots.length B.lCap, .int .i64 B.tlo, .int .i64 B.thi, .int .i64 B.thick, .int .i64 B.crack, .int .i64 B.glo, .int .i64 B.ghi, .slice B.sA B.thins.length B.sCap,
    .int .i64 B.hot, .int .i64 B.least, .int .i64 B.clo, .int .i64 B.chi, .int .i64 B.coal, .slice B.kA B.looks.length B.kCap] 87)).alloc (.cells #[.int .i64 0, .int .i64 0, .int .i64 0, .int .i64 0] 85)).alloc (.cells #[.int .i64 0, .int .i64 0, .int .i64 0, .int .i64 0] 85)) :=
    (((Below.refl _ _).alloc (Nat.le_refl _) _).alloc (by simp) _).alloc (by simp; omega) _
  have k2 := (BoxAt.new (w.alloc (.cells #[.slice (some ⟨b, o, none⟩) B.lots.length B.lCap, .int .i64 B.tlo, .int .i64 B.thi, .int .i64 B.thick, .int .i64 B.crack, .int .i64 B.glo, .int .i64 B.ghi, .slice B.sA B.thins.length B.sCap,
    .int .i64 B.hot, .int .i64 B.least, .int .i64 B.clo, .int .i64 B.chi, .int .i64 B.coal, .slice B.kA B.looks.length B.kCap] 87)) #[.int .i64 0, .int .i64 0, .int .i64 0, .int .i64 0] 85).alloc (.cells #[.int .i64 0, .int .i64 0, .int .i64 0, .int .i64 0] 85)
  have k3 := BoxAt.new ((w.alloc (.cells #[.slice (some ⟨b, o, none⟩) B.lots.length B.lCap, .int .i64 B.tlo, .int .i64 B.thi, .int .i64 B.thick, .int .i64 B.crack, .int .i64 B.glo, .int .i64 B.ghi, .slice B.sA B.thins.length B.sCap,
    .int .i64 B.hot, .int .i64 B.least, .int .i64 B.clo, .int .i64 B.chi, .int .i64 B.coal, .slice B.kA B.looks.length B.kCap] 87)).alloc (.cells #[.int .i64 0, .int .i64 0, .int .i64 0, .int .i64 0] 85)) #[.int .i64 0, .int .i64 0, .int .i64 0, .int .i64 0] 85
  rw [World.size_alloc] at k2
  rw [World.size_alloc, World.size_alloc] at k3
  go_enter Tryd.func71, Tryd.ntmps71
  go_upto_block 0 with (fail)
  generalize ((w.alloc _).alloc _).alloc _ = W at *
  have hn : w.heap.size ≤ w.heap.size + 1 ∧ w.heap.size ≤ w.heap.size + 1 + 1 := by omega
  have hn2 : w.heap.size + 1 ≠ w.heap.size + 1 + 1 := by omega
  generalize w.heap.size + 1 + 1 = n3 at *
  generalize w.heap.size + 1 = n2 at *
  have k3 : BoxAt W n3 (pad4 ((stockS B).take 0)) := k3
  have K2 := Lib.hid k2
  have K3 := Lib.hid k3
  have HH := Lib.hid H3
  have Hn := Lib.hid hn
  have Hn2 := Lib.hid hn2
  clear k2 k3 H3 hn hn2
  go_wp2
  go_loopg [10] B.lots.length (fun gq i wr => ∃ k : Nat, k ≤ B.lots.length ∧ gq = B.lots.length - k ∧ i = .int .i64 k ∧ Below w.heap.size w wr ∧ BoxAt wr n2 #[.int .i64 0, .int .i64 0, .int .i64 0, .int .i64 0] ∧ BoxAt wr n3 (pad4 ((stockS B).take k)))
  case atStart => exact ⟨0, Nat.zero_le _, rfl, rfl, HH.out, K2.out, K3.out⟩
  case round =>
    obtain ⟨k, hk, hgk, rfl, hBe, hb2, hb3⟩ := hrel
    have Hgk := Lib.hid hgk
    clear hgk K2 K3
    by_cases hlt : k < B.lots.length
    · have hlt4 : k < 4 := by omega
      have hki4 : (k : Int) < 4 := by omega
      have hki : (k : Int) < B.lots.length := by omega
      obtain ⟨p0, p1, p2⟩ := HL.out.at_ hlt
      replace p0 := cell_below hBe p0
      replace p1 := cell_below hBe p1
      replace p2 := cell_below hBe p2
      have pbl := World.block_lt_of_cell? _ _ p0
      simp only at pbl
      have l3 := hb3.lt
      have c3 := hb3.cell k
      rw [pad4_get _ k hlt4] at c3
      have f3 := hb3.frozen k
      have hs3 := ((hb3.put k (.int .i64 (gl B.lots k).bars) (by simp [pad4]; omega)).alloc (.cells #[.int .i64 (gl B.lots k).bars, .int .i64 (gl B.lots k).lo, .int .i64 (gl B.lots k).hi] 62))
      rw [← gi_stock B k hlt, pad4_take_succ _ k hlt4] at hs3
      have hs2 := (hb2.keep (Keep.setCell (M := fun k => k = n3) (Keep.refl _ _) (p := ⟨n3, k, none⟩) (.inl rfl) (.int .i64 (gl B.lots k).bars)) Hn2.out).alloc (.cells #[.int .i64 (gl B.lots k).bars, .int .i64 (gl B.lots k).lo, .int .i64 (gl B.lots k).hi] 62)
      have hse := (hBe.setCell (p := ⟨n3, k, none⟩) Hn.out.2 (.int .i64 (gl B.lots k).bars)).alloc (by simpa [World.setCell] using hBe.size) (.cells #[.int .i64 (gl B.lots k).bars, .int .i64 (gl B.lots k).lo, .int .i64 (gl B.lots k).hi] 62)
      rw [gi_stock B k hlt] at hs3
      have HS2 := Lib.hid hs2
      have HS3 := Lib.hid hs3
      have HSE := Lib.hid hse
      clear hs2 hs3 hse hb2 hb3 hBe
      go_wp2
      go_roundg (B.lots.length - (k + 1))
      case measure => have := Hgk.out; omega
      case rel => exact ⟨k + 1, by omega, rfl, by go_num, HSE.out, HS2.out, HS3.out⟩
    · obtain rfl : k = B.lots.length := by omega
      rw [List.take_of_length_le (by simp [stockS])] at hb3
      have hst := box_store4 hb2 rfl (.int .i64 (gi (stockS B) 0)) (.int .i64 (gi (stockS B) 1)) (.int .i64 (gi (stockS B) 2)) (.int .i64 (gi (stockS B) 3))
      have hfin := hBe.trans (hst.2.below (n := w.heap.size) (fun k _ e => by rw [e]; exact Hn.out.1) hBe.size)
      have Hst := Lib.hid hst
      have Hfin := Lib.hid hfin
      obtain ⟨c2, f2, l2⟩ := hb2
      obtain ⟨c3, f3, l3⟩ := hb3
      unfold pad4 at c3
      clear hst hfin hBe
      go_wp2
      have ka := Hst.out.1.cell
      exact bodyPost_ret (v := .agg (pad4 (stockS B))) (by simp [results, Tryd.results71, go_sem, ka, pad4]) rfl ⟨rfl, Hfin.out⟩
end
end Go.Proofs.YtgfbfbfajnfbjaaDoor
