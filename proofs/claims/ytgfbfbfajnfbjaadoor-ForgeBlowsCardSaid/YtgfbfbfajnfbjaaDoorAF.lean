import Derived.Test.YtgfbfbfajnfbjaaDoorAE
import Derived.Test.YtgfbfbfajnfbjaaDoorW
namespace Go.Proofs.YtgfbfbfajnfbjaaDoor
section
open Go.RowKit Go.Shelf
attribute [local go_sem] Oper.semAt_some
set_option linter.unusedSimpArgs false
set_option linter.unusedVariables false
/-- where the first span is of which p is true -/
def idxS (p : Int → Int → Bool) : List (Int × Int) → Nat → Int
  | [], _ => -1
  | s :: l, k => if p s.1 s.2 then k else idxS p l (k + 1)
theorem drop_gs {l : List (Int × Int)} {k : Nat} (h : k < l.length) : l.drop k = gs l k :: l.drop (k + 1) := by
  rw [List.drop_eq_getElem_cons h]
  unfold gs
  rw [List.getD_eq_getElem?_getD, List.getElem?_eq_getElem h]; rfl
set_option maxRecDepth 100000 in
set_option maxHeartbeats 4000000 in
theorem index_calls (fid n4 : Nat) (eg : ∀ args w, (callFunc fid args).run Tryd.prog w = .ok (.enter fid args) w) (p : Int → Int → Bool) (gO : Nat) (l : List (Int × Int)) (hl301 : l.length = 301) (w : World) (hl : SpansAt w (some ⟨gO, 0, none⟩) l)
    (hf : ∀ lo hi W, Below w.heap.size w W → Calls Tryd.prog fid #[.agg #[.int .i64 lo, .int .i64 hi], .pointer (some ⟨n4, 0, none⟩)] W fun e W' => e = .returned (.bool (p lo hi)) ∧ Below W.heap.size W W') :
    Calls Tryd.prog 88 #[.slice (some ⟨gO, 0, none⟩) 301 301, .func (.func fid) #[] #[.pointer (some ⟨n4, 0, none⟩)]] w fun e w' => e = .returned (.int .i64 (idxS p l 0)) ∧ Below w.heap.size w w' := by
  have HF := Lib.hid hf
  have HL := Lib.hid hl
  have H301 := Lib.hid hl301
  clear hf hl hl301
  go_enter Tryd.func88, Tryd.ntmps88
  go_wp2
  go_loopg [8] 301 (fun gk i wr => ∃ k : Nat, k ≤ 301 ∧ gk = 301 - k ∧ i = .int .i64 k ∧ idxS p l 0 = idxS p (l.drop k) k ∧ Below w.heap.size w wr)
  case atStart => exact ⟨0, Nat.zero_le _, rfl, rfl, rfl, Below.refl _ _⟩
  case round =>
    obtain ⟨k, hk, hgk, rfl, hid, hBe⟩ := hrel
    have Hgk := Lib.hid hgk
    have HBe := Lib.hid hBe
    have Hid' := Lib.hid hid
    clear hgk hid
    by_cases hlt : k < 301
    · have hki : (k : Int) < 301 := by omega
      have hkl : k < l.length := by rw [H301.out]; exact hlt
      obtain ⟨c0, c1⟩ := HL.out.at_ hkl
      replace c0 := cell_below hBe c0
      replace c1 := cell_below hBe c1
      have cbl := World.block_lt_of_cell? _ _ c0
      simp only [Nat.zero_add] at c0 c1 cbl
      have hstep : idxS p l 0 = if p (gs l k).1 (gs l k).2 then (k : Int) else idxS p (l.drop (k + 1)) (k + 1) := by rw [Hid'.out, drop_gs hkl]; rfl
      have Hstep := Lib.hid hstep
      have hthis := HF.out (gs l k).1 (gs l k).2 wr hBe
      have Hthis := Lib.hid hthis
      clear hBe hstep hthis hkl
      go_wp2_with fail
      refine Hthis.out.mono ?_
      rintro e w3 ⟨rfl, hb3⟩
      have HB3 := Lib.hid (below_then HBe.out HBe.out.size hb3)
      clear hb3 c0 c1 cbl
      cases hp : p (gs l k).1 (gs l k).2 with
      | true =>
        have Hr := Lib.hid (Hstep.out.trans (by rw [hp, if_pos rfl]))
        clear hp
        go_wp2
        go_ret
        exact ⟨by rw [Hr.out]; rfl, HB3.out⟩
      | false =>
        have Hr := Lib.hid (Hstep.out.trans (by rw [hp, if_neg (by decide)]))
        clear hp
        go_wp2
        go_roundg (301 - (k + 1))
        case measure => have := Hgk.out; omega
        case rel => exact ⟨k + 1, by omega, rfl, by go_num, Hr.out, HB3.out⟩
    · obtain rfl : k = 301 := by omega
      have Hr := Lib.hid (show idxS p l 0 = -1 by rw [Hid'.out, List.drop_of_length_le (by rw [H301.out]; exact Nat.le_refl _)]; rfl)
      go_wp2
      go_ret
      exact ⟨by rw [Hr.out]; rfl, hBe⟩
def readyB (B : ForgeV) (lo hi : Int) : Bool := decide (B.glo ≤ lo) && (decide (B.crack ≤ lo) && decide (hi ≤ B.ghi))
def crackB (B : ForgeV) (lo hi : Int) : Bool := decide (lo < B.crack)
theorem Blows1_calls (B : ForgeV) (n4 : Nat) (lo hi : Int) (w : World) (k : BoxAt w n4 B.cells) : Calls Tryd.prog 90 #[.agg #[.int .i64 lo, .int .i64 hi], .pointer (some ⟨n4, 0, none⟩)] w fun e w' => e = .returned (.bool (readyB B lo hi)) ∧ Below w.heap.size w w' := by
  unfold ForgeV.cells at k
  obtain ⟨c4, f4, l4⟩ := k
  have hr : Hid (readyB B lo hi = (decide (B.glo ≤ lo) && (decide (B.crack ≤ lo) && decide (hi ≤ B.ghi)))) := Lib.hid rfl
  rcases Int.lt_or_le B.glo B.crack with h0 | h0
  all_goals
    by_cases h1 : B.glo ≤ lo <;> by_cases h2 : B.crack ≤ lo <;> by_cases h3 : hi ≤ B.ghi
    all_goals
      first
      | omega
      | (go_enter Tryd.func90, Tryd.ntmps90
         go_wp2
         go_ret
         exact ⟨by rw [hr.out]; simp [h1, h2, h3], (Below.refl _ _).alloc (Nat.le_refl _) _⟩)
theorem Sound1_calls (B : ForgeV) (n4 : Nat) (lo hi : Int) (w : World) (k : BoxAt w n4 B.cells) : Calls Tryd.prog 91 #[.agg #[.int .i64 lo, .int .i64 hi], .pointer (some ⟨n4, 0, none⟩)] w fun e w' => e = .returned (.bool (crackB B lo hi)) ∧ Below w.heap.size w w' := by
  unfold ForgeV.cells at k
  obtain ⟨c4, f4, l4⟩ := k
  have hr : Hid (crackB B lo hi = decide (lo < B.crack)) := Lib.hid rfl
  by_cases h1 : lo < B.crack
  all_goals
    go_enter Tryd.func91, Tryd.ntmps91
    go_wp2
    go_ret
    exact ⟨by rw [hr.out]; simp [h1], (Below.refl _ _).alloc (Nat.le_refl _) _⟩
theorem entersBlows1 : ∀ args w, (callFunc 90 args).run Tryd.prog w = .ok (.enter 90 args) w := enters_of Tryd.func90 (by kernel_rfl) rfl
theorem entersSound1 : ∀ args w, (callFunc 91 args).run Tryd.prog w = .ok (.enter 91 args) w := enters_of Tryd.func91 (by kernel_rfl) rfl
end
end Go.Proofs.YtgfbfbfajnfbjaaDoor
