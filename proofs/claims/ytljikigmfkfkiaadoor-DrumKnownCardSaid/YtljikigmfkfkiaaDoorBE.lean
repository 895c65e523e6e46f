import Derived.Test.YtljikigmfkfkiaaDoorAC
import Derived.Test.YtljikigmfkfkiaaDoorAW
import Derived.Test.YtljikigmfkfkiaaDoorBD
namespace Go.Proofs.YtljikigmfkfkiaaDoor
open Go.RowKit Go.Shelf
attribute [local go_sem] Oper.semAt_some
set_option linter.unusedSimpArgs false
set_option linter.unusedVariables false

/-- the path that numbers choose, its first k + 1 parts -/
def chosenTo (B : BookV) (bits : List Int) : Nat → List Int
  | 0 => [B.start]
  | k + 1 => chosenTo B bits k ++ [drawZ (max 0 (gi (chosenTo B bits k) k - 1)) (min 3 (gi (chosenTo B bits k) k + 1)) (nthZ bits ((k + 1 : Nat) : Int))]
def chosenP (B : BookV) (bits : List Int) : List Int := chosenTo B bits (B.parts.toNat - 1)
theorem chosenTo_len (B : BookV) (bits : List Int) : ∀ k, (chosenTo B bits k).length = k + 1
  | 0 => rfl
  | k + 1 => by rw [chosenTo, List.length_append, chosenTo_len B bits k]; rfl
theorem chosenTo_pre {B : BookV} (g : B.Good) (bits : List Int) : ∀ k, IsPre B (chosenTo B bits k)
  | 0 => g.one
  | k + 1 => by
    have h := chosenTo_pre g bits k
    have hl := chosenTo_len B bits k
    have hr := h.range k (by omega)
    have hd := drawZ_in (lo := max 0 (gi (chosenTo B bits k) k - 1)) (hi := min 3 (gi (chosenTo B bits k) k + 1)) (n := nthZ bits ((k + 1 : Nat) : Int)) (by omega)
    refine h.snoc _ (by omega) ?_
    rw [hl, Nat.add_sub_cancel]; omega
theorem chosenP_path {B : BookV} (g : B.Good) (bits : List Int) : IsPath B (chosenP B bits) := by
  refine (chosenTo_pre g bits _).path ?_
  rw [chosenTo_len]; have := g.parts; omega
theorem OwnInts.lit1 (w : World) (x : Int) : OwnInts (w.alloc (.cells #[.int .i64 x] 3)) w.heap.size (.slice (some ⟨w.heap.size, 0, none⟩) 1 1) [x] :=
  World.ownsRow_lit w #[.int .i64 x] 1 (Nat.le_refl _) (by unfold maxLen; omega) rfl
set_option maxRecDepth 100000 in
set_option maxHeartbeats 4000000 in
theorem chosen_calls (B : BookV) (g : B.Good) (A : Option Addr) (c : Nat) (bits : List Int) (w : World) (hp : IntsAt w A bits) :
    Calls Tryd.prog 44 #[B.val, .slice A bits.length c] w fun e w' => (∃ A' c', e = .returned (.slice A' (chosenP B bits).length c') ∧ IntsAt w' A' (chosenP B bits) ∧ (chosenP B bits).length ≤ c') ∧ Below w.heap.size w w' := by
  have Hg := Lib.hid g
  have HP := Lib.hid hp
  have hpp := g.parts
  have Hb : Below w.heap.size w (w.alloc (.cells B.cells 27)) := (Below.refl _ _).alloc (Nat.le_refl _) _
  have k2 := (BoxAt.new w B.cells 27)
  obtain ⟨np, hnp⟩ : ∃ np : Nat, B.parts = (np : Int) := Int.eq_ofNat_of_zero_le (by omega)
  have Hfin : Hid (chosenP B bits = chosenTo B bits (np - 1)) := by unfold Hid chosenP; rw [hnp]; rfl
  have hnp1 : 1 ≤ np ∧ np ≤ 8 := by omega
  clear g hp hpp
  unfold BookV.val BookV.cells
  rw [hnp]
  go_enter Tryd.func44, Tryd.ntmps44
  go_upto_region 1 with (fail)
  unfold BookV.cells at k2 Hb
  rw [hnp] at k2 Hb
  generalize w.alloc _ = w2 at *
  have K2 := Lib.hid k2
  obtain ⟨c2, f2, l2⟩ := k2
  go_upto_block 0 with (fail)
  have hown0 := OwnInts.lit1 w2 B.start
  have hn3 : Below w2.heap.size w2 (w2.alloc (.cells #[.int .i64 B.start] 3)) := (Below.refl _ _).alloc (Nat.le_refl _) _
  have Hown0 := Lib.hid hown0
  have Hn3 := Lib.hid hn3
  clear hown0 hn3 c2 f2 l2
  go_wp2
  go_loopg [6, 5] (np - 1) (fun gk i v wr => ∃ k : Nat, k + 1 ≤ np ∧ gk = np - 1 - k ∧ i = .int .i64 ((k + 1 : Nat) : Int) ∧ OwnInts wr w2.heap.size v (chosenTo B bits k) ∧ Below w2.heap.size w2 wr)
  case atStart => exact ⟨0, by omega, rfl, rfl, Hown0.out, Hn3.out⟩
  case round =>
    obtain ⟨k, hk, hgk, rfl, hown, hbe⟩ := hrel
    have Hgk := Lib.hid hgk
    have Hown := Lib.hid hown
    have Hbe := Lib.hid hbe
    have HbW := Lib.hid (below_then Hb Hb.size hbe)
    obtain ⟨c2, f2, l2⟩ := K2.out.below hbe
    clear hgk hown hbe
    have hlen := chosenTo_len B bits k
    obtain ⟨A', c', rfl, hi', hc', hm', _, h0⟩ := Hown.out.reads
    by_cases hlt : k + 1 < np
    · have hlti : ((k : Int) + 1) < (np : Int) := by omega
      obtain ⟨b', o', rfl⟩ := hi'.some_ (by omega)
      have hcell := hi'.at_ (show k < (chosenTo B bits k).length by omega)
      have bk := World.block_lt_of_cell? _ _ hcell
      simp only at bk
      have hrg := (chosenTo_pre Hg.out bits k).range k (by omega)
      have Hs : Hid (chosenTo B bits (k + 1) = chosenTo B bits k ++ [drawZ (max 0 (gi (chosenTo B bits k) k - 1)) (min 3 (gi (chosenTo B bits k) k + 1)) (nthZ bits ((k + 1 : Nat) : Int))]) := rfl
      have Hlen := Lib.hid hlen
      rw [hlen] at hc'
      have ho3 := Hown.out
      rw [hlen] at ho3
      replace Hown := Lib.hid ho3
      clear ho3
      clear hi' h0
      rw [hlen]
      clear hlen
      generalize chosenTo B bits k = L at *
      generalize hx : gi L k = x at *
      have hw1 : IntKind.i64.wrap ((k : Int) + 1 - 1) = (k : Int) := by rw [show (k : Int) + 1 - 1 = k by omega]; exact wrap_in (by omega) (by omega)
      have hw2 : IntKind.i64.wrap (x - 1) = x - 1 := wrap_in (by omega) (by omega)
      have hw3 : IntKind.i64.wrap (x + 1) = x + 1 := wrap_in (by omega) (by omega)
      have hki : (k : Int) < (k : Int) + 1 := by omega
      clear hx
      have hx4 : x = 0 ∨ x = 1 ∨ x = 2 ∨ x = 3 := by omega
      clear hw2 hw3 hrg
      go_upto_region 6 with (fail)
      clear hcell c2 f2 l2
      rcases hx4 with rfl | rfl | rfl | rfl
      all_goals
        go_wp2_with fail
        refine (Band_calls _ _ _).mono ?_
        rintro e w3 ⟨rfl, hb3⟩
        have hb3' := Lib.hid hb3
        have Hbw3 := Lib.hid (below_then HbW.out HbW.out.size hb3)
        clear hb3
        go_wp2_with fail
        refine (Nth_calls A c bits _ _ (HP.out.below Hbw3.out)).mono ?_
        rintro e w4 ⟨rfl, rfl⟩
        go_wp2_with fail
        refine (Draw_calls _ _ _ _ (by omega) (by omega) (by omega) (by omega)).mono ?_
        rintro e w5 ⟨rfl, hb5⟩
        have hbr := below_then hb3'.out hb3'.out.size hb5
        have Ho5 := Lib.hid (Hown.out.keep hbr)
        have Hbr := Lib.hid (below_then Hbe.out Hbe.out.size hbr)
        clear hb5 hbr
        go_wp2_with (at_builtin; refine wpList_app1 _ rfl _ _ rfl w2.heap.size _ _ rfl (Ho5.out.alloc _) _ _ _ rfl (cell_new1 _ _ _) (by have := Hlen.out; omega) (by have := Hbr.out.size; simp; omega) ?_)
        intro v' w6 ho hb6 hsz _
        have Hho := Lib.hid ho
        have Hb6 := Lib.hid hb6
        clear ho hb6 hsz
        go_wp2
        go_roundg (np - 1 - (k + 1))
        case measure => have := Hgk.out; omega
        case rel => exact ⟨k + 1, by omega, rfl, by go_num, by rw [Hs.out]; exact Hho.out, (Hbr.out.alloc Hbr.out.size _).trans Hb6.out⟩
    · obtain rfl : np = k + 1 := by omega
      have Hi' := Lib.hid hi'
      clear hi'
      go_wp2
      go_ret
      exact ⟨⟨A', c', (by rw [Hfin.out]; rfl), by rw [Hfin.out]; exact Hi'.out, by rw [Hfin.out]; exact hc'⟩, HbW.out⟩
end Go.Proofs.YtljikigmfkfkiaaDoor
