import Derived.Test.YtljikigmfkfkiaaDoorAX
import Derived.Test.YtljikigmfkfkiaaDoorBB
import Derived.Test.YtljikigmfkfkiaaDoorBC
import Derived.Test.YtljikigmfkfkiaaDoorBE
import Derived.Test.YtljikigmfkfkiaaDoorBF
namespace Go.Proofs.YtljikigmfkfkiaaDoor
open Go.RowKit Go.Shelf
attribute [local go_sem] Oper.semAt_some
set_option linter.unusedSimpArgs false
set_option linter.unusedVariables false

theorem path_dif {B : BookV} {path : List Int} (ip : IsPath B path) {k : Nat} (hk : k + 1 < path.length) (h : gi path (k + 1) ≠ gi path k) : gi path (k + 1) - gi path k = 1 ∨ gi path (k + 1) - gi path k = -1 := by
  have := ip.step (k + 1) (by omega) hk
  simp only [Nat.add_sub_cancel] at this
  omega
set_option maxRecDepth 100000 in
set_option maxHeartbeats 8000000 in
theorem DrumCued_calls (B : BookV) (A : Option Addr) (c : Nat) (bits : List Int) (w : World) (hB : B.Reads w) (hp : IntsAt w A bits) (hM : MarksAt w) :
    Calls Tryd.prog 13 #[B.val, .slice A bits.length c] w fun e w' => e = .returned (.bool true) ∧ Below w.heap.size w w' := by
  have HB := Lib.hid hB
  have HP := Lib.hid hp
  have HM := Lib.hid hM
  have H : Below w.heap.size w (w.alloc (.cells B.cells 27)) := (Below.refl _ _).alloc (Nat.le_refl _) _
  have k2 := BoxAt.new w B.cells 27
  clear hB hp hM
  unfold BookV.val BookV.cells
  go_enter Tryd.func13, Tryd.ntmps13
  go_upto_region 1 with (fail)
  unfold BookV.cells at H k2
  generalize w.alloc _ = w0 at *
  have K2 := Lib.hid k2
  obtain ⟨c2, f2, l2⟩ := k2
  go_wp2_with fail
  refine (eq0_1 (v' := B.val) (by unfold BookV.val BookV.cells; rfl) (sound_calls B _ (HB.out.below H))).mono ?_
  rintro e w1 ⟨rfl, hb⟩
  replace H := below_then H H.size hb
  replace K2 := Lib.hid (K2.out.below hb)
  clear hb c2 f2 l2
  cases hg : goodB B with
  | false =>
    have HH := Lib.hid H
    clear H hg
    go_wp2_with fail
    refine (works_calls _ (HM.out.below HH.out)).mono ?_
    rintro e w2 ⟨rfl, hb⟩
    have hfin := below_then HH.out HH.out.size hb
    clear hb
    go_wp2
    go_ret
    exact ⟨rfl, hfin⟩
  | true =>
    have Hgg := Lib.hid hg
    have g := Lib.hid ((goodB_iff B).1 hg)
    clear hg
    obtain ⟨c2, f2, l2⟩ := K2.out
    go_wp2_with fail
    refine (eq0_2 (v' := B.val) (by unfold BookV.val BookV.cells; rfl) (chosen_calls B g.out A c bits _ (HP.out.below H))).mono ?_
    rintro e w2 ⟨⟨A2, cc2, rfl, hi2, hc2⟩, hb⟩
    replace H := below_then H H.size hb
    replace K2 := Lib.hid (K2.out.below hb)
    have ip := Lib.hid (chosenP_path g.out bits)
    generalize chosenP B bits = path at *
    have Hi2 := Lib.hid hi2
    clear hb c2 f2 l2 hi2
    obtain ⟨c2, f2, l2⟩ := K2.out
    go_wp2_with fail
    refine (eq0_2 (v' := B.val) (by unfold BookV.val BookV.cells; rfl) (Cues_calls B A2 cc2 path _ (HB.out.below H) Hi2.out)).mono ?_
    rintro e w3 ⟨hR, hb⟩
    obtain ⟨A3, rfl, hs3⟩ : ∃ A, e = .returned (.tuple #[.slice A (cuesTo B path (path.length - 1)).length (cuesTo B path (path.length - 1)).length, .int .i64 0]) ∧ SpansAt w3 A (cuesTo B path (path.length - 1)) := by
      rcases hR with ⟨h, _⟩ | ⟨_, h, _⟩ | ⟨_, _, A, rfl, hi⟩
      · rw [Hgg.out] at h; cases h
      · rw [(isPathS_iff g.out path).2 ip.out] at h; cases h
      · exact ⟨A, rfl, hi⟩
    replace H := below_then H H.size hb
    replace K2 := Lib.hid (K2.out.below hb)
    replace Hi2 := Lib.hid (Hi2.out.below hb)
    have Hs3 := Lib.hid hs3
    have hlen := ip.out.len
    have hpp := g.out.parts
    obtain ⟨n, hn⟩ : ∃ n, path.length = n + 1 := ⟨path.length - 1, by omega⟩
    have hn8 : n + 1 ≤ 8 := by omega
    have hnp : B.parts = (n : Int) + 1 := by omega
    have hcl : (cuesTo B path n).length = changesTo path n := cues_len B path n
    have Hcl := Lib.hid hcl
    have hle := cuesTo_le B path n
    have Hn := Lib.hid hn
    rw [hn, Nat.add_sub_cancel] at Hs3 ⊢
    have HH := Lib.hid H
    clear hb hR hs3 c2 f2 l2 hcl hpp hlen H
    go_wp2_with fail
    rw [← Hn.out]
    refine (lawChanges_calls A2 cc2 path (by have := Hn.out; omega) _ Hi2.out).mono ?_
    rintro e w4 ⟨rfl, hb⟩
    rw [Hn.out, Nat.add_sub_cancel, ← Hcl.out]
    have H4 := Lib.hid (below_then HH.out HH.out.size hb)
    have K24 := Lib.hid (K2.out.below hb)
    have Hi4 := Lib.hid (Hi2.out.below hb)
    have Hs4 := Lib.hid (Hs3.out.below hb)
    clear hb hn
    obtain ⟨c2, f2, l2⟩ := K24.out
    go_upto_block 0 with (fail)
    clear c2 f2 l2
    have hsz := g.out.size
    have hno := g.out.notice
    go_wp2
    go_loopg [10, 8, 9] n (fun gk i nw nx wr => ∃ k : Nat, k ≤ n ∧ gk = n - k ∧ i = .int .i64 ((k : Int) + 1) ∧ nw = .int .i64 (gi path k) ∧ nx = .int .i64 ((cuesTo B path k).length : Int) ∧ Below w4.heap.size w4 wr)
    case atStart => exact ⟨0, Nat.zero_le _, rfl, rfl, (by rw [ip.out.start]), rfl, Below.refl _ _⟩
    case round =>
      obtain ⟨k, hk, hgk, rfl, rfl, rfl, hbe⟩ := hrel
      have Hgk := Lib.hid hgk
      have Hbe := Lib.hid hbe
      have HW := Lib.hid (below_then H4.out H4.out.size hbe)
      obtain ⟨c2, f2, l2⟩ := K24.out.below hbe
      clear hgk hbe
      rw [hnp] at c2
      by_cases hlt : k < n
      · have hkn : (k : Int) + 1 < (n : Int) + 1 := by omega
        obtain ⟨b2, o2, rfl⟩ := Hi4.out.some_ (by have := Hn.out; omega)
        have hck := cell_below Hbe.out (Hi4.out.at_ (show k + 1 < path.length by have := Hn.out; omega))
        have bk := World.block_lt_of_cell? _ _ hck
        simp only at bk
        have hkp : (k : Int) + 1 < path.length := by have := Hn.out; omega
        have hpl : path.length ≤ 9223372036854775807 := Hi4.out.1
        obtain ⟨hch, hsame⟩ := cues_next B path n k hlt
        have hrg := ip.out.range k (by have := Hn.out; omega)
        have hmul0 : 1 * B.size ≤ ((k : Int) + 1) * B.size := Int.mul_le_mul_of_nonneg_right (by omega) (by omega)
        have hmul1 : ((k : Int) + 1) * B.size ≤ 8 * 16 := Int.mul_le_mul (by omega) hsz.2 (by omega) (by omega)
        have hwm : IntKind.i64.wrap (((k : Int) + 1) * B.size) = ((k : Int) + 1) * B.size := wrap_in (by omega) (by omega)
        have hws : IntKind.i64.wrap (((k : Int) + 1) * B.size - B.notice) = ((k : Int) + 1) * B.size - B.notice := wrap_in (by omega) (by omega)
        have hk0 : (0 : Int) ≤ (k : Int) + 1 := by omega
        by_cases hd : gi path (k + 1) = gi path k
        · have hst : (cuesTo B path (k + 1)).length = (cuesTo B path k).length := by rw [cuesTo]; simp [hd]
          have Hst := Lib.hid hst
          have Hd := Lib.hid hd
          have hbe2 : (gi path k != gi path (k + 1)) = false := by rw [bne_eq_false_iff_eq]; exact hd.symm
          by_cases hm : (cuesTo B path k).length < (cuesTo B path n).length
          · obtain ⟨m, hkm, he⟩ := hsame hd hm
            have hne := mark_ne hsz.1 hkm B.notice
            rw [← he] at hne
            have hbe3 : ((gs (cuesTo B path n) (cuesTo B path k).length).1 == ((k : Int) + 1) * B.size - B.notice) = false := by rw [beq_eq_false_iff_ne]; exact hne
            obtain ⟨b3, o3, rfl, hsc⟩ := Hs4.out.2.resolve_left (by intro e; rw [e] at hm; simp at hm)
            have s0 := cell_below Hbe.out (hsc _ hm).1
            have bs := World.block_lt_of_cell? _ _ s0
            simp only at bs
            have hmi : ((cuesTo B path k).length : Int) < (cuesTo B path n).length := by omega
            have hml : (cuesTo B path n).length ≤ 9223372036854775807 := by omega
            clear hch hsame he hne hsc hd hst
            generalize (gs (cuesTo B path n) (cuesTo B path k).length).1 = x1 at *
            go_wp2
            go_quiet (fail)
            go_wp2
            go_roundg (n - (k + 1))
            case measure => have := Hgk.out; omega
            case rel => exact ⟨k + 1, by omega, rfl, by go_num, by rw [Hd.out], by rw [Hst.out], below_drewN Hbe.out _⟩
          · have hmi : ¬ ((cuesTo B path k).length : Int) < (cuesTo B path n).length := by omega
            clear hch hsame hd hst
            go_wp2
            go_quiet (fail)
            go_wp2
            go_roundg (n - (k + 1))
            case measure => have := Hgk.out; omega
            case rel => exact ⟨k + 1, by omega, rfl, by go_num, by rw [Hd.out], by rw [Hst.out], below_drewN Hbe.out _⟩
        · obtain ⟨hm, he⟩ := hch hd
          have hst : (cuesTo B path (k + 1)).length = (cuesTo B path k).length + 1 := by rw [cuesTo]; simp [hd]
          have Hst := Lib.hid hst
          obtain ⟨b3, o3, rfl, hsc⟩ := Hs4.out.2.resolve_left (by intro e; rw [e] at hm; simp at hm)
          have s0 := cell_below Hbe.out (hsc _ hm).1
          have s1 := cell_below Hbe.out (hsc _ hm).2
          rw [he] at s0 s1
          have bs := World.block_lt_of_cell? _ _ s0
          simp only at bs s0 s1
          have hmi : ((cuesTo B path k).length : Int) < (cuesTo B path n).length := by omega
          have hml : (cuesTo B path n).length ≤ 9223372036854775807 := by omega
          have hx0 : ¬ ((k : Int) + 1) * B.size - B.notice < 0 := by omega
          have hdif := path_dif ip.out (by have := Hn.out; omega) hd
          have hww : IntKind.i64.wrap (gi path k + (gi path (k + 1) - gi path k)) = gi path k + (gi path (k + 1) - gi path k) := wrap_in (by omega) (by omega)
          have hww2 : IntKind.i64.wrap (((cuesTo B path k).length : Int) + 1) = ((cuesTo B path k).length : Int) + 1 := wrap_in (by omega) (by omega)
          have hnow : (gi path k + (gi path (k + 1) - gi path k) != gi path (k + 1)) = false := by rw [bne_eq_false_iff_eq]; omega
          have Hnow : Hid (gi path k + (gi path (k + 1) - gi path k) = gi path (k + 1)) := by unfold Hid; omega
          clear hch hsame he hsc hd hst
          obtain ⟨x1, hx1⟩ : ∃ x1, x1 = ((k : Int) + 1) * B.size - B.notice := ⟨_, rfl⟩
          rw [← hx1] at s0 hx0
          have hbeq : (x1 == ((k : Int) + 1) * B.size - B.notice) = true := by rw [hx1]; exact beq_self_eq_true _
          clear hx1
          generalize gi path (k + 1) - gi path k = x2 at *
          rcases hdif with rfl | rfl
          all_goals
            go_wp2
            go_quiet (fail)
            go_wp2
            go_roundg (n - (k + 1))
            case measure => have := Hgk.out; omega
            case rel => exact ⟨k + 1, by omega, rfl, by go_num, by rw [← Hnow.out], (by rw [Hst.out]; rfl), below_drewN Hbe.out _⟩
      · obtain rfl : k = n := by omega
        have HWW := Lib.hid HW.out
        go_wp2_with fail
        refine (works_calls _ (HM.out.below HW.out)).mono ?_
        rintro e w5 ⟨rfl, hb⟩
        have hfin := below_then HWW.out HWW.out.size hb
        clear hb c2 f2 l2
        go_wp2
        go_ret
        exact ⟨rfl, hfin⟩
end Go.Proofs.YtljikigmfkfkiaaDoor
