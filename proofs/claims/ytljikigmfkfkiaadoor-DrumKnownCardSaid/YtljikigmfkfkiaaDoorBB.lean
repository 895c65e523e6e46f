import Derived.Test.YtljikigmfkfkiaaDoorAW
import Derived.Test.YtljikigmfkfkiaaDoorAC
namespace Go.Proofs.YtljikigmfkfkiaaDoor
open Go.RowKit Go.Shelf
attribute [local go_sem] Oper.semAt_some
set_option linter.unusedSimpArgs false
set_option linter.unusedVariables false

set_option maxRecDepth 100000 in
set_option maxHeartbeats 1000000 in
theorem lawLasts_calls (B : BookV) (g : B.Good) (A : Option Addr) (c : Nat) (path : List Int) (hp : IsPath B path) (w : World) (hpa : IntsAt w A path) (hbe : IntsAt w B.bA B.beats) :
    Calls Tryd.prog 42 #[B.val, .slice A path.length c] w fun e w' => e = .returned (.int .i64 (timeTo B path path.length)) ∧ Below w.heap.size w w' := by
  have hl := hp.len
  have hpp := g.parts
  have hpl := hpa.1
  obtain ⟨b, o, rfl, hc⟩ := hpa.2.resolve_left (by intro h; rw [h] at hl; simp at hl; omega)
  have hbl := g.beatsLen
  obtain ⟨b2, o2, e2, hc2⟩ := hbe.2.resolve_left (by intro h; rw [h] at hbl; simp at hbl)
  have Hc := Lib.hid hc
  have Hc2 := Lib.hid hc2
  have Hg := Lib.hid g
  have Hp := Lib.hid hp
  have Hbl := Lib.hid hbl
  clear hc hc2 hl hpp g hp hpa hbe
  unfold BookV.val BookV.cells
  rw [e2, hbl]
  clear e2 hbl
  go_enter Tryd.func42, Tryd.ntmps42
  go_upto_block 0 with (fail)
  have k2 := BoxAt.new w #[.int .i64 B.parts, .int .i64 B.size, .slice (some ⟨b2, o2, none⟩) 4 B.bCap, .int .i64 B.start, .int .i64 B.fin, .int .i64 B.tlo, .int .i64 B.thi, .int .i64 B.slo, .int .i64 B.shi, .int .i64 B.notice, .slice B.pA B.players.length B.pCap] 27
  have H2 : Below w.heap.size w (w.alloc (.cells #[.int .i64 B.parts, .int .i64 B.size, .slice (some ⟨b2, o2, none⟩) 4 B.bCap, .int .i64 B.start, .int .i64 B.fin, .int .i64 B.tlo, .int .i64 B.thi, .int .i64 B.slo, .int .i64 B.shi, .int .i64 B.notice, .slice B.pA B.players.length B.pCap] 27)) := (Below.refl _ _).alloc (Nat.le_refl _) _
  generalize w.alloc (.cells #[.int .i64 B.parts, .int .i64 B.size, .slice (some ⟨b2, o2, none⟩) 4 B.bCap, .int .i64 B.start, .int .i64 B.fin, .int .i64 B.tlo, .int .i64 B.thi, .int .i64 B.slo, .int .i64 B.shi, .int .i64 B.notice, .slice B.pA B.players.length B.pCap] 27) = w2 at *
  have K2 := Lib.hid k2
  clear k2
  go_wp2
  go_loopg [6, 5] path.length (fun gk i s wr => ∃ k : Nat, k ≤ path.length ∧ gk = path.length - k ∧ i = .int .i64 k ∧ s = .int .i64 (timeTo B path k) ∧ Below w2.heap.size w2 wr)
  case atStart => exact ⟨0, Nat.zero_le _, rfl, rfl, rfl, Below.refl _ _⟩
  case round =>
    obtain ⟨k, hk, hgk, rfl, rfl, hB⟩ := hrel
    have Hgk := Lib.hid hgk
    clear hgk
    have HB := below_then H2 H2.size hB
    have hbd := timeTo_bd Hg.out Hp.out k
    have hlen : path.length ≤ 8 := by have := Hp.out.len; have := Hg.out.parts; omega
    by_cases hlt : k < path.length
    · obtain ⟨c2, f2, l2⟩ := K2.out.below hB
      have hck := cell_below HB (Hc.out k hlt)
      obtain ⟨lv, hlv⟩ := Int.eq_ofNat_of_zero_le (gi_path Hp.out k).1
      have hlv4 : lv < 4 := by have := (gi_path Hp.out k).2; omega
      have hlvi : (lv : Int) < 4 := by omega
      have hcb := cell_below HB (Hc2.out lv (by rw [Hbl.out]; omega))
      have hst : Hid (timeTo B path (k + 1) = timeTo B path k + B.size * gi B.beats lv) := by unfold Hid; rw [timeTo, hlv, Int.toNat_natCast]
      rw [hlv] at hck
      have h3 := Hg.out.beats lv hlv4
      have h4 := Hg.out.size
      have h5 : 0 ≤ B.size * gi B.beats lv := Int.mul_nonneg (by omega) (by omega)
      have h6 : B.size * gi B.beats lv ≤ 16 * 1000 := Int.mul_le_mul h4.2 h3.2 (by omega) (by omega)
      have hw1 : IntKind.i64.wrap (B.size * gi B.beats lv) = B.size * gi B.beats lv := wrap_in (by omega) (by omega)
      have hw2 : IntKind.i64.wrap (timeTo B path k + B.size * gi B.beats lv) = timeTo B path k + B.size * gi B.beats lv := wrap_in (by omega) (by omega)
      have b1 := World.block_lt_of_cell? _ _ hck
      have b3 := World.block_lt_of_cell? _ _ hcb
      simp only at b1 b3
      have hki : (k : Int) < path.length := by omega
      have Hlv := Lib.hid hlv
      clear hlv
      go_wp2
      go_quiet (fail)
      go_wp2
      go_roundg (path.length - (k + 1))
      case measure => have := Hgk.out; omega
      case rel => exact ⟨k + 1, by omega, rfl, by go_num, by rw [hst.out], below_drewN hB _⟩
    · obtain rfl : k = path.length := by omega
      go_wp2
      go_ret
      exact ⟨rfl, HB⟩

set_option maxRecDepth 100000 in
set_option maxHeartbeats 1000000 in
theorem lawChanges_calls (A : Option Addr) (c : Nat) (path : List Int) (hl8 : path.length ≤ 100) (w : World) (hpa : IntsAt w A path) :
    Calls Tryd.prog 50 #[.slice A path.length c] w fun e w' => e = .returned (.int .i64 (changesTo path (path.length - 1))) ∧ Below w.heap.size w w' := by
  by_cases h0 : path.length ≤ 1
  · have hz : ¬ (1 : Int) < path.length := by omega
    have hr : changesTo path (path.length - 1) = 0 := by rw [show path.length - 1 = 0 by omega]; rfl
    have Hr := Lib.hid hr
    clear hr h0
    go_enter Tryd.func50, Tryd.ntmps50
    go_wp2
    refine wp_loop_rounds 1 ?_
    rw [rounds_succ]
    go_wp2
    go_ret
    exact ⟨(by rw [Hr.out]; rfl), Below.refl _ _⟩
  · obtain ⟨b, o, rfl, hc⟩ := hpa.2.resolve_left (by intro h; rw [h] at h0; simp at h0)
    have hle := hpa.1
    have Hc := Lib.hid hc
    clear hc hpa
    go_enter Tryd.func50, Tryd.ntmps50
    go_wp2
    go_loopg [4, 3] (path.length - 1) (fun gk i s wr => ∃ k : Nat, 1 ≤ k ∧ k ≤ path.length ∧ gk = path.length - k ∧ i = .int .i64 k ∧ s = .int .i64 (changesTo path (k - 1) : Nat) ∧ Below w.heap.size w wr)
    case atStart => exact ⟨1, Nat.le_refl _, by omega, rfl, rfl, rfl, Below.refl _ _⟩
    case round =>
      obtain ⟨k, hk1, hk, hgk, rfl, rfl, hB⟩ := hrel
      have Hgk := Lib.hid hgk
      clear hgk
      by_cases hlt : k < path.length
      · obtain ⟨m, rfl⟩ : ∃ m, k = m + 1 := ⟨k - 1, by omega⟩
        have hck := cell_below hB (Hc.out (m + 1) hlt)
        have hcp := cell_below hB (Hc.out m (by omega))
        have bk := World.block_lt_of_cell? _ _ hck
        simp only at bk
        have hki : (m : Int) + 1 < path.length := by omega
        have hkm : (m : Int) < path.length := by omega
        have hm0 : (0 : Int) ≤ (m : Int) + 1 := by omega
        have hcle : changesTo path m ≤ m := changesTo_le path m
        have Hs : Hid (changesTo path (m + 1) = changesTo path m + if gi path m = gi path (m + 1) then 0 else 1) := Lib.hid rfl
        have hw1 : IntKind.i64.wrap ((m : Int) + 1 + 1) = (m : Int) + 1 + 1 := wrap_in (by omega) (by omega)
        have hw3 : IntKind.i64.wrap ((m : Int) + 1 - 1) = (m : Int) := by rw [show (m : Int) + 1 - 1 = m by omega]; exact wrap_in (by omega) (by omega)
        have hw2 : IntKind.i64.wrap ((changesTo path m : Nat) + 1 : Int) = (changesTo path m : Nat) + 1 := wrap_in (by omega) (by omega)
        have he : m + 1 - 1 = m := by omega
        by_cases hd : gi path (m + 1) = gi path m
        · have hbe : (gi path (m + 1) != gi path m) = false := by rw [bne_eq_false_iff_eq]; exact hd
          have Hd : Hid (changesTo path (m + 1) = changesTo path m) := by unfold Hid; rw [Hs.out, if_pos hd.symm]; omega
          clear hd
          go_wp2
          go_quiet (fail)
          go_wp2
          go_roundg (path.length - (m + 1 + 1))
          case measure => have := Hgk.out; omega
          case rel => exact ⟨m + 1 + 1, by omega, by omega, rfl, by go_num, (by rw [show m + 1 + 1 - 1 = m + 1 by omega, Hd.out]; rfl), below_drewN hB _⟩
        · have hbe : (gi path (m + 1) != gi path m) = true := by rw [bne_iff_ne]; exact hd
          have Hd : Hid (changesTo path (m + 1) = changesTo path m + 1) := by unfold Hid; rw [Hs.out, if_neg (fun e => hd e.symm)]
          clear hd
          go_wp2
          go_quiet (fail)
          go_wp2
          go_roundg (path.length - (m + 1 + 1))
          case measure => have := Hgk.out; omega
          case rel => exact ⟨m + 1 + 1, by omega, by omega, rfl, by go_num, by rw [show m + 1 + 1 - 1 = m + 1 by omega, Hd.out]; go_num, below_drewN hB _⟩
      · obtain rfl : k = path.length := by omega
        go_wp2
        go_ret
        exact ⟨rfl, hB⟩

set_option maxRecDepth 100000 in
set_option maxHeartbeats 1000000 in
theorem refChanges_calls (A : Option Addr) (c : Nat) (path : List Int) (hl8 : path.length ≤ 100) (w : World) (hpa : IntsAt w A path) :
    Calls Tryd.prog 77 #[.slice A path.length c] w fun e w' => e = .returned (.int .i64 (changesTo path (path.length - 1))) ∧ Below w.heap.size w w' := by
  by_cases h0 : path.length ≤ 1
  · have hz : ¬ (1 : Int) < path.length := by omega
    have hr : changesTo path (path.length - 1) = 0 := by rw [show path.length - 1 = 0 by omega]; rfl
    have Hr := Lib.hid hr
    clear hr h0
    go_enter Tryd.func77, Tryd.ntmps77
    go_wp2
    refine wp_loop_rounds 1 ?_
    rw [rounds_succ]
    go_wp2
    go_ret
    exact ⟨(by rw [Hr.out]; rfl), Below.refl _ _⟩
  · obtain ⟨b, o, rfl, hc⟩ := hpa.2.resolve_left (by intro h; rw [h] at h0; simp at h0)
    have hle := hpa.1
    have Hc := Lib.hid hc
    clear hc hpa
    go_enter Tryd.func77, Tryd.ntmps77
    go_wp2
    go_loopg [4, 3] (path.length - 1) (fun gk i s wr => ∃ k : Nat, 1 ≤ k ∧ k ≤ path.length ∧ gk = path.length - k ∧ i = .int .i64 k ∧ s = .int .i64 (changesTo path (k - 1) : Nat) ∧ Below w.heap.size w wr)
    case atStart => exact ⟨1, Nat.le_refl _, by omega, rfl, rfl, rfl, Below.refl _ _⟩
    case round =>
      obtain ⟨k, hk1, hk, hgk, rfl, rfl, hB⟩ := hrel
      have Hgk := Lib.hid hgk
      clear hgk
      by_cases hlt : k < path.length
      · obtain ⟨m, rfl⟩ : ∃ m, k = m + 1 := ⟨k - 1, by omega⟩
        have hck := cell_below hB (Hc.out (m + 1) hlt)
        have hcp := cell_below hB (Hc.out m (by omega))
        have bk := World.block_lt_of_cell? _ _ hck
        simp only at bk
        have hki : (m : Int) + 1 < path.length := by omega
        have hkm : (m : Int) < path.length := by omega
        have hm0 : (0 : Int) ≤ (m : Int) + 1 := by omega
        have hcle : changesTo path m ≤ m := changesTo_le path m
        have Hs : Hid (changesTo path (m + 1) = changesTo path m + if gi path m = gi path (m + 1) then 0 else 1) := Lib.hid rfl
        have hw1 : IntKind.i64.wrap ((m : Int) + 1 + 1) = (m : Int) + 1 + 1 := wrap_in (by omega) (by omega)
        have hw3 : IntKind.i64.wrap ((m : Int) + 1 - 1) = (m : Int) := by rw [show (m : Int) + 1 - 1 = m by omega]; exact wrap_in (by omega) (by omega)
        have hw2 : IntKind.i64.wrap ((changesTo path m : Nat) + 1 : Int) = (changesTo path m : Nat) + 1 := wrap_in (by omega) (by omega)
        have he : m + 1 - 1 = m := by omega
        by_cases hd : gi path (m + 1) = gi path m
        · have hbe : (gi path (m + 1) != gi path m) = false := by rw [bne_eq_false_iff_eq]; exact hd
          have Hd : Hid (changesTo path (m + 1) = changesTo path m) := by unfold Hid; rw [Hs.out, if_pos hd.symm]; omega
          clear hd
          go_wp2
          go_quiet (fail)
          go_wp2
          go_roundg (path.length - (m + 1 + 1))
          case measure => have := Hgk.out; omega
          case rel => exact ⟨m + 1 + 1, by omega, by omega, rfl, by go_num, (by rw [show m + 1 + 1 - 1 = m + 1 by omega, Hd.out]; rfl), below_drewN hB _⟩
        · have hbe : (gi path (m + 1) != gi path m) = true := by rw [bne_iff_ne]; exact hd
          have Hd : Hid (changesTo path (m + 1) = changesTo path m + 1) := by unfold Hid; rw [Hs.out, if_neg (fun e => hd e.symm)]
          clear hd
          go_wp2
          go_quiet (fail)
          go_wp2
          go_roundg (path.length - (m + 1 + 1))
          case measure => have := Hgk.out; omega
          case rel => exact ⟨m + 1 + 1, by omega, by omega, rfl, by go_num, by rw [show m + 1 + 1 - 1 = m + 1 by omega, Hd.out]; go_num, below_drewN hB _⟩
      · obtain rfl : k = path.length := by omega
        go_wp2
        go_ret
        exact ⟨rfl, hB⟩


end Go.Proofs.YtljikigmfkfkiaaDoor
