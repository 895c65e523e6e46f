import Derived.Test.YtgfbfbfajnfbjaaDoorCA
namespace Go.Proofs.YtgfbfbfajnfbjaaDoor
section
open Go.RowKit Go.Shelf
attribute [local go_sem] Oper.semAt_some
set_option linter.unusedSimpArgs false
set_option linter.unusedVariables false
/-! Sums of bars, melts out of a book's lots, and the tin that is poured. -/
set_option maxRecDepth 100000 in
set_option maxHeartbeats 2000000 in
theorem Sum_calls (A : Option Addr) (c : Nat) (l : List Int) (w : World) (hp : IntsAt w A l) (h4 : l.length ≤ 4) (hb : ∀ k, 0 ≤ gi l k ∧ gi l k ≤ 24) :
    Calls Tryd.prog 47 #[.slice A l.length c] w fun e w' => e = .returned (.int .i64 (sumTo l l.length)) ∧ w = w' := by
  have Hb := Lib.hid hb
  clear hb
  rcases Nat.eq_zero_or_pos l.length with h0 | h0
  · have hz : ¬ (0 : Int) < l.length := by omega
    have Hs : Hid (sumTo l l.length = 0) := by unfold Hid; rw [h0]; rfl
    clear hp h0 h4
    go_enter Tryd.func47, Tryd.ntmps47
    go_wp2
    refine wp_loop_rounds 1 ?_
    rw [rounds_succ]
    go_wp2
    go_ret
    exact ⟨by rw [Hs.out]; rfl, rfl⟩
  · obtain ⟨b, o, rfl, hc⟩ := hp.2.resolve_left (by intro e; rw [e] at h0; simp at h0)
    have Hc := Lib.hid hc
    clear hc hp h0
    go_enter Tryd.func47, Tryd.ntmps47
    go_wp2
    go_loop [4, 3] (fun i s => ∃ k : Nat, k ≤ l.length ∧ i = .int .i64 k ∧ s = .int .i64 (sumTo l k)) (fun i _ => l.length - (intOf i).toNat)
    case atStart => exact ⟨0, Nat.zero_le _, rfl, rfl⟩
    case round =>
      obtain ⟨k, hk, rfl, rfl⟩ := hrel
      by_cases hlt : k < l.length
      · have hck := Hc.out k hlt
        have bk := World.block_lt_of_cell? _ _ hck
        have hki : (k : Int) < l.length := by omega
        simp only at bk
        have b1 := sumTo_nn Hb.out k
        have b2 := Hb.out k
        have hw1 : IntKind.i64.wrap (sumTo l k + gi l k) = sumTo l k + gi l k := wrap_in (by omega) (by omega)
        go_wp2
        go_round
        case rel => exact ⟨k + 1, by omega, by go_num, rfl⟩
        case measure => simp [intOf]; omega
      · obtain rfl : k = l.length := by omega
        go_wp2
        go_ret
        exact ⟨rfl, rfl⟩
theorem within_at {B : ForgeV} {l : List Int} (h : withinS B l = true) : l.length = B.lots.length ∧ ∀ k, k < B.lots.length → 0 ≤ gi l k ∧ gi l k ≤ (gl B.lots k).bars := by
  unfold withinS at h
  rw [Bool.and_eq_true, decide_eq_true_eq] at h
  refine ⟨h.1, fun k hk => ?_⟩
  have h2 := h.2
  unfold inTo at h2
  exact inB_iff.1 (List.all_eq_true.1 h2 k (List.mem_range.2 hk))
theorem within_bd {B : ForgeV} (g : B.Good) {l : List Int} (h : withinS B l = true) (k : Nat) : 0 ≤ gi l k ∧ gi l k ≤ 24 := by
  have := withinS_bd g h k; omega
/-- the tin of bars lies between the least and the greatest -/
theorem tin_step {B : ForgeV} {m : List Int} (hi : Bool) (k : Nat) : tinTo B.lots m hi (k + 1) = tinTo B.lots m hi k + gi m k * endOf hi (gl B.lots k).lo (gl B.lots k).hi := rfl
set_option maxRecDepth 100000 in
set_option maxHeartbeats 4000000 in
theorem poured_calls (B : ForgeV) (g : B.Good) (A1 : Option Addr) (c1 : Nat) (l : List Int) (A2 : Option Addr) (c2 : Nat) (bits : List Int) (w : World) (hB : B.Reads w) (hl : IntsAt w A1 l) (hp : IntsAt w A2 bits) (hw : withinS B l = true) :
    Calls Tryd.prog 45 #[B.val, .slice A1 l.length c1, .slice A2 bits.length c2] w fun e w' => (∃ p : Int, e = .returned (.int .i64 p) ∧ tinTo B.lots l false B.lots.length ≤ p ∧ p ≤ tinTo B.lots l true B.lots.length) ∧ Below w.heap.size w w' := by
  have HB0 := Lib.hid hB
  have Hp0 := Lib.hid hp
  have Hg := Lib.hid g
  have hwa := within_at hw
  have hlen := hwa.1
  have Hwa := Lib.hid hwa.2
  have Hbd := Lib.hid (within_bd g hw)
  have hm4 := g.many
  obtain ⟨lb, lo, hlA⟩ := hB.lots.some_ (by omega)
  have hlt := hB.lots
  rw [hlA] at hlt
  have Hlt := Lib.hid hlt
  obtain ⟨ab, ao, rfl, hac⟩ := hl.2.resolve_left (by intro e; rw [e] at hlen; simp at hlen; omega)
  have Hac := Lib.hid hac
  have k3 := BoxAt.new w B.cells 28
  have H1 : Below w.heap.size w (w.alloc (.cells B.cells 28)) := (Below.refl _ _).alloc (Nat.le_refl _) _
  have hcells : B.val = .agg B.cells := rfl
  rw [hcells]
  unfold ForgeV.cells at k3 H1 ⊢
  rw [hlA] at k3 H1 ⊢
  have Hlen := Lib.hid hlen
  clear hB hp g hlA hwa hl hac hlt hw hlen
  go_enter Tryd.func45, Tryd.ntmps45
  go_upto_region 1 with fail
  generalize w.alloc _ = W1 at *
  have K3 := Lib.hid k3
  have HW1 := Lib.hid H1
  clear k3 H1
  go_wp2
  go_loopg [9, 8, 7] B.lots.length (fun gq i nx al wr => ∃ k : Nat, ∃ n p : Int, k ≤ B.lots.length ∧ gq = B.lots.length - k ∧ i = .int .i64 k ∧ nx = .int .i64 n ∧ 0 ≤ n ∧ n ≤ 24 * k ∧ al = .int .i64 p ∧ tinTo B.lots l false k ≤ p ∧ p ≤ tinTo B.lots l true k ∧ Below W1.heap.size W1 wr)
  case atStart => exact ⟨0, 0, 0, Nat.zero_le _, rfl, rfl, rfl, Int.le_refl _, by omega, rfl, Int.le_refl _, Int.le_refl _, Below.refl _ _⟩
  case round =>
    obtain ⟨k, n, p, hk, hgk, rfl, rfl, hn0, hn1, rfl, hp0, hp1, hbe⟩ := hrel
    have Hgk := Lib.hid hgk
    have Hbe := Lib.hid hbe
    have HBr := Lib.hid (HW1.out.trans (hbe.mono HW1.out.size))
    clear hgk hbe
    by_cases hlt' : k < B.lots.length
    · have hki : (k : Int) < l.length := by have := Hlen.out; omega
      have hac := Hac.out k (by have := Hlen.out; omega)
      have hbk := Hbd.out k
      have hlg := Hg.out.lot k hlt'
      have t1 := tinTo_bd Hg.out Hbd.out false k hk
      have t2 := tinTo_bd Hg.out Hbd.out true k hk
      go_upto_block 2 with (fail)
      go_wp2
      go_loopg [10, 8, 7] (gi l k).toNat (fun gq j nx al wq => ∃ jj : Nat, ∃ n' p' : Int, jj ≤ (gi l k).toNat ∧ gq = (gi l k).toNat - jj ∧ j = .int .i64 jj ∧ nx = .int .i64 n' ∧ 0 ≤ n' ∧ n' ≤ 24 * k + jj ∧ al = .int .i64 p' ∧ tinTo B.lots l false k + jj * (gl B.lots k).lo ≤ p' ∧ p' ≤ tinTo B.lots l true k + jj * (gl B.lots k).hi ∧ Below W1.heap.size W1 wq)
      case atStart => exact ⟨0, n, p, Nat.zero_le _, rfl, rfl, rfl, hn0, by omega, rfl, by simpa using hp0, by simpa using hp1, Hbe.out⟩
      case round =>
        obtain ⟨jj, n', p', hj, hgj, rfl, rfl, hn0', hn1', rfl, hp0', hp1', hbq⟩ := hrel
        have Hgj := Lib.hid hgj
        have Hbq := Lib.hid hbq
        have HBq := Lib.hid (HW1.out.trans (hbq.mono HW1.out.size))
        have p0 := (HBq.out.cell (World.block_lt_of_cell? _ _ hac)).trans hac
        have pbl := World.block_lt_of_cell? _ _ p0
        simp only at pbl
        obtain ⟨c3, f3, l3⟩ := K3.out.below hbq
        clear hgj hbq
        by_cases hjl : jj < (gi l k).toNat
        · have hji : (jj : Int) < gi l k := by omega
          have hpc := Hlt.out.at_ hlt'
          have q0 := (HBq.out.cell (World.block_lt_of_cell? _ _ hpc.2.1)).trans hpc.2.1
          have q1 := (HBq.out.cell (World.block_lt_of_cell? _ _ hpc.2.2)).trans hpc.2.2
          have qbl := World.block_lt_of_cell? _ _ q0
          simp only at qbl
          have e1 : ((jj + 1 : Nat) : Int) * (gl B.lots k).lo = jj * (gl B.lots k).lo + (gl B.lots k).lo := by rw [Int.natCast_add, Int.add_mul, Int.natCast_one, Int.one_mul]
          have e2 : ((jj + 1 : Nat) : Int) * (gl B.lots k).hi = jj * (gl B.lots k).hi + (gl B.lots k).hi := by rw [Int.natCast_add, Int.add_mul, Int.natCast_one, Int.one_mul]
          have b0 : 0 ≤ (jj : Int) * (gl B.lots k).lo := Int.mul_nonneg (by omega) (by omega)
          have b1 : (jj : Int) * (gl B.lots k).hi ≤ 24 * 1000 := Int.mul_le_mul (by omega) (by omega) (by omega) (by omega)
          have hw1 : IntKind.i64.wrap (n' + 1) = n' + 1 := wrap_in (by omega) (by omega)
          have hdr := drawZ_in (lo := (gl B.lots k).lo) (hi := (gl B.lots k).hi) (n := nthZ bits (n' + 1)) (by omega)
          generalize hD : drawZ (gl B.lots k).lo (gl B.lots k).hi (nthZ bits (n' + 1)) = D at *
          have HD := Lib.hid hD
          have hw2 : IntKind.i64.wrap (p' + D) = p' + D := wrap_in (by omega) (by omega)
          clear hpc hac hD
          go_upto_region 9 with (fail)
          refine region_plain (S := fun w' => Below wr.heap.size wr w') 13 (by kernel_rfl) ?_ (fun hHeld => ?_)
          · exact (Below.refl _ _).drew
          first | (refine anyT_take 0 (some 27) (v := ?_) rfl rfl (by kernel_rfl) (by kernel_rfl) (by kernel_rfl) (by kernel_rfl) (fun _ _ _ h => h) (Or.inl ⟨by rfl, ?_⟩) hHeld ?_; rotate_left; focus (intro wq hSw; obtain ⟨hcq, hfq⟩ := bcell hSw; go_simp; (try with_reducible rfl); done))
          (try simp only [Act.put, List.setIfInBounds_toArray, List.set_cons_zero, List.set_cons_succ])
          first | (refine anyT_take 1 (some 28) (v := ?_) rfl rfl (by kernel_rfl) (by kernel_rfl) (by kernel_rfl) (by kernel_rfl) (fun _ _ _ h => h) (Or.inl ⟨by rfl, ?_⟩) hHeld ?_; rotate_left; focus (intro wq hSw; obtain ⟨hcq, hfq⟩ := bcell hSw; go_simp; (try with_reducible rfl); done))
          (try simp only [Act.put, List.setIfInBounds_toArray, List.set_cons_zero, List.set_cons_succ])
          first | (refine anyT_take 2 (some 29) (v := ?_) rfl rfl (by kernel_rfl) (by kernel_rfl) (by kernel_rfl) (by kernel_rfl) (fun _ _ _ h => h) (Or.inl ⟨by rfl, ?_⟩) hHeld ?_; rotate_left; focus (intro wq hSw; obtain ⟨hcq, hfq⟩ := bcell hSw; go_simp; (try with_reducible rfl); done))
          (try simp only [Act.put, List.setIfInBounds_toArray, List.set_cons_zero, List.set_cons_succ])
          first | (refine anyT_take 3 (some 30) (v := ?_) rfl rfl (by kernel_rfl) (by kernel_rfl) (by kernel_rfl) (by kernel_rfl) (fun _ _ _ h => h) (Or.inl ⟨by rfl, ?_⟩) hHeld ?_; rotate_left; focus (intro wq hSw; obtain ⟨hcq, hfq⟩ := bcell hSw; go_simp; (try with_reducible rfl); done))
          (try simp only [Act.put, List.setIfInBounds_toArray, List.set_cons_zero, List.set_cons_succ])
          first | (refine anyT_take 4 (some 31) (v := ?_) rfl rfl (by kernel_rfl) (by kernel_rfl) (by kernel_rfl) (by kernel_rfl) (fun _ _ _ h => h) (Or.inl ⟨by rfl, ?_⟩) hHeld ?_; rotate_left; focus (intro wq hSw; obtain ⟨hcq, hfq⟩ := bcell hSw; go_simp; (try with_reducible rfl); done))
          (try simp only [Act.put, List.setIfInBounds_toArray, List.set_cons_zero, List.set_cons_succ])
          first | (refine anyT_take 5 (some 32) (v := ?_) rfl rfl (by kernel_rfl) (by kernel_rfl) (by kernel_rfl) (by kernel_rfl) (fun _ _ _ h => h) (Or.inl ⟨by rfl, ?_⟩) hHeld ?_; rotate_left; focus (intro wq hSw; obtain ⟨hcq, hfq⟩ := bcell hSw; go_simp; (try with_reducible rfl); done))
          (try simp only [Act.put, List.setIfInBounds_toArray, List.set_cons_zero, List.set_cons_succ])
          first | (refine anyT_take 6 (some 33) (v := ?_) rfl rfl (by kernel_rfl) (by kernel_rfl) (by kernel_rfl) (by kernel_rfl) (fun _ _ _ h => h) (Or.inl ⟨by rfl, ?_⟩) hHeld ?_; rotate_left; focus (intro wq hSw; obtain ⟨hcq, hfq⟩ := bcell hSw; go_simp; (try with_reducible rfl); done))
          (try simp only [Act.put, List.setIfInBounds_toArray, List.set_cons_zero, List.set_cons_succ])
          first | (refine anyT_take 7 (some 34) (v := ?_) rfl rfl (by kernel_rfl) (by kernel_rfl) (by kernel_rfl) (by kernel_rfl) (fun _ _ _ h => h) (Or.inl ⟨by rfl, ?_⟩) hHeld ?_; rotate_left; focus (intro wq hSw; obtain ⟨hcq, hfq⟩ := bcell hSw; go_simp; (try with_reducible rfl); done))
          (try simp only [Act.put, List.setIfInBounds_toArray, List.set_cons_zero, List.set_cons_succ])
          first | (refine anyT_take 8 (some 35) (v := ?_) rfl rfl (by kernel_rfl) (by kernel_rfl) (by kernel_rfl) (by kernel_rfl) (fun _ _ _ h => h) (Or.inl ⟨by rfl, ?_⟩) hHeld ?_; rotate_left; focus (intro wq hSw; obtain ⟨hcq, hfq⟩ := bcell hSw; go_simp; (try with_reducible rfl); done))
          (try simp only [Act.put, List.setIfInBounds_toArray, List.set_cons_zero, List.set_cons_succ])
          refine anyT_one 9 (by kernel_rfl) rfl (fun K hK => ?_)
          go_simp
          refine (Nth_calls _ _ _ _ _ (Hp0.out.below (HBq.out.trans (hHeld.mono HBq.out.size)))).mono ?_; rintro e x1 ⟨rfl, rfl⟩
          refine hK.out _ _ ?_ (fun hHeld => ?_)
          · exact hHeld
          clear hK K
          (try simp only [Act.put, List.setIfInBounds_toArray, List.set_cons_zero, List.set_cons_succ])
          refine anyT_one 10 (by kernel_rfl) rfl (fun K hK => ?_)
          go_simp
          refine (Draw_calls _ _ _ _ (by omega) (by omega) (by omega) (by omega)).mono ?_; rintro e x2 ⟨rfl, hb2⟩; rw [HD.out]
          refine hK.out _ _ ?_ (fun hHeld => ?_)
          · exact below_then hHeld hHeld.size hb2
          clear hK K
          (try simp only [Act.put, List.setIfInBounds_toArray, List.set_cons_zero, List.set_cons_succ])
          first | (refine anyT_take 11 (some 38) (v := ?_) rfl rfl (by kernel_rfl) (by kernel_rfl) (by kernel_rfl) (by kernel_rfl) (fun _ _ _ h => h) (Or.inl ⟨by rfl, ?_⟩) hHeld ?_; rotate_left; focus (intro wq hSw; obtain ⟨hcq, hfq⟩ := bcell hSw; go_simp; (try with_reducible rfl); done))
          (try simp only [Act.put, List.setIfInBounds_toArray, List.set_cons_zero, List.set_cons_succ])
          first | (refine anyT_take 12 (some 7) (v := ?_) rfl rfl (by kernel_rfl) (by kernel_rfl) (by kernel_rfl) (by kernel_rfl) (fun _ _ _ h => h) (Or.inl ⟨by rfl, ?_⟩) hHeld ?_; rotate_left; focus (intro wq hSw; obtain ⟨hcq, hfq⟩ := bcell hSw; go_simp; (try with_reducible rfl); done))
          (try simp only [Act.put, List.setIfInBounds_toArray, List.set_cons_zero, List.set_cons_succ])
          refine anyT_done (by kernel_rfl) ?_ _
          have hfin := Hbq.out.trans (hHeld.mono Hbq.out.size)
          have Hfin := Lib.hid hfin
          clear hHeld hb2 hfin
          go_wp2
          go_roundg ((gi l k).toNat - (jj + 1))
          case measure => have := Hgj.out; omega
          case rel => exact ⟨jj + 1, n' + 1, p' + D, by omega, rfl, by go_num, rfl, by omega, by omega, rfl, by rw [e1]; omega, by rw [e2]; omega, Hfin.out⟩
        · obtain rfl : jj = (gi l k).toNat := by omega
          have hnj : ¬ (((gi l k).toNat : Nat) : Int) < gi l k := by omega
          have hjc : (((gi l k).toNat : Nat) : Int) = gi l k := by omega
          rw [hjc] at hp0' hp1' hn1'
          have Hjc := Lib.hid hjc
          clear hjc
          go_wp2
          go_roundg (B.lots.length - (k + 1))
          case measure => have := Hgk.out; omega
          case rel => exact ⟨k + 1, n', p', by omega, rfl, by go_num, rfl, hn0', by omega, rfl, by rw [tin_step]; exact hp0', by rw [tin_step]; exact hp1', Hbq.out⟩
    · obtain rfl : k = B.lots.length := by omega
      have hki : ¬ (B.lots.length : Int) < l.length := by have := Hlen.out; omega
      go_wp2
      go_ret
      exact ⟨⟨p, rfl, hp0, hp1⟩, HBr.out⟩
end
end Go.Proofs.YtgfbfbfajnfbjaaDoor
