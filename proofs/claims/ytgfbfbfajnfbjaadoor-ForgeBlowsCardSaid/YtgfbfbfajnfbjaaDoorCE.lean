import Derived.Test.YtgfbfbfajnfbjaaDoorCA
import Derived.Test.YtgfbfbfajnfbjaaDoorL
namespace Go.Proofs.YtgfbfbfajnfbjaaDoor
section
open Go.RowKit Go.Shelf
attribute [local go_sem] Oper.semAt_some
set_option linter.unusedSimpArgs false
set_option linter.unusedVariables false
/-! Sums of bars, melts out of a book's lots, and the tin that is poured. -/
set_option maxRecDepth 100000 in
set_option maxHeartbeats 2000000 in
theorem Sum_calls (A : Option Addr) (c : Nat) (l : List Int) (w : World) (hp : IntsAt w A l) (h4 : l.length ≤ 4) (hb : ∀ k, 0 ≤ gi l k ∧ gi l k ≤ 24) :
    Calls Tryd.prog 47 #[.slice A l.length c] w fun e w' => e = .returned (.int .i64 (sumTo l l.length)) ∧ w = w' := by
  have Hb := Lib.hid hb
  clear hb
  rcases Nat.eq_zero_or_pos l.length with h0 | h0
  · have hz : ¬ (0 : Int) < l.length := by omega
    have Hs : Hid (sumTo l l.length = 0) := by unfold Hid; rw [h0]; rfl
    clear hp h0 h4
    go_enter Tryd.func47, Tryd.ntmps47
    go_wp2
    refine wp_loop_rounds 1 ?_
    rw [rounds_succ]
    go_wp2
    go_ret
    exact ⟨by rw [Hs.out]; rfl, rfl⟩
  · obtain ⟨b, o, rfl, hc⟩ := hp.2.resolve_left (by intro e; rw [e] at h0; simp at h0)
    have Hc := Lib.hid hc
    clear hc hp h0
    go_enter Tryd.func47, Tryd.ntmps47
    go_wp2
    go_loop [4, 3] (fun i s => ∃ k : Nat, k ≤ l.length ∧ i = .int .i64 k ∧ s = .int .i64 (sumTo l k)) (fun i _ => l.length - (intOf i).toNat)
    case atStart => exact ⟨0, Nat.zero_le _, rfl, rfl⟩
    case round =>
      obtain ⟨k, hk, rfl, rfl⟩ := hrel
      by_cases hlt : k < l.length
      · have hck := Hc.out k hlt
        have bk := World.block_lt_of_cell? _ _ hck
        have hki : (k : Int) < l.length := by omega
        simp only at bk
        have b1 := sumTo_nn Hb.out k
        have b2 := Hb.out k
        have hw1 : IntKind.i64.wrap (sumTo l k + gi l k) = sumTo l k + gi l k := wrap_in (by omega) (by omega)
        go_wp2
        go_round
        case rel => exact ⟨k + 1, by omega, by go_num, rfl⟩
        case measure => simp [intOf]; omega
      · obtain rfl : k = l.length := by omega
        go_wp2
        go_ret
        exact ⟨rfl, rfl⟩
theorem within_at {B : ForgeV} {l : List Int} (h : withinS B l = true) : l.length = B.lots.length ∧ ∀ k, k < B.lots.length → 0 ≤ gi l k ∧ gi l k ≤ (gl B.lots k).bars := by
  unfold withinS at h
  rw [Bool.and_eq_true, decide_eq_true_eq] at h
  refine ⟨h.1, fun k hk => ?_⟩
  have h2 := h.2
  unfold inTo at h2
  exact inB_iff.1 (List.all_eq_true.1 h2 k (List.mem_range.2 hk))
theorem within_bd {B : ForgeV} (g : B.Good) {l : List Int} (h : withinS B l = true) (k : Nat) : 0 ≤ gi l k ∧ gi l k ≤ 24 := by
  have := withinS_bd g h k; omega
/-- the tin of bars lies between the least and the greatest -/
theorem tin_step {B : ForgeV} {m : List Int} (hi : Bool) (k : Nat) : tinTo B.lots m hi (k + 1) = tinTo B.lots m hi k + gi m k * endOf hi (gl B.lots k).lo (gl B.lots k).hi := rfl
set_option maxRecDepth 100000 in
set_option maxHeartbeats 4000000 in
theorem poured_calls (B : ForgeV) (g : B.Good) (A1 : Option Addr) (c1 : Nat) (l : List Int) (A2 : Option Addr) (c2 : Nat) (bits : List Int) (w : World) (hB : B.Reads w) (hl : IntsAt w A1 l) (hp : IntsAt w A2 bits) (hw : withinS B l = true) :
    Calls Tryd.prog 45 #[B.val, .slice A1 l.length c1, .slice A2 bits.length c2] w fun e w' => (∃ p : Int, e = .returned (.int .i64 p) ∧ tinTo B.lots l false B.lots.length ≤ p ∧ p ≤ tinTo B.lots l true B.lots.length) ∧ Below w.heap.size w w' := by
  have HB0 := Lib.hid hB
  have Hp0 := Lib.hid hp
  have Hg := Lib.hid g
  have hwa := within_at hw
  have hlen := hwa.1
  have Hwa := Lib.hid hwa.2
  have Hbd := Lib.hid (within_bd g hw)
  have hm4 := g.many
  obtain ⟨lb, lo, hlA⟩ := hB.lots.some_ (by omega)
  have hlt := hB.lots
  rw [hlA] at hlt
  have Hlt := Lib.hid hlt
  obtain ⟨ab, ao, rfl, hac⟩ := hl.2.resolve_left (by intro e; rw [e] at hlen; simp at hlen; omega)
  have Hac := Lib.hid hac
  have k3 := BoxAt.new w B.cells 28
  have H1 : Below w.heap.size w (w.alloc (.cells B.cells 28)) := (Below.refl _ _).alloc (Nat.le_refl _) _
  have hcells : B.val = .agg B.cells := rfl
  rw [hcells]
  unfold ForgeV.cells at k3 H1 ⊢
  rw [hlA] at k3 H1 ⊢
  have Hlen := Lib.hid hlen
  clear hB hp g hlA hwa hl hac hlt hw hlen
  go_enter Tryd.func45, Tryd.ntmps45
  go_upto_region 1 with fail
  generalize w.alloc _ = W1 at *
  have K3 := Lib.hid k3
  have HW1 := Lib.hid H1
  clear k3 H1
  go_wp2
  go_loopg [9, 8, 7] B.lots.length (fun gq i nx al wr => ∃ k : Nat, ∃ n p : Int, k ≤ B.lots.length ∧ gq = B.lots.length - k ∧ i = .int .i64 k ∧ nx = .int .i64 n ∧ 0 ≤ n ∧ n ≤ 24 * k ∧ al = .int .i64 p ∧ tinTo B.lots l false k ≤ p ∧ p ≤ tinTo B.lots l true k ∧ Below W1.heap.size W1 wr)
  case atStart => exact ⟨0, 0, 0, Nat.zero_le _, rfl, rfl, rfl, Int.le_refl _, by omega, rfl, Int.le_refl _, Int.le_refl _, Below.refl _ _⟩
  case round =>
    obtain ⟨k, n, p, hk, hgk, rfl, rfl, hn0, hn1, rfl, hp0, hp1, hbe⟩ := hrel
    have Hgk := Lib.hid hgk
    have Hbe := Lib.hid hbe
    have HBr := Lib.hid (HW1.out.trans (hbe.mono HW1.out.size))
    clear hgk hbe
    by_cases hlt' : k < B.lots.length
    · have hki : (k : Int) < l.length := by have := Hlen.out; omega
      have hac := Hac.out k (by have := Hlen.out; omega)
      have hbk := Hbd.out k
      have hlg := Hg.out.lot k hlt'
      have t1 := tinTo_bd Hg.out Hbd.out false k hk
      have t2 := tinTo_bd Hg.out Hbd.out true k hk
      go_upto_block 2 with (fail)
      go_wp2
      go_loopg [10, 8, 7] (gi l k).toNat (fun gq j nx al wq => ∃ jj : Nat, ∃ n' p' : Int, jj ≤ (gi l k).toNat ∧ gq = (gi l k).toNat - jj ∧ j = .int .i64 jj ∧ nx = .int .i64 n' ∧ 0 ≤ n' ∧ n' ≤ 24 * k + jj ∧ al = .int .i64 p' ∧ tinTo B.lots l false k + jj * (gl B.lots k).lo ≤ p' ∧ p' ≤ tinTo B.lots l true k + jj * (gl B.lots k).hi ∧ Below W1.heap.size W1 wq)
      case atStart => exact ⟨0, n, p, Nat.zero_le _, rfl, rfl, rfl, hn0, by omega, rfl, by simpa using hp0, by simpa using hp1, Hbe.out⟩
      case round =>
        obtain ⟨jj, n', p', hj, hgj, rfl, rfl, hn0', hn1', rfl, hp0', hp1', hbq⟩ := hrel
        have Hgj := Lib.hid hgj
        have Hbq := Lib.hid hbq
        have HBq := Lib.hid (HW1.out.trans (hbq.mono HW1.out.size))
        have p0 := (HBq.out.cell (World.block_lt_of_cell? _ _ hac)).trans hac
        have pbl := World.block_lt_of_cell? _ _ p0
        simp only at pbl
        obtain ⟨c3, f3, l3⟩ := K3.out.below hbq
        clear hgj hbq
        by_cases hjl : jj < (gi l k).toNat
        · have hji : (jj : Int) < gi l k := by omega
          have hpc := Hlt.out.at_ hlt'
          have q0 := (HBq.out.cell (World.block_lt_of_cell? _ _ hpc.2.1)).trans hpc.2.1
          have q1 := (HBq.out.cell (World.block_lt_of_cell? _ _ hpc.2.2)).trans hpc.2.2
          have qbl := World.block_lt_of_cell? _ _ q0
          simp only at qbl
          have e1 : ((jj + 1 : Nat) : Int) * (gl B.lots k).lo = jj * (gl B.lots k).lo + (gl B.lots k).lo := by rw [Int.natCast_add, Int.add_mul, Int.natCast_one, Int.one_mul]
          have e2 : ((jj + 1 : Nat) : Int) * (gl B.lots k).hi = jj * (gl B.lots k).hi + (gl B.lots k).hi := by rw [Int.natCast_add, Int.add_mul, Int.natCast_one, Int.one_mul]
          have b0 : 0 ≤ (jj : Int) * (gl B.lots k).lo := Int.mul_nonneg (by omega) (by omega)
          have b1 : (jj : Int) * (gl B.lots k).hi ≤ 24 * 1000 := Int.mul_le_mul (by omega) (by omega) (by omega) (by omega)
          have hw1 : IntKind.i64.wrap (n' + 1) = n' + 1 := wrap_in (by omega) (by omega)
          have hdr := drawZ_in (lo := (gl B.lots k).lo) (hi := (gl B.lots k).hi) (n := nthZ bits (n' + 1)) (by omega)
          generalize hD : drawZ (gl B.lots k).lo (gl B.lots k).hi (nthZ bits (n' + 1)) = D at *
          have HD := Lib.hid hD
          have hw2 : IntKind.i64.wrap (p' + D) = p' + D := wrap_in (by omega) (by omega)
          clear hpc hac hD
          go_upto_region 9 with (fail)
          refine region_plain (S := fun w' => Below wr.heap.size wr w') 13 (by kernel_rfl) ?_ (fun hHeld => ?_)
          · exact (Below.refl _ _).drew
          first | (refine anyT_take 0 (some 27) (v := ?_) rfl rfl (by kernel_rfl) (by kernel_rfl) (by kernel_rfl) (by kernel_rfl) (fun _ _ _ h => h) (Or.inl ⟨by rfl, ?_⟩) hHeld ?_; rotate_left; focus (intro wq hSw; obtain ⟨hcq, hfq⟩ := bcell hSw; go_simp; (try with_reducible rfl); done))
          (try simp only [Act.put, List.setIfInBounds_toArray, List.set_cons_zero, List.set_cons_succ])
          first | (refine anyT_take 1 (some 28) (v := ?_) rfl rfl (by kernel_rfl) (by kernel_rfl) (by kernel_rfl) (by kernel_rfl) (fun _ _ _ h => h) (Or.inl ⟨by rfl, ?_⟩) hHeld ?_; rotate_left; focus (intro wq hSw; obtain ⟨hcq, hfq⟩ := bcell hSw; go_simp; (try with_reducible rfl); done))
          (try simp only [Act.put, List.setIfInBounds_toArray, List.set_cons_zero, List.set_cons_succ])
          first | (refine anyT_take 2 (some 29) (v := ?_) rfl rfl (by kernel_rfl) (by kernel_rfl) (by kernel_rfl) (by kernel_rfl) (fun _ _ _ h => h) (Or.inl ⟨by rfl, ?_⟩) hHeld ?_; rotate_left; focus (intro wq hSw; obtain ⟨hcq, hfq⟩ := bcell hSw; go_simp; (try with_reducible rfl); done))
          (try simp only [Act.put, List.setIfInBounds_toArray, List.set_cons_zero, List.set_cons_succ])
          first | (refine anyT_take 3 (some 30) (v := ?_) rfl rfl (by kernel_rfl) (by kernel_rfl) (by kernel_rfl) (by kernel_rfl) (fun _ _ _ h => h) (Or.inl ⟨by rfl, ?_⟩) hHeld ?_; rotate_left; focus (intro wq hSw; obtain ⟨hcq, hfq⟩ := bcell hSw; go_simp; (try with_reducible rfl); done))
          (try simp only [Act.put, List.setIfInBounds_toArray, List.set_cons_zero, List.set_cons_succ])
          first | (refine anyT_take 4 (some 31) (v := ?_) rfl rfl (by kernel_rfl) (by kernel_rfl) (by kernel_rfl) (by kernel_rfl) (fun _ _ _ h => h) (Or.inl ⟨by rfl, ?_⟩) hHeld ?_; rotate_left; focus (intro wq hSw; obtain ⟨hcq, hfq⟩ := bcell hSw; go_simp; (try with_reducible rfl); done))
          (try simp only [Act.put, List.setIfInBounds_toArray, List.set_cons_zero, List.set_cons_succ])
          first | (refine anyT_take 5 (some 32) (v := ?_) rfl rfl (by kernel_rfl) (by kernel_rfl) (by kernel_rfl) (by kernel_rfl) (fun _ _ _ h => h) (Or.inl ⟨by rfl, ?_⟩) hHeld ?_; rotate_left; focus (intro wq hSw; obtain ⟨hcq, hfq⟩ := bcell hSw; go_simp; (try with_reducible rfl); done))
          (try simp only [Act.put, List.setIfInBounds_toArray, List.set_cons_zero, List.set_cons_succ])
          first | (refine anyT_take 6 (some 33) (v := ?_) rfl rfl (by kernel_rfl) (by kernel_rfl) (by kernel_rfl) (by kernel_rfl) (fun _ _ _ h => h) (Or.inl ⟨by rfl, ?_⟩) hHeld ?_; rotate_left; focus (intro wq hSw; obtain ⟨hcq, hfq⟩ := bcell hSw; go_simp; (try with_reducible rfl); done))
          (try simp only [Act.put, List.setIfInBounds_toArray, List.set_cons_zero, List.set_cons_succ])
          first | (refine anyT_take 7 (some 34) (v := ?_) rfl rfl (by kernel_rfl) (by kernel_rfl) (by kernel_rfl) (by kernel_rfl) (fun _ _ _ h => h) (Or.inl ⟨by rfl, ?_⟩) hHeld ?_; rotate_left; focus (intro wq hSw; obtain ⟨hcq, hfq⟩ := bcell hSw; go_simp; (try with_reducible rfl); done))
          (try simp only [Act.put, List.setIfInBounds_toArray, List.set_cons_zero, List.set_cons_succ])
          first | (refine anyT_take 8 (some 35) (v := ?_) rfl rfl (by kernel_rfl) (by kernel_rfl) (by kernel_rfl) (by kernel_rfl) (fun _ _ _ h => h) (Or.inl ⟨by rfl, ?_⟩) hHeld ?_; rotate_left; focus (intro wq hSw; obtain ⟨hcq, hfq⟩ := bcell hSw; go_simp; (try with_reducible rfl); done))
          (try simp only [Act.put, List.setIfInBounds_toArray, List.set_cons_zero, List.set_cons_succ])
          refine anyT_one 9 (by kernel_rfl) rfl (fun K hK => ?_)
          go_simp
          refine (Nth_calls _ _ _ _ _ (Hp0.out.below (HBq.out.trans (hHeld.mono HBq.out.size)))).mono ?_; rintro e x1 ⟨rfl, rfl⟩
          refine hK.out _ _ ?_ (fun hHeld => ?_)
          · exact hHeld
          clear hK K
          (try simp only [Act.put, List.setIfInBounds_toArray, List.set_cons_zero, List.set_cons_succ])
          refine anyT_one 10 (by kernel_rfl) rfl (fun K hK => ?_)
          go_simp
          refine (Draw_calls _ _ _ _ (by omega) (by omega) (by omega) (by omega)).mono ?_; rintro e x2 ⟨rfl, hb2⟩; rw [HD.out]
          refine hK.out _ _ ?_ (fun hHeld => ?_)
          · exact below_then hHeld hHeld.size hb2
          clear hK K
          (try simp only [Act.put, List.setIfInBounds_toArray, List.set_cons_zero, List.set_cons_succ])
          first | (refine anyT_take 11 (some 38) (v := ?_) rfl rfl (by kernel_rfl) (by kernel_rfl) (by kernel_rfl) (by kernel_rfl) (fun _ _ _ h => h) (Or.inl ⟨by rfl, ?_⟩) hHeld ?_; rotate_left; focus (intro wq hSw; obtain ⟨hcq, hfq⟩ := bcell hSw; go_simp; (try with_reducible rfl); done))
          (try simp only [Act.put, List.setIfInBounds_toArray, List.set_cons_zero, List.set_cons_succ])
          first | (refine anyT_take 12 (some 7) (v := ?_) rfl rfl (by kernel_rfl) (by kernel_rfl) (by kernel_rfl) (by kernel_rfl) (fun _ _ _ h => h) (Or.inl ⟨by rfl, ?_⟩) hHeld ?_; rotate_left; focus (intro wq hSw; obtain ⟨hcq, hfq⟩ := bcell hSw; go_simp; (try with_reducible rfl); done))
          (try simp only [Act.put, List.setIfInBounds_toArray, List.set_cons_zero, List.set_cons_succ])
          refine anyT_done (by kernel_rfl) ?_ _
          have hfin := Hbq.out.trans (hHeld.mono Hbq.out.size)
          have Hfin := Lib.hid hfin
          clear hHeld hb2 hfin
          go_wp2
          go_roundg ((gi l k).toNat - (jj + 1))
          case measure => have := Hgj.out; omega
          case rel => exact ⟨jj + 1, n' + 1, p' + D, by omega, rfl, by go_num, rfl, by omega, by omega, rfl, by rw [e1]; omega, by rw [e2]; omega, Hfin.out⟩
        · obtain rfl : jj = (gi l k).toNat := by omega
          have hnj : ¬ (((gi l k).toNat : Nat) : Int) < gi l k := by omega
          have hjc : (((gi l k).toNat : Nat) : Int) = gi l k := by omega
          rw [hjc] at hp0' hp1' hn1'
          have Hjc := Lib.hid hjc
          clear hjc
          go_wp2
          go_roundg (B.lots.length - (k + 1))
          case measure => have := Hgk.out; omega
          case rel => exact ⟨k + 1, n', p', by omega, rfl, by go_num, rfl, hn0', by omega, rfl, by rw [tin_step]; exact hp0', by rw [tin_step]; exact hp1', Hbq.out⟩
    · obtain rfl : k = B.lots.length := by omega
      have hki : ¬ (B.lots.length : Int) < l.length := by have := Hlen.out; omega
      go_wp2
      go_ret
      exact ⟨⟨p, rfl, hp0, hp1⟩, HBr.out⟩
end
end Go.Proofs.YtgfbfbfajnfbjaaDoor
namespace Go.Proofs.YtgfbfbfajnfbjaaDoor
section
open Go.RowKit Go.Shelf
set_option linter.unusedSimpArgs false
set_option linter.unusedVariables false
/-! Melts that are told, and bars that numbers choose: their sums and their tin, with no program in sight. -/
theorem sumTo_cons (x : Int) (l : List Int) : ∀ k : Nat, sumTo (x :: l) (k + 1) = x + sumTo l k
  | 0 => by simp [sumTo, gi]
  | k + 1 => by
    have h := sumTo_cons x l k
    have e : gi (x :: l) (k + 1) = gi l k := rfl
    rw [sumTo, h, e, sumTo]
    omega
theorem sumTo_out (l : List Int) : ∀ d : Nat, sumTo l (l.length + d) = sumTo l l.length
  | 0 => rfl
  | d + 1 => by
    have h := sumTo_out l d
    rw [show l.length + (d + 1) = (l.length + d) + 1 by omega, sumTo, h, gi_out (by omega)]
    omega
theorem sumTo_four {l : List Int} (h : l.length ≤ 4) : sumTo l 4 = sumTo l l.length := by
  have := sumTo_out l (4 - l.length)
  rwa [show l.length + (4 - l.length) = 4 by omega] at this
theorem choices_sum : ∀ (l : List Int) (m : Int) (x : List Int), 0 ≤ m → x ∈ choices l m → sumTo x x.length = m
  | [], m, x, hm, h => by
    unfold choices at h
    split at h
    · cases h
    · have hx : x = [] := by simpa using h
      subst hx
      show (0 : Int) = m
      omega
  | a :: t, m, x, hm, h => by
    unfold choices at h
    rw [List.mem_flatMap] at h
    obtain ⟨k, hk, hx⟩ := h
    obtain ⟨y, hy, rfl⟩ := List.mem_map.1 hx
    rw [List.mem_range] at hk
    have ih := choices_sum t (m - k) y (by omega) hy
    rw [List.length_cons, sumTo_cons, ih]
    omega
theorem within_of {B : ForgeV} {l : List Int} (hl : l.length = B.lots.length) (h : ∀ k, k < B.lots.length → 0 ≤ gi l k ∧ gi l k ≤ (gl B.lots k).bars) : withinS B l = true := by
  unfold withinS inTo
  rw [Bool.and_eq_true, decide_eq_true_eq, List.all_eq_true]
  exact ⟨hl, fun k hk => inB_iff.2 (h k (List.mem_range.1 hk))⟩
/-- what holds of a melt that is told -/
theorem cast_ok {B : ForgeV} (g : B.Good) {many : Int} (hm : 0 ≤ many) {q : List Int} (h : bestOf (meltsS B (stockS B) many) = some q) : withinS B q = true ∧ rightS B q = true ∧ sumTo q q.length = many := by
  have hq : q ∈ meltsS B (stockS B) many := (bestOf_mem _ none q h).resolve_right (by simp)
  have h1 := meltsS_mem (fun k => (stock_bd g k).1) hq
  have hsl : (stockS B).length = B.lots.length := by simp [stockS]
  refine ⟨within_of (h1.1.trans hsl) fun k hk => ?_, h1.2.2, ?_⟩
  · have := h1.2.1 k
    rw [gi_stock B k hk] at this
    exact this
  · unfold meltsS at hq
    exact choices_sum _ _ _ hm (List.mem_filter.1 hq).1
theorem right_tin {B : ForgeV} {m : List Int} (h : rightS B m = true) : sumTo m 4 * B.tlo ≤ tinTo B.lots m false B.lots.length ∧ tinTo B.lots m true B.lots.length ≤ sumTo m 4 * B.thi := by
  unfold rightS at h
  simp only [Bool.and_eq_true, decide_eq_true_eq] at h
  exact ⟨h.2.1, h.2.2⟩
theorem not_right {B : ForgeV} {m : List Int} (h : rightS B m = false) (hs : sumTo m 4 ≠ 0) : tinTo B.lots m false B.lots.length < sumTo m 4 * B.tlo ∨ sumTo m 4 * B.thi < tinTo B.lots m true B.lots.length := by
  rcases Int.lt_or_le (tinTo B.lots m false B.lots.length) (sumTo m 4 * B.tlo) with h1 | h1
  · exact .inl h1
  · rcases Int.lt_or_le (sumTo m 4 * B.thi) (tinTo B.lots m true B.lots.length) with h2 | h2
    · exact .inr h2
    · exfalso
      have hz : ¬ (gi m 0 = 0 ∧ gi m 1 = 0 ∧ gi m 2 = 0 ∧ gi m 3 = 0) := fun hh => hs (by simp [sumTo, hh.1, hh.2.1, hh.2.2.1, hh.2.2.2])
      have : rightS B m = true := by
        unfold rightS
        simp only [Bool.and_eq_true, decide_eq_true_eq, Bool.not_eq_true', Bool.and_eq_false_iff, decide_eq_false_iff_not]
        refine ⟨?_, h1, h2⟩
        by_cases a : gi m 0 = 0
        · by_cases b : gi m 1 = 0
          · by_cases c : gi m 2 = 0
            · exact .inr (.inr (.inr fun d => hz ⟨a, b, c, d⟩))
            · exact .inr (.inr (.inl c))
          · exact .inr (.inl b)
        · exact .inl a
      rw [h] at this; cases this
theorem zero_right {B : ForgeV} {m : List Int} (hm : ∀ k, 0 ≤ gi m k) (hs : sumTo m 4 = 0) : rightS B m = false := by
  have h0 := hm 0
  have h1 := hm 1
  have h2 := hm 2
  have h3 := hm 3
  have e : sumTo m 4 = gi m 0 + gi m 1 + gi m 2 + gi m 3 := by simp [sumTo]
  unfold rightS
  have a0 : gi m 0 = 0 := by omega
  have a1 : gi m 1 = 0 := by omega
  have a2 : gi m 2 = 0 := by omega
  have a3 : gi m 3 = 0 := by omega
  simp [a0, a1, a2, a3]
theorem taken_get (B : ForgeV) (bits : List Int) (n k : Nat) (h : k < n) : gi (takenTo B bits n) k = turnZ (nthZ bits k) ((gl B.lots k).bars + 1) := by
  unfold takenTo gi
  rw [List.getD_eq_getElem?_getD, List.getElem?_map, List.getElem?_range h]; rfl
theorem taken_within {B : ForgeV} (g : B.Good) (bits : List Int) : withinS B (takenTo B bits B.lots.length) = true :=
  within_of (takenTo_len B bits _) fun k hk => by
    rw [taken_get B bits _ k hk]
    have := g.lot k hk
    have := turnZ_bd (n := nthZ bits k) (b := (gl B.lots k).bars + 1) (by omega)
    omega
end
section
open Go.RowKit Go.Shelf
attribute [local go_sem] Oper.semAt_some
set_option linter.unusedSimpArgs false
set_option linter.unusedVariables false
set_option maxRecDepth 100000 in
set_option maxHeartbeats 4000000 in
/-- bars of a book's lots, some -/
theorem within_calls (B : ForgeV) (g : B.Good) (A' : Option Addr) (c' : Nat) (l : List Int) (w : World) (hB : B.Reads w) (hl : IntsAt w A' l) (hw : withinS B l = true) (hs : 0 < sumTo l l.length) :
    Calls Tryd.prog 46 #[B.val, .slice A' l.length c'] w fun e w' => e = .returned (.bool true) ∧ Below w.heap.size w w' := by
  have hwa := within_at hw
  have hlen := hwa.1
  have Hwa := Lib.hid hwa.2
  have Hbd := Lib.hid (within_bd g hw)
  have Hs := Lib.hid hs
  have hm4 := g.many
  have Hl0 := Lib.hid hl
  obtain ⟨lb, lo, hlA⟩ := hB.lots.some_ (by omega)
  have hlt := hB.lots
  rw [hlA] at hlt
  have Hlt := Lib.hid hlt
  have k2 := BoxAt.new w B.cells 28
  have H1 : Below w.heap.size w (w.alloc (.cells B.cells 28)) := (Below.refl _ _).alloc (Nat.le_refl _) _
  have hcells : B.val = .agg B.cells := rfl
  rw [hcells]
  unfold ForgeV.cells at k2 H1 ⊢
  rw [hlA] at k2 H1 ⊢
  have Hlen := Lib.hid hlen
  have Hsum := Lib.hid (Sum_calls A' c' l · · (by omega) Hbd.out)
  obtain ⟨ab, ao, rfl, hac⟩ := hl.2.resolve_left (by intro e; rw [e] at hlen; simp at hlen; omega)
  have Hac := Lib.hid hac
  have hlb : (l.length : Int) = B.lots.length := by omega
  have h4 : l.length ≤ 4 := by omega
  clear hB g hlA hwa hl hac hlt hw hlen hs
  go_enter Tryd.func46, Tryd.ntmps46
  go_upto_region 1 with fail
  generalize w.alloc _ = W1 at *
  have K2 := Lib.hid k2
  have HW1 := Lib.hid H1
  obtain ⟨c2, f2, l2⟩ := k2
  clear H1
  go_upto_block 0 with (fail)
  go_wp2
  go_loopg [6, 5] B.lots.length (fun gq i s wr => ∃ k : Nat, k ≤ B.lots.length ∧ gq = B.lots.length - k ∧ i = .int .i64 k ∧ s = .bool true ∧ Below W1.heap.size W1 wr)
  case atStart => exact ⟨0, Nat.zero_le _, rfl, rfl, by first | rfl | simp [hlb], Below.refl _ _⟩
  case round =>
    obtain ⟨k, hk, hgk, rfl, rfl, hbe⟩ := hrel
    have Hgk := Lib.hid hgk
    have HBr := Lib.hid (HW1.out.trans (hbe.mono HW1.out.size))
    have Hbe := Lib.hid hbe
    clear hgk c2 f2 l2
    obtain ⟨c2, f2, l2⟩ := K2.out.below hbe
    clear hbe
    by_cases hlt' : k < B.lots.length
    · have hki : (k : Int) < l.length := by omega
      have hac := Hac.out k (by omega)
      have p0 := (HBr.out.cell (World.block_lt_of_cell? _ _ hac)).trans hac
      have pbl := World.block_lt_of_cell? _ _ p0
      have hpc := Hlt.out.at_ hlt'
      have q0 := (HBr.out.cell (World.block_lt_of_cell? _ _ hpc.1)).trans hpc.1
      have qbl := World.block_lt_of_cell? _ _ q0
      simp only at pbl qbl
      have r1 : inB (gi l k) 0 (gl B.lots k).bars = true := inB_iff.2 (Hwa.out k hlt')
      clear hac hpc
      go_upto_region 5 with (fail)
      refine region_plain (S := fun w' => Below wr.heap.size wr w') 12 (by kernel_rfl) ?_ (fun hHeld => ?_)
      · exact (Below.refl _ _).drew
      first | (refine anyT_take 0 (some 22) (v := ?_) rfl rfl (by kernel_rfl) (by kernel_rfl) (by kernel_rfl) (by kernel_rfl) (fun _ _ _ h => h) (Or.inl ⟨by rfl, ?_⟩) hHeld ?_; rotate_left; focus (intro wq hSw; obtain ⟨hcq, hfq⟩ := bcell hSw; go_simp; (try with_reducible rfl); done))
      (try simp only [Act.put, List.setIfInBounds_toArray, List.set_cons_zero, List.set_cons_succ])
      first | (refine anyT_take 1 (some 23) (v := ?_) rfl rfl (by kernel_rfl) (by kernel_rfl) (by kernel_rfl) (by kernel_rfl) (fun _ _ _ h => h) (Or.inl ⟨by rfl, ?_⟩) hHeld ?_; rotate_left; focus (intro wq hSw; obtain ⟨hcq, hfq⟩ := bcell hSw; go_simp; (try with_reducible rfl); done))
      (try simp only [Act.put, List.setIfInBounds_toArray, List.set_cons_zero, List.set_cons_succ])
      first | (refine anyT_take 2 (some 24) (v := ?_) rfl rfl (by kernel_rfl) (by kernel_rfl) (by kernel_rfl) (by kernel_rfl) (fun _ _ _ h => h) (Or.inl ⟨by rfl, ?_⟩) hHeld ?_; rotate_left; focus (intro wq hSw; obtain ⟨hcq, hfq⟩ := bcell hSw; go_simp; (try with_reducible rfl); done))
      (try simp only [Act.put, List.setIfInBounds_toArray, List.set_cons_zero, List.set_cons_succ])
      first | (refine anyT_take 3 (some 25) (v := ?_) rfl rfl (by kernel_rfl) (by kernel_rfl) (by kernel_rfl) (by kernel_rfl) (fun _ _ _ h => h) (Or.inl ⟨by rfl, ?_⟩) hHeld ?_; rotate_left; focus (intro wq hSw; obtain ⟨hcq, hfq⟩ := bcell hSw; go_simp; (try with_reducible rfl); done))
      (try simp only [Act.put, List.setIfInBounds_toArray, List.set_cons_zero, List.set_cons_succ])
      first | (refine anyT_take 4 (some 26) (v := ?_) rfl rfl (by kernel_rfl) (by kernel_rfl) (by kernel_rfl) (by kernel_rfl) (fun _ _ _ h => h) (Or.inl ⟨by rfl, ?_⟩) hHeld ?_; rotate_left; focus (intro wq hSw; obtain ⟨hcq, hfq⟩ := bcell hSw; go_simp; (try with_reducible rfl); done))
      (try simp only [Act.put, List.setIfInBounds_toArray, List.set_cons_zero, List.set_cons_succ])
      first | (refine anyT_take 5 (some 27) (v := ?_) rfl rfl (by kernel_rfl) (by kernel_rfl) (by kernel_rfl) (by kernel_rfl) (fun _ _ _ h => h) (Or.inl ⟨by rfl, ?_⟩) hHeld ?_; rotate_left; focus (intro wq hSw; obtain ⟨hcq, hfq⟩ := bcell hSw; go_simp; (try with_reducible rfl); done))
      (try simp only [Act.put, List.setIfInBounds_toArray, List.set_cons_zero, List.set_cons_succ])
      first | (refine anyT_take 6 (some 28) (v := ?_) rfl rfl (by kernel_rfl) (by kernel_rfl) (by kernel_rfl) (by kernel_rfl) (fun _ _ _ h => h) (Or.inl ⟨by rfl, ?_⟩) hHeld ?_; rotate_left; focus (intro wq hSw; obtain ⟨hcq, hfq⟩ := bcell hSw; go_simp; (try with_reducible rfl); done))
      (try simp only [Act.put, List.setIfInBounds_toArray, List.set_cons_zero, List.set_cons_succ])
      first | (refine anyT_take 7 (some 29) (v := ?_) rfl rfl (by kernel_rfl) (by kernel_rfl) (by kernel_rfl) (by kernel_rfl) (fun _ _ _ h => h) (Or.inl ⟨by rfl, ?_⟩) hHeld ?_; rotate_left; focus (intro wq hSw; obtain ⟨hcq, hfq⟩ := bcell hSw; go_simp; (try with_reducible rfl); done))
      (try simp only [Act.put, List.setIfInBounds_toArray, List.set_cons_zero, List.set_cons_succ])
      first | (refine anyT_take 8 (some 30) (v := ?_) rfl rfl (by kernel_rfl) (by kernel_rfl) (by kernel_rfl) (by kernel_rfl) (fun _ _ _ h => h) (Or.inl ⟨by rfl, ?_⟩) hHeld ?_; rotate_left; focus (intro wq hSw; obtain ⟨hcq, hfq⟩ := bcell hSw; go_simp; (try with_reducible rfl); done))
      (try simp only [Act.put, List.setIfInBounds_toArray, List.set_cons_zero, List.set_cons_succ])
      first | (refine anyT_take 9 (some 31) (v := ?_) rfl rfl (by kernel_rfl) (by kernel_rfl) (by kernel_rfl) (by kernel_rfl) (fun _ _ _ h => h) (Or.inl ⟨by rfl, ?_⟩) hHeld ?_; rotate_left; focus (intro wq hSw; obtain ⟨hcq, hfq⟩ := bcell hSw; go_simp; (try with_reducible rfl); done))
      (try simp only [Act.put, List.setIfInBounds_toArray, List.set_cons_zero, List.set_cons_succ])
      refine anyT_one 10 (by kernel_rfl) rfl (fun K hK => ?_)
      go_simp
      refine (Sits_calls _ _ _ _).mono ?_; rintro e x1 ⟨rfl, rfl⟩; rw [r1]
      refine hK.out _ _ ?_ (fun hHeld => ?_)
      · exact hHeld
      clear hK K
      (try simp only [Act.put, List.setIfInBounds_toArray, List.set_cons_zero, List.set_cons_succ])
      first | (refine anyT_take 11 (some 5) (v := ?_) rfl rfl (by kernel_rfl) (by kernel_rfl) (by kernel_rfl) (by kernel_rfl) (fun _ _ _ h => h) (Or.inl ⟨by rfl, ?_⟩) hHeld ?_; rotate_left; focus (intro wq hSw; obtain ⟨hcq, hfq⟩ := bcell hSw; go_simp; (try with_reducible rfl); done))
      (try simp only [Act.put, List.setIfInBounds_toArray, List.set_cons_zero, List.set_cons_succ])
      refine anyT_done (by kernel_rfl) ?_ _
      have Hfin := Lib.hid (Hbe.out.trans (hHeld.mono Hbe.out.size))
      clear hHeld
      go_wp2
      go_roundg (B.lots.length - (k + 1))
      case measure => have := Hgk.out; omega
      case rel => exact ⟨k + 1, by omega, rfl, by go_num, rfl, Hfin.out⟩
    · obtain rfl : k = B.lots.length := by omega
      have hki : ¬ (B.lots.length : Int) < l.length := by omega
      have hpos : (0 : Int) < sumTo l l.length := Hs.out
      go_wp2_with (go_at_call 47; refine (Hsum.out _ (Hl0.out.below HBr.out)).mono ?_; rintro e w' ⟨rfl, rfl⟩)
      go_ret
      exact ⟨rfl, HBr.out⟩
end
end Go.Proofs.YtgfbfbfajnfbjaaDoor
