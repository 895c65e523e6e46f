import Derived.Test.YtgfbfbfajnfbjaaDoorD
namespace Go.Proofs.YtgfbfbfajnfbjaaDoor
section
set_option linter.unusedVariables false
set_option linter.unusedSimpArgs false
open Go.RowKit Go.Shelf
attribute [local go_sem] Oper.semAt_some
theorem nothing_calls (w : World) : Calls Tryd.prog 69 #[] w fun e w' => e = .returned (.agg #[.int .i64 0, .int .i64 0, .int .i64 0, .int .i64 0]) ∧ Below w.heap.size w w' := by
  go_enter Tryd.func69, Tryd.ntmps69
  go_wp2
  exact bodyPost_ret (v := .agg #[.int .i64 0, .int .i64 0, .int .i64 0, .int .i64 0]) (by simp [results, Tryd.results69, go_sem]) rfl ⟨rfl, ((Below.refl _ _).alloc (Nat.le_refl _) _).alloc (by simp) _⟩
theorem lows1_calls (a b : Int) (w : World) : Calls Tryd.prog 110 #[.agg #[.int .i64 a, .int .i64 b]] w fun e w' => e = .returned (.int .i64 a) ∧ Below w.heap.size w w' := by
  go_enter Tryd.func110, Tryd.ntmps110
  go_wp2
  go_ret
  exact ⟨rfl, (Below.refl _ _).alloc (Nat.le_refl _) _⟩
theorem highs1_calls (a b : Int) (w : World) : Calls Tryd.prog 111 #[.agg #[.int .i64 a, .int .i64 b]] w fun e w' => e = .returned (.int .i64 b) ∧ Below w.heap.size w w' := by
  go_enter Tryd.func111, Tryd.ntmps111
  go_wp2
  go_ret
  exact ⟨rfl, (Below.refl _ _).alloc (Nat.le_refl _) _⟩
theorem lows_calls (w : World) : Calls Tryd.prog 100 #[] w fun e w' => e = .returned (.agg #[.func (.func 110) #[] #[]]) ∧ Below w.heap.size w w' := by
  go_enter Tryd.func100, Tryd.ntmps100
  go_wp2
  exact bodyPost_ret (v := .agg #[.func (.func 110) #[] #[]]) (by simp [results, Tryd.results100, go_sem]) rfl ⟨rfl, (Below.refl _ _).alloc (Nat.le_refl _) _⟩
theorem highs_calls (w : World) : Calls Tryd.prog 101 #[] w fun e w' => e = .returned (.agg #[.func (.func 111) #[] #[]]) ∧ Below w.heap.size w w' := by
  go_enter Tryd.func101, Tryd.ntmps101
  go_wp2
  exact bodyPost_ret (v := .agg #[.func (.func 111) #[] #[]]) (by simp [results, Tryd.results101, go_sem]) rfl ⟨rfl, (Below.refl _ _).alloc (Nat.le_refl _) _⟩
theorem low_calls (B : ForgeV) (k : Nat) (hk : k < B.lots.length) (w : World) (hB : LotsAt w B.lA B.lots) : Calls Tryd.prog 130 #[B.val, .int .i64 k] w fun e w' => e = .returned (.int .i64 (gl B.lots k).lo) ∧ Below w.heap.size w w' := by
  obtain ⟨b, o, e⟩ := hB.some_ (by omega)
  rw [e] at hB
  obtain ⟨c0, c1, c2⟩ := hB.at_ hk
  have bl := World.block_lt_of_cell? _ _ c0
  simp only at bl
  have hki : (k : Int) < B.lots.length := by omega
  unfold ForgeV.val ForgeV.cells
  rw [e]
  clear e hB
  go_enter Tryd.func130, Tryd.ntmps130
  go_wp2
  go_ret
  exact ⟨rfl, (Below.refl _ _).alloc (Nat.le_refl _) _⟩
theorem high_calls (B : ForgeV) (k : Nat) (hk : k < B.lots.length) (w : World) (hB : LotsAt w B.lA B.lots) : Calls Tryd.prog 131 #[B.val, .int .i64 k] w fun e w' => e = .returned (.int .i64 (gl B.lots k).hi) ∧ Below w.heap.size w w' := by
  obtain ⟨b, o, e⟩ := hB.some_ (by omega)
  rw [e] at hB
  obtain ⟨c0, c1, c2⟩ := hB.at_ hk
  have bl := World.block_lt_of_cell? _ _ c0
  simp only at bl
  have hki : (k : Int) < B.lots.length := by omega
  unfold ForgeV.val ForgeV.cells
  rw [e]
  clear e hB
  go_enter Tryd.func131, Tryd.ntmps131
  go_wp2
  go_ret
  exact ⟨rfl, (Below.refl _ _).alloc (Nat.le_refl _) _⟩
theorem ends_calls (hi : Bool) (B : ForgeV) (k : Nat) (hk : k < B.lots.length) (w : World) (hB : LotsAt w B.lA B.lots) : Calls Tryd.prog (bif hi then 131 else 130) #[B.val, .int .i64 k] w fun e w' => e = .returned (.int .i64 (endOf hi (gl B.lots k).lo (gl B.lots k).hi)) ∧ Below w.heap.size w w' := by
  cases hi
  · exact low_calls B k hk w hB
  · exact high_calls B k hk w hB
theorem sumTo_bd {xs : List Int} {c : Int} (h : ∀ k, -c ≤ gi xs k ∧ gi xs k ≤ c) : ∀ k : Nat, -(c * k) ≤ sumTo xs k ∧ sumTo xs k ≤ c * k
  | 0 => by simp [sumTo]
  | k + 1 => by
    have h1 := sumTo_bd h k
    have h2 := h k
    simp only [sumTo, Int.natCast_add, Int.mul_add]
    omega
set_option maxRecDepth 100000 in
theorem sum_calls (A : Option Addr) (c : Nat) (xs : List Int) (hl : xs.length ≤ 1000) (hx : ∀ k, -1000000 ≤ gi xs k ∧ gi xs k ≤ 1000000) (w : World) (hp : IntsAt w A xs) :
    Calls Tryd.prog 98 #[.slice A xs.length c] w fun e w' => e = .returned (.int .i64 (sumTo xs xs.length)) ∧ w = w' := by
  have HX := Lib.hid hx
  have Hl := Lib.hid hl
  rcases Nat.eq_zero_or_pos xs.length with h0 | h0
  · rw [h0]
    clear hx
    go_enter Tryd.func98, Tryd.ntmps98
    go_wp2
    refine wp_loop_rounds 1 ?_
    rw [rounds_succ]
    go_wp2
    go_ret
    exact ⟨rfl, rfl⟩
  · obtain ⟨b, o, rfl⟩ := hp.some_ h0
    have HP := Lib.hid hp
    clear hp hx
    go_enter Tryd.func98, Tryd.ntmps98
    go_wp2
    go_loop [8, 3] (fun i s => ∃ k : Nat, k ≤ xs.length ∧ i = .int .i64 k ∧ s = .int .i64 (sumTo xs k)) (fun i _ => xs.length - (intOf i).toNat)
    case atStart => exact ⟨0, Nat.zero_le _, rfl, rfl⟩
    case round =>
      obtain ⟨k, hk, rfl, rfl⟩ := hrel
      by_cases hlt : k < xs.length
      · have hck := HP.out.at_ hlt
        have hs : Hid (sumTo xs (k + 1) = sumTo xs k + gi xs k) := rfl
        have b1 := sumTo_bd HX.out k
        have b2 := HX.out k
        have hki : (k : Int) < xs.length := by omega
        have hw : IntKind.i64.wrap (sumTo xs k + gi xs k) = sumTo xs k + gi xs k := wrap_in (by omega) (by omega)
        clear b1 b2
        go_wp2
        go_round
        case rel => exact ⟨k + 1, by omega, by go_num, by rw [hs.out]⟩
        case measure => simp [intOf]; omega
      · obtain rfl : k = xs.length := by omega
        go_wp2
        go_ret
        exact ⟨rfl, rfl⟩
theorem tinTo_bd {B : ForgeV} (g : B.Good) {m : List Int} (hm : ∀ k, 0 ≤ gi m k ∧ gi m k ≤ 24) (hi : Bool) : ∀ k, k ≤ B.lots.length → 0 ≤ tinTo B.lots m hi k ∧ tinTo B.lots m hi k ≤ 24000 * k
  | 0, _ => by simp [tinTo]
  | k + 1, hk => by
    have h1 := tinTo_bd g hm hi k (by omega)
    have h2 := hm k
    have h3 := (g.lot k (by omega)).2
    have h4 : 0 ≤ endOf hi (gl B.lots k).lo (gl B.lots k).hi ∧ endOf hi (gl B.lots k).lo (gl B.lots k).hi ≤ 1000 := by cases hi <;> simp [endOf] <;> omega
    have h5 : 0 ≤ gi m k * endOf hi (gl B.lots k).lo (gl B.lots k).hi := Int.mul_nonneg h2.1 h4.1
    have h6 : gi m k * endOf hi (gl B.lots k).lo (gl B.lots k).hi ≤ 24 * 1000 := Int.mul_le_mul h2.2 h4.2 h4.1 (by decide)
    simp only [tinTo]
    omega
theorem pad4_get (m : List Int) (k : Nat) (h : k < 4) : (pad4 m)[k]? = some (.int .i64 (gi m k)) := by
  have : k = 0 ∨ k = 1 ∨ k = 2 ∨ k = 3 := by omega
  rcases this with rfl | rfl | rfl | rfl <;> rfl
set_option maxRecDepth 100000 in
set_option maxHeartbeats 2000000 in
theorem tin_false (B : ForgeV) (g : B.Good) (m : List Int) (hm : ∀ k, 0 ≤ gi m k ∧ gi m k ≤ 24) (w : World) (hB : B.Reads w) (hE : EndsAt w) :
    Calls Tryd.prog 99 #[B.val, .agg (pad4 m), .int .i64 0] w fun e w' => e = .returned (.int .i64 (tinTo B.lots m false B.lots.length)) ∧ Below w.heap.size w w' := by
  have hpad : pad4 m = #[.int .i64 (gi m 0), .int .i64 (gi m 1), .int .i64 (gi m 2), .int .i64 (gi m 3)] := rfl
  have H2 : Below w.heap.size w ((w.alloc (.cells B.cells 87)).alloc (.cells (pad4 m) 85)) := ((Below.refl _ _).alloc (Nat.le_refl _) _).alloc (by simp) _
  have k1 := (BoxAt.new w B.cells 87).alloc (.cells (pad4 m) 85)
  have k2 := BoxAt.new (w.alloc (.cells B.cells 87)) (pad4 m) 85
  rw [World.size_alloc] at k2
  have hB2 := hB.below H2
  have hE2 := hE.below H2
  have HM := Lib.hid hm
  have HG := Lib.hid g
  have hl4 := g.many
  clear hB hE hm g
  rw [hpad] at H2 k1 k2 hB2 hE2 ⊢
  clear hpad
  unfold ForgeV.val
  unfold ForgeV.cells at H2 k1 k2 hB2 hE2 ⊢
  go_enter Tryd.func99, Tryd.ntmps99
  go_upto_region 1 with (fail)
  generalize (w.alloc _).alloc _ = W at *
  have HH2 := Lib.hid H2
  generalize w.heap.size = nb at k1 k2 ⊢
  have HB := Lib.hid hB2
  have HE := Lib.hid hE2
  have K1 := Lib.hid k1
  have K2 := Lib.hid k2
  obtain ⟨c1, f1, l1⟩ := k1
  clear H2 k2 hB2 hE2
  go_upto_block 0 with (fail)
  clear c1 f1 l1
  go_wp2
  go_loopg [13, 7] B.lots.length (fun gq i s wr => ∃ k : Nat, k ≤ B.lots.length ∧ gq = B.lots.length - k ∧ i = .int .i64 k ∧ s = .int .i64 (tinTo B.lots m false k) ∧ Below W.heap.size W wr)
  case atStart => exact ⟨0, Nat.zero_le _, rfl, rfl, rfl, Below.refl _ _⟩
  case round =>
    obtain ⟨k, hk, hgk, rfl, rfl, hBe⟩ := hrel
    have Hgk := Lib.hid hgk
    have HBe := Lib.hid hBe
    clear hgk
    by_cases hlt : k < B.lots.length
    · have hlt4 : k < 4 := by omega
      have hki4 : (k : Int) < 4 := by omega
      obtain ⟨c1, f1, l1⟩ := K1.out.below hBe
      have k2 := K2.out.below hBe
      have c2k : wr.cell? ⟨nb + 1, k, none⟩ = some (.int .i64 (gi m k)) := (k2.cell k).trans (pad4_get m k hlt4)
      have l2 := k2.lt
      obtain ⟨e0, e1⟩ := HE.out.below hBe
      have ebl := World.block_lt_of_cell? _ _ e0
      simp only at ebl
      have b1 := tinTo_bd HG.out HM.out false k (by omega)
      have b2 := tinTo_bd HG.out HM.out false (k + 1) (by omega)
      have hs : Hid (tinTo B.lots m false (k + 1) = tinTo B.lots m false k + gi m k * endOf false (gl B.lots k).lo (gl B.lots k).hi) := rfl
      have hp : 0 ≤ gi m k * (gl B.lots k).lo ∧ gi m k * (gl B.lots k).lo ≤ 1000000 ∧ tinTo B.lots m false k + gi m k * (gl B.lots k).lo ≤ 1000000 := by
        have h := hs.out
        simp only [endOf, cond_true, cond_false] at h
        have h1 := (HG.out.lot k hlt).2
        have h2 := HM.out k
        have h3 : 0 ≤ gi m k * (gl B.lots k).lo := Int.mul_nonneg h2.1 (by omega)
        omega
      have hw1 : IntKind.i64.wrap (gi m k * (gl B.lots k).lo) = gi m k * (gl B.lots k).lo := wrap_in (by omega) (by omega)
      have hw2 : IntKind.i64.wrap (tinTo B.lots m false k + gi m k * (gl B.lots k).lo) = tinTo B.lots m false k + gi m k * (gl B.lots k).lo := wrap_in (by omega) (by omega)
      clear b1 b2 hp hBe k2
      go_upto_region 5 with (fail)
      refine region_plain (S := fun w' => Below wr.heap.size wr w') 13 (by kernel_rfl) ?_ (fun hHeld => ?_)
      · exact (Below.refl _ _).drew
      first | (refine anyT_take 0 (some 16) (v := ?_) rfl rfl (by kernel_rfl) (by kernel_rfl) (by kernel_rfl) (by kernel_rfl) (fun _ _ _ h => h) (Or.inl ⟨by rfl, ?_⟩) hHeld ?_; rotate_left; focus (intro wq hSw; obtain ⟨hcq, hfq⟩ := bcell hSw; go_simp; (try with_reducible rfl); done))
      (try simp only [Act.put, List.setIfInBounds_toArray, List.set_cons_zero, List.set_cons_succ])
      first | (refine anyT_take 1 (some 17) (v := ?_) rfl rfl (by kernel_rfl) (by kernel_rfl) (by kernel_rfl) (by kernel_rfl) (fun _ _ _ h => h) (Or.inl ⟨by rfl, ?_⟩) hHeld ?_; rotate_left; focus (intro wq hSw; obtain ⟨hcq, hfq⟩ := bcell hSw; go_simp; (try with_reducible rfl); done))
      (try simp only [Act.put, List.setIfInBounds_toArray, List.set_cons_zero, List.set_cons_succ])
      first | (refine anyT_take 2 (some 18) (v := ?_) rfl rfl (by kernel_rfl) (by kernel_rfl) (by kernel_rfl) (by kernel_rfl) (fun _ _ _ h => h) (Or.inl ⟨by rfl, ?_⟩) hHeld ?_; rotate_left; focus (intro wq hSw; obtain ⟨hcq, hfq⟩ := bcell hSw; go_simp; (try with_reducible rfl); done))
      (try simp only [Act.put, List.setIfInBounds_toArray, List.set_cons_zero, List.set_cons_succ])
      first | (refine anyT_take 3 (some 19) (v := ?_) rfl rfl (by kernel_rfl) (by kernel_rfl) (by kernel_rfl) (by kernel_rfl) (fun _ _ _ h => h) (Or.inl ⟨by rfl, ?_⟩) hHeld ?_; rotate_left; focus (intro wq hSw; obtain ⟨hcq, hfq⟩ := bcell hSw; go_simp; (try with_reducible rfl); done))
      (try simp only [Act.put, List.setIfInBounds_toArray, List.set_cons_zero, List.set_cons_succ])
      first | (refine anyT_take 4 (some 20) (v := ?_) rfl rfl (by kernel_rfl) (by kernel_rfl) (by kernel_rfl) (by kernel_rfl) (fun _ _ _ h => h) (Or.inl ⟨by rfl, ?_⟩) hHeld ?_; rotate_left; focus (intro wq hSw; obtain ⟨hcq, hfq⟩ := bcell hSw; go_simp; (try with_reducible rfl); done))
      (try simp only [Act.put, List.setIfInBounds_toArray, List.set_cons_zero, List.set_cons_succ])
      first | (refine anyT_take 5 (some 21) (v := ?_) rfl rfl (by kernel_rfl) (by kernel_rfl) (by kernel_rfl) (by kernel_rfl) (fun _ _ _ h => h) (Or.inl ⟨by rfl, ?_⟩) hHeld ?_; rotate_left; focus (intro wq hSw; obtain ⟨hcq, hfq⟩ := bcell hSw; go_simp; (try with_reducible rfl); done))
      (try simp only [Act.put, List.setIfInBounds_toArray, List.set_cons_zero, List.set_cons_succ])
      first | (refine anyT_take 6 (some 22) (v := ?_) rfl rfl (by kernel_rfl) (by kernel_rfl) (by kernel_rfl) (by kernel_rfl) (fun _ _ _ h => h) (Or.inl ⟨by rfl, ?_⟩) hHeld ?_; rotate_left; focus (intro wq hSw; obtain ⟨hcq, hfq⟩ := bcell hSw; go_simp; (try with_reducible rfl); done))
      (try simp only [Act.put, List.setIfInBounds_toArray, List.set_cons_zero, List.set_cons_succ])
      first | (refine anyT_take 7 (some 23) (v := ?_) rfl rfl (by kernel_rfl) (by kernel_rfl) (by kernel_rfl) (by kernel_rfl) (fun _ _ _ h => h) (Or.inl ⟨by rfl, ?_⟩) hHeld ?_; rotate_left; focus (intro wq hSw; obtain ⟨hcq, hfq⟩ := bcell hSw; go_simp; (try with_reducible rfl); done))
      (try simp only [Act.put, List.setIfInBounds_toArray, List.set_cons_zero, List.set_cons_succ])
      first | (refine anyT_take 8 (some 24) (v := ?_) rfl rfl (by kernel_rfl) (by kernel_rfl) (by kernel_rfl) (by kernel_rfl) (fun _ _ _ h => h) (Or.inl ⟨by rfl, ?_⟩) hHeld ?_; rotate_left; focus (intro wq hSw; obtain ⟨hcq, hfq⟩ := bcell hSw; go_simp; (try with_reducible rfl); done))
      (try simp only [Act.put, List.setIfInBounds_toArray, List.set_cons_zero, List.set_cons_succ])
      refine anyT_one 9 (by kernel_rfl) rfl (fun K hK => ?_)
      go_simp
      refine (eq0_2 (v' := B.val) (by unfold ForgeV.val ForgeV.cells; rfl) (low_calls B k hlt _ ((HB.out.lots.below HBe.out).below hHeld))).mono ?_; rintro e w3 ⟨rfl, hb3⟩
      refine hK.out _ _ ?_ (fun hHeld => ?_)
      · exact below_then hHeld hHeld.size hb3
      clear hK K
      (try simp only [Act.put, List.setIfInBounds_toArray, List.set_cons_zero, List.set_cons_succ])
      first | (refine anyT_take 10 (some 26) (v := ?_) rfl rfl (by kernel_rfl) (by kernel_rfl) (by kernel_rfl) (by kernel_rfl) (fun _ _ _ h => h) (Or.inl ⟨by rfl, ?_⟩) hHeld ?_; rotate_left; focus (intro wq hSw; obtain ⟨hcq, hfq⟩ := bcell hSw; go_simp; (try with_reducible rfl); done))
      (try simp only [Act.put, List.setIfInBounds_toArray, List.set_cons_zero, List.set_cons_succ])
      first | (refine anyT_take 11 (some 27) (v := ?_) rfl rfl (by kernel_rfl) (by kernel_rfl) (by kernel_rfl) (by kernel_rfl) (fun _ _ _ h => h) (Or.inl ⟨by rfl, ?_⟩) hHeld ?_; rotate_left; focus (intro wq hSw; obtain ⟨hcq, hfq⟩ := bcell hSw; go_simp; (try with_reducible rfl); done))
      (try simp only [Act.put, List.setIfInBounds_toArray, List.set_cons_zero, List.set_cons_succ])
      first | (refine anyT_take 12 (some 7) (v := ?_) rfl rfl (by kernel_rfl) (by kernel_rfl) (by kernel_rfl) (by kernel_rfl) (fun _ _ _ h => h) (Or.inl ⟨by rfl, ?_⟩) hHeld ?_; rotate_left; focus (intro wq hSw; obtain ⟨hcq, hfq⟩ := bcell hSw; go_simp; (try with_reducible rfl); done))
      (try simp only [Act.put, List.setIfInBounds_toArray, List.set_cons_zero, List.set_cons_succ])
      refine anyT_done (by kernel_rfl) ?_ _
      have HH := Lib.hid (below_then HBe.out HBe.out.size hHeld)
      clear hHeld
      go_wp2
      go_roundg (B.lots.length - (k + 1))
      case measure => have := Hgk.out; omega
      case rel => exact ⟨k + 1, by omega, rfl, by go_num, by rw [hs.out]; simp only [endOf, cond_true, cond_false], HH.out⟩
    · obtain rfl : k = B.lots.length := by omega
      go_wp2
      go_ret
      exact ⟨rfl, below_then HH2.out HH2.out.size hBe⟩

set_option maxRecDepth 100000 in
set_option maxHeartbeats 2000000 in
theorem tin_true (B : ForgeV) (g : B.Good) (m : List Int) (hm : ∀ k, 0 ≤ gi m k ∧ gi m k ≤ 24) (w : World) (hB : B.Reads w) (hE : EndsAt w) :
    Calls Tryd.prog 99 #[B.val, .agg (pad4 m), .int .i64 1] w fun e w' => e = .returned (.int .i64 (tinTo B.lots m true B.lots.length)) ∧ Below w.heap.size w w' := by
  have hpad : pad4 m = #[.int .i64 (gi m 0), .int .i64 (gi m 1), .int .i64 (gi m 2), .int .i64 (gi m 3)] := rfl
  have H2 : Below w.heap.size w ((w.alloc (.cells B.cells 87)).alloc (.cells (pad4 m) 85)) := ((Below.refl _ _).alloc (Nat.le_refl _) _).alloc (by simp) _
  have k1 := (BoxAt.new w B.cells 87).alloc (.cells (pad4 m) 85)
  have k2 := BoxAt.new (w.alloc (.cells B.cells 87)) (pad4 m) 85
  rw [World.size_alloc] at k2
  have hB2 := hB.below H2
  have hE2 := hE.below H2
  have HM := Lib.hid hm
  have HG := Lib.hid g
  have hl4 := g.many
  clear hB hE hm g
  rw [hpad] at H2 k1 k2 hB2 hE2 ⊢
  clear hpad
  unfold ForgeV.val
  unfold ForgeV.cells at H2 k1 k2 hB2 hE2 ⊢
  go_enter Tryd.func99, Tryd.ntmps99
  go_upto_region 1 with (fail)
  generalize (w.alloc _).alloc _ = W at *
  have HH2 := Lib.hid H2
  generalize w.heap.size = nb at k1 k2 ⊢
  have HB := Lib.hid hB2
  have HE := Lib.hid hE2
  have K1 := Lib.hid k1
  have K2 := Lib.hid k2
  obtain ⟨c1, f1, l1⟩ := k1
  clear H2 k2 hB2 hE2
  go_upto_block 0 with (fail)
  clear c1 f1 l1
  go_wp2
  go_loopg [13, 7] B.lots.length (fun gq i s wr => ∃ k : Nat, k ≤ B.lots.length ∧ gq = B.lots.length - k ∧ i = .int .i64 k ∧ s = .int .i64 (tinTo B.lots m true k) ∧ Below W.heap.size W wr)
  case atStart => exact ⟨0, Nat.zero_le _, rfl, rfl, rfl, Below.refl _ _⟩
  case round =>
    obtain ⟨k, hk, hgk, rfl, rfl, hBe⟩ := hrel
    have Hgk := Lib.hid hgk
    have HBe := Lib.hid hBe
    clear hgk
    by_cases hlt : k < B.lots.length
    · have hlt4 : k < 4 := by omega
      have hki4 : (k : Int) < 4 := by omega
      obtain ⟨c1, f1, l1⟩ := K1.out.below hBe
      have k2 := K2.out.below hBe
      have c2k : wr.cell? ⟨nb + 1, k, none⟩ = some (.int .i64 (gi m k)) := (k2.cell k).trans (pad4_get m k hlt4)
      have l2 := k2.lt
      obtain ⟨e0, e1⟩ := HE.out.below hBe
      have ebl := World.block_lt_of_cell? _ _ e0
      simp only at ebl
      have b1 := tinTo_bd HG.out HM.out true k (by omega)
      have b2 := tinTo_bd HG.out HM.out true (k + 1) (by omega)
      have hs : Hid (tinTo B.lots m true (k + 1) = tinTo B.lots m true k + gi m k * endOf true (gl B.lots k).lo (gl B.lots k).hi) := rfl
      have hp : 0 ≤ gi m k * (gl B.lots k).hi ∧ gi m k * (gl B.lots k).hi ≤ 1000000 ∧ tinTo B.lots m true k + gi m k * (gl B.lots k).hi ≤ 1000000 := by
        have h := hs.out
        simp only [endOf, cond_true, cond_false] at h
        have h1 := (HG.out.lot k hlt).2
        have h2 := HM.out k
        have h3 : 0 ≤ gi m k * (gl B.lots k).hi := Int.mul_nonneg h2.1 (by omega)
        omega
      have hw1 : IntKind.i64.wrap (gi m k * (gl B.lots k).hi) = gi m k * (gl B.lots k).hi := wrap_in (by omega) (by omega)
      have hw2 : IntKind.i64.wrap (tinTo B.lots m true k + gi m k * (gl B.lots k).hi) = tinTo B.lots m true k + gi m k * (gl B.lots k).hi := wrap_in (by omega) (by omega)
      clear b1 b2 hp hBe k2
      go_upto_region 5 with (fail)
      refine region_plain (S := fun w' => Below wr.heap.size wr w') 13 (by kernel_rfl) ?_ (fun hHeld => ?_)
      · exact (Below.refl _ _).drew
      first | (refine anyT_take 0 (some 16) (v := ?_) rfl rfl (by kernel_rfl) (by kernel_rfl) (by kernel_rfl) (by kernel_rfl) (fun _ _ _ h => h) (Or.inl ⟨by rfl, ?_⟩) hHeld ?_; rotate_left; focus (intro wq hSw; obtain ⟨hcq, hfq⟩ := bcell hSw; go_simp; (try with_reducible rfl); done))
      (try simp only [Act.put, List.setIfInBounds_toArray, List.set_cons_zero, List.set_cons_succ])
      first | (refine anyT_take 1 (some 17) (v := ?_) rfl rfl (by kernel_rfl) (by kernel_rfl) (by kernel_rfl) (by kernel_rfl) (fun _ _ _ h => h) (Or.inl ⟨by rfl, ?_⟩) hHeld ?_; rotate_left; focus (intro wq hSw; obtain ⟨hcq, hfq⟩ := bcell hSw; go_simp; (try with_reducible rfl); done))
      (try simp only [Act.put, List.setIfInBounds_toArray, List.set_cons_zero, List.set_cons_succ])
      first | (refine anyT_take 2 (some 18) (v := ?_) rfl rfl (by kernel_rfl) (by kernel_rfl) (by kernel_rfl) (by kernel_rfl) (fun _ _ _ h => h) (Or.inl ⟨by rfl, ?_⟩) hHeld ?_; rotate_left; focus (intro wq hSw; obtain ⟨hcq, hfq⟩ := bcell hSw; go_simp; (try with_reducible rfl); done))
      (try simp only [Act.put, List.setIfInBounds_toArray, List.set_cons_zero, List.set_cons_succ])
      first | (refine anyT_take 3 (some 19) (v := ?_) rfl rfl (by kernel_rfl) (by kernel_rfl) (by kernel_rfl) (by kernel_rfl) (fun _ _ _ h => h) (Or.inl ⟨by rfl, ?_⟩) hHeld ?_; rotate_left; focus (intro wq hSw; obtain ⟨hcq, hfq⟩ := bcell hSw; go_simp; (try with_reducible rfl); done))
      (try simp only [Act.put, List.setIfInBounds_toArray, List.set_cons_zero, List.set_cons_succ])
      first | (refine anyT_take 4 (some 20) (v := ?_) rfl rfl (by kernel_rfl) (by kernel_rfl) (by kernel_rfl) (by kernel_rfl) (fun _ _ _ h => h) (Or.inl ⟨by rfl, ?_⟩) hHeld ?_; rotate_left; focus (intro wq hSw; obtain ⟨hcq, hfq⟩ := bcell hSw; go_simp; (try with_reducible rfl); done))
      (try simp only [Act.put, List.setIfInBounds_toArray, List.set_cons_zero, List.set_cons_succ])
      first | (refine anyT_take 5 (some 21) (v := ?_) rfl rfl (by kernel_rfl) (by kernel_rfl) (by kernel_rfl) (by kernel_rfl) (fun _ _ _ h => h) (Or.inl ⟨by rfl, ?_⟩) hHeld ?_; rotate_left; focus (intro wq hSw; obtain ⟨hcq, hfq⟩ := bcell hSw; go_simp; (try with_reducible rfl); done))
      (try simp only [Act.put, List.setIfInBounds_toArray, List.set_cons_zero, List.set_cons_succ])
      first | (refine anyT_take 6 (some 22) (v := ?_) rfl rfl (by kernel_rfl) (by kernel_rfl) (by kernel_rfl) (by kernel_rfl) (fun _ _ _ h => h) (Or.inl ⟨by rfl, ?_⟩) hHeld ?_; rotate_left; focus (intro wq hSw; obtain ⟨hcq, hfq⟩ := bcell hSw; go_simp; (try with_reducible rfl); done))
      (try simp only [Act.put, List.setIfInBounds_toArray, List.set_cons_zero, List.set_cons_succ])
      first | (refine anyT_take 7 (some 23) (v := ?_) rfl rfl (by kernel_rfl) (by kernel_rfl) (by kernel_rfl) (by kernel_rfl) (fun _ _ _ h => h) (Or.inl ⟨by rfl, ?_⟩) hHeld ?_; rotate_left; focus (intro wq hSw; obtain ⟨hcq, hfq⟩ := bcell hSw; go_simp; (try with_reducible rfl); done))
      (try simp only [Act.put, List.setIfInBounds_toArray, List.set_cons_zero, List.set_cons_succ])
      first | (refine anyT_take 8 (some 24) (v := ?_) rfl rfl (by kernel_rfl) (by kernel_rfl) (by kernel_rfl) (by kernel_rfl) (fun _ _ _ h => h) (Or.inl ⟨by rfl, ?_⟩) hHeld ?_; rotate_left; focus (intro wq hSw; obtain ⟨hcq, hfq⟩ := bcell hSw; go_simp; (try with_reducible rfl); done))
      (try simp only [Act.put, List.setIfInBounds_toArray, List.set_cons_zero, List.set_cons_succ])
      refine anyT_one 9 (by kernel_rfl) rfl (fun K hK => ?_)
      go_simp
      refine (eq0_2 (v' := B.val) (by unfold ForgeV.val ForgeV.cells; rfl) (high_calls B k hlt _ ((HB.out.lots.below HBe.out).below hHeld))).mono ?_; rintro e w3 ⟨rfl, hb3⟩
      refine hK.out _ _ ?_ (fun hHeld => ?_)
      · exact below_then hHeld hHeld.size hb3
      clear hK K
      (try simp only [Act.put, List.setIfInBounds_toArray, List.set_cons_zero, List.set_cons_succ])
      first | (refine anyT_take 10 (some 26) (v := ?_) rfl rfl (by kernel_rfl) (by kernel_rfl) (by kernel_rfl) (by kernel_rfl) (fun _ _ _ h => h) (Or.inl ⟨by rfl, ?_⟩) hHeld ?_; rotate_left; focus (intro wq hSw; obtain ⟨hcq, hfq⟩ := bcell hSw; go_simp; (try with_reducible rfl); done))
      (try simp only [Act.put, List.setIfInBounds_toArray, List.set_cons_zero, List.set_cons_succ])
      first | (refine anyT_take 11 (some 27) (v := ?_) rfl rfl (by kernel_rfl) (by kernel_rfl) (by kernel_rfl) (by kernel_rfl) (fun _ _ _ h => h) (Or.inl ⟨by rfl, ?_⟩) hHeld ?_; rotate_left; focus (intro wq hSw; obtain ⟨hcq, hfq⟩ := bcell hSw; go_simp; (try with_reducible rfl); done))
      (try simp only [Act.put, List.setIfInBounds_toArray, List.set_cons_zero, List.set_cons_succ])
      first | (refine anyT_take 12 (some 7) (v := ?_) rfl rfl (by kernel_rfl) (by kernel_rfl) (by kernel_rfl) (by kernel_rfl) (fun _ _ _ h => h) (Or.inl ⟨by rfl, ?_⟩) hHeld ?_; rotate_left; focus (intro wq hSw; obtain ⟨hcq, hfq⟩ := bcell hSw; go_simp; (try with_reducible rfl); done))
      (try simp only [Act.put, List.setIfInBounds_toArray, List.set_cons_zero, List.set_cons_succ])
      refine anyT_done (by kernel_rfl) ?_ _
      have HH := Lib.hid (below_then HBe.out HBe.out.size hHeld)
      clear hHeld
      go_wp2
      go_roundg (B.lots.length - (k + 1))
      case measure => have := Hgk.out; omega
      case rel => exact ⟨k + 1, by omega, rfl, by go_num, by rw [hs.out]; simp only [endOf, cond_true, cond_false], HH.out⟩
    · obtain rfl : k = B.lots.length := by omega
      go_wp2
      go_ret
      exact ⟨rfl, below_then HH2.out HH2.out.size hBe⟩

end
end Go.Proofs.YtgfbfbfajnfbjaaDoor
