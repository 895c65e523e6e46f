/- PROVED: ForgeKept (the walk): the law returns true, whatever the book and the numbers. -/
import Derived.Test.YtgfbfbfajnfbjaaDoorCQ
namespace Go.Proofs.YtgfbfbfajnfbjaaDoor
section
open Go.RowKit Go.Shelf
set_option linter.unusedSimpArgs false
set_option linter.unusedVariables false
theorem castsR_pair {B : ForgeV} {S : List Int} {e : Ending} {w' : World} (hg : goodF B = true) (ha : castsAsk S = true) (h : CastsR B S e w') :
    ∃ A n f, e = .returned (.tuple #[.slice A n n, .int .i64 f]) ∧ Hid ((castsS B (stockS B) S = none ∧ A = none ∧ n = 0 ∧ f = 4) ∨ ∃ ms, castsS B (stockS B) S = some ms ∧ n = ms.length ∧ f = 0 ∧ RowsAt w' A ms) := by
  rcases h with ⟨h1, _⟩ | ⟨_, h1, _⟩ | ⟨_, _, h1, h2⟩ | ⟨_, _, ms, A, h1, h2, h3⟩
  · rw [hg] at h1; cases h1
  · rw [ha] at h1; cases h1
  · exact ⟨none, 0, 4, h2, .inl ⟨h1, rfl, rfl, rfl⟩⟩
  · exact ⟨A, ms.length, 0, h2, .inr ⟨ms, h1, rfl, rfl, h3⟩⟩
theorem castR_pair {B : ForgeV} {s : Int} {e : Ending} {w' : World} (hg : goodF B = true) (ha : inB s 1 24 = true) (h : CastR B s e w') :
    ∃ A n f, e = .returned (.tuple #[.slice A n n, .int .i64 f]) ∧ Hid ((bestOf (meltsS B (stockS B) s) = none ∧ f = 4) ∨ ((∃ q, bestOf (meltsS B (stockS B) s) = some q) ∧ f = 0)) := by
  rcases h with ⟨h1, _⟩ | ⟨_, h1, _⟩ | ⟨_, _, h1, h2⟩ | ⟨_, _, q, A, h1, h2, h3⟩
  · rw [hg] at h1; cases h1
  · rw [ha] at h1; cases h1
  · exact ⟨none, 0, 4, h2, .inl ⟨h1, rfl⟩⟩
  · exact ⟨A, q.length, 0, h2, .inr ⟨⟨q, h1⟩, rfl⟩⟩
theorem sumS_bd {l : List Int} (h : ∀ k, k < l.length → 1 ≤ gi l k ∧ gi l k ≤ 10) : ∀ k : Nat, k ≤ l.length → 0 ≤ sumTo l k ∧ sumTo l k ≤ 10 * k
  | 0, _ => ⟨Int.le_refl _, Int.le_refl _⟩
  | k + 1, hk => by
    have := sumS_bd h k (by omega)
    have := h k (by omega)
    rw [sumTo]
    omega
theorem stock_sum {B : ForgeV} (g : B.Good) (k : Nat) (hk : k ≤ B.lots.length) : 0 ≤ sumTo (stockS B) k ∧ sumTo (stockS B) k ≤ 24 * k :=
  sumTo_nn (fun j => ⟨(stock_bd g j).1, by have := (stock_bd g j).2; omega⟩) k
/-- what the three calls of the law come to -/
theorem three_ways {B : ForgeV} {S : List Int} {s : Int} {w4 w5 : World} {A A5 : Option Addr} {n n5 f f5 f6 : _} (hS : S.take 1 = [s])
    (h1 : (castsS B (stockS B) S = none ∧ A = none ∧ n = 0 ∧ f = 4) ∨ ∃ ms, castsS B (stockS B) S = some ms ∧ n = ms.length ∧ f = (0 : Int) ∧ RowsAt w4 A ms)
    (h2 : (castsS B (stockS B) [s] = none ∧ A5 = none ∧ n5 = 0 ∧ f5 = 4) ∨ ∃ ms, castsS B (stockS B) [s] = some ms ∧ n5 = ms.length ∧ f5 = (0 : Int) ∧ RowsAt w5 A5 ms)
    (h3 : (bestOf (meltsS B (stockS B) s) = none ∧ f6 = 4) ∨ ((∃ q, bestOf (meltsS B (stockS B) s) = some q) ∧ f6 = (0 : Int))) :
    (A = none ∧ n = 0 ∧ f = 4 ∧ n5 = 0 ∧ f5 = 4 ∧ f6 = 4) ∨ (A = none ∧ n = 0 ∧ f = 4 ∧ n5 = 1 ∧ f5 = 0 ∧ f6 = 0) ∨ (f = 0 ∧ n5 = 1 ∧ f5 = 0 ∧ f6 = 0 ∧ ∃ ms, castsS B (stockS B) S = some ms ∧ n = ms.length ∧ RowsAt w4 A ms) := by
  have ho := casts_one (B := B) (stockS B) s
  rcases h1 with ⟨a1, a2, a3, a4⟩ | ⟨ms, a1, a2, a3, a4⟩
  · rcases h2 with ⟨b1, b2, b3, b4⟩ | ⟨m5, b1, b2, b3, b4⟩
    · rcases h3 with ⟨c1, c2⟩ | ⟨⟨q, c1⟩, c2⟩
      · exact .inl ⟨a2, a3, a4, b3, b4, c2⟩
      · rw [ho.1.1 b1] at c1; cases c1
    · rcases h3 with ⟨c1, c2⟩ | ⟨⟨q, c1⟩, c2⟩
      · rw [ho.1.2 c1] at b1; cases b1
      · exact .inr (.inl ⟨a2, a3, a4, by rw [b2]; exact ho.2 _ b1, b3, c2⟩)
  · obtain ⟨ns, hns⟩ := casts_take 1 a1
    rw [hS] at hns
    rcases h2 with ⟨b1, b2, b3, b4⟩ | ⟨m5, b1, b2, b3, b4⟩
    · rw [hns] at b1; cases b1
    · rcases h3 with ⟨c1, c2⟩ | ⟨⟨q, c1⟩, c2⟩
      · rw [ho.1.2 c1] at b1; cases b1
      · exact .inr (.inr ⟨a3, by rw [b2]; exact ho.2 _ b1, b3, c2, ms, a1, a2, a4⟩)
end
section
open Go.RowKit Go.Shelf
attribute [local go_sem] Oper.semAt_some
set_option linter.unusedSimpArgs false
set_option linter.unusedVariables false
set_option maxRecDepth 100000 in
set_option maxHeartbeats 8000000 in
theorem ForgeKept_calls (B : ForgeV) (n0 n1 n2 n3 which : Int) (w : World) (hB : B.Reads w) (hM : EndsAt w) :
    Calls Tryd.prog 9 #[B.val, .agg #[.int .i64 n0, .int .i64 n1, .int .i64 n2, .int .i64 n3], .int .i64 which] w fun e w' => e = .returned (.bool true) ∧ Below w.heap.size w w' := by
  have HB0 := Lib.hid hB
  have HM0 := Lib.hid hM
  clear hB hM
  have hcells : B.val = .agg B.cells := rfl
  rw [hcells]
  unfold ForgeV.cells
  go_enter Tryd.func9, Tryd.ntmps9
  go_upto_region 1 with fail
  have k3 := (BoxAt.new w B.cells 28).alloc (.cells #[.int .i64 n0, .int .i64 n1, .int .i64 n2, .int .i64 n3] 64)
  have k5 := BoxAt.new (w.alloc (.cells B.cells 28)) #[.int .i64 n0, .int .i64 n1, .int .i64 n2, .int .i64 n3] 64
  have H1 : Below w.heap.size w ((w.alloc (.cells B.cells 28)).alloc (.cells #[.int .i64 n0, .int .i64 n1, .int .i64 n2, .int .i64 n3] 64)) := ((Below.refl _ _).alloc (Nat.le_refl _) _).alloc (by simp) _
  unfold ForgeV.cells at k3 k5 H1
  simp only [World.size_alloc] at k5
  generalize World.alloc (World.alloc w _) _ = w1 at *
  have hn5 : w.heap.size < w.heap.size + 1 := Nat.lt_succ_self _
  generalize w.heap.size + 1 = n5 at *
  have H2 := Lib.hid H1
  have K3 := Lib.hid k3
  have K5 := Lib.hid k5
  obtain ⟨c3, f3, l3⟩ := k3
  clear k5 H1
  go_wp2_with fail
  refine (eq0_1 (v' := B.val) (by unfold ForgeV.val ForgeV.cells; rfl) (sound_calls B _ (HB0.out.below H2.out))).mono ?_
  rintro e w2 ⟨rfl, hb⟩
  clear c3 f3 l3
  replace K3 := Lib.hid (K3.out.below hb)
  replace K5 := Lib.hid (K5.out.below hb)
  replace H2 := Lib.hid (below_then H2.out H2.out.size hb)
  clear hb
  cases hg : goodF B with
  | false =>
    go_wp2_with fail
    refine (works_calls _ (HM0.out.below H2.out)).mono ?_
    rintro e w3 ⟨rfl, hb⟩
    go_wp2
    go_ret
    exact ⟨rfl, below_then H2.out H2.out.size hb⟩
  | true =>
    have Hgg := Lib.hid hg
    have Hg := Lib.hid ((goodF_iff B).1 hg)
    clear hg
    obtain ⟨nl, hnl⟩ : ∃ nl, nl = [n0, n1, n2, n3] := ⟨_, rfl⟩
    have hns : ∀ r : Nat, r < 4 → w2.cell? ⟨n5, r, none⟩ = some (.int .i64 (gi nl r)) := fun r hr => by
      rw [K5.out.cell, hnl]
      have : r = 0 ∨ r = 1 ∨ r = 2 ∨ r = 3 := by omega
      rcases this with rfl | rfl | rfl | rfl <;> rfl
    have hn3 : n3 = gi nl 3 := by rw [hnl]; rfl
    have Hns := Lib.hid hns
    clear hns hnl
    have hts := turnZ_bd (n := gi nl 3) (b := 3) (by decide)
    obtain ⟨T, hT⟩ : ∃ T : Nat, 1 + turnZ (gi nl 3) 3 = (T : Int) := ⟨(1 + turnZ (gi nl 3) 3).toNat, by omega⟩
    have hT3 : 1 ≤ T ∧ T ≤ 3 := by omega
    have Hw1 := Lib.hid (show IntKind.i64.wrap (1 + turnZ (gi nl 3) 3) = (T : Int) by rw [wrap_in (by omega) (by omega)]; exact hT)
    clear hts hT hn3
    go_wp2
    go_loopg [8, 7] T (fun gq i v wr => ∃ k : Nat, k ≤ T ∧ gq = T - k ∧ i = .int .i64 k ∧ OwnInts wr w2.heap.size v (sizesTo nl k) ∧ Below w2.heap.size w2 wr)
    case atStart => exact ⟨0, Nat.zero_le _, rfl, rfl, OwnInts.nil _ _, Below.refl _ _⟩
    case round =>
      obtain ⟨k, hk, hgk, rfl, hown, hbe⟩ := hrel
      have Hgk := Lib.hid hgk
      have Hown := Lib.hid hown
      have Hbe := Lib.hid hbe
      have l5 := (K5.out.below hbe).lt
      have p3 := cell_below hbe (Hns.out 3 (by omega))
      have hw1 := Hw1.out
      clear hgk hown hbe
      by_cases hlt : k < T
      · have hki : (k : Int) < T := by omega
        have hk4 : (k : Int) < 4 := by omega
        have pk := cell_below Hbe.out (Hns.out k (by omega))
        have ht2 := turnZ_bd (n := gi nl k) (b := 10) (by decide)
        have hw2 : IntKind.i64.wrap (1 + turnZ (gi nl k) 10) = 1 + turnZ (gi nl k) 10 := wrap_in (by omega) (by omega)
        have Hs := Lib.hid (sizesTo_succ nl k)
        clear ht2
        go_wp2_with (first
          | (go_at_call 44; refine (Turn_calls _ _ _ (by decide)).mono ?_; rintro e x1 ⟨rfl, rfl⟩)
          | (at_builtin; refine wpList_app1 _ rfl _ _ rfl w2.heap.size _ _ rfl (Hown.out.alloc _) _ _ _ rfl (cell_new1 _ _ _) (by rw [sizesTo_len]; omega) (by have := Hbe.out.size; simp; omega) ?_; intro v' w5 ho hb5 hsz hbl; clear hsz hbl; have Hho := Lib.hid ho; have Hb5 := Lib.hid hb5; clear ho hb5))
        go_roundg (T - (k + 1))
        case measure => have := Hgk.out; omega
        case rel => exact ⟨k + 1, by omega, rfl, by go_num, by rw [Hs.out]; exact Hho.out, (Hbe.out.alloc Hbe.out.size _).trans Hb5.out⟩
      · obtain rfl : k = T := by omega
        have hki : ¬ (k : Int) < k := by omega
        obtain ⟨SA, sc, rfl, hi', hc', hm', h0⟩ := Hown.out.reads
        have HSb := Lib.hid (sizesTo_bd nl k)
        have hSl := sizesTo_len nl k
        generalize sizesTo nl k = S at *
        obtain ⟨sb, so, rfl, hSc⟩ := hi'.2.resolve_left (by intro e; rw [e] at hSl; simp at hSl; omega)
        have HSl := Lib.hid hSl
        have hS3 : 1 ≤ S.length ∧ S.length ≤ 3 := by omega
        rw [← hSl] at HSb
        have Hsa := Lib.hid (casts_asks (l := S) (by omega) (fun j hj => by have := HSb.out j hj; omega))
        have Hsa1 := Lib.hid (casts_asks (l := [gi S 0]) (by simp) (fun j hj => by obtain rfl : j = 0 := (by simpa using hj); have := HSb.out 0 (by omega); simp [gi] at this ⊢; omega))
        have Hs0 := Lib.hid (show inB (gi S 0) 1 24 = true from inB_iff.2 (by have := HSb.out 0 (by omega); omega))
        have HS1 := Lib.hid (take_one (l := S) (by omega))
        have HSi := Lib.hid hi'
        have H3 := Lib.hid (below_then H2.out H2.out.size Hbe.out)
        have K3a := Lib.hid (K3.out.below Hbe.out)
        clear hi' h0 hSc hSl Hns Hown K3 K5
        obtain ⟨c3, f3, l3⟩ := K3a.out
        go_wp2_with (go_at_call 44; refine (Turn_calls _ _ _ (by decide)).mono ?_; rintro e x1 ⟨rfl, rfl⟩)
        refine (eq0_2 (v' := B.val) (by unfold ForgeV.val ForgeV.cells; rfl) (Casts_calls B _ sc S _ (HB0.out.below H3.out) (HM0.out.below H3.out) HSi.out)).mono ?_
        rintro e w4 ⟨hc, hb⟩
        obtain ⟨A4, m4, f4, rfl, hc4⟩ := castsR_pair Hgg.out Hsa.out hc
        have K34 := Lib.hid (K3a.out.below hb)
        have H4 := Lib.hid (below_then H3.out H3.out.size hb)
        have HS4 := Lib.hid (HSi.out.below hb)
        clear hc hb c3 f3 l3 K3a HSi hw1 Hw1 l5 p3
        obtain ⟨c3, f3, l3⟩ := K34.out
        have hsc1 : 1 ≤ sc := by omega
        have hsc2 : (1 : Int) ≤ sc := by omega
        go_upto_region 9 with (fail)
        refine region_plain (S := fun w' => Below w4.heap.size w4 w') 9 (by kernel_rfl) ?_ (fun hHeld => ?_)
        · exact (Below.refl _ _).drew
        first | (refine anyT_take 0 (some 52) (v := ?_) rfl rfl (by kernel_rfl) (by kernel_rfl) (by kernel_rfl) (by kernel_rfl) (fun _ _ _ h => h) (Or.inl ⟨by rfl, ?_⟩) hHeld ?_; rotate_left; focus (intro wq hSw; obtain ⟨hcq, hfq⟩ := bcell hSw; go_simp; (try with_reducible rfl); done))
        (try simp only [Act.put, List.setIfInBounds_toArray, List.set_cons_zero, List.set_cons_succ])
        first | (refine anyT_take 1 (some 53) (v := ?_) rfl rfl (by kernel_rfl) (by kernel_rfl) (by kernel_rfl) (by kernel_rfl) (fun _ _ _ h => h) (Or.inl ⟨by rfl, ?_⟩) hHeld ?_; rotate_left; focus (intro wq hSw; obtain ⟨hcq, hfq⟩ := bcell hSw; go_simp; (try with_reducible rfl); done))
        (try simp only [Act.put, List.setIfInBounds_toArray, List.set_cons_zero, List.set_cons_succ])
        first | (refine anyT_take 2 (some 54) (v := ?_) rfl rfl (by kernel_rfl) (by kernel_rfl) (by kernel_rfl) (by kernel_rfl) (fun _ _ _ h => h) (Or.inl ⟨by rfl, ?_⟩) hHeld ?_; rotate_left; focus (intro wq hSw; obtain ⟨hcq, hfq⟩ := bcell hSw; go_simp; (try with_reducible rfl); done))
        (try simp only [Act.put, List.setIfInBounds_toArray, List.set_cons_zero, List.set_cons_succ])
        refine anyT_one 3 (by kernel_rfl) rfl (fun K hK => ?_)
        go_simp
        refine (eq0_2 (v' := B.val) (by unfold ForgeV.val ForgeV.cells; rfl) (Casts_calls B _ sc [gi S 0] _ (HB0.out.below (H4.out.trans (hHeld.mono H4.out.size))) (HM0.out.below (H4.out.trans (hHeld.mono H4.out.size))) ((HS4.out.below hHeld).take1 (by omega)))).mono ?_; rintro e w5 ⟨hc, hb⟩; obtain ⟨A5, m5, f5, rfl, hc5⟩ := castsR_pair Hgg.out Hsa1.out hc; clear hc
        refine hK.out _ _ ?_ (fun hHeld => ?_)
        · exact below_then hHeld hHeld.size hb
        clear hK K
        (try simp only [Act.put, List.setIfInBounds_toArray, List.set_cons_zero, List.set_cons_succ])
        first | (refine anyT_take 4 (some 51) (v := ?_) rfl rfl (by kernel_rfl) (by kernel_rfl) (by kernel_rfl) (by kernel_rfl) (fun _ _ _ h => h) (Or.inl ⟨by rfl, ?_⟩) hHeld ?_; rotate_left; focus (intro wq hSw; obtain ⟨hcq, hfq⟩ := bcell hSw; go_simp; (try with_reducible rfl); done))
        (try simp only [Act.put, List.setIfInBounds_toArray, List.set_cons_zero, List.set_cons_succ])
        first | (refine anyT_take 5 (some 56) (v := ?_) rfl rfl (by kernel_rfl) (by kernel_rfl) (by kernel_rfl) (by kernel_rfl) (fun _ _ _ h => h) (Or.inl ⟨by rfl, ?_⟩) hHeld ?_; rotate_left; focus (intro wq hSw; obtain ⟨hcq, hfq⟩ := bcell hSw; go_simp; (try with_reducible rfl); done))
        (try simp only [Act.put, List.setIfInBounds_toArray, List.set_cons_zero, List.set_cons_succ])
        first | (refine anyT_take 6 (some 57) (v := ?_) rfl rfl (by kernel_rfl) (by kernel_rfl) (by kernel_rfl) (by kernel_rfl) (fun _ _ _ h => h) (Or.inl ⟨by rfl, ?_⟩) hHeld ?_; rotate_left; focus (intro wq hSw; obtain ⟨hcq, hfq⟩ := bcell hSw; go_simp; (try with_reducible rfl); done))
        (try simp only [Act.put, List.setIfInBounds_toArray, List.set_cons_zero, List.set_cons_succ])
        first | (refine anyT_take 7 (some 11) (v := ?_) rfl rfl (by kernel_rfl) (by kernel_rfl) (by kernel_rfl) (by kernel_rfl) (fun _ _ _ h => h) (Or.inl ⟨by rfl, ?_⟩) hHeld ?_; rotate_left; focus (intro wq hSw; obtain ⟨hcq, hfq⟩ := bcell hSw; go_simp; (try with_reducible rfl); done))
        (try simp only [Act.put, List.setIfInBounds_toArray, List.set_cons_zero, List.set_cons_succ])
        first | (refine anyT_take 8 (some 12) (v := ?_) rfl rfl (by kernel_rfl) (by kernel_rfl) (by kernel_rfl) (by kernel_rfl) (fun _ _ _ h => h) (Or.inl ⟨by rfl, ?_⟩) hHeld ?_; rotate_left; focus (intro wq hSw; obtain ⟨hcq, hfq⟩ := bcell hSw; go_simp; (try with_reducible rfl); done))
        (try simp only [Act.put, List.setIfInBounds_toArray, List.set_cons_zero, List.set_cons_succ])
        refine anyT_done (by kernel_rfl) ?_ _
        have K35 := Lib.hid (K34.out.below hHeld)
        have H5 := Lib.hid (H4.out.trans (hHeld.mono H4.out.size))
        have HS5 := Lib.hid (HS4.out.below hHeld)
        have H45 := Lib.hid hHeld
        clear hHeld hb c3 f3 l3
        obtain ⟨c3, f3, l3⟩ := K35.out
        have p0 := HS5.out.at0 (by omega)
        have pbl := World.block_lt_of_cell? _ _ p0
        simp only at pbl
        have hSi : 0 < S.length := by omega
        go_upto_region 10 with (fail)
        refine region_plain (S := fun w' => Below w5.heap.size w5 w') 10 (by kernel_rfl) ?_ (fun hHeld => ?_)
        · exact (Below.refl _ _).drew
        first | (refine anyT_take 0 (some 59) (v := ?_) rfl rfl (by kernel_rfl) (by kernel_rfl) (by kernel_rfl) (by kernel_rfl) (fun _ _ _ h => h) (Or.inl ⟨by rfl, ?_⟩) hHeld ?_; rotate_left; focus (intro wq hSw; obtain ⟨hcq, hfq⟩ := bcell hSw; go_simp; (try with_reducible rfl); done))
        (try simp only [Act.put, List.setIfInBounds_toArray, List.set_cons_zero, List.set_cons_succ])
        first | (refine anyT_take 1 (some 60) (v := ?_) rfl rfl (by kernel_rfl) (by kernel_rfl) (by kernel_rfl) (by kernel_rfl) (fun _ _ _ h => h) (Or.inl ⟨by rfl, ?_⟩) hHeld ?_; rotate_left; focus (intro wq hSw; obtain ⟨hcq, hfq⟩ := bcell hSw; go_simp; (try with_reducible rfl); done))
        (try simp only [Act.put, List.setIfInBounds_toArray, List.set_cons_zero, List.set_cons_succ])
        first | (refine anyT_take 2 (some 61) (v := ?_) rfl rfl (by kernel_rfl) (by kernel_rfl) (by kernel_rfl) (by kernel_rfl) (fun _ _ _ h => h) (Or.inl ⟨by rfl, ?_⟩) hHeld ?_; rotate_left; focus (intro wq hSw; obtain ⟨hcq, hfq⟩ := bcell hSw; go_simp; (try with_reducible rfl); done))
        (try simp only [Act.put, List.setIfInBounds_toArray, List.set_cons_zero, List.set_cons_succ])
        first | (refine anyT_take 3 (some 62) (v := ?_) rfl rfl (by kernel_rfl) (by kernel_rfl) (by kernel_rfl) (by kernel_rfl) (fun _ _ _ h => h) (Or.inl ⟨by rfl, ?_⟩) hHeld ?_; rotate_left; focus (intro wq hSw; obtain ⟨hcq, hfq⟩ := bcell hSw; go_simp; (try with_reducible rfl); done))
        (try simp only [Act.put, List.setIfInBounds_toArray, List.set_cons_zero, List.set_cons_succ])
        refine anyT_one 4 (by kernel_rfl) rfl (fun K hK => ?_)
        go_simp
        refine (eq0_2 (v' := B.val) (by unfold ForgeV.val ForgeV.cells; rfl) (Cast_calls B (gi S 0) _ (HB0.out.below (H5.out.trans (hHeld.mono H5.out.size))) (HM0.out.below (H5.out.trans (hHeld.mono H5.out.size))))).mono ?_; rintro e w6 ⟨hc, hb⟩; obtain ⟨A6, m6, f6, rfl, hc6⟩ := castR_pair Hgg.out Hs0.out hc; clear hc
        refine hK.out _ _ ?_ (fun hHeld => ?_)
        · exact below_then hHeld hHeld.size hb
        clear hK K
        (try simp only [Act.put, List.setIfInBounds_toArray, List.set_cons_zero, List.set_cons_succ])
        first | (refine anyT_take 5 (some 58) (v := ?_) rfl rfl (by kernel_rfl) (by kernel_rfl) (by kernel_rfl) (by kernel_rfl) (fun _ _ _ h => h) (Or.inl ⟨by rfl, ?_⟩) hHeld ?_; rotate_left; focus (intro wq hSw; obtain ⟨hcq, hfq⟩ := bcell hSw; go_simp; (try with_reducible rfl); done))
        (try simp only [Act.put, List.setIfInBounds_toArray, List.set_cons_zero, List.set_cons_succ])
        first | (refine anyT_take 6 (some 64) (v := ?_) rfl rfl (by kernel_rfl) (by kernel_rfl) (by kernel_rfl) (by kernel_rfl) (fun _ _ _ h => h) (Or.inl ⟨by rfl, ?_⟩) hHeld ?_; rotate_left; focus (intro wq hSw; obtain ⟨hcq, hfq⟩ := bcell hSw; go_simp; (try with_reducible rfl); done))
        (try simp only [Act.put, List.setIfInBounds_toArray, List.set_cons_zero, List.set_cons_succ])
        first | (refine anyT_take 7 (some 65) (v := ?_) rfl rfl (by kernel_rfl) (by kernel_rfl) (by kernel_rfl) (by kernel_rfl) (fun _ _ _ h => h) (Or.inl ⟨by rfl, ?_⟩) hHeld ?_; rotate_left; focus (intro wq hSw; obtain ⟨hcq, hfq⟩ := bcell hSw; go_simp; (try with_reducible rfl); done))
        (try simp only [Act.put, List.setIfInBounds_toArray, List.set_cons_zero, List.set_cons_succ])
        first | (refine anyT_take 8 (some 13) (v := ?_) rfl rfl (by kernel_rfl) (by kernel_rfl) (by kernel_rfl) (by kernel_rfl) (fun _ _ _ h => h) (Or.inl ⟨by rfl, ?_⟩) hHeld ?_; rotate_left; focus (intro wq hSw; obtain ⟨hcq, hfq⟩ := bcell hSw; go_simp; (try with_reducible rfl); done))
        (try simp only [Act.put, List.setIfInBounds_toArray, List.set_cons_zero, List.set_cons_succ])
        first | (refine anyT_take 9 (some 14) (v := ?_) rfl rfl (by kernel_rfl) (by kernel_rfl) (by kernel_rfl) (by kernel_rfl) (fun _ _ _ h => h) (Or.inl ⟨by rfl, ?_⟩) hHeld ?_; rotate_left; focus (intro wq hSw; obtain ⟨hcq, hfq⟩ := bcell hSw; go_simp; (try with_reducible rfl); done))
        (try simp only [Act.put, List.setIfInBounds_toArray, List.set_cons_zero, List.set_cons_succ])
        refine anyT_done (by kernel_rfl) ?_ _
        have K36 := Lib.hid (K35.out.below hHeld)
        have H6 := Lib.hid (H5.out.trans (hHeld.mono H5.out.size))
        have HS6 := Lib.hid (HS5.out.below hHeld)
        have H46 := Lib.hid (H45.out.trans (hHeld.mono H45.out.size))
        clear hHeld hb c3 f3 l3 p0 pbl
        have h3w := three_ways HS1.out hc4 hc5 hc6
        clear hc4 hc5 hc6
        rcases h3w with ⟨rfl, rfl, rfl, rfl, rfl, rfl⟩ | ⟨rfl, rfl, rfl, rfl, rfl, rfl⟩ | ⟨rfl, rfl, rfl, rfl, ms, hms, rfl, hrow⟩
        · as_aux_lemma =>
            go_wp2_with fail
            refine (works_calls _ (HM0.out.below H6.out)).mono ?_
            rintro e w7 ⟨rfl, hb⟩
            go_wp2
            go_ret
            exact ⟨rfl, below_then H6.out H6.out.size hb⟩
        · as_aux_lemma =>
            go_wp2_with fail
            refine (works_calls _ (HM0.out.below H6.out)).mono ?_
            rintro e w7 ⟨rfl, hb⟩
            go_wp2
            go_ret
            exact ⟨rfl, below_then H6.out H6.out.size hb⟩
        · as_aux_lemma =>
            have Hk := Lib.hid (kept_of Hg.out (nn_of (l := S) (fun j hj => by have := HSb.out j hj; omega)) hms)
            have Hms := Lib.hid hms
            have Hrow := Lib.hid (hrow.below H46.out)
            have hkl := Hk.out.len
            have Hkl := Lib.hid hkl
            have hm4 := Hg.out.many
            obtain ⟨rb, ro, hrA⟩ := hrow.some_ (by omega)
            subst hrA
            obtain ⟨lb, lo, hlA⟩ := HB0.out.lots.some_ (by omega)
            have hlts := HB0.out.lots
            rw [hlA] at hlts
            have Hlts := Lib.hid hlts
            have HlA := Lib.hid hlA
            have k3x := K36.out
            rw [hlA] at k3x
            have K3k := Lib.hid k3x
            clear hkl hlA k3x hrow hlts hms K34 K35 H4 H5 HS4 HS5 H45 H3 H2
            obtain ⟨c3, f3, l3⟩ := K3k.out
            have hmk := fun W => makeInts W B.lots.length (by omega)
            have hL0 : (0 : Int) ≤ B.lots.length := by omega
            have kL : IntBox (w6.alloc (.cells (Array.replicate B.lots.length (.int .i64 0)) 3)) w6.heap.size (List.replicate B.lots.length 0) := IntBox.zeros (BoxAt.new w6 _ _)
            have hb7 : Below w6.heap.size w6 (w6.alloc (.cells (Array.replicate B.lots.length (.int .i64 0)) 3)) := (Below.refl _ _).alloc (Nat.le_refl _) _
            rw [← stockTo_zero] at kL
            have hs6 := World.block_lt_of_cell? _ _ (HS6.out.at0 (by omega))
            simp only at hs6
            go_upto_region 16 with (fail)
            clear hmk c3 f3 l3
            generalize w6.alloc _ = w7 at *
            have hg6 := H6.out.size
            have h36 := K3k.out.lt
            generalize hgL : w6.heap.size = gL at *
            have HgL := Lib.hid hgL
            have KL := Lib.hid kL
            have Hb7 := Lib.hid hb7
            have hl7 := kL.lt
            have lift : ∀ {wr : World}, Below gL w6 wr → Below w6.heap.size w6 wr := fun h => by rw [HgL.out]; exact h
            clear hb7 kL K36 hgL
            obtain ⟨c3, f3, l3⟩ := K3k.out.below (lift Hb7.out)
            go_upto_block 2 with (fail)
            clear c3 f3 l3
            go_wp2
            go_loopg [17, 16] B.lots.length (fun gq i al wr => ∃ k : Nat, k ≤ B.lots.length ∧ gq = B.lots.length - k ∧ i = .int .i64 k ∧ al = .int .i64 (sumTo (stockS B) k) ∧ IntBox wr gL (stockTo B k) ∧ Below gL w6 wr)
            case atStart => exact ⟨0, Nat.zero_le _, rfl, rfl, rfl, KL.out, Hb7.out⟩
            case round =>
              obtain ⟨k, hk, hgk, rfl, rfl, hbx, hbe⟩ := hrel
              have Hgk := Lib.hid hgk
              have Hbx := Lib.hid hbx
              have Hbe := Lib.hid hbe
              obtain ⟨c3, f3, l3⟩ := K3k.out.below (lift hbe)
              clear hgk hbx hbe
              by_cases hlt : k < B.lots.length
              · as_aux_lemma =>
                  have hki : (k : Int) < B.lots.length := by omega
                  have hpc := ((Hlts.out.below H6.out).at_ hlt).1
                  have p0 := cell_below (lift Hbe.out) hpc
                  have pbl := World.block_lt_of_cell? _ _ p0
                  have qbl := World.block_lt_of_cell? _ _ hpc
                  have qL := Hbx.out.at_ (k := k) (by rw [stockTo_len]; exact hlt)
                  have fL : ∀ i, wr.frozen? ⟨gL, i, none⟩ = false := Hbx.out.frozen
                  have lL := Hbx.out.lt
                  simp only at pbl qbl
                  rw [HgL.out] at qbl
                  have hlg := (Hg.out.lot k hlt).1
                  have hsk := stock_sum Hg.out k (by omega)
                  have hgs : gi (stockS B) k = (gl B.lots k).bars := gi_stock B k hlt
                  have Hs : Hid (sumTo (stockS B) (k + 1) = sumTo (stockS B) k + (gl B.lots k).bars) := by unfold Hid; rw [sumTo, hgs]
                  have hw1 : IntKind.i64.wrap (sumTo (stockS B) k + (gl B.lots k).bars) = sumTo (stockS B) k + (gl B.lots k).bars := wrap_in (by omega) (by omega)
                  have hbp := Hbx.out.put (k := k) (by rw [stockTo_len]; exact hlt) (gl B.lots k).bars
                  rw [stockTo_set B k hlt] at hbp
                  have hbe2 : Below gL w6 (wr.setCell ⟨gL, k, none⟩ (.int .i64 (gl B.lots k).bars)) := Hbe.out.setCell (p := ⟨gL, k, none⟩) (Nat.le_refl _) _
                  have Hpc := Lib.hid hpc
                  clear hsk hgs hpc hlg
                  go_upto_region 20 with (fail)
                  clear c3 f3 l3 p0 pbl qL fL lL
                  obtain ⟨c3, f3, l3⟩ := K3k.out.below (lift hbe2)
                  have p0 := cell_below (lift hbe2) Hpc.out
                  have pbl := World.block_lt_of_cell? _ _ p0
                  simp only at pbl
                  have Hbp := Lib.hid hbp
                  have Hbq := Lib.hid hbe2
                  clear hbp hbe2 qbl
                  generalize World.setCell wr _ _ = ws at *
                  go_wp2
                  go_roundg (B.lots.length - (k + 1))
                  case measure => have := Hgk.out; omega
                  case rel => exact ⟨k + 1, by omega, rfl, by go_num, by rw [Hs.out], Hbp.out, Hbq.out⟩
              · obtain rfl : k = B.lots.length := by omega
                have hki : ¬ (B.lots.length : Int) < B.lots.length := by omega
                have hbx := Hbx.out
                rw [stockTo_all] at hbx
                have KS := Lib.hid hbx
                have hts := (stock_sum Hg.out B.lots.length (Nat.le_refl _))
                have Hts := Lib.hid hts
                clear hbx Hbx hts
                generalize hAll : sumTo (stockS B) B.lots.length = All at *
                have HAll := Lib.hid hAll
                clear hAll
                go_upto_block 4 with (fail)
                clear c3 f3 l3
                go_wp2
                go_loopg [19, 18] ms.length (fun gq i ca wr => ∃ k : Nat, k ≤ ms.length ∧ gq = ms.length - k ∧ i = .int .i64 k ∧ ca = .int .i64 (sumTo S k) ∧ IntBox wr gL (leftAt (stockS B) ms k) ∧ Below gL w6 wr)
                case atStart => exact ⟨0, Nat.zero_le _, rfl, rfl, rfl, KS.out, Hbe.out⟩
                case round =>
                  clear Hbe KS
                  obtain ⟨k, hk, hgk, rfl, rfl, hbx, hbe⟩ := hrel
                  have Hgk := Lib.hid hgk
                  have Hbx := Lib.hid hbx
                  have Hbe := Lib.hid hbe
                  obtain ⟨c3, f3, l3⟩ := K3k.out.below (lift hbe)
                  clear hgk hbx hbe
                  by_cases hlt : k < ms.length
                  · as_aux_lemma =>
                      have hki : (k : Int) < ms.length := by omega
                      have hkSn : k < S.length := by have := Hkl.out; omega
                      have hkS : (k : Int) < S.length := by omega
                      have hnkS : ¬ (S.length : Int) ≤ k := by omega
                      have hge : ((k : Int) ≥ S.length) = False := by simp; omega
                      have heach := Hk.out.each k hlt
                      have hleft := Hk.out.left k (by omega)
                      have hleft1 := Hk.out.left (k + 1) (by omega)
                      rw [leftAt] at hleft1
                      have hsb := HSb.out k hkSn
                      obtain ⟨Aj, cj, hcell, hcap, hints⟩ := Hrow.out.at_ hlt
                      have Hla : Hid (leftAt (stockS B) ms (k + 1) = subL (leftAt (stockS B) ms k) (gm ms k)) := Lib.hid rfl
                      have Hss : Hid (sumTo S (k + 1) = sumTo S k + gi S k) := Lib.hid rfl
                      have hsS := sumS_bd HSb.out k (Nat.le_of_lt hkSn)
                      generalize gm ms k = m at *
                      generalize hLL : leftAt (stockS B) ms (k + 1) = LL at *
                      have HLL := Lib.hid hLL
                      clear hLL
                      generalize leftAt (stockS B) ms k = L at *
                      have hml : m.length = B.lots.length := (within_at heach.1).1
                      obtain ⟨mb, mo, rfl, hmc⟩ := hints.2.resolve_left (by intro e; rw [e] at hml; simp at hml; omega)
                      have Hmc := Lib.hid hmc
                      clear hmc
                      have hm4' : m.length ≤ 4 := by omega
                      have Hml := Lib.hid hml
                      clear hml
                      have Him := Lib.hid (show isMeltR B m = .tuple #[.bool true, .int .i64 0] by rw [isMelt_good Hg.out, heach.1, heach.2.1]; rfl)
                      have Hwi := Lib.hid heach.1
                      have Hpos := Lib.hid (show 0 < sumTo m m.length by rw [heach.2.2]; omega)
                      have hsm := fun w h => Sum_calls (some ⟨mb, mo, none⟩) cj m w h hm4' (within_bd Hg.out heach.1)
                      rw [heach.2.2] at hsm
                      have Hsm := Lib.hid hsm
                      have p0 := cell_below (lift Hbe.out) hcell
                      have pbl := World.block_lt_of_cell? _ _ p0
                      have s0 := cell_below (lift Hbe.out) (HS6.out.at_ (k := k) hkSn)
                      have sbl := World.block_lt_of_cell? _ _ s0
                      simp only at pbl sbl
                      have Hcell := Lib.hid hcell
                      have Hints := Lib.hid hints
                      have Hleft := Lib.hid hleft
                      have Hleft1 := Lib.hid hleft1
                      clear heach hleft hleft1 hcell hints hsm hcap
                      go_upto_region 25 with (fail)
                      refine region_plain (S := fun w' => Below wr.heap.size wr w') 11 (by kernel_rfl) ?_ (fun hHeld => ?_)
                      · exact (Below.refl _ _).drew
                      first | (refine anyT_take 0 (some 137) (v := ?_) rfl rfl (by kernel_rfl) (by kernel_rfl) (by kernel_rfl) (by kernel_rfl) (fun _ _ _ h => h) (Or.inl ⟨by rfl, ?_⟩) hHeld ?_; rotate_left; focus (intro wq hSw; obtain ⟨hcq, hfq⟩ := bcell hSw; go_simp; (try with_reducible rfl); done))
                      (try simp only [Act.put, List.setIfInBounds_toArray, List.set_cons_zero, List.set_cons_succ])
                      first | (refine anyT_take 1 (some 138) (v := ?_) rfl rfl (by kernel_rfl) (by kernel_rfl) (by kernel_rfl) (by kernel_rfl) (fun _ _ _ h => h) (Or.inl ⟨by rfl, ?_⟩) hHeld ?_; rotate_left; focus (intro wq hSw; obtain ⟨hcq, hfq⟩ := bcell hSw; go_simp; (try with_reducible rfl); done))
                      (try simp only [Act.put, List.setIfInBounds_toArray, List.set_cons_zero, List.set_cons_succ])
                      first | (refine anyT_take 2 (some 139) (v := ?_) rfl rfl (by kernel_rfl) (by kernel_rfl) (by kernel_rfl) (by kernel_rfl) (fun _ _ _ h => h) (Or.inl ⟨by rfl, ?_⟩) hHeld ?_; rotate_left; focus (intro wq hSw; obtain ⟨hcq, hfq⟩ := bcell hSw; go_simp; (try with_reducible rfl); done))
                      (try simp only [Act.put, List.setIfInBounds_toArray, List.set_cons_zero, List.set_cons_succ])
                      first | (refine anyT_take 3 (some 140) (v := ?_) rfl rfl (by kernel_rfl) (by kernel_rfl) (by kernel_rfl) (by kernel_rfl) (fun _ _ _ h => h) (Or.inl ⟨by rfl, ?_⟩) hHeld ?_; rotate_left; focus (intro wq hSw; obtain ⟨hcq, hfq⟩ := bcell hSw; go_simp; (try with_reducible rfl); done))
                      (try simp only [Act.put, List.setIfInBounds_toArray, List.set_cons_zero, List.set_cons_succ])
                      first | (refine anyT_take 4 (some 141) (v := ?_) rfl rfl (by kernel_rfl) (by kernel_rfl) (by kernel_rfl) (by kernel_rfl) (fun _ _ _ h => h) (Or.inl ⟨by rfl, ?_⟩) hHeld ?_; rotate_left; focus (intro wq hSw; obtain ⟨hcq, hfq⟩ := bcell hSw; go_simp; (try with_reducible rfl); done))
                      (try simp only [Act.put, List.setIfInBounds_toArray, List.set_cons_zero, List.set_cons_succ])
                      refine anyT_one 5 (by kernel_rfl) rfl (fun K hK => ?_)
                      go_simp
                      refine (eq0_2 (v' := B.val) (by unfold ForgeV.val ForgeV.cells; rw [HlA.out]) (IsMelt_calls B (some ⟨mb, mo, none⟩) cj m _ (HB0.out.below (H6.out.trans ((Hbe.out.trans (hHeld.mono (by have := Hbx.out.lt; omega))).mono hg6))) (Hints.out.below (lift (Hbe.out.trans (hHeld.mono (by have := Hbx.out.lt; omega))))) (HM0.out.below (H6.out.trans ((Hbe.out.trans (hHeld.mono (by have := Hbx.out.lt; omega))).mono hg6))))).mono ?_; rintro e w8 ⟨rfl, hb⟩; rw [Him.out]
                      refine hK.out _ _ ?_ (fun hHeld => ?_)
                      · exact below_then hHeld hHeld.size hb
                      clear hK K
                      (try simp only [Act.put, List.setIfInBounds_toArray, List.set_cons_zero, List.set_cons_succ])
                      first | (refine anyT_take 6 (some 136) (v := ?_) rfl rfl (by kernel_rfl) (by kernel_rfl) (by kernel_rfl) (by kernel_rfl) (fun _ _ _ h => h) (Or.inl ⟨by rfl, ?_⟩) hHeld ?_; rotate_left; focus (intro wq hSw; obtain ⟨hcq, hfq⟩ := bcell hSw; go_simp; (try with_reducible rfl); done))
                      (try simp only [Act.put, List.setIfInBounds_toArray, List.set_cons_zero, List.set_cons_succ])
                      first | (refine anyT_take 7 (some 143) (v := ?_) rfl rfl (by kernel_rfl) (by kernel_rfl) (by kernel_rfl) (by kernel_rfl) (fun _ _ _ h => h) (Or.inl ⟨by rfl, ?_⟩) hHeld ?_; rotate_left; focus (intro wq hSw; obtain ⟨hcq, hfq⟩ := bcell hSw; go_simp; (try with_reducible rfl); done))
                      (try simp only [Act.put, List.setIfInBounds_toArray, List.set_cons_zero, List.set_cons_succ])
                      first | (refine anyT_take 8 (some 144) (v := ?_) rfl rfl (by kernel_rfl) (by kernel_rfl) (by kernel_rfl) (by kernel_rfl) (fun _ _ _ h => h) (Or.inl ⟨by rfl, ?_⟩) hHeld ?_; rotate_left; focus (intro wq hSw; obtain ⟨hcq, hfq⟩ := bcell hSw; go_simp; (try with_reducible rfl); done))
                      (try simp only [Act.put, List.setIfInBounds_toArray, List.set_cons_zero, List.set_cons_succ])
                      first | (refine anyT_take 9 (some 20) (v := ?_) rfl rfl (by kernel_rfl) (by kernel_rfl) (by kernel_rfl) (by kernel_rfl) (fun _ _ _ h => h) (Or.inl ⟨by rfl, ?_⟩) hHeld ?_; rotate_left; focus (intro wq hSw; obtain ⟨hcq, hfq⟩ := bcell hSw; go_simp; (try with_reducible rfl); done))
                      (try simp only [Act.put, List.setIfInBounds_toArray, List.set_cons_zero, List.set_cons_succ])
                      first | (refine anyT_take 10 (some 21) (v := ?_) rfl rfl (by kernel_rfl) (by kernel_rfl) (by kernel_rfl) (by kernel_rfl) (fun _ _ _ h => h) (Or.inl ⟨by rfl, ?_⟩) hHeld ?_; rotate_left; focus (intro wq hSw; obtain ⟨hcq, hfq⟩ := bcell hSw; go_simp; (try with_reducible rfl); done))
                      (try simp only [Act.put, List.setIfInBounds_toArray, List.set_cons_zero, List.set_cons_succ])
                      refine anyT_done (by kernel_rfl) ?_ _
                      replace Hbe := Lib.hid (Hbe.out.trans (hHeld.mono (by have := Hbx.out.lt; omega)))
                      replace Hbx := Lib.hid (Hbx.out.below hHeld)
                      replace p0 := cell_below hHeld p0
                      replace s0 := cell_below hHeld s0
                      have pbl := World.block_lt_of_cell? _ _ p0
                      have sbl := World.block_lt_of_cell? _ _ s0
                      simp only at pbl sbl
                      clear hHeld hb c3 f3 l3
                      obtain ⟨c3, f3, l3⟩ := K3k.out.below (lift Hbe.out)
                      go_upto_region 26 with (fail)
                      refine region_plain (S := fun w' => Below w8.heap.size w8 w') 33 (by kernel_rfl) ?_ (fun hHeld => ?_)
                      · exact (Below.refl _ _).drew
                      first | (refine anyT_take 0 (some 145) (v := ?_) rfl rfl (by kernel_rfl) (by kernel_rfl) (by kernel_rfl) (by kernel_rfl) (fun _ _ _ h => h) (Or.inl ⟨by rfl, ?_⟩) hHeld ?_; rotate_left; focus (intro wq hSw; obtain ⟨hcq, hfq⟩ := bcell hSw; go_simp; (try with_reducible rfl); done))
                      (try simp only [Act.put, List.setIfInBounds_toArray, List.set_cons_zero, List.set_cons_succ])
                      first | (refine anyT_take 1 (some 146) (v := ?_) rfl rfl (by kernel_rfl) (by kernel_rfl) (by kernel_rfl) (by kernel_rfl) (fun _ _ _ h => h) (Or.inl ⟨by rfl, ?_⟩) hHeld ?_; rotate_left; focus (intro wq hSw; obtain ⟨hcq, hfq⟩ := bcell hSw; go_simp; (try with_reducible rfl); done))
                      (try simp only [Act.put, List.setIfInBounds_toArray, List.set_cons_zero, List.set_cons_succ])
                      first | (refine anyT_take 2 (some 147) (v := ?_) rfl rfl (by kernel_rfl) (by kernel_rfl) (by kernel_rfl) (by kernel_rfl) (fun _ _ _ h => h) (Or.inl ⟨by rfl, ?_⟩) hHeld ?_; rotate_left; focus (intro wq hSw; obtain ⟨hcq, hfq⟩ := bcell hSw; go_simp; (try with_reducible rfl); done))
                      (try simp only [Act.put, List.setIfInBounds_toArray, List.set_cons_zero, List.set_cons_succ])
                      first | (refine anyT_take 3 (some 148) rfl rfl (by kernel_rfl) (by kernel_rfl) (by kernel_rfl) (by kernel_rfl) (fun _ _ _ h => h) (Or.inr ⟨by rfl, rfl⟩) hHeld ?_) | (refine anyT_take 3 (some 148) (v := ?_) rfl rfl (by kernel_rfl) (by kernel_rfl) (by kernel_rfl) (by kernel_rfl) (fun _ _ _ h => h) (Or.inl ⟨by rfl, ?_⟩) hHeld ?_; rotate_left; focus (intro wq hSw; obtain ⟨hcq, hfq⟩ := bcell hSw; go_simp; (try with_reducible rfl); done))
                      (try simp only [Act.put, List.setIfInBounds_toArray, List.set_cons_zero, List.set_cons_succ])
                      first | (refine anyT_take 4 (some 149) rfl rfl (by kernel_rfl) (by kernel_rfl) (by kernel_rfl) (by kernel_rfl) (fun _ _ _ h => h) (Or.inr ⟨by rfl, rfl⟩) hHeld ?_) | (refine anyT_take 4 (some 149) (v := ?_) rfl rfl (by kernel_rfl) (by kernel_rfl) (by kernel_rfl) (by kernel_rfl) (fun _ _ _ h => h) (Or.inl ⟨by rfl, ?_⟩) hHeld ?_; rotate_left; focus (intro wq hSw; obtain ⟨hcq, hfq⟩ := bcell hSw; go_simp; (try with_reducible rfl); done))
                      (try simp only [Act.put, List.setIfInBounds_toArray, List.set_cons_zero, List.set_cons_succ])
                      first | (refine anyT_take 5 (some 150) (v := ?_) rfl rfl (by kernel_rfl) (by kernel_rfl) (by kernel_rfl) (by kernel_rfl) (fun _ _ _ h => h) (Or.inl ⟨by rfl, ?_⟩) hHeld ?_; rotate_left; focus (intro wq hSw; obtain ⟨hcq, hfq⟩ := bcell hSw; go_simp; (try with_reducible rfl); done))
                      (try simp only [Act.put, List.setIfInBounds_toArray, List.set_cons_zero, List.set_cons_succ])
                      first | (refine anyT_take 6 (some 151) (v := ?_) rfl rfl (by kernel_rfl) (by kernel_rfl) (by kernel_rfl) (by kernel_rfl) (fun _ _ _ h => h) (Or.inl ⟨by rfl, ?_⟩) hHeld ?_; rotate_left; focus (intro wq hSw; obtain ⟨hcq, hfq⟩ := bcell hSw; go_simp; (try with_reducible rfl); done))
                      (try simp only [Act.put, List.setIfInBounds_toArray, List.set_cons_zero, List.set_cons_succ])
                      first | (refine anyT_take 7 (some 152) rfl rfl (by kernel_rfl) (by kernel_rfl) (by kernel_rfl) (by kernel_rfl) (fun _ _ _ h => h) (Or.inr ⟨by rfl, rfl⟩) hHeld ?_) | (refine anyT_take 7 (some 152) (v := ?_) rfl rfl (by kernel_rfl) (by kernel_rfl) (by kernel_rfl) (by kernel_rfl) (fun _ _ _ h => h) (Or.inl ⟨by rfl, ?_⟩) hHeld ?_; rotate_left; focus (intro wq hSw; obtain ⟨hcq, hfq⟩ := bcell hSw; go_simp; (try with_reducible rfl); done))
                      (try simp only [Act.put, List.setIfInBounds_toArray, List.set_cons_zero, List.set_cons_succ])
                      first | (refine anyT_take 8 (some 153) rfl rfl (by kernel_rfl) (by kernel_rfl) (by kernel_rfl) (by kernel_rfl) (fun _ _ _ h => h) (Or.inr ⟨by rfl, rfl⟩) hHeld ?_) | (refine anyT_take 8 (some 153) (v := ?_) rfl rfl (by kernel_rfl) (by kernel_rfl) (by kernel_rfl) (by kernel_rfl) (fun _ _ _ h => h) (Or.inl ⟨by rfl, ?_⟩) hHeld ?_; rotate_left; focus (intro wq hSw; obtain ⟨hcq, hfq⟩ := bcell hSw; go_simp; (try with_reducible rfl); done))
                      (try simp only [Act.put, List.setIfInBounds_toArray, List.set_cons_zero, List.set_cons_succ])
                      first | (refine anyT_take 9 (some 154) rfl rfl (by kernel_rfl) (by kernel_rfl) (by kernel_rfl) (by kernel_rfl) (fun _ _ _ h => h) (Or.inr ⟨by rfl, rfl⟩) hHeld ?_) | (refine anyT_take 9 (some 154) (v := ?_) rfl rfl (by kernel_rfl) (by kernel_rfl) (by kernel_rfl) (by kernel_rfl) (fun _ _ _ h => h) (Or.inl ⟨by rfl, ?_⟩) hHeld ?_; rotate_left; focus (intro wq hSw; obtain ⟨hcq, hfq⟩ := bcell hSw; go_simp; (try with_reducible rfl); done))
                      (try simp only [Act.put, List.setIfInBounds_toArray, List.set_cons_zero, List.set_cons_succ])
                      first | (refine anyT_take 10 (some 155) rfl rfl (by kernel_rfl) (by kernel_rfl) (by kernel_rfl) (by kernel_rfl) (fun _ _ _ h => h) (Or.inr ⟨by rfl, rfl⟩) hHeld ?_) | (refine anyT_take 10 (some 155) (v := ?_) rfl rfl (by kernel_rfl) (by kernel_rfl) (by kernel_rfl) (by kernel_rfl) (fun _ _ _ h => h) (Or.inl ⟨by rfl, ?_⟩) hHeld ?_; rotate_left; focus (intro wq hSw; obtain ⟨hcq, hfq⟩ := bcell hSw; go_simp; (try with_reducible rfl); done))
                      (try simp only [Act.put, List.setIfInBounds_toArray, List.set_cons_zero, List.set_cons_succ])
                      first | (refine anyT_take 11 (some 156) (v := ?_) rfl rfl (by kernel_rfl) (by kernel_rfl) (by kernel_rfl) (by kernel_rfl) (fun _ _ _ h => h) (Or.inl ⟨by rfl, ?_⟩) hHeld ?_; rotate_left; focus (intro wq hSw; obtain ⟨hcq, hfq⟩ := bcell hSw; go_simp; (try with_reducible rfl); done))
                      (try simp only [Act.put, List.setIfInBounds_toArray, List.set_cons_zero, List.set_cons_succ])
                      first | (refine anyT_take 12 (some 157) (v := ?_) rfl rfl (by kernel_rfl) (by kernel_rfl) (by kernel_rfl) (by kernel_rfl) (fun _ _ _ h => h) (Or.inl ⟨by rfl, ?_⟩) hHeld ?_; rotate_left; focus (intro wq hSw; obtain ⟨hcq, hfq⟩ := bcell hSw; go_simp; (try with_reducible rfl); done))
                      (try simp only [Act.put, List.setIfInBounds_toArray, List.set_cons_zero, List.set_cons_succ])
                      first | (refine anyT_take 13 (some 158) rfl rfl (by kernel_rfl) (by kernel_rfl) (by kernel_rfl) (by kernel_rfl) (fun _ _ _ h => h) (Or.inr ⟨by rfl, rfl⟩) hHeld ?_) | (refine anyT_take 13 (some 158) (v := ?_) rfl rfl (by kernel_rfl) (by kernel_rfl) (by kernel_rfl) (by kernel_rfl) (fun _ _ _ h => h) (Or.inl ⟨by rfl, ?_⟩) hHeld ?_; rotate_left; focus (intro wq hSw; obtain ⟨hcq, hfq⟩ := bcell hSw; go_simp; (try with_reducible rfl); done))
                      (try simp only [Act.put, List.setIfInBounds_toArray, List.set_cons_zero, List.set_cons_succ])
                      first | (refine anyT_take 14 (some 159) rfl rfl (by kernel_rfl) (by kernel_rfl) (by kernel_rfl) (by kernel_rfl) (fun _ _ _ h => h) (Or.inr ⟨by rfl, rfl⟩) hHeld ?_) | (refine anyT_take 14 (some 159) (v := ?_) rfl rfl (by kernel_rfl) (by kernel_rfl) (by kernel_rfl) (by kernel_rfl) (fun _ _ _ h => h) (Or.inl ⟨by rfl, ?_⟩) hHeld ?_; rotate_left; focus (intro wq hSw; obtain ⟨hcq, hfq⟩ := bcell hSw; go_simp; (try with_reducible rfl); done))
                      (try simp only [Act.put, List.setIfInBounds_toArray, List.set_cons_zero, List.set_cons_succ])
                      first | (refine anyT_take 15 (some 160) rfl rfl (by kernel_rfl) (by kernel_rfl) (by kernel_rfl) (by kernel_rfl) (fun _ _ _ h => h) (Or.inr ⟨by rfl, rfl⟩) hHeld ?_) | (refine anyT_take 15 (some 160) (v := ?_) rfl rfl (by kernel_rfl) (by kernel_rfl) (by kernel_rfl) (by kernel_rfl) (fun _ _ _ h => h) (Or.inl ⟨by rfl, ?_⟩) hHeld ?_; rotate_left; focus (intro wq hSw; obtain ⟨hcq, hfq⟩ := bcell hSw; go_simp; (try with_reducible rfl); done))
                      (try simp only [Act.put, List.setIfInBounds_toArray, List.set_cons_zero, List.set_cons_succ])
                      first | (refine anyT_take 16 (some 161) rfl rfl (by kernel_rfl) (by kernel_rfl) (by kernel_rfl) (by kernel_rfl) (fun _ _ _ h => h) (Or.inr ⟨by rfl, rfl⟩) hHeld ?_) | (refine anyT_take 16 (some 161) (v := ?_) rfl rfl (by kernel_rfl) (by kernel_rfl) (by kernel_rfl) (by kernel_rfl) (fun _ _ _ h => h) (Or.inl ⟨by rfl, ?_⟩) hHeld ?_; rotate_left; focus (intro wq hSw; obtain ⟨hcq, hfq⟩ := bcell hSw; go_simp; (try with_reducible rfl); done))
                      (try simp only [Act.put, List.setIfInBounds_toArray, List.set_cons_zero, List.set_cons_succ])
                      first | (refine anyT_take 17 (some 162) rfl rfl (by kernel_rfl) (by kernel_rfl) (by kernel_rfl) (by kernel_rfl) (fun _ _ _ h => h) (Or.inr ⟨by rfl, rfl⟩) hHeld ?_) | (refine anyT_take 17 (some 162) (v := ?_) rfl rfl (by kernel_rfl) (by kernel_rfl) (by kernel_rfl) (by kernel_rfl) (fun _ _ _ h => h) (Or.inl ⟨by rfl, ?_⟩) hHeld ?_; rotate_left; focus (intro wq hSw; obtain ⟨hcq, hfq⟩ := bcell hSw; go_simp; (try with_reducible rfl); done))
                      (try simp only [Act.put, List.setIfInBounds_toArray, List.set_cons_zero, List.set_cons_succ])
                      refine anyT_one 18 (by kernel_rfl) rfl (fun K hK => ?_)
                      go_simp
                      refine (eq0_2 (v' := B.val) (by unfold ForgeV.val ForgeV.cells; rw [HlA.out]) (within_calls B Hg.out (some ⟨mb, mo, none⟩) cj m _ (HB0.out.below (H6.out.trans ((Hbe.out.trans (hHeld.mono (by have := Hbx.out.lt; omega))).mono hg6))) (Hints.out.below (lift (Hbe.out.trans (hHeld.mono (by have := Hbx.out.lt; omega))))) Hwi.out Hpos.out)).mono ?_; rintro e w9 ⟨rfl, hb⟩
                      refine hK.out _ _ ?_ (fun hHeld => ?_)
                      · exact below_then hHeld hHeld.size hb
                      clear hK K
                      (try simp only [Act.put, List.setIfInBounds_toArray, List.set_cons_zero, List.set_cons_succ])
                      first | (refine anyT_take 19 (some 164) rfl rfl (by kernel_rfl) (by kernel_rfl) (by kernel_rfl) (by kernel_rfl) (fun _ _ _ h => h) (Or.inr ⟨by rfl, rfl⟩) hHeld ?_) | (refine anyT_take 19 (some 164) (v := ?_) rfl rfl (by kernel_rfl) (by kernel_rfl) (by kernel_rfl) (by kernel_rfl) (fun _ _ _ h => h) (Or.inl ⟨by rfl, ?_⟩) hHeld ?_; rotate_left; focus (intro wq hSw; obtain ⟨hcq, hfq⟩ := bcell hSw; go_simp; (try with_reducible rfl); done))
                      (try simp only [Act.put, List.setIfInBounds_toArray, List.set_cons_zero, List.set_cons_succ])
                      first | (refine anyT_take 20 (some 165) (v := ?_) rfl rfl (by kernel_rfl) (by kernel_rfl) (by kernel_rfl) (by kernel_rfl) (fun _ _ _ h => h) (Or.inl ⟨by rfl, ?_⟩) hHeld ?_; rotate_left; focus (intro wq hSw; obtain ⟨hcq, hfq⟩ := bcell hSw; go_simp; (try with_reducible rfl); done))
                      (try simp only [Act.put, List.setIfInBounds_toArray, List.set_cons_zero, List.set_cons_succ])
                      first | (refine anyT_take 21 (some 166) (v := ?_) rfl rfl (by kernel_rfl) (by kernel_rfl) (by kernel_rfl) (by kernel_rfl) (fun _ _ _ h => h) (Or.inl ⟨by rfl, ?_⟩) hHeld ?_; rotate_left; focus (intro wq hSw; obtain ⟨hcq, hfq⟩ := bcell hSw; go_simp; (try with_reducible rfl); done))
                      (try simp only [Act.put, List.setIfInBounds_toArray, List.set_cons_zero, List.set_cons_succ])
                      first | (refine anyT_take 22 (some 167) rfl rfl (by kernel_rfl) (by kernel_rfl) (by kernel_rfl) (by kernel_rfl) (fun _ _ _ h => h) (Or.inr ⟨by rfl, rfl⟩) hHeld ?_) | (refine anyT_take 22 (some 167) (v := ?_) rfl rfl (by kernel_rfl) (by kernel_rfl) (by kernel_rfl) (by kernel_rfl) (fun _ _ _ h => h) (Or.inl ⟨by rfl, ?_⟩) hHeld ?_; rotate_left; focus (intro wq hSw; obtain ⟨hcq, hfq⟩ := bcell hSw; go_simp; (try with_reducible rfl); done))
                      (try simp only [Act.put, List.setIfInBounds_toArray, List.set_cons_zero, List.set_cons_succ])
                      first | (refine anyT_take 23 (some 168) rfl rfl (by kernel_rfl) (by kernel_rfl) (by kernel_rfl) (by kernel_rfl) (fun _ _ _ h => h) (Or.inr ⟨by rfl, rfl⟩) hHeld ?_) | (refine anyT_take 23 (some 168) (v := ?_) rfl rfl (by kernel_rfl) (by kernel_rfl) (by kernel_rfl) (by kernel_rfl) (fun _ _ _ h => h) (Or.inl ⟨by rfl, ?_⟩) hHeld ?_; rotate_left; focus (intro wq hSw; obtain ⟨hcq, hfq⟩ := bcell hSw; go_simp; (try with_reducible rfl); done))
                      (try simp only [Act.put, List.setIfInBounds_toArray, List.set_cons_zero, List.set_cons_succ])
                      first | (refine anyT_take 24 (some 169) rfl rfl (by kernel_rfl) (by kernel_rfl) (by kernel_rfl) (by kernel_rfl) (fun _ _ _ h => h) (Or.inr ⟨by rfl, rfl⟩) hHeld ?_) | (refine anyT_take 24 (some 169) (v := ?_) rfl rfl (by kernel_rfl) (by kernel_rfl) (by kernel_rfl) (by kernel_rfl) (fun _ _ _ h => h) (Or.inl ⟨by rfl, ?_⟩) hHeld ?_; rotate_left; focus (intro wq hSw; obtain ⟨hcq, hfq⟩ := bcell hSw; go_simp; (try with_reducible rfl); done))
                      (try simp only [Act.put, List.setIfInBounds_toArray, List.set_cons_zero, List.set_cons_succ])
                      first | (refine anyT_take 25 (some 170) rfl rfl (by kernel_rfl) (by kernel_rfl) (by kernel_rfl) (by kernel_rfl) (fun _ _ _ h => h) (Or.inr ⟨by rfl, rfl⟩) hHeld ?_) | (refine anyT_take 25 (some 170) (v := ?_) rfl rfl (by kernel_rfl) (by kernel_rfl) (by kernel_rfl) (by kernel_rfl) (fun _ _ _ h => h) (Or.inl ⟨by rfl, ?_⟩) hHeld ?_; rotate_left; focus (intro wq hSw; obtain ⟨hcq, hfq⟩ := bcell hSw; go_simp; (try with_reducible rfl); done))
                      (try simp only [Act.put, List.setIfInBounds_toArray, List.set_cons_zero, List.set_cons_succ])
                      first | (refine anyT_take 27 (some 172) rfl rfl (by kernel_rfl) (by kernel_rfl) (by kernel_rfl) (by kernel_rfl) (fun _ _ _ h => h) (Or.inr ⟨by rfl, rfl⟩) hHeld ?_) | (refine anyT_take 27 (some 172) (v := ?_) rfl rfl (by kernel_rfl) (by kernel_rfl) (by kernel_rfl) (by kernel_rfl) (fun _ _ _ h => h) (Or.inl ⟨by rfl, ?_⟩) hHeld ?_; rotate_left; focus (intro wq hSw; obtain ⟨hcq, hfq⟩ := bcell hSw; go_simp; (try with_reducible rfl); done))
                      (try simp only [Act.put, List.setIfInBounds_toArray, List.set_cons_zero, List.set_cons_succ])
                      first | (refine anyT_take 28 (some 173) rfl rfl (by kernel_rfl) (by kernel_rfl) (by kernel_rfl) (by kernel_rfl) (fun _ _ _ h => h) (Or.inr ⟨by rfl, rfl⟩) hHeld ?_) | (refine anyT_take 28 (some 173) (v := ?_) rfl rfl (by kernel_rfl) (by kernel_rfl) (by kernel_rfl) (by kernel_rfl) (fun _ _ _ h => h) (Or.inl ⟨by rfl, ?_⟩) hHeld ?_; rotate_left; focus (intro wq hSw; obtain ⟨hcq, hfq⟩ := bcell hSw; go_simp; (try with_reducible rfl); done))
                      (try simp only [Act.put, List.setIfInBounds_toArray, List.set_cons_zero, List.set_cons_succ])
                      first | (refine anyT_take 29 (some 174) rfl rfl (by kernel_rfl) (by kernel_rfl) (by kernel_rfl) (by kernel_rfl) (fun _ _ _ h => h) (Or.inr ⟨by rfl, rfl⟩) hHeld ?_) | (refine anyT_take 29 (some 174) (v := ?_) rfl rfl (by kernel_rfl) (by kernel_rfl) (by kernel_rfl) (by kernel_rfl) (fun _ _ _ h => h) (Or.inl ⟨by rfl, ?_⟩) hHeld ?_; rotate_left; focus (intro wq hSw; obtain ⟨hcq, hfq⟩ := bcell hSw; go_simp; (try with_reducible rfl); done))
                      (try simp only [Act.put, List.setIfInBounds_toArray, List.set_cons_zero, List.set_cons_succ])
                      first | (refine anyT_take 30 (some 175) rfl rfl (by kernel_rfl) (by kernel_rfl) (by kernel_rfl) (by kernel_rfl) (fun _ _ _ h => h) (Or.inr ⟨by rfl, rfl⟩) hHeld ?_) | (refine anyT_take 30 (some 175) (v := ?_) rfl rfl (by kernel_rfl) (by kernel_rfl) (by kernel_rfl) (by kernel_rfl) (fun _ _ _ h => h) (Or.inl ⟨by rfl, ?_⟩) hHeld ?_; rotate_left; focus (intro wq hSw; obtain ⟨hcq, hfq⟩ := bcell hSw; go_simp; (try with_reducible rfl); done))
                      (try simp only [Act.put, List.setIfInBounds_toArray, List.set_cons_zero, List.set_cons_succ])
                      refine anyT_one 26 (by kernel_rfl) rfl (fun K hK => ?_)
                      go_simp
                      refine (Hsm.out _ (Hints.out.below (lift (Hbe.out.trans (hHeld.mono (by have := Hbx.out.lt; omega)))))).mono ?_; rintro e w10 ⟨rfl, rfl⟩
                      refine hK.out _ _ ?_ (fun hHeld => ?_)
                      · exact hHeld
                      clear hK K
                      (try simp only [Act.put, List.setIfInBounds_toArray, List.set_cons_zero, List.set_cons_succ])
                      first | (refine anyT_take 31 (some 176) rfl rfl (by kernel_rfl) (by kernel_rfl) (by kernel_rfl) (by kernel_rfl) (fun _ _ _ h => h) (Or.inr ⟨by rfl, rfl⟩) hHeld ?_) | (refine anyT_take 31 (some 176) (v := ?_) rfl rfl (by kernel_rfl) (by kernel_rfl) (by kernel_rfl) (by kernel_rfl) (fun _ _ _ h => h) (Or.inl ⟨by rfl, ?_⟩) hHeld ?_; rotate_left; focus (intro wq hSw; obtain ⟨hcq, hfq⟩ := bcell hSw; go_simp; (try with_reducible rfl); done))
                      (try simp only [Act.put, List.setIfInBounds_toArray, List.set_cons_zero, List.set_cons_succ])
                      first | (refine anyT_take 32 (some 177) (v := ?_) rfl rfl (by kernel_rfl) (by kernel_rfl) (by kernel_rfl) (by kernel_rfl) (fun _ _ _ h => h) (Or.inl ⟨by rfl, ?_⟩) hHeld ?_; rotate_left; focus (intro wq hSw; obtain ⟨hcq, hfq⟩ := bcell hSw; go_simp; (try with_reducible rfl); done))
                      (try simp only [Act.put, List.setIfInBounds_toArray, List.set_cons_zero, List.set_cons_succ])
                      refine anyT_done (by kernel_rfl) ?_ _
                      replace Hbe := Lib.hid (Hbe.out.trans (hHeld.mono (by have := Hbx.out.lt; omega)))
                      replace Hbx := Lib.hid (Hbx.out.below hHeld)
                      replace p0 := cell_below hHeld p0
                      replace s0 := cell_below hHeld s0
                      have pbl := World.block_lt_of_cell? _ _ p0
                      have sbl := World.block_lt_of_cell? _ _ s0
                      simp only at pbl sbl
                      clear hHeld hb c3 f3 l3 Him Hsm Hwi Hpos
                      have hw1 : IntKind.i64.wrap (sumTo S k + gi S k) = sumTo S k + gi S k := wrap_in (by omega) (by omega)
                      go_upto_block 6 with (fail)
                      go_wp2
                      generalize w9 = wz at *
                      have hbx0 := Hbx.out
                      rw [← midL_zero L m] at hbx0
                      go_loopg [22] B.lots.length (fun gq i wq => ∃ j : Nat, j ≤ B.lots.length ∧ gq = B.lots.length - j ∧ i = .int .i64 j ∧ IntBox wq gL (midL L m j) ∧ Below gL w6 wq)
                      case atStart => exact ⟨0, Nat.zero_le _, rfl, rfl, hbx0, Hbe.out⟩
                      case round =>
                        clear hbx0 Hbx p0 s0 pbl sbl Hbe
                        obtain ⟨j, hj, hgj, rfl, hbx, hbe⟩ := hrel
                        have Hgj := Lib.hid hgj
                        have Hbx := Lib.hid hbx
                        have Hbe := Lib.hid hbe
                        clear hgj hbx hbe
                        by_cases hlj : j < B.lots.length
                        · have hji : (j : Int) < B.lots.length := by omega
                          have hjm : j < m.length := by have := Hml.out; omega
                          have hjmi : (j : Int) < m.length := by omega
                          have hll := Hleft.out.1
                          have hlm : L.length = m.length := by have := Hml.out; omega
                          have p0 := cell_below (lift Hbe.out) Hcell.out
                          have pbl := World.block_lt_of_cell? _ _ p0
                          have hmj := Hmc.out j (by omega)
                          have mbl := World.block_lt_of_cell? _ _ hmj
                          have q0 := cell_below (lift Hbe.out) hmj
                          have qbl := World.block_lt_of_cell? _ _ q0
                          have r0 := Hbx.out.at_ (k := j) (by rw [midL_len, hll]; exact hlj)
                          have rL := Hbx.out.lt
                          have fL : ∀ i, wr.frozen? ⟨gL, i, none⟩ = false := Hbx.out.frozen
                          simp only at pbl qbl mbl
                          rw [HgL.out] at mbl
                          have rbl := World.block_lt_of_cell? _ _ Hcell.out
                          simp only at rbl
                          rw [HgL.out] at rbl
                          rw [midL_get L m j j (by omega), if_neg (Nat.lt_irrefl _)] at r0
                          have b1 := Hleft.out.2 j
                          have b2 := Hleft1.out.2 j
                          rw [gi_subL L m hlm] at b2
                          have hw1 : IntKind.i64.wrap (gi L j - gi m j) = gi L j - gi m j := wrap_in (by omega) (by omega)
                          have hnn : ¬ gi L j - gi m j < 0 := by omega
                          have hnn2 : 0 ≤ gi L j - gi m j := by omega
                          have hbp := Hbx.out.put (k := j) (by rw [midL_len, hll]; exact hlj) (gi L j - gi m j)
                          rw [midL_set L m j (by omega)] at hbp
                          have hr1 : gi (midL L m (j + 1)) j = gi L j - gi m j := by rw [midL_get L m (j + 1) j (by omega), if_pos (Nat.lt_succ_self _)]
                          have Hr1 := Lib.hid hr1
                          have hbe2 : Below gL w6 (wr.setCell ⟨gL, j, none⟩ (.int .i64 (gi L j - gi m j))) := Hbe.out.setCell (p := ⟨gL, j, none⟩) (Nat.le_refl _) _
                          have Hlm := Lib.hid hlm
                          have Hll := Lib.hid hll
                          clear hr1 hmj hlm hll
                          go_upto_region 32 with (fail)
                          refine region_plain (S := fun w' => Below wr.heap.size wr w') 13 (by kernel_rfl) ?_ (fun hHeld => ?_)
                          · exact (Below.refl _ _).drew
                          first | (refine anyT_take 0 (some 190) (v := ?_) rfl rfl (by kernel_rfl) (by kernel_rfl) (by kernel_rfl) (by kernel_rfl) (fun _ _ _ h => h) (Or.inl ⟨by rfl, ?_⟩) hHeld ?_; rotate_left; focus (intro wq hSw; obtain ⟨hcq, hfq⟩ := bcell hSw; go_simp; (try with_reducible rfl); done))
                          (try simp only [Act.put, List.setIfInBounds_toArray, List.set_cons_zero, List.set_cons_succ])
                          first | (refine anyT_take 1 (some 191) (v := ?_) rfl rfl (by kernel_rfl) (by kernel_rfl) (by kernel_rfl) (by kernel_rfl) (fun _ _ _ h => h) (Or.inl ⟨by rfl, ?_⟩) hHeld ?_; rotate_left; focus (intro wq hSw; obtain ⟨hcq, hfq⟩ := bcell hSw; go_simp; (try with_reducible rfl); done))
                          (try simp only [Act.put, List.setIfInBounds_toArray, List.set_cons_zero, List.set_cons_succ])
                          first | (refine anyT_take 2 (some 192) (v := ?_) rfl rfl (by kernel_rfl) (by kernel_rfl) (by kernel_rfl) (by kernel_rfl) (fun _ _ _ h => h) (Or.inl ⟨by rfl, ?_⟩) hHeld ?_; rotate_left; focus (intro wq hSw; obtain ⟨hcq, hfq⟩ := bcell hSw; go_simp; (try with_reducible rfl); done))
                          (try simp only [Act.put, List.setIfInBounds_toArray, List.set_cons_zero, List.set_cons_succ])
                          first | (refine anyT_take 3 (some 193) (v := ?_) rfl rfl (by kernel_rfl) (by kernel_rfl) (by kernel_rfl) (by kernel_rfl) (fun _ _ _ h => h) (Or.inl ⟨by rfl, ?_⟩) hHeld ?_; rotate_left; focus (intro wq hSw; obtain ⟨hcq, hfq⟩ := bcell hSw; go_simp; (try with_reducible rfl); done))
                          (try simp only [Act.put, List.setIfInBounds_toArray, List.set_cons_zero, List.set_cons_succ])
                          first | (refine anyT_take 4 (some 194) (v := ?_) rfl rfl (by kernel_rfl) (by kernel_rfl) (by kernel_rfl) (by kernel_rfl) (fun _ _ _ h => h) (Or.inl ⟨by rfl, ?_⟩) hHeld ?_; rotate_left; focus (intro wq hSw; obtain ⟨hcq, hfq⟩ := bcell hSw; go_simp; (try with_reducible rfl); done))
                          (try simp only [Act.put, List.setIfInBounds_toArray, List.set_cons_zero, List.set_cons_succ])
                          first | (refine anyT_take 5 (some 195) (v := ?_) rfl rfl (by kernel_rfl) (by kernel_rfl) (by kernel_rfl) (by kernel_rfl) (fun _ _ _ h => h) (Or.inl ⟨by rfl, ?_⟩) hHeld ?_; rotate_left; focus (intro wq hSw; obtain ⟨hcq, hfq⟩ := bcell hSw; go_simp; (try with_reducible rfl); done))
                          (try simp only [Act.put, List.setIfInBounds_toArray, List.set_cons_zero, List.set_cons_succ])
                          first | (refine anyT_take 6 (some 196) (v := ?_) rfl rfl (by kernel_rfl) (by kernel_rfl) (by kernel_rfl) (by kernel_rfl) (fun _ _ _ h => h) (Or.inl ⟨by rfl, ?_⟩) hHeld ?_; rotate_left; focus (intro wq hSw; obtain ⟨hcq, hfq⟩ := bcell hSw; go_simp; (try with_reducible rfl); done))
                          (try simp only [Act.put, List.setIfInBounds_toArray, List.set_cons_zero, List.set_cons_succ])
                          first | (refine anyT_take 7 (some 197) (v := ?_) rfl rfl (by kernel_rfl) (by kernel_rfl) (by kernel_rfl) (by kernel_rfl) (fun _ _ _ h => h) (Or.inl ⟨by rfl, ?_⟩) hHeld ?_; rotate_left; focus (intro wq hSw; obtain ⟨hcq, hfq⟩ := bcell hSw; go_simp; (try with_reducible rfl); done))
                          (try simp only [Act.put, List.setIfInBounds_toArray, List.set_cons_zero, List.set_cons_succ])
                          first | (refine anyT_take 8 (some 198) (v := ?_) rfl rfl (by kernel_rfl) (by kernel_rfl) (by kernel_rfl) (by kernel_rfl) (fun _ _ _ h => h) (Or.inl ⟨by rfl, ?_⟩) hHeld ?_; rotate_left; focus (intro wq hSw; obtain ⟨hcq, hfq⟩ := bcell hSw; go_simp; (try with_reducible rfl); done))
                          (try simp only [Act.put, List.setIfInBounds_toArray, List.set_cons_zero, List.set_cons_succ])
                          first | (refine anyT_take 9 (some 199) (v := ?_) rfl rfl (by kernel_rfl) (by kernel_rfl) (by kernel_rfl) (by kernel_rfl) (fun _ _ _ h => h) (Or.inl ⟨by rfl, ?_⟩) hHeld ?_; rotate_left; focus (intro wq hSw; obtain ⟨hcq, hfq⟩ := bcell hSw; go_simp; (try with_reducible rfl); done))
                          (try simp only [Act.put, List.setIfInBounds_toArray, List.set_cons_zero, List.set_cons_succ])
                          first | (refine anyT_take 10 (some 200) (v := ?_) rfl rfl (by kernel_rfl) (by kernel_rfl) (by kernel_rfl) (by kernel_rfl) (fun _ _ _ h => h) (Or.inl ⟨by rfl, ?_⟩) hHeld ?_; rotate_left; focus (intro wq hSw; obtain ⟨hcq, hfq⟩ := bcell hSw; go_simp; (try with_reducible rfl); done))
                          (try simp only [Act.put, List.setIfInBounds_toArray, List.set_cons_zero, List.set_cons_succ])
                          first | (refine anyT_take 11 (some 201) (v := ?_) rfl rfl (by kernel_rfl) (by kernel_rfl) (by kernel_rfl) (by kernel_rfl) (fun _ _ _ h => h) (Or.inl ⟨by rfl, ?_⟩) hHeld ?_; rotate_left; focus (intro wq hSw; obtain ⟨hcq, hfq⟩ := bcell hSw; go_simp; (try with_reducible rfl); done))
                          (try simp only [Act.put, List.setIfInBounds_toArray, List.set_cons_zero, List.set_cons_succ])
                          first | (refine anyT_take 12 (some 202) (v := ?_) rfl rfl (by kernel_rfl) (by kernel_rfl) (by kernel_rfl) (by kernel_rfl) (fun _ _ _ h => h) (Or.inl ⟨by rfl, ?_⟩) hHeld ?_; rotate_left; focus (intro wq hSw; obtain ⟨hcq, hfq⟩ := bcell hSw; go_simp; (try with_reducible rfl); done))
                          (try simp only [Act.put, List.setIfInBounds_toArray, List.set_cons_zero, List.set_cons_succ])
                          refine anyT_last (by kernel_rfl) rfl (fun K hK => ?_)
                          go_simp
                          refine hK.out _ _ ?_
                          clear hK K
                          (try simp only [Act.put, List.setIfInBounds_toArray, List.set_cons_zero, List.set_cons_succ])
                          refine anyT_done (by kernel_rfl) ?_ _
                          replace hbp : IntBox (World.drew (wr.setCell ⟨gL, j, none⟩ (.int .i64 (gi L j - gi m j)))) gL (midL L m (j + 1)) := BoxAt.below hbp (Below.refl _ _).drew
                          replace hbe2 : Below gL w6 (World.drew (wr.setCell ⟨gL, j, none⟩ (.int .i64 (gi L j - gi m j)))) := hbe2.drew
                          clear p0 pbl q0 qbl mbl r0 rL fL rbl b1 b2 hHeld
                          generalize World.drew (World.setCell wr _ _) = ws at *
                          have r1 := hbp.at_ (k := j) (by rw [midL_len, Hll.out]; exact hlj)
                          rw [Hr1.out] at r1
                          have rL := hbp.lt
                          have Hbp := Lib.hid hbp
                          have Hbq := Lib.hid hbe2
                          clear hbp hbe2
                          go_wp2
                          go_roundg (B.lots.length - (j + 1))
                          case measure => have := Hgj.out; omega
                          case rel => exact ⟨j + 1, by omega, rfl, by go_num, Hbp.out, Hbq.out⟩
                        · obtain rfl : j = B.lots.length := by omega
                          have hji : ¬ (B.lots.length : Int) < B.lots.length := by omega
                          have hbx := Hbx.out
                          have hml0 := midL_all L m (by have := Hml.out; have := Hleft.out.1; omega)
                          rw [Hleft.out.1] at hml0
                          rw [hml0, ← Hla.out] at hbx
                          have Hbx := Lib.hid hbx
                          clear hbx hml0
                          go_wp2
                          go_roundg (ms.length - (k + 1))
                          case measure => have := Hgk.out; omega
                          case rel => exact ⟨k + 1, by omega, rfl, by go_num, by rw [Hss.out], by rw [HLL.out]; exact Hbx.out, Hbe.out⟩

                  · obtain rfl : k = ms.length := by omega
                    have hki : ¬ (ms.length : Int) < ms.length := by omega
                    as_aux_lemma =>
                      have hlf := Hk.out.left ms.length (Nat.le_refl _)
                      have hsum := Hk.out.sum ms.length (Nat.le_refl _)
                      rw [HAll.out] at hsum
                      generalize leftAt (stockS B) ms ms.length = LF at *
                      have Hlf := Lib.hid hlf
                      have Hsum := Lib.hid hsum
                      clear hlf hsum Hk
                      have hLw := Hbx.out.lt
                      go_upto_region 36 with (fail)
                      try rw [HlA.out]
                      have hb : Below wr.heap.size wr (wr.alloc (.cells B.cells 28)) := (Below.refl _ _).alloc (Nat.le_refl _) _
                      have k10 := BoxAt.new wr B.cells 28
                      unfold ForgeV.cells at hb k10
                      rw [HlA.out] at hb k10
                      generalize World.alloc wr _ = wa at *
                      have hbea := Hbe.out.trans (hb.mono (Nat.le_of_lt hLw))
                      have hbxa := Hbx.out.below hb
                      generalize hne : wr.heap.size = n10 at *
                      have K10 := Lib.hid k10
                      have h10 := k10.lt
                      clear hb c3 f3 l3 k10 hne
                      obtain ⟨c3, f3, l3⟩ := K3k.out.below (lift hbea)
                      have hb1 : Below wa.heap.size wa (wa.alloc (.cells #[] 62)) := (Below.refl _ _).alloc (Nat.le_refl _) _
                      have hlk1 := ((Hlts.out.below H6.out).below (lift hbea)).below hb1
                      have Hbea := Lib.hid hbea
                      have Hbxa := Lib.hid hbxa
                      clear hbea hbxa Hbe Hbx
                      go_wp2_with (at_builtin; refine wpList_copyLots _ rfl _ _ rfl wa rfl rfl (some ⟨lb, lo, none⟩) B.lCap B.lots rfl hlk1 (by omega) (by omega) ?_)
                      rintro g c8 cur w9 kg hll hgb hb6
                      have k10 := K10.out.below hb6
                      have h9 := hb6.size
                      clear hb1 hlk1 c3 f3 l3
                      obtain ⟨c10, f10, l10⟩ := k10
                      go_upto_region 37 with (fail)
                      have hk3 : Keep (fun q => q = n10) w9 (w9.setCell ⟨n10, 0, none⟩ (.slice (some ⟨g, 0, none⟩) B.lots.length c8)) := Keep.setCell (M := fun q => q = n10) (Keep.refl _ _) (p := ⟨n10, 0, none⟩) (.inl rfl) _
                      have hbe9 : Below gL w6 (w9.setCell ⟨n10, 0, none⟩ (.slice (some ⟨g, 0, none⟩) B.lots.length c8)) := (Hbea.out.trans (hb6.mono (by omega))).setCell (p := ⟨n10, 0, none⟩) (by simp only; omega) _
                      have kLF : IntBox (w9.setCell ⟨n10, 0, none⟩ (.slice (some ⟨g, 0, none⟩) B.lots.length c8)) gL LF := BoxAt.keep (BoxAt.below Hbxa.out hb6) hk3 (by omega)
                      have k10 : BoxAt (w9.setCell ⟨n10, 0, none⟩ (.slice (some ⟨g, 0, none⟩) B.lots.length c8)) n10 #[.slice (some ⟨g, 0, none⟩) B.lots.length c8, .int .i64 B.tlo, .int .i64 B.thi, .int .i64 B.thick, .int .i64 B.crack, .int .i64 B.glo, .int .i64 B.ghi, .slice B.sA B.thins.length B.sCap, .int .i64 B.hot, .int .i64 B.least, .int .i64 B.clo, .int .i64 B.chi, .int .i64 B.coal, .slice B.kA B.looks.length B.kCap] := (K10.out.below hb6).put 0 (.slice (some ⟨g, 0, none⟩) B.lots.length c8) (by simp)
                      replace K10 := Lib.hid k10
                      have Kg := Lib.hid (kg.keep hk3 (by omega))
                      have Hll := Lib.hid (hll.keep hk3 (fun b o e => by cases e; omega))
                      have HLF := Lib.hid kLF
                      have Hbe := Lib.hid hbe9
                      clear hk3 k10 kg hll hb6 c10 f10 l10 kLF hbe9 Hbea Hbxa
                      generalize World.setCell w9 _ _ = w8 at *
                      obtain ⟨c3, f3, l3⟩ := K3k.out.below (lift Hbe.out)
                      have htk := turnZ_bd (n := which) (b := B.lots.length) (by omega)
                      go_upto_region 38 with (go_at_call 44; refine (Turn_calls _ _ _ (by omega)).mono ?_; rintro e x9 ⟨rfl, rfl⟩)
                      obtain ⟨kk, hkk⟩ : ∃ kk : Nat, turnZ which B.lots.length = (kk : Int) := ⟨(turnZ which B.lots.length).toNat, by omega⟩
                      rw [hkk] at htk ⊢
                      have hkl : kk < B.lots.length := by omega
                      clear hkk htk
                      obtain ⟨c10, f10, l10⟩ := K10.out
                      have hpc := ((Hlts.out.below H6.out).below (lift Hbe.out)).at_ hkl
                      obtain ⟨p0, p1, p2⟩ := hpc
                      have pbl := World.block_lt_of_cell? _ _ p0
                      simp only at pbl
                      have fg := Kg.out.frozen
                      have lg := Kg.out.lt
                      have hpg := Hll.out.at_ hkl
                      rw [Nat.zero_add] at hpg
                      obtain ⟨q0, q1, q2⟩ := hpg
                      have hlg := Hg.out.lot kk hkl
                      have hw1 : IntKind.i64.wrap ((gl B.lots kk).bars + 1) = (gl B.lots kk).bars + 1 := wrap_in (by omega) (by omega)
                      rcases Int.lt_or_le ((gl B.lots kk).bars + 1) 6 with m1 | m1
                      · as_aux_lemma =>
                          go_upto_region 38 with (fail)
                          refine region_plain (S := fun w' => Below w8.heap.size w8 w') 19 (by kernel_rfl) ?_ (fun hHeld => ?_)
                          · exact (Below.refl _ _).drew
                          first | (refine anyT_take 0 (some 219) (v := ?_) rfl rfl (by kernel_rfl) (by kernel_rfl) (by kernel_rfl) (by kernel_rfl) (fun _ _ _ h => h) (Or.inl ⟨by rfl, ?_⟩) hHeld ?_; rotate_left; focus (intro wq hSw; obtain ⟨hcq, hfq⟩ := bcell hSw; go_simp; (try with_reducible rfl); done))
                          (try simp only [Act.put, List.setIfInBounds_toArray, List.set_cons_zero, List.set_cons_succ])
                          first | (refine anyT_take 1 (some 220) (v := ?_) rfl rfl (by kernel_rfl) (by kernel_rfl) (by kernel_rfl) (by kernel_rfl) (fun _ _ _ h => h) (Or.inl ⟨by rfl, ?_⟩) hHeld ?_; rotate_left; focus (intro wq hSw; obtain ⟨hcq, hfq⟩ := bcell hSw; go_simp; (try with_reducible rfl); done))
                          (try simp only [Act.put, List.setIfInBounds_toArray, List.set_cons_zero, List.set_cons_succ])
                          first | (refine anyT_take 2 (some 221) (v := ?_) rfl rfl (by kernel_rfl) (by kernel_rfl) (by kernel_rfl) (by kernel_rfl) (fun _ _ _ h => h) (Or.inl ⟨by rfl, ?_⟩) hHeld ?_; rotate_left; focus (intro wq hSw; obtain ⟨hcq, hfq⟩ := bcell hSw; go_simp; (try with_reducible rfl); done))
                          (try simp only [Act.put, List.setIfInBounds_toArray, List.set_cons_zero, List.set_cons_succ])
                          first | (refine anyT_take 3 (some 222) (v := ?_) rfl rfl (by kernel_rfl) (by kernel_rfl) (by kernel_rfl) (by kernel_rfl) (fun _ _ _ h => h) (Or.inl ⟨by rfl, ?_⟩) hHeld ?_; rotate_left; focus (intro wq hSw; obtain ⟨hcq, hfq⟩ := bcell hSw; go_simp; (try with_reducible rfl); done))
                          (try simp only [Act.put, List.setIfInBounds_toArray, List.set_cons_zero, List.set_cons_succ])
                          first | (refine anyT_take 4 (some 223) (v := ?_) rfl rfl (by kernel_rfl) (by kernel_rfl) (by kernel_rfl) (by kernel_rfl) (fun _ _ _ h => h) (Or.inl ⟨by rfl, ?_⟩) hHeld ?_; rotate_left; focus (intro wq hSw; obtain ⟨hcq, hfq⟩ := bcell hSw; go_simp; (try with_reducible rfl); done))
                          (try simp only [Act.put, List.setIfInBounds_toArray, List.set_cons_zero, List.set_cons_succ])
                          first | (refine anyT_take 5 (some 224) (v := ?_) rfl rfl (by kernel_rfl) (by kernel_rfl) (by kernel_rfl) (by kernel_rfl) (fun _ _ _ h => h) (Or.inl ⟨by rfl, ?_⟩) hHeld ?_; rotate_left; focus (intro wq hSw; obtain ⟨hcq, hfq⟩ := bcell hSw; go_simp; (try with_reducible rfl); done))
                          (try simp only [Act.put, List.setIfInBounds_toArray, List.set_cons_zero, List.set_cons_succ])
                          first | (refine anyT_take 6 (some 225) (v := ?_) rfl rfl (by kernel_rfl) (by kernel_rfl) (by kernel_rfl) (by kernel_rfl) (fun _ _ _ h => h) (Or.inl ⟨by rfl, ?_⟩) hHeld ?_; rotate_left; focus (intro wq hSw; obtain ⟨hcq, hfq⟩ := bcell hSw; go_simp; (try with_reducible rfl); done))
                          (try simp only [Act.put, List.setIfInBounds_toArray, List.set_cons_zero, List.set_cons_succ])
                          first | (refine anyT_take 7 (some 226) (v := ?_) rfl rfl (by kernel_rfl) (by kernel_rfl) (by kernel_rfl) (by kernel_rfl) (fun _ _ _ h => h) (Or.inl ⟨by rfl, ?_⟩) hHeld ?_; rotate_left; focus (intro wq hSw; obtain ⟨hcq, hfq⟩ := bcell hSw; go_simp; (try with_reducible rfl); done))
                          (try simp only [Act.put, List.setIfInBounds_toArray, List.set_cons_zero, List.set_cons_succ])
                          first | (refine anyT_take 8 (some 227) (v := ?_) rfl rfl (by kernel_rfl) (by kernel_rfl) (by kernel_rfl) (by kernel_rfl) (fun _ _ _ h => h) (Or.inl ⟨by rfl, ?_⟩) hHeld ?_; rotate_left; focus (intro wq hSw; obtain ⟨hcq, hfq⟩ := bcell hSw; go_simp; (try with_reducible rfl); done))
                          (try simp only [Act.put, List.setIfInBounds_toArray, List.set_cons_zero, List.set_cons_succ])
                          first | (refine anyT_take 9 (some 228) (v := ?_) rfl rfl (by kernel_rfl) (by kernel_rfl) (by kernel_rfl) (by kernel_rfl) (fun _ _ _ h => h) (Or.inl ⟨by rfl, ?_⟩) hHeld ?_; rotate_left; focus (intro wq hSw; obtain ⟨hcq, hfq⟩ := bcell hSw; go_simp; (try with_reducible rfl); done))
                          (try simp only [Act.put, List.setIfInBounds_toArray, List.set_cons_zero, List.set_cons_succ])
                          first | (refine anyT_take 10 (some 229) (v := ?_) rfl rfl (by kernel_rfl) (by kernel_rfl) (by kernel_rfl) (by kernel_rfl) (fun _ _ _ h => h) (Or.inl ⟨by rfl, ?_⟩) hHeld ?_; rotate_left; focus (intro wq hSw; obtain ⟨hcq, hfq⟩ := bcell hSw; go_simp; (try with_reducible rfl); done))
                          (try simp only [Act.put, List.setIfInBounds_toArray, List.set_cons_zero, List.set_cons_succ])
                          first | (refine anyT_take 11 (some 230) (v := ?_) rfl rfl (by kernel_rfl) (by kernel_rfl) (by kernel_rfl) (by kernel_rfl) (fun _ _ _ h => h) (Or.inl ⟨by rfl, ?_⟩) hHeld ?_; rotate_left; focus (intro wq hSw; obtain ⟨hcq, hfq⟩ := bcell hSw; go_simp; (try with_reducible rfl); done))
                          (try simp only [Act.put, List.setIfInBounds_toArray, List.set_cons_zero, List.set_cons_succ])
                          first | (refine anyT_take 12 (some 231) (v := ?_) rfl rfl (by kernel_rfl) (by kernel_rfl) (by kernel_rfl) (by kernel_rfl) (fun _ _ _ h => h) (Or.inl ⟨by rfl, ?_⟩) hHeld ?_; rotate_left; focus (intro wq hSw; obtain ⟨hcq, hfq⟩ := bcell hSw; go_simp; (try with_reducible rfl); done))
                          (try simp only [Act.put, List.setIfInBounds_toArray, List.set_cons_zero, List.set_cons_succ])
                          first | (refine anyT_take 13 (some 232) (v := ?_) rfl rfl (by kernel_rfl) (by kernel_rfl) (by kernel_rfl) (by kernel_rfl) (fun _ _ _ h => h) (Or.inl ⟨by rfl, ?_⟩) hHeld ?_; rotate_left; focus (intro wq hSw; obtain ⟨hcq, hfq⟩ := bcell hSw; go_simp; (try with_reducible rfl); done))
                          (try simp only [Act.put, List.setIfInBounds_toArray, List.set_cons_zero, List.set_cons_succ])
                          first | (refine anyT_take 14 (some 233) (v := ?_) rfl rfl (by kernel_rfl) (by kernel_rfl) (by kernel_rfl) (by kernel_rfl) (fun _ _ _ h => h) (Or.inl ⟨by rfl, ?_⟩) hHeld ?_; rotate_left; focus (intro wq hSw; obtain ⟨hcq, hfq⟩ := bcell hSw; go_simp; (try with_reducible rfl); done))
                          (try simp only [Act.put, List.setIfInBounds_toArray, List.set_cons_zero, List.set_cons_succ])
                          first | (refine anyT_take 15 (some 234) (v := ?_) rfl rfl (by kernel_rfl) (by kernel_rfl) (by kernel_rfl) (by kernel_rfl) (fun _ _ _ h => h) (Or.inl ⟨by rfl, ?_⟩) hHeld ?_; rotate_left; focus (intro wq hSw; obtain ⟨hcq, hfq⟩ := bcell hSw; go_simp; (try with_reducible rfl); done))
                          (try simp only [Act.put, List.setIfInBounds_toArray, List.set_cons_zero, List.set_cons_succ])
                          first | (refine anyT_take 16 (some 235) (v := ?_) rfl rfl (by kernel_rfl) (by kernel_rfl) (by kernel_rfl) (by kernel_rfl) (fun _ _ _ h => h) (Or.inl ⟨by rfl, ?_⟩) hHeld ?_; rotate_left; focus (intro wq hSw; obtain ⟨hcq, hfq⟩ := bcell hSw; go_simp; (try with_reducible rfl); done))
                          (try simp only [Act.put, List.setIfInBounds_toArray, List.set_cons_zero, List.set_cons_succ])
                          first | (refine anyT_take 17 (some 236) (v := ?_) rfl rfl (by kernel_rfl) (by kernel_rfl) (by kernel_rfl) (by kernel_rfl) (fun _ _ _ h => h) (Or.inl ⟨by rfl, ?_⟩) hHeld ?_; rotate_left; focus (intro wq hSw; obtain ⟨hcq, hfq⟩ := bcell hSw; go_simp; (try with_reducible rfl); done))
                          (try simp only [Act.put, List.setIfInBounds_toArray, List.set_cons_zero, List.set_cons_succ])
                          first | (refine anyT_take 18 (some 237) (v := ?_) rfl rfl (by kernel_rfl) (by kernel_rfl) (by kernel_rfl) (by kernel_rfl) (fun _ _ _ h => h) (Or.inl ⟨by rfl, ?_⟩) hHeld ?_; rotate_left; focus (intro wq hSw; obtain ⟨hcq, hfq⟩ := bcell hSw; go_simp; (try with_reducible rfl); done))
                          (try simp only [Act.put, List.setIfInBounds_toArray, List.set_cons_zero, List.set_cons_succ])
                          refine anyT_last (by kernel_rfl) rfl (fun K hK => ?_)
                          have fg := (Kg.out.below hHeld).frozen; have hpg := (Hll.out.below hHeld).at_ hkl; rw [Nat.zero_add] at hpg; obtain ⟨q0, q1, q2⟩ := hpg
                          go_simp
                          refine hK.out _ _ ?_
                          clear hK K
                          (try simp only [Act.put, List.setIfInBounds_toArray, List.set_cons_zero, List.set_cons_succ])
                          refine anyT_done (by kernel_rfl) ?_ _
                          (try rw [if_neg (show ¬ (gl B.lots kk).bars + 1 < (6 : Int) by omega)])
                          (try rw [if_pos (show (gl B.lots kk).bars + 1 < (6 : Int) by omega)])
                          have hk3 : Keep (fun q => q = g) w8 (((w8.setCell ⟨g, kk * 3, none⟩ (.int .i64 ((gl B.lots kk).bars + 1))).setCell ⟨g, kk * 3 + 1, none⟩ (.int .i64 (gl B.lots kk).lo)).setCell ⟨g, kk * 3 + 2, none⟩ (.int .i64 (gl B.lots kk).hi)) := Keep.setCell (M := fun q => q = g) (Keep.setCell (M := fun q => q = g) (Keep.setCell (M := fun q => q = g) (Keep.refl _ _) (p := ⟨g, kk * 3, none⟩) (.inl rfl) _) (p := ⟨g, kk * 3 + 1, none⟩) (.inl rfl) _) (p := ⟨g, kk * 3 + 2, none⟩) (.inl rfl) _
                          have hbX := (hk3.below (n := gL) (fun q _ e => by omega) (by omega)).drew
                          have hbeX := Hbe.out.trans hbX
                          have kLF := BoxAt.below (BoxAt.keep HLF.out hk3 (by omega)) (Below.refl _ _).drew
                          have k10x := (K10.out.keep hk3 (by omega)).below (Below.refl _ _).drew
                          have hlx := (lots_put Kg.out Hll.out hkl (((gl B.lots kk).bars + 1)) ((gl B.lots kk).lo) ((gl B.lots kk).hi)).below (Below.refl _ _).drew
                          have hE := easy1 Hg.out (some ⟨g, 0, none⟩) c8 hkl (b := ((gl B.lots kk).bars + 1)) (lo := (gl B.lots kk).lo) (hi := (gl B.lots kk).hi) (by omega) (by omega)
                          have hX : (easyB B (some ⟨g, 0, none⟩) c8 (B.lots.set kk ⟨((gl B.lots kk).bars + 1), (gl B.lots kk).lo, (gl B.lots kk).hi⟩) B.tlo B.thi).Reads (World.drew (((w8.setCell ⟨g, kk * 3, none⟩ (.int .i64 ((gl B.lots kk).bars + 1))).setCell ⟨g, kk * 3 + 1, none⟩ (.int .i64 (gl B.lots kk).lo)).setCell ⟨g, kk * 3 + 2, none⟩ (.int .i64 (gl B.lots kk).hi))) := by
                            have h := HB0.out.below (H6.out.trans (hbeX.mono hg6))
                            exact ⟨hlx, h.thins, h.looks⟩
                          clear hk3 hbX hlx hHeld c3 f3 l3 c10 f10 l10 p0 p1 p2 pbl fg q0 q1 q2 lg K10 Kg Hll HLF Hbe
                          generalize World.drew (((w8.setCell ⟨g, kk * 3, none⟩ (.int .i64 ((gl B.lots kk).bars + 1))).setCell ⟨g, kk * 3 + 1, none⟩ (.int .i64 (gl B.lots kk).lo)).setCell ⟨g, kk * 3 + 2, none⟩ (.int .i64 (gl B.lots kk).hi)) = w12 at *
                          obtain ⟨c10, f10, l10⟩ := k10x
                          have HX := Lib.hid hX
                          have gX := hE.1
                          obtain ⟨ns, hns⟩ := casts_easier Hg.out gX hE.2 (nn_of (l := S) (fun j hj => by have := HSb.out j hj; omega)) Hms.out
                          have HgX := Lib.hid gX
                          have Hns := Lib.hid hns
                          have HLF := Lib.hid kLF
                          have Hbe := Lib.hid hbeX
                          clear hX hE gX hns kLF hbeX
                          go_wp2_with fail
                          refine (eq0_2 (v' := (easyB B (some ⟨g, 0, none⟩) c8 (B.lots.set kk ⟨((gl B.lots kk).bars + 1), (gl B.lots kk).lo, (gl B.lots kk).hi⟩) B.tlo B.thi).val) (by unfold ForgeV.val; rw [easyS_cells]) (Casts_calls (easyB B (some ⟨g, 0, none⟩) c8 (B.lots.set kk ⟨((gl B.lots kk).bars + 1), (gl B.lots kk).lo, (gl B.lots kk).hi⟩) B.tlo B.thi) _ sc S _ HX.out (HM0.out.below (H6.out.trans (Hbe.out.mono hg6))) (HS6.out.below (lift Hbe.out)))).mono ?_
                          rintro e w13 ⟨hc, hb⟩
                          obtain ⟨A13, m13, f13, rfl, hc13⟩ := castsR_pair ((goodF_iff _).2 HgX.out) Hsa.out hc
                          obtain rfl : f13 = 0 := by
                            rcases hc13.out with ⟨h1, _⟩ | ⟨_, _, _, h, _⟩
                            · rw [Hns.out] at h1; cases h1
                            · exact h
                          replace Hbe := Lib.hid (Hbe.out.trans (hb.mono (by have := HLF.out.lt; omega)))
                          replace HLF := Lib.hid (BoxAt.below HLF.out hb)
                          clear hc hc13 hb c10 f10 l10 HX
                          have hsq := fun w h => Sum_calls (some ⟨gL, 0, none⟩) B.lots.length LF w h (by have := Hlf.out.1; omega) (fun j => by have := Hlf.out.2 j; omega)
                          rw [Hlf.out.1] at hsq
                          have Hsq := Lib.hid hsq
                          have hkl0 : ms.length = S.length := Hkl.out
                          have hsum := Hsum.out
                          rw [hkl0] at hsum
                          have hts := Hts.out
                          have hw2 : IntKind.i64.wrap (sumTo LF B.lots.length + sumTo S S.length) = All := by rw [wrap_in (by omega) (by omega)]; exact hsum
                          clear hsq hsum hts hw1 m1
                          go_wp2_with (first
                            | (go_at_call 47; refine (Hsq.out _ (IntsAt.of_box LF HLF.out (by have := Hlf.out.1; omega))).mono ?_; rintro e w' ⟨rfl, rfl⟩)
                            | (go_at_call 27; refine (works_calls _ (HM0.out.below (H6.out.trans (Hbe.out.mono hg6)))).mono ?_; rintro e w14 ⟨rfl, hb⟩))
                          go_ret
                          exact ⟨rfl, below_then (H6.out.trans (Hbe.out.mono hg6)) (H6.out.trans (Hbe.out.mono hg6)).size hb⟩

                      · as_aux_lemma =>
                          go_upto_region 38 with (fail)
                          refine region_plain (S := fun w' => Below w8.heap.size w8 w') 19 (by kernel_rfl) ?_ (fun hHeld => ?_)
                          · exact (Below.refl _ _).drew
                          first | (refine anyT_take 0 (some 219) (v := ?_) rfl rfl (by kernel_rfl) (by kernel_rfl) (by kernel_rfl) (by kernel_rfl) (fun _ _ _ h => h) (Or.inl ⟨by rfl, ?_⟩) hHeld ?_; rotate_left; focus (intro wq hSw; obtain ⟨hcq, hfq⟩ := bcell hSw; go_simp; (try with_reducible rfl); done))
                          (try simp only [Act.put, List.setIfInBounds_toArray, List.set_cons_zero, List.set_cons_succ])
                          first | (refine anyT_take 1 (some 220) (v := ?_) rfl rfl (by kernel_rfl) (by kernel_rfl) (by kernel_rfl) (by kernel_rfl) (fun _ _ _ h => h) (Or.inl ⟨by rfl, ?_⟩) hHeld ?_; rotate_left; focus (intro wq hSw; obtain ⟨hcq, hfq⟩ := bcell hSw; go_simp; (try with_reducible rfl); done))
                          (try simp only [Act.put, List.setIfInBounds_toArray, List.set_cons_zero, List.set_cons_succ])
                          first | (refine anyT_take 2 (some 221) (v := ?_) rfl rfl (by kernel_rfl) (by kernel_rfl) (by kernel_rfl) (by kernel_rfl) (fun _ _ _ h => h) (Or.inl ⟨by rfl, ?_⟩) hHeld ?_; rotate_left; focus (intro wq hSw; obtain ⟨hcq, hfq⟩ := bcell hSw; go_simp; (try with_reducible rfl); done))
                          (try simp only [Act.put, List.setIfInBounds_toArray, List.set_cons_zero, List.set_cons_succ])
                          first | (refine anyT_take 3 (some 222) (v := ?_) rfl rfl (by kernel_rfl) (by kernel_rfl) (by kernel_rfl) (by kernel_rfl) (fun _ _ _ h => h) (Or.inl ⟨by rfl, ?_⟩) hHeld ?_; rotate_left; focus (intro wq hSw; obtain ⟨hcq, hfq⟩ := bcell hSw; go_simp; (try with_reducible rfl); done))
                          (try simp only [Act.put, List.setIfInBounds_toArray, List.set_cons_zero, List.set_cons_succ])
                          first | (refine anyT_take 4 (some 223) (v := ?_) rfl rfl (by kernel_rfl) (by kernel_rfl) (by kernel_rfl) (by kernel_rfl) (fun _ _ _ h => h) (Or.inl ⟨by rfl, ?_⟩) hHeld ?_; rotate_left; focus (intro wq hSw; obtain ⟨hcq, hfq⟩ := bcell hSw; go_simp; (try with_reducible rfl); done))
                          (try simp only [Act.put, List.setIfInBounds_toArray, List.set_cons_zero, List.set_cons_succ])
                          first | (refine anyT_take 5 (some 224) (v := ?_) rfl rfl (by kernel_rfl) (by kernel_rfl) (by kernel_rfl) (by kernel_rfl) (fun _ _ _ h => h) (Or.inl ⟨by rfl, ?_⟩) hHeld ?_; rotate_left; focus (intro wq hSw; obtain ⟨hcq, hfq⟩ := bcell hSw; go_simp; (try with_reducible rfl); done))
                          (try simp only [Act.put, List.setIfInBounds_toArray, List.set_cons_zero, List.set_cons_succ])
                          first | (refine anyT_take 6 (some 225) (v := ?_) rfl rfl (by kernel_rfl) (by kernel_rfl) (by kernel_rfl) (by kernel_rfl) (fun _ _ _ h => h) (Or.inl ⟨by rfl, ?_⟩) hHeld ?_; rotate_left; focus (intro wq hSw; obtain ⟨hcq, hfq⟩ := bcell hSw; go_simp; (try with_reducible rfl); done))
                          (try simp only [Act.put, List.setIfInBounds_toArray, List.set_cons_zero, List.set_cons_succ])
                          first | (refine anyT_take 7 (some 226) (v := ?_) rfl rfl (by kernel_rfl) (by kernel_rfl) (by kernel_rfl) (by kernel_rfl) (fun _ _ _ h => h) (Or.inl ⟨by rfl, ?_⟩) hHeld ?_; rotate_left; focus (intro wq hSw; obtain ⟨hcq, hfq⟩ := bcell hSw; go_simp; (try with_reducible rfl); done))
                          (try simp only [Act.put, List.setIfInBounds_toArray, List.set_cons_zero, List.set_cons_succ])
                          first | (refine anyT_take 8 (some 227) (v := ?_) rfl rfl (by kernel_rfl) (by kernel_rfl) (by kernel_rfl) (by kernel_rfl) (fun _ _ _ h => h) (Or.inl ⟨by rfl, ?_⟩) hHeld ?_; rotate_left; focus (intro wq hSw; obtain ⟨hcq, hfq⟩ := bcell hSw; go_simp; (try with_reducible rfl); done))
                          (try simp only [Act.put, List.setIfInBounds_toArray, List.set_cons_zero, List.set_cons_succ])
                          first | (refine anyT_take 9 (some 228) (v := ?_) rfl rfl (by kernel_rfl) (by kernel_rfl) (by kernel_rfl) (by kernel_rfl) (fun _ _ _ h => h) (Or.inl ⟨by rfl, ?_⟩) hHeld ?_; rotate_left; focus (intro wq hSw; obtain ⟨hcq, hfq⟩ := bcell hSw; go_simp; (try with_reducible rfl); done))
                          (try simp only [Act.put, List.setIfInBounds_toArray, List.set_cons_zero, List.set_cons_succ])
                          first | (refine anyT_take 10 (some 229) (v := ?_) rfl rfl (by kernel_rfl) (by kernel_rfl) (by kernel_rfl) (by kernel_rfl) (fun _ _ _ h => h) (Or.inl ⟨by rfl, ?_⟩) hHeld ?_; rotate_left; focus (intro wq hSw; obtain ⟨hcq, hfq⟩ := bcell hSw; go_simp; (try with_reducible rfl); done))
                          (try simp only [Act.put, List.setIfInBounds_toArray, List.set_cons_zero, List.set_cons_succ])
                          first | (refine anyT_take 11 (some 230) (v := ?_) rfl rfl (by kernel_rfl) (by kernel_rfl) (by kernel_rfl) (by kernel_rfl) (fun _ _ _ h => h) (Or.inl ⟨by rfl, ?_⟩) hHeld ?_; rotate_left; focus (intro wq hSw; obtain ⟨hcq, hfq⟩ := bcell hSw; go_simp; (try with_reducible rfl); done))
                          (try simp only [Act.put, List.setIfInBounds_toArray, List.set_cons_zero, List.set_cons_succ])
                          first | (refine anyT_take 12 (some 231) (v := ?_) rfl rfl (by kernel_rfl) (by kernel_rfl) (by kernel_rfl) (by kernel_rfl) (fun _ _ _ h => h) (Or.inl ⟨by rfl, ?_⟩) hHeld ?_; rotate_left; focus (intro wq hSw; obtain ⟨hcq, hfq⟩ := bcell hSw; go_simp; (try with_reducible rfl); done))
                          (try simp only [Act.put, List.setIfInBounds_toArray, List.set_cons_zero, List.set_cons_succ])
                          first | (refine anyT_take 13 (some 232) (v := ?_) rfl rfl (by kernel_rfl) (by kernel_rfl) (by kernel_rfl) (by kernel_rfl) (fun _ _ _ h => h) (Or.inl ⟨by rfl, ?_⟩) hHeld ?_; rotate_left; focus (intro wq hSw; obtain ⟨hcq, hfq⟩ := bcell hSw; go_simp; (try with_reducible rfl); done))
                          (try simp only [Act.put, List.setIfInBounds_toArray, List.set_cons_zero, List.set_cons_succ])
                          first | (refine anyT_take 14 (some 233) (v := ?_) rfl rfl (by kernel_rfl) (by kernel_rfl) (by kernel_rfl) (by kernel_rfl) (fun _ _ _ h => h) (Or.inl ⟨by rfl, ?_⟩) hHeld ?_; rotate_left; focus (intro wq hSw; obtain ⟨hcq, hfq⟩ := bcell hSw; go_simp; (try with_reducible rfl); done))
                          (try simp only [Act.put, List.setIfInBounds_toArray, List.set_cons_zero, List.set_cons_succ])
                          first | (refine anyT_take 15 (some 234) (v := ?_) rfl rfl (by kernel_rfl) (by kernel_rfl) (by kernel_rfl) (by kernel_rfl) (fun _ _ _ h => h) (Or.inl ⟨by rfl, ?_⟩) hHeld ?_; rotate_left; focus (intro wq hSw; obtain ⟨hcq, hfq⟩ := bcell hSw; go_simp; (try with_reducible rfl); done))
                          (try simp only [Act.put, List.setIfInBounds_toArray, List.set_cons_zero, List.set_cons_succ])
                          first | (refine anyT_take 16 (some 235) (v := ?_) rfl rfl (by kernel_rfl) (by kernel_rfl) (by kernel_rfl) (by kernel_rfl) (fun _ _ _ h => h) (Or.inl ⟨by rfl, ?_⟩) hHeld ?_; rotate_left; focus (intro wq hSw; obtain ⟨hcq, hfq⟩ := bcell hSw; go_simp; (try with_reducible rfl); done))
                          (try simp only [Act.put, List.setIfInBounds_toArray, List.set_cons_zero, List.set_cons_succ])
                          first | (refine anyT_take 17 (some 236) (v := ?_) rfl rfl (by kernel_rfl) (by kernel_rfl) (by kernel_rfl) (by kernel_rfl) (fun _ _ _ h => h) (Or.inl ⟨by rfl, ?_⟩) hHeld ?_; rotate_left; focus (intro wq hSw; obtain ⟨hcq, hfq⟩ := bcell hSw; go_simp; (try with_reducible rfl); done))
                          (try simp only [Act.put, List.setIfInBounds_toArray, List.set_cons_zero, List.set_cons_succ])
                          first | (refine anyT_take 18 (some 237) (v := ?_) rfl rfl (by kernel_rfl) (by kernel_rfl) (by kernel_rfl) (by kernel_rfl) (fun _ _ _ h => h) (Or.inl ⟨by rfl, ?_⟩) hHeld ?_; rotate_left; focus (intro wq hSw; obtain ⟨hcq, hfq⟩ := bcell hSw; go_simp; (try with_reducible rfl); done))
                          (try simp only [Act.put, List.setIfInBounds_toArray, List.set_cons_zero, List.set_cons_succ])
                          refine anyT_last (by kernel_rfl) rfl (fun K hK => ?_)
                          have fg := (Kg.out.below hHeld).frozen; have hpg := (Hll.out.below hHeld).at_ hkl; rw [Nat.zero_add] at hpg; obtain ⟨q0, q1, q2⟩ := hpg
                          go_simp
                          refine hK.out _ _ ?_
                          clear hK K
                          (try simp only [Act.put, List.setIfInBounds_toArray, List.set_cons_zero, List.set_cons_succ])
                          refine anyT_done (by kernel_rfl) ?_ _
                          (try rw [if_neg (show ¬ (gl B.lots kk).bars + 1 < (6 : Int) by omega)])
                          (try rw [if_pos (show (gl B.lots kk).bars + 1 < (6 : Int) by omega)])
                          have hk3 : Keep (fun q => q = g) w8 (((w8.setCell ⟨g, kk * 3, none⟩ (.int .i64 6)).setCell ⟨g, kk * 3 + 1, none⟩ (.int .i64 (gl B.lots kk).lo)).setCell ⟨g, kk * 3 + 2, none⟩ (.int .i64 (gl B.lots kk).hi)) := Keep.setCell (M := fun q => q = g) (Keep.setCell (M := fun q => q = g) (Keep.setCell (M := fun q => q = g) (Keep.refl _ _) (p := ⟨g, kk * 3, none⟩) (.inl rfl) _) (p := ⟨g, kk * 3 + 1, none⟩) (.inl rfl) _) (p := ⟨g, kk * 3 + 2, none⟩) (.inl rfl) _
                          have hbX := (hk3.below (n := gL) (fun q _ e => by omega) (by omega)).drew
                          have hbeX := Hbe.out.trans hbX
                          have kLF := BoxAt.below (BoxAt.keep HLF.out hk3 (by omega)) (Below.refl _ _).drew
                          have k10x := (K10.out.keep hk3 (by omega)).below (Below.refl _ _).drew
                          have hlx := (lots_put Kg.out Hll.out hkl (6) ((gl B.lots kk).lo) ((gl B.lots kk).hi)).below (Below.refl _ _).drew
                          have hE := easy1 Hg.out (some ⟨g, 0, none⟩) c8 hkl (b := 6) (lo := (gl B.lots kk).lo) (hi := (gl B.lots kk).hi) (by omega) (by omega)
                          have hX : (easyB B (some ⟨g, 0, none⟩) c8 (B.lots.set kk ⟨6, (gl B.lots kk).lo, (gl B.lots kk).hi⟩) B.tlo B.thi).Reads (World.drew (((w8.setCell ⟨g, kk * 3, none⟩ (.int .i64 6)).setCell ⟨g, kk * 3 + 1, none⟩ (.int .i64 (gl B.lots kk).lo)).setCell ⟨g, kk * 3 + 2, none⟩ (.int .i64 (gl B.lots kk).hi))) := by
                            have h := HB0.out.below (H6.out.trans (hbeX.mono hg6))
                            exact ⟨hlx, h.thins, h.looks⟩
                          clear hk3 hbX hlx hHeld c3 f3 l3 c10 f10 l10 p0 p1 p2 pbl fg q0 q1 q2 lg K10 Kg Hll HLF Hbe
                          generalize World.drew (((w8.setCell ⟨g, kk * 3, none⟩ (.int .i64 6)).setCell ⟨g, kk * 3 + 1, none⟩ (.int .i64 (gl B.lots kk).lo)).setCell ⟨g, kk * 3 + 2, none⟩ (.int .i64 (gl B.lots kk).hi)) = w12 at *
                          obtain ⟨c10, f10, l10⟩ := k10x
                          have HX := Lib.hid hX
                          have gX := hE.1
                          obtain ⟨ns, hns⟩ := casts_easier Hg.out gX hE.2 (nn_of (l := S) (fun j hj => by have := HSb.out j hj; omega)) Hms.out
                          have HgX := Lib.hid gX
                          have Hns := Lib.hid hns
                          have HLF := Lib.hid kLF
                          have Hbe := Lib.hid hbeX
                          clear hX hE gX hns kLF hbeX
                          go_wp2_with fail
                          refine (eq0_2 (v' := (easyB B (some ⟨g, 0, none⟩) c8 (B.lots.set kk ⟨6, (gl B.lots kk).lo, (gl B.lots kk).hi⟩) B.tlo B.thi).val) (by unfold ForgeV.val; rw [easyS_cells]) (Casts_calls (easyB B (some ⟨g, 0, none⟩) c8 (B.lots.set kk ⟨6, (gl B.lots kk).lo, (gl B.lots kk).hi⟩) B.tlo B.thi) _ sc S _ HX.out (HM0.out.below (H6.out.trans (Hbe.out.mono hg6))) (HS6.out.below (lift Hbe.out)))).mono ?_
                          rintro e w13 ⟨hc, hb⟩
                          obtain ⟨A13, m13, f13, rfl, hc13⟩ := castsR_pair ((goodF_iff _).2 HgX.out) Hsa.out hc
                          obtain rfl : f13 = 0 := by
                            rcases hc13.out with ⟨h1, _⟩ | ⟨_, _, _, h, _⟩
                            · rw [Hns.out] at h1; cases h1
                            · exact h
                          replace Hbe := Lib.hid (Hbe.out.trans (hb.mono (by have := HLF.out.lt; omega)))
                          replace HLF := Lib.hid (BoxAt.below HLF.out hb)
                          clear hc hc13 hb c10 f10 l10 HX
                          have hsq := fun w h => Sum_calls (some ⟨gL, 0, none⟩) B.lots.length LF w h (by have := Hlf.out.1; omega) (fun j => by have := Hlf.out.2 j; omega)
                          rw [Hlf.out.1] at hsq
                          have Hsq := Lib.hid hsq
                          have hkl0 : ms.length = S.length := Hkl.out
                          have hsum := Hsum.out
                          rw [hkl0] at hsum
                          have hts := Hts.out
                          have hw2 : IntKind.i64.wrap (sumTo LF B.lots.length + sumTo S S.length) = All := by rw [wrap_in (by omega) (by omega)]; exact hsum
                          clear hsq hsum hts hw1 m1
                          go_wp2_with (first
                            | (go_at_call 47; refine (Hsq.out _ (IntsAt.of_box LF HLF.out (by have := Hlf.out.1; omega))).mono ?_; rintro e w' ⟨rfl, rfl⟩)
                            | (go_at_call 27; refine (works_calls _ (HM0.out.below (H6.out.trans (Hbe.out.mono hg6)))).mono ?_; rintro e w14 ⟨rfl, hb⟩))
                          go_ret
                          exact ⟨rfl, below_then (H6.out.trans (Hbe.out.mono hg6)) (H6.out.trans (Hbe.out.mono hg6)).size hb⟩


end
end Go.Proofs.YtgfbfbfajnfbjaaDoor
