import Derived.Test.YtljikigmfkfkiaaDoorCL
import Derived.Test.YtljikigmfkfkiaaDoorAX
import Derived.StillTailTactics
namespace Go.Proofs.YtljikigmfkfkiaaDoor
open Go.RowKit Go.Shelf
attribute [local go_sem] Oper.semAt_some
set_option linter.unusedSimpArgs false
set_option linter.unusedVariables false

/-- the list and the error of Cues -/
def cuesV (B : BookV) (path : List Int) : List (Int × Int) × Int := bif goodB B then (bif isPathS B.parts B.start path then (cuesTo B path (path.length - 1), 0) else ([], 81)) else ([], 80)
theorem CuesR_val {B : BookV} {path : List Int} {e : Ending} {w' : World} (h : CuesR B path e w') : ∃ A c, e = .returned (.tuple #[.slice A (cuesV B path).1.length c, .int .i64 (cuesV B path).2]) ∧ SpansAt w' A (cuesV B path).1 := by
  unfold cuesV
  rcases h with ⟨h, rfl⟩ | ⟨h, h2, rfl⟩ | ⟨h, h2, A, rfl, hi⟩
  · rw [h]; exact ⟨none, 0, rfl, by simp, .inl rfl⟩
  · rw [h, h2]; exact ⟨none, 0, rfl, by simp, .inl rfl⟩
  · rw [h, h2]; exact ⟨A, _, rfl, hi⟩
theorem eqCue (a b c d : Int) (w : World) : (Op.equalIn 10000 73 (.agg #[.int .i64 a, .int .i64 b]) (.agg #[.int .i64 c, .int .i64 d])).run Tryd.prog w = .ok (a == c && b == d) w := by
  have u3 := under3
  have hS : Tryd.prog.underlying 73 = some (.struct (Tryd.prog.fieldsOf 73)) := by kernel_rfl
  have hp : Tryd.prog.stoodInHeld 73 = false := by kernel_rfl
  rw [show (10000 : Nat) = 9999 + 1 from rfl, run_equalIn_struct w 9999 73 _ _ hS hp]
  obtain ⟨f0, f1, hf, n0, n1, t0, t1, o0, o1⟩ : ∃ f0 f1 : Field, (Tryd.prog.fieldsOf 73).toList = [f0, f1] ∧ (f0.name == "_") = false ∧ (f1.name == "_") = false ∧ f0.type = 3 ∧ f1.type = 3 ∧ f0.offset = 0 ∧ f1.offset = 1 :=
    ⟨(Tryd.prog.fieldsOf 73)[0]!, (Tryd.prog.fieldsOf 73)[1]!, by kernel_rfl, by kernel_rfl, by kernel_rfl, by kernel_rfl, by kernel_rfl, by kernel_rfl, by kernel_rfl⟩
  have p0 : ∀ (x y : Int) (w : World), (part 3 #[.int .i64 x, .int .i64 y] 0).run Tryd.prog w = .ok (.int .i64 x) w := fun x y w => by kernel_rfl
  have p1 : ∀ (x y : Int) (w : World), (part 3 #[.int .i64 x, .int .i64 y] 1).run Tryd.prog w = .ok (.int .i64 y) w := fun x y w => by kernel_rfl
  have e3 : ∀ (x y : Int) (w : World), (Op.equalIn 9999 3 (.int .i64 x) (.int .i64 y)).run Tryd.prog w = .ok (x == y) w := fun x y w => run_equalIn_int w 9998 3 .i64 .i64 x y u3
  rw [hf]
  have m0 : f0.name ≠ "_" := by simpa using n0
  have m1 : f1.name ≠ "_" := by simpa using n1
  simp only [Op.eqFields, if_pos m0, if_pos m1, t0, t1, o0, o1, Sem.run_bind, p0, p1, e3, Result.andThen_ok]
  cases h1 : (a == c) <;> cases h2 : (b == d) <;> simp [p1, e3, h2]
theorem wp_app2 {o : Oper} {a : Act} {K : Act → World → Prop} {Q : Exit → Act → World → Prop} (w : World) (s x : Operand)
    (ho : o.op = .call { callee := .builtin .append, args := #[s, x], argTypes := #[46, 46] })
    (base : Nat) (v : Value) (xs : List (Int × Int)) (hs : a.eval s = v) (hown : OwnCues w base v xs)
    (g c : Nat) (n m : Int) (hx : a.eval x = .slice (some ⟨g, 0, none⟩) 1 c) (hc : w.cell? ⟨g, 0, none⟩ = some (.int .i64 n)) (hc1 : w.cell? ⟨g, 1, none⟩ = some (.int .i64 m)) (hlen : xs.length ≤ 1000000) (hbase : base ≤ w.heap.size)
    (h : ∀ v' w', OwnCues w' base v' (xs ++ [(n, m)]) → Below base w w' → K (a.put o.dst v') w') : o.wp Tryd.prog a w K Q := by
  obtain ⟨i0, hi, hz0, hz1, hz2⟩ := info_parts info73
  refine wp_append_own w s x 46 ho base 73 i0 (.agg #[.int .i64 0, .int .i64 0]) 2 16 under46 hi hz0 hz1 hz2 rfl (by decide) v xs.length (pairs xs) hs hown ⟨g, 0, none⟩ 1 c [.int .i64 n, .int .i64 m] hx rfl ?_ ?_ (by unfold maxLen; omega) (by omega) hbase ?_
  · intro j u hj
    rw [addr_add0]
    match j, hj with
    | 0, hj => simp at hj; subst hj; exact hc
    | 1, hj => simp at hj; subst hj; exact hc1
  · intro u hu; simp at hu; rcases hu with rfl | rfl <;> rfl
  · intro v' w' h1 h2 _
    refine h v' w' ?_ ((Below.refl _ _).grown h2 hbase fun k hk => (World.ownsRow.lt hown k hk).1)
    unfold OwnCues
    rw [List.length_append, show pairs (xs ++ [(n, m)]) = pairs xs ++ [.int .i64 n, .int .i64 m] by simp [pairs]]
    exact h1
set_option maxRecDepth 100000 in
set_option maxHeartbeats 4000000 in
theorem refCues_calls (B : BookV) (A : Option Addr) (c : Nat) (path : List Int) (w : World) (hB : B.Reads w) (hp : IntsAt w A path) :
    Calls Tryd.prog 35 #[B.val, .slice A path.length c] w fun e w' => (∃ A c, e = .returned (.tuple #[.slice A (cuesV B path).1.length c, .int .i64 (cuesV B path).2]) ∧ SpansAt w' A (cuesV B path).1) ∧ Below w.heap.size w w' := by
  have HB := Lib.hid hB
  have HP := Lib.hid hp
  have Hb : Below w.heap.size w (w.alloc (.cells B.cells 27)) := (Below.refl _ _).alloc (Nat.le_refl _) _
  have K2 := Lib.hid (BoxAt.new w B.cells 27)
  clear hB hp
  unfold BookV.val BookV.cells
  go_enter Tryd.func35, Tryd.ntmps35
  go_wp2_with fail
  refine (eq0_2 (v' := B.val) (by unfold BookV.val BookV.cells; rfl) (refTime_calls B A c path _ (HB.out.below Hb) (HP.out.below Hb))).mono ?_
  rintro e w1 ⟨rfl, hb⟩
  have H1 := Lib.hid (below_then Hb Hb.size hb)
  have K21 := Lib.hid (K2.out.below hb)
  clear hb Hb
  unfold BookV.cells at K21
  have hcase : (∃ n, timeR B path = .tuple #[.int .i64 0, .int .i64 n] ∧ n ≠ 0 ∧ cuesV B path = ([], n)) ∨ (goodB B = true ∧ isPathS B.parts B.start path = true) := by
    rcases chain2 (goodB B) (isPathS B.parts B.start path) with hg | ⟨hg, hi⟩ | ⟨hg, hi⟩
    · exact .inl ⟨80, by simp [timeR, hg], by simp, by simp [cuesV, hg]⟩
    · exact .inl ⟨81, by simp [timeR, hg, hi], by simp, by simp [cuesV, hg, hi]⟩
    · exact .inr ⟨hg, hi⟩
  rcases hcase with ⟨n, ht, hn, hv⟩ | ⟨hg, hi⟩
  · have Hv := Lib.hid hv
    rw [ht]
    clear hv ht
    have hn2 : (n == 0) = false := by rw [beq_eq_false_iff_ne]; exact hn
    go_wp2
    go_ret2
    exact ⟨⟨none, 0, by rw [Hv.out]; rfl, by rw [Hv.out]; exact ⟨by simp, .inl rfl⟩⟩, H1.out⟩
  · have g := (goodB_iff B).1 hg
    have ip := (isPathS_iff g path).1 hi
    have hpos := ip.pos g
    have hpar := g.parts
    have hsz := g.size
    have hno := g.notice
    have hl8 : path.length ≤ 8 := by have := ip.len; omega
    obtain ⟨m, hm⟩ : ∃ m, path.length = m + 1 := ⟨path.length - 1, by omega⟩
    have hv : cuesV B path = (cuesTo B path m, 0) := by simp [cuesV, hg, hi, hm]
    have ht : timeR B path = .tuple #[.int .i64 (timeTo B path path.length), .int .i64 0] := by simp [timeR, hg, hi]
    obtain ⟨b, o, rfl⟩ := HP.out.some_ hpos
    have hmi : (path.length : Int) = m + 1 := by omega
    have Hv := Lib.hid hv
    have Hi := Lib.hid ip
    have Hm := Lib.hid hm
    have Hmi := Lib.hid hmi
    rw [ht]
    clear ht hv g ip hg hi hm hmi
    go_upto_block 0 with (fail)
    go_wp2
    go_loopg [9, 8] m (fun gk i v wr => ∃ k : Nat, k ≤ m ∧ gk = m - k ∧ i = .int .i64 ((k : Int) + 1) ∧ OwnCues wr w1.heap.size v (cuesTo B path k) ∧ Below w1.heap.size w1 wr)
    case atStart => exact ⟨0, Nat.zero_le _, rfl, rfl, OwnCues.nil _ _, Below.refl _ _⟩
    case round =>
      obtain ⟨k, hk, hgk, rfl, hown, hbe⟩ := hrel
      have Hgk := Lib.hid hgk
      have Hown := Lib.hid hown
      have Hbe := Lib.hid hbe
      clear hgk hown hbe
      by_cases hlt : k < m
      · have hki : (k : Int) + 1 < path.length := by have := Hmi.out; omega
        have hki0 : (k : Int) < path.length := by omega
        have hw1 : IntKind.i64.wrap ((k : Int) + 1 - 1) = k := by rw [wrap_in (by omega) (by omega)]; omega
        obtain ⟨c6, f6, l6⟩ := K21.out.below Hbe.out
        have HW := below_then H1.out H1.out.size Hbe.out
        have q1 := cell_below HW (HP.out.at_ (show k + 1 < path.length by have := Hm.out; omega))
        have q0 := cell_below HW (HP.out.at_ (show k < path.length by have := Hm.out; omega))
        have bq := World.block_lt_of_cell? _ _ q0
        simp only at bq
        have r1 := gi_path Hi.out (k + 1)
        have r0 := gi_path Hi.out k
        have hw2 : IntKind.i64.wrap (gi path (k + 1) - gi path k) = gi path (k + 1) - gi path k := wrap_in (by omega) (by omega)
        have hmul0 : 0 ≤ ((k : Int) + 1) * B.size := Int.mul_nonneg (by omega) (by omega)
        have hmul1 : ((k : Int) + 1) * B.size ≤ 8 * 16 := Int.mul_le_mul (by omega) (by omega) (by omega) (by omega)
        have hw3 : IntKind.i64.wrap (((k : Int) + 1) * B.size) = ((k : Int) + 1) * B.size := wrap_in (by omega) (by omega)
        have hw4 : IntKind.i64.wrap (((k : Int) + 1) * B.size - B.notice) = ((k : Int) + 1) * B.size - B.notice := wrap_in (by omega) (by omega)
        have hst : cuesTo B path (k + 1) = cuesTo B path k ++ bif decide (gi path (k + 1) = gi path k) then [] else [(((k : Int) + 1) * B.size - B.notice, gi path (k + 1) - gi path k)] := rfl
        by_cases he : gi path (k + 1) = gi path k
        · simp only [he, decide_true, cond_true, List.append_nil] at hst
          have Hst := Lib.hid hst
          have he' : (gi path (k + 1) == gi path k) = true := by rw [beq_iff_eq]; exact he
          clear hst
          go_wp2
          go_quiet (fail)
          go_wp2
          go_roundg (m - (k + 1))
          case measure => have := Hgk.out; omega
          case rel => exact ⟨k + 1, by omega, rfl, by go_num, by rw [Hst.out]; exact Hown.out.keep (below_drewN (Below.refl _ _) _), below_drewN Hbe.out _⟩
        · simp only [he, decide_false, cond_false] at hst
          have Hst := Lib.hid hst
          have he' : (gi path (k + 1) == gi path k) = false := by rw [beq_eq_false_iff_ne]; exact he
          clear hst
          go_wp2
          go_quiet (fail)
          go_upto_region 9 with (fail)
          generalize hw8 : World.drewN _ _ = w8
          have hdr8 : Below wr.heap.size wr w8 := by rw [← hw8]; exact below_drewN (Below.refl _ _) _
          have Hdr8 := Lib.hid hdr8
          have hbe8 : Below w1.heap.size w1 w8 := below_then Hbe.out Hbe.out.size hdr8
          have Hbe8 := Lib.hid hbe8
          have r1' := cell_below H1.out (HP.out.at_ (show k + 1 < path.length by have := Hm.out; omega))
          have r0' := cell_below H1.out (HP.out.at_ (show k < path.length by have := Hm.out; omega))
          have br' := World.block_lt_of_cell? _ _ r0'
          simp only at br'
          clear c6 f6 l6 q1 q0 bq hdr8 hw8
          obtain ⟨c6, f6, l6⟩ := K21.out
          have hk10 : (0 : Int) ≤ (k : Int) + 1 := by omega
          have hwk : IntKind.i64.wrap (k : Int) = k := wrap_in (by omega) (by omega)
          refine region_plain (S := fun w' => Below w1.heap.size w1 w') 22 (by kernel_rfl) ?_ (fun hHeld => ?_)
          · exact hbe8.drew
          first | (refine anyT_take 0 (some 35) (v := ?_) rfl rfl (by kernel_rfl) (by kernel_rfl) (by kernel_rfl) (by kernel_rfl) (fun _ _ _ h => h) (Or.inl ⟨by rfl, ?_⟩) hHeld ?_; rotate_left; focus (intro wq hSw; obtain ⟨hcq, hfq⟩ := bcell hSw; go_simp; (try with_reducible rfl); done))
          (try simp only [Act.put, List.setIfInBounds_toArray, List.set_cons_zero, List.set_cons_succ])
          first | (refine anyT_take 1 (some 36) (v := ?_) rfl rfl (by kernel_rfl) (by kernel_rfl) (by kernel_rfl) (by kernel_rfl) (fun _ _ _ h => h) (Or.inl ⟨by rfl, ?_⟩) hHeld ?_; rotate_left; focus (intro wq hSw; obtain ⟨hcq, hfq⟩ := bcell hSw; go_simp; (try with_reducible rfl); done))
          (try simp only [Act.put, List.setIfInBounds_toArray, List.set_cons_zero, List.set_cons_succ])
          first | (refine anyT_take 2 (some 37) (v := ?_) rfl rfl (by kernel_rfl) (by kernel_rfl) (by kernel_rfl) (by kernel_rfl) (fun _ _ _ h => h) (Or.inl ⟨by rfl, ?_⟩) hHeld ?_; rotate_left; focus (intro wq hSw; obtain ⟨hcq, hfq⟩ := bcell hSw; go_simp; (try with_reducible rfl); done))
          (try simp only [Act.put, List.setIfInBounds_toArray, List.set_cons_zero, List.set_cons_succ])
          first | (refine anyT_take 3 (some 38) (v := ?_) rfl rfl (by kernel_rfl) (by kernel_rfl) (by kernel_rfl) (by kernel_rfl) (fun _ _ _ h => h) (Or.inl ⟨by rfl, ?_⟩) hHeld ?_; rotate_left; focus (intro wq hSw; obtain ⟨hcq, hfq⟩ := bcell hSw; go_simp; (try with_reducible rfl); done))
          (try simp only [Act.put, List.setIfInBounds_toArray, List.set_cons_zero, List.set_cons_succ])
          first | (refine anyT_take 4 (some 39) (v := ?_) rfl rfl (by kernel_rfl) (by kernel_rfl) (by kernel_rfl) (by kernel_rfl) (fun _ _ _ h => h) (Or.inl ⟨by rfl, ?_⟩) hHeld ?_; rotate_left; focus (intro wq hSw; obtain ⟨hcq, hfq⟩ := bcell hSw; go_simp; (try with_reducible rfl); done))
          (try simp only [Act.put, List.setIfInBounds_toArray, List.set_cons_zero, List.set_cons_succ])
          first | (refine anyT_take 5 (some 40) (v := ?_) rfl rfl (by kernel_rfl) (by kernel_rfl) (by kernel_rfl) (by kernel_rfl) (fun _ _ _ h => h) (Or.inl ⟨by rfl, ?_⟩) hHeld ?_; rotate_left; focus (intro wq hSw; obtain ⟨hcq, hfq⟩ := bcell hSw; go_simp; (try with_reducible rfl); done))
          (try simp only [Act.put, List.setIfInBounds_toArray, List.set_cons_zero, List.set_cons_succ])
          first | (refine anyT_take 6 (some 41) (v := ?_) rfl rfl (by kernel_rfl) (by kernel_rfl) (by kernel_rfl) (by kernel_rfl) (fun _ _ _ h => h) (Or.inl ⟨by rfl, ?_⟩) hHeld ?_; rotate_left; focus (intro wq hSw; obtain ⟨hcq, hfq⟩ := bcell hSw; go_simp; (try with_reducible rfl); done))
          (try simp only [Act.put, List.setIfInBounds_toArray, List.set_cons_zero, List.set_cons_succ])
          first | (refine anyT_take 7 (some 42) (v := ?_) rfl rfl (by kernel_rfl) (by kernel_rfl) (by kernel_rfl) (by kernel_rfl) (fun _ _ _ h => h) (Or.inl ⟨by rfl, ?_⟩) hHeld ?_; rotate_left; focus (intro wq hSw; obtain ⟨hcq, hfq⟩ := bcell hSw; go_simp; (try with_reducible rfl); done))
          (try simp only [Act.put, List.setIfInBounds_toArray, List.set_cons_zero, List.set_cons_succ])
          first | (refine anyT_take 8 (some 43) (v := ?_) rfl rfl (by kernel_rfl) (by kernel_rfl) (by kernel_rfl) (by kernel_rfl) (fun _ _ _ h => h) (Or.inl ⟨by rfl, ?_⟩) hHeld ?_; rotate_left; focus (intro wq hSw; obtain ⟨hcq, hfq⟩ := bcell hSw; go_simp; (try with_reducible rfl); done))
          (try simp only [Act.put, List.setIfInBounds_toArray, List.set_cons_zero, List.set_cons_succ])
          first | (refine anyT_take 9 (some 44) (v := ?_) rfl rfl (by kernel_rfl) (by kernel_rfl) (by kernel_rfl) (by kernel_rfl) (fun _ _ _ h => h) (Or.inl ⟨by rfl, ?_⟩) hHeld ?_; rotate_left; focus (intro wq hSw; obtain ⟨hcq, hfq⟩ := bcell hSw; go_simp; (try with_reducible rfl); done))
          (try simp only [Act.put, List.setIfInBounds_toArray, List.set_cons_zero, List.set_cons_succ])
          first | (refine anyT_take 10 (some 45) (v := ?_) rfl rfl (by kernel_rfl) (by kernel_rfl) (by kernel_rfl) (by kernel_rfl) (fun _ _ _ h => h) (Or.inl ⟨by rfl, ?_⟩) hHeld ?_; rotate_left; focus (intro wq hSw; obtain ⟨hcq, hfq⟩ := bcell hSw; go_simp; (try with_reducible rfl); done))
          (try simp only [Act.put, List.setIfInBounds_toArray, List.set_cons_zero, List.set_cons_succ])
          first | (refine anyT_take 11 (some 46) (v := ?_) rfl rfl (by kernel_rfl) (by kernel_rfl) (by kernel_rfl) (by kernel_rfl) (fun _ _ _ h => h) (Or.inl ⟨by rfl, ?_⟩) hHeld ?_; rotate_left; focus (intro wq hSw; obtain ⟨hcq, hfq⟩ := bcell hSw; go_simp; (try with_reducible rfl); done))
          (try simp only [Act.put, List.setIfInBounds_toArray, List.set_cons_zero, List.set_cons_succ])
          first | (refine anyT_take 12 (some 47) (v := ?_) rfl rfl (by kernel_rfl) (by kernel_rfl) (by kernel_rfl) (by kernel_rfl) (fun _ _ _ h => h) (Or.inl ⟨by rfl, ?_⟩) hHeld ?_; rotate_left; focus (intro wq hSw; obtain ⟨hcq, hfq⟩ := bcell hSw; go_simp; (try with_reducible rfl); done))
          (try simp only [Act.put, List.setIfInBounds_toArray, List.set_cons_zero, List.set_cons_succ])
          first | (refine anyT_take 13 (some 48) (v := ?_) rfl rfl (by kernel_rfl) (by kernel_rfl) (by kernel_rfl) (by kernel_rfl) (fun _ _ _ h => h) (Or.inl ⟨by rfl, ?_⟩) hHeld ?_; rotate_left; focus (intro wq hSw; obtain ⟨hcq, hfq⟩ := bcell hSw; go_simp; (try with_reducible rfl); done))
          (try simp only [Act.put, List.setIfInBounds_toArray, List.set_cons_zero, List.set_cons_succ])
          first | (refine anyT_take 14 (some 49) (v := ?_) rfl rfl (by kernel_rfl) (by kernel_rfl) (by kernel_rfl) (by kernel_rfl) (fun _ _ _ h => h) (Or.inl ⟨by rfl, ?_⟩) hHeld ?_; rotate_left; focus (intro wq hSw; obtain ⟨hcq, hfq⟩ := bcell hSw; go_simp; (try with_reducible rfl); done))
          (try simp only [Act.put, List.setIfInBounds_toArray, List.set_cons_zero, List.set_cons_succ])
          first | (refine anyT_take 15 (some 50) (v := ?_) rfl rfl (by kernel_rfl) (by kernel_rfl) (by kernel_rfl) (by kernel_rfl) (fun _ _ _ h => h) (Or.inl ⟨by rfl, ?_⟩) hHeld ?_; rotate_left; focus (intro wq hSw; obtain ⟨hcq, hfq⟩ := bcell hSw; go_simp; (try with_reducible rfl); done))
          (try simp only [Act.put, List.setIfInBounds_toArray, List.set_cons_zero, List.set_cons_succ])
          first | (refine anyT_take 16 (some 51) (v := ?_) rfl rfl (by kernel_rfl) (by kernel_rfl) (by kernel_rfl) (by kernel_rfl) (fun _ _ _ h => h) (Or.inl ⟨by rfl, ?_⟩) hHeld ?_; rotate_left; focus (intro wq hSw; obtain ⟨hcq, hfq⟩ := bcell hSw; go_simp; (try with_reducible rfl); done))
          (try simp only [Act.put, List.setIfInBounds_toArray, List.set_cons_zero, List.set_cons_succ])
          first | (refine anyT_take 17 (some 52) (v := ?_) rfl rfl (by kernel_rfl) (by kernel_rfl) (by kernel_rfl) (by kernel_rfl) (fun _ _ _ h => h) (Or.inl ⟨by rfl, ?_⟩) hHeld ?_; rotate_left; focus (intro wq hSw; obtain ⟨hcq, hfq⟩ := bcell hSw; go_simp; (try with_reducible rfl); done))
          (try simp only [Act.put, List.setIfInBounds_toArray, List.set_cons_zero, List.set_cons_succ])
          first | (refine anyT_take 18 (some 53) (v := ?_) rfl rfl (by kernel_rfl) (by kernel_rfl) (by kernel_rfl) (by kernel_rfl) (fun _ _ _ h => h) (Or.inl ⟨by rfl, ?_⟩) hHeld ?_; rotate_left; focus (intro wq hSw; obtain ⟨hcq, hfq⟩ := bcell hSw; go_simp; (try with_reducible rfl); done))
          (try simp only [Act.put, List.setIfInBounds_toArray, List.set_cons_zero, List.set_cons_succ])
          refine anyT_one 19 (by kernel_rfl) rfl (fun K hK => ?_)
          go_simp
          refine hK.out _ _ ?_ (fun hHeld => ?_)
          · exact hHeld.alloc hHeld.size _
          clear hK K
          (try simp only [Act.put, List.setIfInBounds_toArray, List.set_cons_zero, List.set_cons_succ])
          refine anyT_one 20 (by kernel_rfl) rfl (fun K hK => ?_)
          rw [if_pos (by rfl)]; refine wp_app2 _ _ _ rfl w1.heap.size _ _ rfl ((Hown.out.keep Hdr8.out.drew).alloc _) _ _ _ _ rfl ((BoxAt.new _ _ _).cell 0) ((BoxAt.new _ _ _).cell 1) (by have := cuesTo_le B path k; omega) (by have := Hbe8.out.size; simp; omega) ?_; intro v' w5 ho hb5
          go_simp
          refine hK.out _ _ ?_ (fun hHeld => ?_)
          · exact hHeld.trans hb5
          clear hK K
          (try simp only [Act.put, List.setIfInBounds_toArray, List.set_cons_zero, List.set_cons_succ])
          first | (refine anyT_take 21 (some 8) (v := ?_) rfl rfl (by kernel_rfl) (by kernel_rfl) (by kernel_rfl) (by kernel_rfl) (fun _ _ _ h => h) (Or.inl ⟨by rfl, ?_⟩) hHeld ?_; rotate_left; focus (intro wq hSw; obtain ⟨hcq, hfq⟩ := bcell hSw; go_simp; (try with_reducible rfl); done))
          (try simp only [Act.put, List.setIfInBounds_toArray, List.set_cons_zero, List.set_cons_succ])
          refine anyT_done (by kernel_rfl) ?_ _
          have Hho := Lib.hid ho
          have Hb5 := Lib.hid hHeld
          clear ho hHeld r0' r1' br' c6 f6 l6
          go_wp2
          go_roundg (m - (k + 1))
          case measure => have := Hgk.out; omega
          case rel => exact ⟨k + 1, by omega, rfl, by go_num, by rw [Hst.out]; exact Hho.out, Hb5.out⟩
      · obtain rfl : k = m := by omega
        have hki : ¬ ((k : Int) + 1 < path.length) := by have := Hmi.out; omega
        obtain ⟨A', c', rfl, hi', hc', hm', h0⟩ := Hown.out.reads
        have Hi' := Lib.hid hi'
        clear hi'
        have hfin := below_then H1.out H1.out.size Hbe.out
        go_wp2_with fail
        go_ret2
        first | exact ⟨⟨A', ⟨c', by rw [Hv.out]; rfl⟩, by rw [Hv.out]; exact Hi'.out⟩, hfin⟩ | exact ⟨⟨A', c', by rw [Hv.out], by rw [Hv.out]; exact Hi'.out⟩, hfin⟩
set_option maxRecDepth 100000 in
set_option maxHeartbeats 2000000 in
theorem SameCues_true (A : Option Addr) (c : Nat) (A' : Option Addr) (c' : Nat) (l : List (Int × Int)) (w : World) (ha : SpansAt w A l) (hb : SpansAt w A' l) :
    Calls Tryd.prog 36 #[.slice A l.length c, .slice A' l.length c'] w fun e w' => e = .returned (.bool true) ∧ Below w.heap.size w w' := by
  rcases Nat.eq_zero_or_pos l.length with h0 | h0
  · have hz : ¬ (0 : Int) < l.length := by omega
    clear h0 ha hb
    go_enter Tryd.func36, Tryd.ntmps36
    go_wp2
    refine wp_loop_rounds 1 ?_
    rw [rounds_succ]
    go_wp2
    go_ret
    exact ⟨rfl, Below.refl _ _⟩
  · obtain ⟨xb, xo, rfl, hxc⟩ := ha.2.resolve_left (by intro e; rw [e] at h0; simp at h0)
    obtain ⟨yb, yo, rfl, hyc⟩ := hb.2.resolve_left (by intro e; rw [e] at h0; simp at h0)
    have hle := ha.1
    have Hxc := Lib.hid hxc
    have Hyc := Lib.hid hyc
    clear ha hb hxc hyc h0
    go_enter Tryd.func36, Tryd.ntmps36
    go_wp2
    go_loopg [6, 5] l.length (fun gk i s wr => ∃ k : Nat, k ≤ l.length ∧ gk = l.length - k ∧ i = .int .i64 k ∧ s = .bool true ∧ Below w.heap.size w wr)
    case atStart => exact ⟨0, Nat.zero_le _, rfl, rfl, rfl, Below.refl _ _⟩
    case round =>
      obtain ⟨k, hk, hgk, rfl, rfl, hB⟩ := hrel
      have Hgk := Lib.hid hgk
      clear hgk
      by_cases hlt : k < l.length
      · have hc1 := cell_below hB (Hxc.out k hlt).1
        have hc2 := cell_below hB (Hxc.out k hlt).2
        have hd1 := cell_below hB (Hyc.out k hlt).1
        have hd2 := cell_below hB (Hyc.out k hlt).2
        have b1 := World.block_lt_of_cell? _ _ hc1
        have b2 := World.block_lt_of_cell? _ _ hd1
        have hki : (k : Int) < l.length := by omega
        simp only at b1 b2
        have heq := eqCue (gs l k).1 (gs l k).2 (gs l k).1 (gs l k).2
        have hb3 : ((gs l k).1 == (gs l k).1 && (gs l k).2 == (gs l k).2) = true := by simp
        rw [hb3] at heq
        clear hb3
        go_wp2
        go_quiet (fail)
        go_wp2
        go_roundg (l.length - (k + 1))
        case measure => have := Hgk.out; omega
        case rel => exact ⟨k + 1, by omega, rfl, by go_num, rfl, below_drewN hB _⟩
      · obtain rfl : k = l.length := by omega
        go_wp2
        go_ret
        exact ⟨rfl, hB⟩
end Go.Proofs.YtljikigmfkfkiaaDoor
