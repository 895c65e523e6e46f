import Derived.Test.YtljikigmfkfkiaaDoorAW
import Derived.Test.YtljikigmfkfkiaaDoorAT
namespace Go.Proofs.YtljikigmfkfkiaaDoor
open Go.RowKit Go.Shelf
attribute [local go_sem] Oper.semAt_some
set_option linter.unusedSimpArgs false
set_option linter.unusedVariables false

theorem eqSpan (a b c d : Int) (w : World) : (Op.equalIn 10000 24 (.agg #[.int .i64 a, .int .i64 b]) (.agg #[.int .i64 c, .int .i64 d])).run Tryd.prog w = .ok (a == c && b == d) w := by
  have u3 := under3
  have hS : Tryd.prog.underlying 24 = some (.struct (Tryd.prog.fieldsOf 24)) := by kernel_rfl
  have hp : Tryd.prog.stoodInHeld 24 = false := by kernel_rfl
  rw [show (10000 : Nat) = 9999 + 1 from rfl, run_equalIn_struct w 9999 24 _ _ hS hp]
  obtain ⟨f0, f1, hf, n0, n1, t0, t1, o0, o1⟩ : ∃ f0 f1 : Field, (Tryd.prog.fieldsOf 24).toList = [f0, f1] ∧ (f0.name == "_") = false ∧ (f1.name == "_") = false ∧ f0.type = 3 ∧ f1.type = 3 ∧ f0.offset = 0 ∧ f1.offset = 1 :=
    ⟨(Tryd.prog.fieldsOf 24)[0]!, (Tryd.prog.fieldsOf 24)[1]!, by kernel_rfl, by kernel_rfl, by kernel_rfl, by kernel_rfl, by kernel_rfl, by kernel_rfl, by kernel_rfl⟩
  have p0 : ∀ (x y : Int) (w : World), (part 3 #[.int .i64 x, .int .i64 y] 0).run Tryd.prog w = .ok (.int .i64 x) w := fun x y w => by kernel_rfl
  have p1 : ∀ (x y : Int) (w : World), (part 3 #[.int .i64 x, .int .i64 y] 1).run Tryd.prog w = .ok (.int .i64 y) w := fun x y w => by kernel_rfl
  have e3 : ∀ (x y : Int) (w : World), (Op.equalIn 9999 3 (.int .i64 x) (.int .i64 y)).run Tryd.prog w = .ok (x == y) w := fun x y w => run_equalIn_int w 9998 3 .i64 .i64 x y u3
  rw [hf]
  have m0 : f0.name ≠ "_" := by simpa using n0
  have m1 : f1.name ≠ "_" := by simpa using n1
  simp only [Op.eqFields, if_pos m0, if_pos m1, t0, t1, o0, o1, Sem.run_bind, p0, p1, e3, Result.andThen_ok]
  cases h1 : (a == c) <;> cases h2 : (b == d) <;> simp [p1, e3, h2]
theorem timeR_some (B : BookV) (path : List Int) : ∃ t e, timeR B path = .tuple #[.int .i64 t, .int .i64 e] := by
  unfold timeR; cases goodB B <;> cases isPathS B.parts B.start path <;> exact ⟨_, _, rfl⟩
theorem lateR_some (B : BookV) (path : List Int) (p n : Int) : ∃ a b e, lateR B path p n = .tuple #[.agg #[.int .i64 a, .int .i64 b], .int .i64 e] := by
  unfold lateR; cases goodB B <;> cases lateAsk B path p n <;> exact ⟨_, _, _, rfl⟩
/-- the list and the error of Last -/
def lastV (B : BookV) (path : List Int) : List Int × Int := bif goodB B then (bif isPathS B.parts B.start path then (lastL B path 5, 0) else ([], 81)) else ([], 80)
theorem LastR_val {B : BookV} {path : List Int} {e : Ending} {w' : World} (h : LastR B path e w') : ∃ A c, e = .returned (.tuple #[.slice A (lastV B path).1.length c, .int .i64 (lastV B path).2]) ∧ IntsAt w' A (lastV B path).1 := by
  unfold lastV
  rcases h with ⟨h, rfl⟩ | ⟨h, h2, rfl⟩ | ⟨h, h2, A, rfl, hi⟩
  · rw [h]; exact ⟨none, 0, rfl, by simp, .inl rfl⟩
  · rw [h, h2]; exact ⟨none, 0, rfl, by simp, .inl rfl⟩
  · rw [h, h2]; exact ⟨A, _, rfl, hi⟩
theorem refLastR_val {B : BookV} {path : List Int} {e : Ending} {w' : World} (h : refLastR B path e w') : ∃ A c, e = .returned (.tuple #[.slice A (lastV B path).1.length c, .int .i64 (lastV B path).2]) ∧ IntsAt w' A (lastV B path).1 := by
  unfold lastV
  rcases h with ⟨h, rfl⟩ | ⟨h, h2, rfl⟩ | ⟨h, h2, A, c, rfl, hi⟩
  · rw [h]; exact ⟨none, 0, rfl, by simp, .inl rfl⟩
  · rw [h, h2]; exact ⟨none, 0, rfl, by simp, .inl rfl⟩
  · rw [h, h2]; exact ⟨A, c, rfl, hi⟩
attribute [local go_sem] eqSpan
set_option maxRecDepth 100000 in
set_option maxHeartbeats 4000000 in
theorem DrumPaths_calls (B : BookV) (A : Option Addr) (c : Nat) (path : List Int) (n0 n1 : Int) (w : World) (hB : B.Reads w) (hp : IntsAt w A path) (hM : MarksAt w) :
    Calls Tryd.prog 3 #[B.val, .slice A path.length c, .agg #[.int .i64 n0, .int .i64 n1]] w fun e w' => e = .returned (.bool true) ∧ Below w.heap.size w w' := by
  have HB := Lib.hid hB
  have HP := Lib.hid hp
  have HM := Lib.hid hM
  have Hb : Below w.heap.size w ((w.alloc (.cells B.cells 27)).alloc (.cells #[.int .i64 n0, .int .i64 n1] 28)) := ((Below.refl _ _).alloc (Nat.le_refl _) _).alloc (by simp) _
  have k3 := (BoxAt.new w B.cells 27).alloc (.cells #[.int .i64 n0, .int .i64 n1] 28)
  have k5 := BoxAt.new (w.alloc (.cells B.cells 27)) #[.int .i64 n0, .int .i64 n1] 28
  rw [World.size_alloc] at k5
  clear hB hp hM
  unfold BookV.val BookV.cells
  go_enter Tryd.func3, Tryd.ntmps3
  unfold BookV.cells at Hb k3 k5
  go_upto_region 1 with (fail)
  generalize (w.alloc _).alloc _ = w0 at *
  have H := Hb
  have K3 := Lib.hid k3
  have K5 := Lib.hid k5
  clear Hb k3 k5
  obtain ⟨c3, f3, l3⟩ := K3.out
  -- Time
  go_wp2_with fail
  refine (eq0_2 (v' := B.val) (by unfold BookV.val BookV.cells; rfl) (Time_calls B A c path _ (HB.out.below H) (HP.out.below H))).mono ?_
  rintro e w1 ⟨rfl, hb⟩
  obtain ⟨t, er, ht⟩ := timeR_some B path
  rw [ht]
  replace H := below_then H H.size hb
  replace K3 := Lib.hid (K3.out.below hb)
  replace K5 := Lib.hid (K5.out.below hb)
  clear hb c3 f3 l3
  obtain ⟨c3, f3, l3⟩ := K3.out
  go_wp2_with fail
  refine (eq0_2 (v' := B.val) (by unfold BookV.val BookV.cells; rfl) (refTime_calls B A c path _ (HB.out.below H) (HP.out.below H))).mono ?_
  rintro e w2 ⟨rfl, hb⟩
  rw [ht]
  clear ht
  replace H := below_then H H.size hb
  replace K3 := Lib.hid (K3.out.below hb)
  replace K5 := Lib.hid (K5.out.below hb)
  clear hb c3 f3 l3
  obtain ⟨c3, f3, l3⟩ := K3.out
  -- Check
  have H2 := Lib.hid H
  clear H
  obtain ⟨er2, hce⟩ : ∃ x, x = (bif goodB B then (0 : Int) else 80) := ⟨_, rfl⟩
  have Hce := Lib.hid hce
  clear hce
  go_upto_region 3 with (fail)
  refine region_plain (S := fun w' => Below w2.heap.size w2 w') 15 (by kernel_rfl) ?_ (fun hHeld => ?_)
  · exact (Below.refl _ _).drew
  first | (refine anyT_take 0 (some 27) (v := ?_) rfl rfl (by kernel_rfl) (by kernel_rfl) (by kernel_rfl) (by kernel_rfl) (fun _ _ _ h => h) (Or.inl ⟨by rfl, ?_⟩) hHeld ?_; rotate_left; focus (intro wq hSw; obtain ⟨hcq, hfq⟩ := bcell hSw; go_simp; (try with_reducible rfl); done))
  (try simp only [Act.put, List.setIfInBounds_toArray, List.set_cons_zero, List.set_cons_succ])
  first | (refine anyT_take 1 (some 28) (v := ?_) rfl rfl (by kernel_rfl) (by kernel_rfl) (by kernel_rfl) (by kernel_rfl) (fun _ _ _ h => h) (Or.inl ⟨by rfl, ?_⟩) hHeld ?_; rotate_left; focus (intro wq hSw; obtain ⟨hcq, hfq⟩ := bcell hSw; go_simp; (try with_reducible rfl); done))
  (try simp only [Act.put, List.setIfInBounds_toArray, List.set_cons_zero, List.set_cons_succ])
  first | (refine anyT_take 2 (some 29) (v := ?_) rfl rfl (by kernel_rfl) (by kernel_rfl) (by kernel_rfl) (by kernel_rfl) (fun _ _ _ h => h) (Or.inl ⟨by rfl, ?_⟩) hHeld ?_; rotate_left; focus (intro wq hSw; obtain ⟨hcq, hfq⟩ := bcell hSw; go_simp; (try with_reducible rfl); done))
  (try simp only [Act.put, List.setIfInBounds_toArray, List.set_cons_zero, List.set_cons_succ])
  first | (refine anyT_take 3 (some 30) (v := ?_) rfl rfl (by kernel_rfl) (by kernel_rfl) (by kernel_rfl) (by kernel_rfl) (fun _ _ _ h => h) (Or.inl ⟨by rfl, ?_⟩) hHeld ?_; rotate_left; focus (intro wq hSw; obtain ⟨hcq, hfq⟩ := bcell hSw; go_simp; (try with_reducible rfl); done))
  (try simp only [Act.put, List.setIfInBounds_toArray, List.set_cons_zero, List.set_cons_succ])
  first | (refine anyT_take 4 (some 31) rfl rfl (by kernel_rfl) (by kernel_rfl) (by kernel_rfl) (by kernel_rfl) (fun _ _ _ h => h) (Or.inr ⟨by rfl, rfl⟩) hHeld ?_) | (refine anyT_take 4 (some 31) (v := ?_) rfl rfl (by kernel_rfl) (by kernel_rfl) (by kernel_rfl) (by kernel_rfl) (fun _ _ _ h => h) (Or.inl ⟨by rfl, ?_⟩) hHeld ?_; rotate_left; focus (intro wq hSw; obtain ⟨hcq, hfq⟩ := bcell hSw; go_simp; (try with_reducible rfl); done))
  (try simp only [Act.put, List.setIfInBounds_toArray, List.set_cons_zero, List.set_cons_succ])
  first | (refine anyT_take 5 (some 32) rfl rfl (by kernel_rfl) (by kernel_rfl) (by kernel_rfl) (by kernel_rfl) (fun _ _ _ h => h) (Or.inr ⟨by rfl, rfl⟩) hHeld ?_) | (refine anyT_take 5 (some 32) (v := ?_) rfl rfl (by kernel_rfl) (by kernel_rfl) (by kernel_rfl) (by kernel_rfl) (fun _ _ _ h => h) (Or.inl ⟨by rfl, ?_⟩) hHeld ?_; rotate_left; focus (intro wq hSw; obtain ⟨hcq, hfq⟩ := bcell hSw; go_simp; (try with_reducible rfl); done))
  (try simp only [Act.put, List.setIfInBounds_toArray, List.set_cons_zero, List.set_cons_succ])
  first | (refine anyT_take 6 (some 33) rfl rfl (by kernel_rfl) (by kernel_rfl) (by kernel_rfl) (by kernel_rfl) (fun _ _ _ h => h) (Or.inr ⟨by rfl, rfl⟩) hHeld ?_) | (refine anyT_take 6 (some 33) (v := ?_) rfl rfl (by kernel_rfl) (by kernel_rfl) (by kernel_rfl) (by kernel_rfl) (fun _ _ _ h => h) (Or.inl ⟨by rfl, ?_⟩) hHeld ?_; rotate_left; focus (intro wq hSw; obtain ⟨hcq, hfq⟩ := bcell hSw; go_simp; (try with_reducible rfl); done))
  (try simp only [Act.put, List.setIfInBounds_toArray, List.set_cons_zero, List.set_cons_succ])
  first | (refine anyT_take 7 (some 34) (v := ?_) rfl rfl (by kernel_rfl) (by kernel_rfl) (by kernel_rfl) (by kernel_rfl) (fun _ _ _ h => h) (Or.inl ⟨by rfl, ?_⟩) hHeld ?_; rotate_left; focus (intro wq hSw; obtain ⟨hcq, hfq⟩ := bcell hSw; go_simp; (try with_reducible rfl); done))
  (try simp only [Act.put, List.setIfInBounds_toArray, List.set_cons_zero, List.set_cons_succ])
  first | (refine anyT_take 8 (some 35) (v := ?_) rfl rfl (by kernel_rfl) (by kernel_rfl) (by kernel_rfl) (by kernel_rfl) (fun _ _ _ h => h) (Or.inl ⟨by rfl, ?_⟩) hHeld ?_; rotate_left; focus (intro wq hSw; obtain ⟨hcq, hfq⟩ := bcell hSw; go_simp; (try with_reducible rfl); done))
  (try simp only [Act.put, List.setIfInBounds_toArray, List.set_cons_zero, List.set_cons_succ])
  first | (refine anyT_take 9 (some 36) rfl rfl (by kernel_rfl) (by kernel_rfl) (by kernel_rfl) (by kernel_rfl) (fun _ _ _ h => h) (Or.inr ⟨by rfl, rfl⟩) hHeld ?_) | (refine anyT_take 9 (some 36) (v := ?_) rfl rfl (by kernel_rfl) (by kernel_rfl) (by kernel_rfl) (by kernel_rfl) (fun _ _ _ h => h) (Or.inl ⟨by rfl, ?_⟩) hHeld ?_; rotate_left; focus (intro wq hSw; obtain ⟨hcq, hfq⟩ := bcell hSw; go_simp; (try with_reducible rfl); done))
  (try simp only [Act.put, List.setIfInBounds_toArray, List.set_cons_zero, List.set_cons_succ])
  first | (refine anyT_take 11 (some 38) rfl rfl (by kernel_rfl) (by kernel_rfl) (by kernel_rfl) (by kernel_rfl) (fun _ _ _ h => h) (Or.inr ⟨by rfl, rfl⟩) hHeld ?_) | (refine anyT_take 11 (some 38) (v := ?_) rfl rfl (by kernel_rfl) (by kernel_rfl) (by kernel_rfl) (by kernel_rfl) (fun _ _ _ h => h) (Or.inl ⟨by rfl, ?_⟩) hHeld ?_; rotate_left; focus (intro wq hSw; obtain ⟨hcq, hfq⟩ := bcell hSw; go_simp; (try with_reducible rfl); done))
  (try simp only [Act.put, List.setIfInBounds_toArray, List.set_cons_zero, List.set_cons_succ])
  refine anyT_one 10 (by kernel_rfl) rfl (fun K hK => ?_)
  have hbq : Below w.heap.size w _ := below_then H2.out H2.out.size hHeld
  go_simp
  refine (eq0_1 (v' := B.val) (by unfold BookV.val BookV.cells; rfl) (Check_calls B _ (HB.out.below hbq))).mono ?_; clear hbq; rintro e w3 ⟨rfl, hb3⟩; rw [← Hce.out]
  refine hK.out _ _ ?_ (fun hHeld => ?_)
  · exact below_then hHeld hHeld.size hb3
  clear hK K
  (try simp only [Act.put, List.setIfInBounds_toArray, List.set_cons_zero, List.set_cons_succ])
  refine anyT_one 12 (by kernel_rfl) rfl (fun K hK => ?_)
  have hbq : Below w.heap.size w _ := below_then H2.out H2.out.size hHeld
  go_simp
  refine (eq0_1 (v' := B.val) (by unfold BookV.val BookV.cells; rfl) (refCheck_calls B _ (HB.out.below hbq))).mono ?_; clear hbq; rintro e w4 ⟨rfl, hb4⟩; rw [← Hce.out]
  refine hK.out _ _ ?_ (fun hHeld => ?_)
  · exact below_then hHeld hHeld.size hb4
  clear hK K
  (try simp only [Act.put, List.setIfInBounds_toArray, List.set_cons_zero, List.set_cons_succ])
  first | (refine anyT_take 13 (some 40) rfl rfl (by kernel_rfl) (by kernel_rfl) (by kernel_rfl) (by kernel_rfl) (fun _ _ _ h => h) (Or.inr ⟨by rfl, rfl⟩) hHeld ?_) | (refine anyT_take 13 (some 40) (v := ?_) rfl rfl (by kernel_rfl) (by kernel_rfl) (by kernel_rfl) (by kernel_rfl) (fun _ _ _ h => h) (Or.inl ⟨by rfl, ?_⟩) hHeld ?_; rotate_left; focus (intro wq hSw; obtain ⟨hcq, hfq⟩ := bcell hSw; go_simp; (try with_reducible rfl); done))
  (try simp only [Act.put, List.setIfInBounds_toArray, List.set_cons_zero, List.set_cons_succ])
  first | (refine anyT_take 14 (some 41) (v := ?_) rfl rfl (by kernel_rfl) (by kernel_rfl) (by kernel_rfl) (by kernel_rfl) (fun _ _ _ h => h) (Or.inl ⟨by rfl, ?_⟩) hHeld ?_; rotate_left; focus (intro wq hSw; obtain ⟨hcq, hfq⟩ := bcell hSw; go_simp; (try with_reducible rfl); done))
  (try simp only [Act.put, List.setIfInBounds_toArray, List.set_cons_zero, List.set_cons_succ])
  refine anyT_done (by kernel_rfl) ?_ _
  have H := below_then H2.out H2.out.size hHeld
  replace K3 := Lib.hid (K3.out.below hHeld)
  replace K5 := Lib.hid (K5.out.below hHeld)
  clear hHeld c3 f3 l3 H2
  obtain ⟨c3, f3, l3⟩ := K3.out
  obtain ⟨c5, f5, l5⟩ := K5.out
  -- Late
  go_wp2_with fail
  refine (eq0_4 (v' := B.val) (by unfold BookV.val BookV.cells; rfl) (Late_calls B A c path n0 n1 _ (HB.out.below H) (HP.out.below H) (HM.out.below H))).mono ?_
  rintro e w5 ⟨rfl, hb⟩
  obtain ⟨a, b, er3, hl⟩ := lateR_some B path n0 n1
  rw [hl]
  replace H := below_then H H.size hb
  replace K3 := Lib.hid (K3.out.below hb)
  replace K5 := Lib.hid (K5.out.below hb)
  clear hb c3 f3 l3 c5 f5 l5
  go_upto_region 6 with (fail)
  replace H := H.alloc H.size (.cells #[.int .i64 a, .int .i64 b] 24)
  replace K3 := Lib.hid (K3.out.alloc (.cells #[.int .i64 a, .int .i64 b] 24))
  replace K5 := Lib.hid (K5.out.alloc (.cells #[.int .i64 a, .int .i64 b] 24))
  have k11 := BoxAt.new w5 #[.int .i64 a, .int .i64 b] 24
  generalize w5.alloc _ = w6 at *
  generalize w5.heap.size = n11 at *
  have K11 := Lib.hid k11
  clear k11
  obtain ⟨c3, f3, l3⟩ := K3.out
  obtain ⟨c5, f5, l5⟩ := K5.out
  go_wp2_with fail
  refine (eq0_4 (v' := B.val) (by unfold BookV.val BookV.cells; rfl) (refLateX_calls B A c path n0 n1 _ (HB.out.below H) (HP.out.below H))).mono ?_
  rintro e w7 ⟨rfl, hb⟩
  rw [hl]
  replace H := below_then H H.size hb
  replace K3 := Lib.hid (K3.out.below hb)
  replace K11 := Lib.hid (K11.out.below hb)
  clear hb c3 f3 l3 c5 f5 l5 hl K5
  go_upto_region 7 with (fail)
  replace H := H.alloc H.size (.cells #[.int .i64 a, .int .i64 b] 24)
  replace K3 := Lib.hid (K3.out.alloc (.cells #[.int .i64 a, .int .i64 b] 24))
  replace K11 := Lib.hid (K11.out.alloc (.cells #[.int .i64 a, .int .i64 b] 24))
  have k12 := BoxAt.new w7 #[.int .i64 a, .int .i64 b] 24
  generalize w7.alloc _ = w8 at *
  generalize w7.heap.size = n12 at *
  obtain ⟨c3, f3, l3⟩ := K3.out
  obtain ⟨c11, f11, l11⟩ := K11.out
  obtain ⟨c12, f12, l12⟩ := k12
  -- Last
  go_wp2_with fail
  refine (eq0_2 (v' := B.val) (by unfold BookV.val BookV.cells; rfl) (Last_calls B A c path _ (HB.out.below H) (HP.out.below H) (HM.out.below H))).mono ?_
  rintro e w9 ⟨hR, hb⟩
  obtain ⟨A9, cc9, rfl, hi9⟩ := LastR_val hR
  replace H := below_then H H.size hb
  replace K3 := Lib.hid (K3.out.below hb)
  have Hi9 := Lib.hid hi9
  clear hb hR hi9 c3 f3 l3 c11 f11 l11 c12 f12 l12 K11
  obtain ⟨c3, f3, l3⟩ := K3.out
  go_wp2_with fail
  refine (eq0_2 (v' := B.val) (by unfold BookV.val BookV.cells; rfl) (refLast_calls B A c path _ (HB.out.below H) (HP.out.below H))).mono ?_
  rintro e w10 ⟨hR, hb⟩
  obtain ⟨A10, cc10, rfl, hi10⟩ := refLastR_val hR
  replace H := below_then H H.size hb
  replace Hi9 := Lib.hid (Hi9.out.below hb)
  have Hi10 := Lib.hid hi10
  clear hb hR hi10 c3 f3 l3 K3
  generalize (lastV B path).1 = ll at *
  generalize (lastV B path).2 = le at *
  have HH := Lib.hid H
  clear H
  go_wp2_with fail
  refine (Equal_calls A9 cc9 ll A10 cc10 ll _ Hi9.out Hi10.out).mono ?_
  rintro e w11 ⟨rfl, hb⟩
  rw [eqL_self]
  have H := Lib.hid (below_then HH.out HH.out.size hb)
  clear hb
  go_wp2_with fail
  refine (works_calls _ (HM.out.below H.out)).mono ?_
  rintro e w12 ⟨rfl, hb⟩
  have hfin := below_then H.out H.out.size hb
  clear hb
  go_wp2
  go_ret
  exact ⟨rfl, hfin⟩
end Go.Proofs.YtljikigmfkfkiaaDoor
