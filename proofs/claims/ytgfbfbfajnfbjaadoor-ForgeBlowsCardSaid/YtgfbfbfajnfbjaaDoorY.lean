import Derived.Test.YtgfbfbfajnfbjaaDoorW
import Derived.Test.YtgfbfbfajnfbjaaDoorX
namespace Go.Proofs.YtgfbfbfajnfbjaaDoor
section
open Go.RowKit Go.Shelf
attribute [local go_sem] Oper.semAt_some
set_option linter.unusedSimpArgs false
set_option linter.unusedVariables false
def metStep (s : Nat) (ls : List Int) (t : List Int) : List Int := if gi t s ∈ ls then ls else ls ++ [gi t s]
def metOf (s : Nat) (l : List (List Int)) : List Int := l.foldl (metStep s) []
theorem metOf_snoc (s : Nat) (l : List (List Int)) (t : List Int) : metOf s (l ++ [t]) = metStep s (metOf s l) t := by unfold metOf; rw [List.foldl_append]; rfl
/-- of the first k numbers those that the striker has in some truth -/
def strengthTo (B : ForgeV) (s k : Nat) : List Int := ((List.range k).filter fun n : Nat => decide ((n : Int) ∈ metOf s (truthsS B 0))).map Int.ofNat
theorem strengthTo_succ (B : ForgeV) (s k : Nat) : strengthTo B s (k + 1) = strengthTo B s k ++ bif decide ((k : Int) ∈ metOf s (truthsS B 0)) then [(k : Int)] else [] := by
  unfold strengthTo
  rw [List.range_succ, List.filter_append, List.map_append]
  cases h : decide ((k : Int) ∈ metOf s (truthsS B 0)) <;> simp_all
theorem strengthTo_le (B : ForgeV) (s k : Nat) : (strengthTo B s k).length ≤ k := by
  unfold strengthTo
  rw [List.length_map]
  exact Nat.le_trans (List.length_filter_le _ _) (by simp)
theorem mem_metF (s : Nat) (n : Int) : ∀ (l : List (List Int)) (ls : List Int), n ∈ l.foldl (metStep s) ls ↔ n ∈ ls ∨ ∃ t, t ∈ l ∧ gi t s = n
  | [], ls => by simp
  | t :: l, ls => by
    rw [List.foldl_cons, mem_metF s n l]
    have h : n ∈ metStep s ls t ↔ n ∈ ls ∨ gi t s = n := by
      unfold metStep
      split
      · rename_i hm
        constructor
        · exact .inl
        · rintro (h | rfl)
          · exact h
          · exact hm
      · simp [eq_comm]
    rw [h]
    simp only [List.mem_cons]
    constructor
    · rintro ((h | h) | ⟨u, hu, e⟩)
      · exact .inl h
      · exact .inr ⟨t, .inl rfl, h⟩
      · exact .inr ⟨u, .inr hu, e⟩
    · rintro (h | ⟨u, rfl | hu, e⟩)
      · exact .inl (.inl h)
      · exact .inl (.inr e)
      · exact .inr ⟨u, hu, e⟩
theorem mem_met (s : Nat) (n : Int) (l : List (List Int)) : n ∈ metOf s l ↔ ∃ t, t ∈ l ∧ gi t s = n := by unfold metOf; rw [mem_metF]; simp
theorem mem_strengthTo {B : ForgeV} {s k : Nat} {n : Int} : n ∈ strengthTo B s k ↔ (0 ≤ n ∧ n < k) ∧ ∃ t, t ∈ truthsS B 0 ∧ gi t s = n := by
  unfold strengthTo
  rw [List.mem_map]
  constructor
  · rintro ⟨m, hm, rfl⟩
    rw [List.mem_filter, List.mem_range, decide_eq_true_eq, mem_met] at hm
    exact ⟨⟨Int.natCast_nonneg m, by have := hm.1; show (m : Int) < k; omega⟩, hm.2⟩
  · rintro ⟨⟨h0, h1⟩, h2⟩
    refine ⟨n.toNat, ?_, Int.toNat_of_nonneg h0⟩
    rw [List.mem_filter, List.mem_range, decide_eq_true_eq, mem_met, Int.toNat_of_nonneg h0]
    exact ⟨by omega, h2⟩
theorem strengthTo_pos {B : ForgeV} (g : B.Good) (hc : canS B 0 = true) (s : Nat) : 0 < (strengthTo B s 21).length := by
  cases ht : truthsS B 0 with
  | nil => unfold canS at hc; rw [ht] at hc; cases hc
  | cons t l =>
    have hm : t ∈ truthsS B 0 := by rw [ht]; simp
    have hb := (truthsS_mem g hm).2 s
    exact List.length_pos_of_mem (mem_strengthTo.2 ⟨⟨hb.1, by omega⟩, t, hm, rfl⟩)
def strengthS (B : ForgeV) (s : Int) : List Int := strengthTo B s.toNat 21
def StrengthR (B : ForgeV) (s : Int) (e : Ending) (w' : World) : Prop :=
  (askedE B (inB s 0 2) ≠ 0 ∧ e = .returned (.tuple #[.slice none 0 0, .int .i64 (askedE B (inB s 0 2))])) ∨
  (askedE B (inB s 0 2) = 0 ∧ ∃ A, e = .returned (.tuple #[.slice A (strengthS B s).length (strengthS B s).length, .int .i64 0]) ∧ IntsAt w' A (strengthS B s))
@[local go_sem] theorem make105 (W : World) : (Instr.makeMap 105 none).run Tryd.prog W = .ok (.map (some W.heap.size)) (W.alloc (.map #[] 0)) := run_makeMap _ _
set_option maxRecDepth 100000 in
set_option maxHeartbeats 4000000 in
theorem Strength_calls (B : ForgeV) (s : Int) (w : World) (hB : B.Reads w) :
    Calls Tryd.prog 31 #[B.val, .int .i64 s] w fun e w' => StrengthR B s e w' ∧ Below w.heap.size w w' := by
  have HB := Lib.hid hB
  have k2 := (BoxAt.new w B.cells 28).alloc (.cells #[.int .i64 s] 3)
  have k3 := BoxAt.new (w.alloc (.cells B.cells 28)) #[.int .i64 s] 3
  have Hb : Below w.heap.size w ((w.alloc (.cells B.cells 28)).alloc (.cells #[.int .i64 s] 3)) := ((Below.refl _ _).alloc (Nat.le_refl _) _).alloc (by simp) _
  rw [World.size_alloc] at k3
  clear hB
  unfold ForgeV.val
  unfold ForgeV.cells at k2 k3 Hb ⊢
  by_cases he : askedE B (inB s 0 2) = 0
  · refine (callsIn_wide (n := 0)).1 ?_
    refine callsIn_of_wp_marks Tryd.func31 rfl trivial ?_ rfl
    simp only [Tryd.ntmps31, List.size_toArray, List.length_cons, List.length_nil, Nat.reduceAdd, Nat.reduceSub, Array.replicate_succ, Array.replicate_zero, List.push_toArray, List.append_toArray, List.nil_append, List.cons_append]
    gi_upto_region 1 with (fail)
    generalize (w.alloc _).alloc _ = W1 at *
    have hn3 : w.heap.size ≠ w.heap.size + 1 ∧ w.heap.size ≤ w.heap.size + 1 := by omega
    generalize w.heap.size + 1 = n3 at *
    have H1 := Lib.hid Hb
    have K3 := Lib.hid k3
    have Hn3 := Lib.hid hn3
    obtain ⟨c2, f2, l2⟩ := k2
    obtain ⟨c3, f3, l3⟩ := k3
    clear Hb hn3
    have hgr := askedE_zero he
    have hres : Hid (askedR B (inB s 0 2) = .tuple #[.agg #[.slice B.lA B.lots.length B.lCap, .int .i64 B.tlo, .int .i64 B.thi, .int .i64 B.thick, .int .i64 B.crack, .int .i64 B.glo, .int .i64 B.ghi, .slice B.sA B.thins.length B.sCap,
      .int .i64 B.hot, .int .i64 B.least, .int .i64 B.clo, .int .i64 B.chi, .int .i64 B.coal, .slice B.kA B.looks.length B.kCap], .int .i64 0]) := Lib.hid (by unfold askedR; rw [he]; rfl)
    have Hr := Lib.hid hgr
    have He := Lib.hid he
    clear he hgr
    apply region_told (S := fun w' => Below W1.heap.size W1 w') (F := fun m w' => W1.heap.size ≤ m ∧ BoxAt w' m B.cells ∧ Below W1.heap.size W1 w') 10 (by kernel_rfl)
    case k0 => exact (Below.refl _ _).drew
    case reg =>
      intro hHeld
      generalize hWd : World.drew W1 = Wd at *
      first | (refine anyT_take 0 (some 13) (v := ?_) rfl rfl (by kernel_rfl) (by kernel_rfl) (by kernel_rfl) (by kernel_rfl) (fun _ _ _ h => h) (Or.inl ⟨by rfl, ?_⟩) hHeld ?_; rotate_left; focus (intro wq hSw; obtain ⟨hcq, hfq⟩ := bcell hSw; go_simp; (try with_reducible rfl); done))
      (try simp only [Act.put, List.setIfInBounds_toArray, List.set_cons_zero, List.set_cons_succ])
      first | (refine anyT_take 1 (some 14) (v := ?_) rfl rfl (by kernel_rfl) (by kernel_rfl) (by kernel_rfl) (by kernel_rfl) (fun _ _ _ h => h) (Or.inl ⟨by rfl, ?_⟩) hHeld ?_; rotate_left; focus (intro wq hSw; obtain ⟨hcq, hfq⟩ := bcell hSw; go_simp; (try with_reducible rfl); done))
      (try simp only [Act.put, List.setIfInBounds_toArray, List.set_cons_zero, List.set_cons_succ])
      refine anyT_two 2 7 (by kernel_rfl) rfl rfl (fun K hK => ?_) (fun K hK => ?_)
      · go_simp
        refine (in_calls _ _ _ _).mono ?_; rintro e wx ⟨rfl, rfl⟩
        refine hK.out _ _ ?_ (fun hHeld => ?_)
        · exact hHeld
        clear hK K
        (try simp only [Act.put, List.setIfInBounds_toArray, List.set_cons_zero, List.set_cons_succ])
        refine anyT_two 3 7 (by kernel_rfl) rfl rfl (fun K hK => ?_) (fun K hK => ?_)
        · go_simp
          refine (eq0_2 (v' := B.val) (by unfold ForgeV.val ForgeV.cells; rfl) (asked_calls B _ _ (HB.out.below (below_then H1.out H1.out.size hHeld)))).mono ?_; rintro e w5 ⟨rfl, hb5⟩; (try replace k6 := k6.below hb5); rw [hres.out]
          refine hK.out _ _ ?_ (fun hHeld => ?_)
          · exact below_then hHeld hHeld.size hb5
          clear hK K
          (try simp only [Act.put, List.setIfInBounds_toArray, List.set_cons_zero, List.set_cons_succ])
          first | (refine anyT_take 4 (some 12) (v := ?_) rfl rfl (by kernel_rfl) (by kernel_rfl) (by kernel_rfl) (by kernel_rfl) (fun _ _ _ h => h) (Or.inl ⟨by rfl, ?_⟩) hHeld ?_; rotate_left; focus (intro wq hSw; obtain ⟨hcq, hfq⟩ := bcell hSw; go_simp; (try with_reducible rfl); done))
          (try simp only [Act.put, List.setIfInBounds_toArray, List.set_cons_zero, List.set_cons_succ])
          first | (refine anyT_take 5 (some 17) (v := ?_) rfl rfl (by kernel_rfl) (by kernel_rfl) (by kernel_rfl) (by kernel_rfl) (fun _ _ _ h => h) (Or.inl ⟨by rfl, ?_⟩) hHeld ?_; rotate_left; focus (intro wq hSw; obtain ⟨hcq, hfq⟩ := bcell hSw; go_simp; (try with_reducible rfl); done))
          (try simp only [Act.put, List.setIfInBounds_toArray, List.set_cons_zero, List.set_cons_succ])
          first | (refine anyT_take 6 (some 18) (v := ?_) rfl rfl (by kernel_rfl) (by kernel_rfl) (by kernel_rfl) (by kernel_rfl) (fun _ _ _ h => h) (Or.inl ⟨by rfl, ?_⟩) hHeld ?_; rotate_left; focus (intro wq hSw; obtain ⟨hcq, hfq⟩ := bcell hSw; go_simp; (try with_reducible rfl); done))
          (try simp only [Act.put, List.setIfInBounds_toArray, List.set_cons_zero, List.set_cons_succ])
          refine anyT_one 7 (by kernel_rfl) rfl (fun K hK => ?_)
          go_simp
          have hn6 := hHeld.size; first | (have k6 := BoxAt.new w5 zeroF 87; have hb6 : Below w5.heap.size w5 (w5.alloc (.cells zeroF 87)) := (Below.refl _ _).alloc (Nat.le_refl _) _; unfold zeroF at k6 hb6; generalize w5.alloc _ = W6 at *; have hS6 := below_then hHeld hHeld.size hb6; generalize w5.heap.size = n6 at *) | (have k6 := BoxAt.new Wd zeroF 87; have hb6 : Below Wd.heap.size Wd (Wd.alloc (.cells zeroF 87)) := (Below.refl _ _).alloc (Nat.le_refl _) _; unfold zeroF at k6 hb6; generalize Wd.alloc _ = W6 at *; have hS6 := below_then hHeld hHeld.size hb6; generalize Wd.heap.size = n6 at *)
          refine hK.out _ _ ?_ (fun hHeld => ?_)
          · exact hS6
          clear hK K
          (try simp only [Act.put, List.setIfInBounds_toArray, List.set_cons_zero, List.set_cons_succ])
          refine anyT_one 8 (by kernel_rfl) rfl (fun K hK => ?_)
          have k6' := k6; obtain ⟨c6, f6, l6⟩ := k6
          go_simp
          change K _ (putAll _ n6 0 B.cells.toList); have k9 := putAll_box k6' B.cells.toList rfl; have hS9 := hHeld.trans ((putAll_keep n6 B.cells.toList 0 _).below (fun k _ e => by omega) hHeld.size); generalize putAll _ n6 0 B.cells.toList = W9 at *
          refine hK.out _ _ ?_ (fun hHeld => ?_)
          · exact hS9
          clear hK K
          (try simp only [Act.put, List.setIfInBounds_toArray, List.set_cons_zero, List.set_cons_succ])
          first | (refine anyT_take 9 (some 7) (v := ?_) rfl rfl (by kernel_rfl) (by kernel_rfl) (by kernel_rfl) (by kernel_rfl) (fun _ _ _ h => h) (Or.inl ⟨by rfl, ?_⟩) hHeld ?_; rotate_left; focus (intro wq hSw; obtain ⟨hcq, hfq⟩ := bcell hSw; go_simp; (try with_reducible rfl); done))
          (try simp only [Act.put, List.setIfInBounds_toArray, List.set_cons_zero, List.set_cons_succ])
          refine anyT_done (by kernel_rfl) ?_ _
          exact ⟨n6, rfl, hn6, k9, hHeld⟩
        · go_simp
          have hn6 := hHeld.size; first | (have k6 := BoxAt.new w5 zeroF 87; have hb6 : Below w5.heap.size w5 (w5.alloc (.cells zeroF 87)) := (Below.refl _ _).alloc (Nat.le_refl _) _; unfold zeroF at k6 hb6; generalize w5.alloc _ = W6 at *; have hS6 := below_then hHeld hHeld.size hb6; generalize w5.heap.size = n6 at *) | (have k6 := BoxAt.new Wd zeroF 87; have hb6 : Below Wd.heap.size Wd (Wd.alloc (.cells zeroF 87)) := (Below.refl _ _).alloc (Nat.le_refl _) _; unfold zeroF at k6 hb6; generalize Wd.alloc _ = W6 at *; have hS6 := below_then hHeld hHeld.size hb6; generalize Wd.heap.size = n6 at *)
          refine hK.out _ _ ?_ (fun hHeld => ?_)
          · exact hS6
          clear hK K
          (try simp only [Act.put, List.setIfInBounds_toArray, List.set_cons_zero, List.set_cons_succ])
          refine anyT_one 3 (by kernel_rfl) rfl (fun K hK => ?_)
          go_simp
          refine (eq0_2 (v' := B.val) (by unfold ForgeV.val ForgeV.cells; rfl) (asked_calls B _ _ (HB.out.below (below_then H1.out H1.out.size hHeld)))).mono ?_; rintro e w5 ⟨rfl, hb5⟩; (try replace k6 := k6.below hb5); rw [hres.out]
          refine hK.out _ _ ?_ (fun hHeld => ?_)
          · exact below_then hHeld hHeld.size hb5
          clear hK K
          (try simp only [Act.put, List.setIfInBounds_toArray, List.set_cons_zero, List.set_cons_succ])
          first | (refine anyT_take 4 (some 12) (v := ?_) rfl rfl (by kernel_rfl) (by kernel_rfl) (by kernel_rfl) (by kernel_rfl) (fun _ _ _ h => h) (Or.inl ⟨by rfl, ?_⟩) hHeld ?_; rotate_left; focus (intro wq hSw; obtain ⟨hcq, hfq⟩ := bcell hSw; go_simp; (try with_reducible rfl); done))
          (try simp only [Act.put, List.setIfInBounds_toArray, List.set_cons_zero, List.set_cons_succ])
          first | (refine anyT_take 5 (some 17) (v := ?_) rfl rfl (by kernel_rfl) (by kernel_rfl) (by kernel_rfl) (by kernel_rfl) (fun _ _ _ h => h) (Or.inl ⟨by rfl, ?_⟩) hHeld ?_; rotate_left; focus (intro wq hSw; obtain ⟨hcq, hfq⟩ := bcell hSw; go_simp; (try with_reducible rfl); done))
          (try simp only [Act.put, List.setIfInBounds_toArray, List.set_cons_zero, List.set_cons_succ])
          first | (refine anyT_take 6 (some 18) (v := ?_) rfl rfl (by kernel_rfl) (by kernel_rfl) (by kernel_rfl) (by kernel_rfl) (fun _ _ _ h => h) (Or.inl ⟨by rfl, ?_⟩) hHeld ?_; rotate_left; focus (intro wq hSw; obtain ⟨hcq, hfq⟩ := bcell hSw; go_simp; (try with_reducible rfl); done))
          (try simp only [Act.put, List.setIfInBounds_toArray, List.set_cons_zero, List.set_cons_succ])
          refine anyT_one 8 (by kernel_rfl) rfl (fun K hK => ?_)
          have k6' := k6; obtain ⟨c6, f6, l6⟩ := k6
          go_simp
          change K _ (putAll _ n6 0 B.cells.toList); have k9 := putAll_box k6' B.cells.toList rfl; have hS9 := hHeld.trans ((putAll_keep n6 B.cells.toList 0 _).below (fun k _ e => by omega) hHeld.size); generalize putAll _ n6 0 B.cells.toList = W9 at *
          refine hK.out _ _ ?_ (fun hHeld => ?_)
          · exact hS9
          clear hK K
          (try simp only [Act.put, List.setIfInBounds_toArray, List.set_cons_zero, List.set_cons_succ])
          first | (refine anyT_take 9 (some 7) (v := ?_) rfl rfl (by kernel_rfl) (by kernel_rfl) (by kernel_rfl) (by kernel_rfl) (fun _ _ _ h => h) (Or.inl ⟨by rfl, ?_⟩) hHeld ?_; rotate_left; focus (intro wq hSw; obtain ⟨hcq, hfq⟩ := bcell hSw; go_simp; (try with_reducible rfl); done))
          (try simp only [Act.put, List.setIfInBounds_toArray, List.set_cons_zero, List.set_cons_succ])
          refine anyT_done (by kernel_rfl) ?_ _
          exact ⟨n6, rfl, hn6, k9, hHeld⟩
      · go_simp
        have hn6 := hHeld.size; first | (have k6 := BoxAt.new w5 zeroF 87; have hb6 : Below w5.heap.size w5 (w5.alloc (.cells zeroF 87)) := (Below.refl _ _).alloc (Nat.le_refl _) _; unfold zeroF at k6 hb6; generalize w5.alloc _ = W6 at *; have hS6 := below_then hHeld hHeld.size hb6; generalize w5.heap.size = n6 at *) | (have k6 := BoxAt.new Wd zeroF 87; have hb6 : Below Wd.heap.size Wd (Wd.alloc (.cells zeroF 87)) := (Below.refl _ _).alloc (Nat.le_refl _) _; unfold zeroF at k6 hb6; generalize Wd.alloc _ = W6 at *; have hS6 := below_then hHeld hHeld.size hb6; generalize Wd.heap.size = n6 at *)
        refine hK.out _ _ ?_ (fun hHeld => ?_)
        · exact hS6
        clear hK K
        (try simp only [Act.put, List.setIfInBounds_toArray, List.set_cons_zero, List.set_cons_succ])
        refine anyT_one 2 (by kernel_rfl) rfl (fun K hK => ?_)
        go_simp
        refine (in_calls _ _ _ _).mono ?_; rintro e wx ⟨rfl, rfl⟩
        refine hK.out _ _ ?_ (fun hHeld => ?_)
        · exact hHeld
        clear hK K
        (try simp only [Act.put, List.setIfInBounds_toArray, List.set_cons_zero, List.set_cons_succ])
        refine anyT_one 3 (by kernel_rfl) rfl (fun K hK => ?_)
        go_simp
        refine (eq0_2 (v' := B.val) (by unfold ForgeV.val ForgeV.cells; rfl) (asked_calls B _ _ (HB.out.below (below_then H1.out H1.out.size hHeld)))).mono ?_; rintro e w5 ⟨rfl, hb5⟩; (try replace k6 := k6.below hb5); rw [hres.out]
        refine hK.out _ _ ?_ (fun hHeld => ?_)
        · exact below_then hHeld hHeld.size hb5
        clear hK K
        (try simp only [Act.put, List.setIfInBounds_toArray, List.set_cons_zero, List.set_cons_succ])
        first | (refine anyT_take 4 (some 12) (v := ?_) rfl rfl (by kernel_rfl) (by kernel_rfl) (by kernel_rfl) (by kernel_rfl) (fun _ _ _ h => h) (Or.inl ⟨by rfl, ?_⟩) hHeld ?_; rotate_left; focus (intro wq hSw; obtain ⟨hcq, hfq⟩ := bcell hSw; go_simp; (try with_reducible rfl); done))
        (try simp only [Act.put, List.setIfInBounds_toArray, List.set_cons_zero, List.set_cons_succ])
        first | (refine anyT_take 5 (some 17) (v := ?_) rfl rfl (by kernel_rfl) (by kernel_rfl) (by kernel_rfl) (by kernel_rfl) (fun _ _ _ h => h) (Or.inl ⟨by rfl, ?_⟩) hHeld ?_; rotate_left; focus (intro wq hSw; obtain ⟨hcq, hfq⟩ := bcell hSw; go_simp; (try with_reducible rfl); done))
        (try simp only [Act.put, List.setIfInBounds_toArray, List.set_cons_zero, List.set_cons_succ])
        first | (refine anyT_take 6 (some 18) (v := ?_) rfl rfl (by kernel_rfl) (by kernel_rfl) (by kernel_rfl) (by kernel_rfl) (fun _ _ _ h => h) (Or.inl ⟨by rfl, ?_⟩) hHeld ?_; rotate_left; focus (intro wq hSw; obtain ⟨hcq, hfq⟩ := bcell hSw; go_simp; (try with_reducible rfl); done))
        (try simp only [Act.put, List.setIfInBounds_toArray, List.set_cons_zero, List.set_cons_succ])
        refine anyT_one 8 (by kernel_rfl) rfl (fun K hK => ?_)
        have k6' := k6; obtain ⟨c6, f6, l6⟩ := k6
        go_simp
        change K _ (putAll _ n6 0 B.cells.toList); have k9 := putAll_box k6' B.cells.toList rfl; have hS9 := hHeld.trans ((putAll_keep n6 B.cells.toList 0 _).below (fun k _ e => by omega) hHeld.size); generalize putAll _ n6 0 B.cells.toList = W9 at *
        refine hK.out _ _ ?_ (fun hHeld => ?_)
        · exact hS9
        clear hK K
        (try simp only [Act.put, List.setIfInBounds_toArray, List.set_cons_zero, List.set_cons_succ])
        first | (refine anyT_take 9 (some 7) (v := ?_) rfl rfl (by kernel_rfl) (by kernel_rfl) (by kernel_rfl) (by kernel_rfl) (fun _ _ _ h => h) (Or.inl ⟨by rfl, ?_⟩) hHeld ?_; rotate_left; focus (intro wq hSw; obtain ⟨hcq, hfq⟩ := bcell hSw; go_simp; (try with_reducible rfl); done))
        (try simp only [Act.put, List.setIfInBounds_toArray, List.set_cons_zero, List.set_cons_succ])
        refine anyT_done (by kernel_rfl) ?_ _
        exact ⟨n6, rfl, hn6, k9, hHeld⟩

    rintro n6 W5 ⟨hn6, k6, hb5⟩
    have H5 := below_then H1.out H1.out.size hb5
    have k3 := K3.out.below hb5
    have hs := inB_iff.1 Hr.out.2.1
    obtain ⟨sn, hsn⟩ := Int.eq_ofNat_of_zero_le hs.1
    have hs3 : sn < 3 := by omega
    have hst : s.toNat = sn := by omega
    have HSS := Lib.hid (show strengthS B s = strengthTo B sn 21 by unfold strengthS; rw [hst])
    have kk3 := (k3.alloc (.map #[] 0)).alloc (.cells #[.map (some W5.heap.size)] 105)
    have kk6 := (k6.alloc (.map #[] 0)).alloc (.cells #[.map (some W5.heap.size)] 105)
    have km := (MapAt.new (K := intK) W5).below ((Below.refl _ _).alloc (Nat.le_refl _) (.cells #[.map (some W5.heap.size)] 105))
    have k8 := BoxAt.new (W5.alloc (.map #[] 0)) #[.map (some W5.heap.size)] 105
    have hb8 : Below W5.heap.size W5 ((W5.alloc (.map #[] 0)).alloc (.cells #[.map (some W5.heap.size)] 105)) := ((Below.refl _ _).alloc (Nat.le_refl _) _).alloc (by simp) _
    rw [World.size_alloc] at k8
    have hs6 := k6.lt
    have hs3l := k3.lt
    unfold ForgeV.cells at kk6
    clear hb5 c2 f2 l2 c3 f3 l3 k3 k6 hs
    gi_upto_region 5 with (fail)
    generalize (W5.alloc _).alloc _ = W8 at *
    have H8 := below_then H5 H5.size hb8
    have hbms : W5.heap.size < W5.heap.size + 1 ∧ n6 < W5.heap.size ∧ n3 < W5.heap.size ∧ w.heap.size ≤ W5.heap.size := ⟨by omega, hs6, hs3l, H5.size⟩
    clear hb8 H5 hs6 hs3l
    generalize W5.heap.size + 1 = n8 at *
    generalize W5.heap.size = bm at *
    have Hns := Lib.hid hbms
    have K8 := Lib.hid k8
    have Km := Lib.hid km
    have KK3 := Lib.hid kk3
    clear hbms k8 km kk3 hn6
    obtain ⟨c6, f6, l6⟩ := kk6
    gi_wp2_with fail
    refine ⟨trivial, rfl, ?_⟩
    refine (callsIn_wide.2 (eq0_2 (v' := B.val) (by unfold ForgeV.val ForgeV.cells; rfl) (truths_calls B 0 _))).mono ?_
    rintro e w9 ⟨bB, bL, rfl, ⟨kB, kL⟩, hle, hb9⟩
    have H9 := below_then H8 H8.size hb9
    have hlm := Km.out.lt
    have hl8 := K8.out.lt
    replace Km := Lib.hid (Km.out.below hb9)
    replace K8 := Lib.hid (K8.out.below hb9)
    replace KK3 := Lib.hid (KK3.out.below hb9)
    have hs9 := hb9.size
    have hns := Hns.out
    have g := (goodF_iff B).1 Hr.out.1
    clear hb9 c6 f6 l6 H8
    gi_wp2_with fail
    refine wpIn_range_p (gf := 105) (lb := #[.pointer (some ⟨bB, 0, none⟩), .pointer (some ⟨bL, 0, none⟩)]) rfl entersTruths1
      (truths_seq B g 0 (by decide) w HB.out bB bL (fun k => k = bm) w9 H9 kB kL (fun k h => ⟨by omega, by omega, by omega, by omega⟩)) (fun _ => False) (fun k h => by omega) (fun _ h => h.elim) (fun x vs W hE => by rw [hE]; rfl)
      (fun pre Pv W => MapAt intK W bm (metOf sn pre) ∧ Keep (fun k => k = bm ∨ w9.heap.size ≤ k) w9 W) (fun _ _ _ => False)
      (fun Pv l s X Y r hl hr hk hI => ⟨hI.1.keep hk (by omega), hI.2.trans (hk.mono fun k _ e => .inr (by omega))⟩)
      (fun s Pv Pv' X Y hI hk hp _ => ⟨hI.1.keep hk (fun h => by have := hp _ h; omega), hI.2.trans (hk.mono fun k _ h => .inr (by have := hp k h; omega))⟩)
      (fun _ _ _ _ _ _ _ _ _ h => h) (fun _ _ _ _ h _ => h)
      ⟨Km.out, Keep.refl _ _⟩ ?round ?done ?stop
    case stop => rintro D c pre W _ _ _ h; exact h.elim
    case done => 
      rintro D W4 hD hK ⟨Pv, hN, hK4⟩ hd
      have hb4 : Below w.heap.size w W4 := H9.trans (hK4.below (fun k _ e => by omega) H9.size)
      have Hb4 := Lib.hid hb4
      have Hd := Lib.hid hd
      have HN := Lib.hid hN
      have K84 := Lib.hid (K8.out.keep hK4 (by omega))
      have HDw := Lib.hid (show w.heap.size ≤ D by omega)
      have hw4 : W4.heap.size ≤ W4.heap.size := Nat.le_refl _
      clear hb4 hd hN hK4 hK
      gi_upto_region 9 with (fail)
      refine wpIn_wide.2 ?_
      go_wp2
      refine wpIn_wide.2 ?_
      go_upto_block 2 with (fail)
      go_wp2
      go_loopg [30, 10] 21 (fun gk i v wr => ∃ k : Nat, k ≤ 21 ∧ gk = 21 - k ∧ i = .int .i64 k ∧ OwnInts wr W4.heap.size v (strengthTo B sn k) ∧ Below W4.heap.size W4 wr)
      case atStart => exact ⟨0, Nat.zero_le _, rfl, rfl, OwnInts.nil _ _, Below.refl _ _⟩
      case round =>
        obtain ⟨k, hk, hgk, rfl, hown, hbe⟩ := hrel
        have Hgk := Lib.hid hgk
        have Hown := Lib.hid hown
        have Hbe := Lib.hid hbe
        clear hgk hown hbe
        by_cases hlt : k < 21
        · have hlt' : (k : Int) < 21 := by omega
          have hs := strengthTo_succ B sn k
          have hlk := intKeys.lookup (HN.out.below Hbe.out) (k : Int)
          unfold intK at hlk
          obtain ⟨c8, f8, l8⟩ := K84.out.below Hbe.out
          generalize hmm : decide ((k : Int) ∈ metOf sn (truthsS B 0)) = mm at *
          clear hmm
          cases mm with
          | true =>
            simp only [cond_true] at hs
            have Hs := Lib.hid hs
            clear hs
            go_wp2_with (at_builtin; refine wpList_app1 _ rfl _ _ rfl W4.heap.size _ _ rfl (Hown.out.alloc _) _ _ _ rfl (cell_new1 _ _ _) (by have := strengthTo_le B sn k; omega) (by have := Hbe.out.size; simp; omega) ?_)
            intro v' w5 ho hb5 hsz _
            have Hho := Lib.hid ho
            have Hb5 := Lib.hid hb5
            clear ho hb5 hsz
            go_wp2
            go_roundg (21 - (k + 1))
            case measure => have := Hgk.out; omega
            case rel => exact ⟨k + 1, by omega, rfl, by go_num, by rw [Hs.out]; exact Hho.out, (Hbe.out.alloc Hbe.out.size _).trans Hb5.out⟩
          | false =>
            simp only [cond_false, List.append_nil] at hs
            have Hs := Lib.hid hs
            clear hs
            go_wp2
            go_roundg (21 - (k + 1))
            case measure => have := Hgk.out; omega
            case rel => exact ⟨k + 1, by omega, rfl, by go_num, by rw [Hs.out]; exact Hown.out, Hbe.out⟩
        · obtain rfl : k = 21 := by omega
          obtain ⟨A', c', rfl, hi', hc', hm', hbA, h0⟩ := Hown.out.reads
          have Hi' := Lib.hid hi'
          have Hfin := Lib.hid (Hb4.out.trans (Hbe.out.mono Hb4.out.size))
          have hdl : D < W4.heap.size := (Array.getElem?_eq_some_iff.1 Hd.out).1
          have Hdr : Hid (wr.heap[D]? = some (.deferred (some []))) := (Hbe.out.block D hdl).trans Hd.out
          have Hh := Lib.hid h0
          clear hi' h0
          have hz := strengthTo_pos g Hr.out.2.2 sn
          obtain ⟨ab, ao, rfl⟩ := Hi'.out.some_ hz
          have Hz := Lib.hid hz
          clear hz
          go_wp2
          gi_wp2
          refine ⟨by simp, .inl ⟨_, _, rfl, run_takeDeferred Hdr.out, ?_⟩⟩
          refine ⟨_, results_tmp2 rfl _ _ _, .inr ⟨He.out, _, by rw [HSS.out]; rfl, ?_⟩, ?_⟩
          · rw [HSS.out]; exact Hi'.out.keep (Keep.putObj _ _ _) (by rintro b' o' ⟨⟩ rfl; have := hbA _ _ rfl; omega)
          · exact Hfin.out.trans ((Keep.putObj _ _ _).below (fun k _ e => by have := HDw.out; omega) Hfin.out.size)
    case round =>
      rintro l Pv pre x rest vs W2 hxs hl hle hpv ⟨hN, hK⟩ hE
      unfold EncThins at hE
      subst hE
      have hb7 : Below W2.heap.size W2 (W2.alloc (.cells (pad3 x) 108)) := (Below.refl _ _).alloc (Nat.le_refl _) _
      have k7 := BoxAt.new W2 (pad3 x) 108
      have hNl := hN.lt
      clear hxs
      unfold pad3
      gi_wp2
      change Keep _ W2 (W2.alloc (.cells (pad3 x) 108)) ∧ _
      refine ⟨Keep.of_below hb7, ?_⟩
      rintro W3 r hlr hk2
      have hn7 : W2.heap.size ≠ l := fun e => by
        have := cell_ne_loop hlr (p := ⟨W2.heap.size, 0, none⟩) (v := .int .i64 (gi x 0)) (by exact k7.cell 0)
        exact this e
      have k7' := k7.keep hk2 hn7
      have HN3 := Lib.hid ((hN.below hb7).keep hk2 (by omega))
      have HK3 := Lib.hid ((hK.trans (Keep.of_below hb7)).trans (hk2.mono fun k _ e => .inr (by omega)))
      obtain ⟨c3, f3, l3⟩ := KK3.out.keep HK3.out (by have := KK3.out.lt; omega)
      obtain ⟨c8, f8, l8⟩ := K8.out.keep HK3.out (by omega)
      generalize W2.heap.size = n7 at *
      have c7x := (k7'.cell sn).trans (pad3_get x sn hs3)
      have f7 := k7'.frozen
      have l7 := k7'.lt
      have hsi : (sn : Int) < 3 := by omega
      have Hmet := Lib.hid (metOf_snoc sn pre x)
      subst hsn
      clear hb7 k7 hlr hk2 hN hK k7'
      gi_upto_region 7 with (fail)
      refine region_round (S := fun w' => Below W3.heap.size W3 w') 4 (by kernel_rfl) (by kernel_rfl) (fun _ _ h => h) ?_ (fun hHeld => ?_)
      · exact (Below.refl _ _).drew
      first | (refine anyT_take 0 (some 26) (v := ?_) rfl rfl (by kernel_rfl) (by kernel_rfl) (by kernel_rfl) (by kernel_rfl) (fun _ _ _ h => h) (Or.inl ⟨by rfl, ?_⟩) hHeld ?_; rotate_left; focus (intro wq hSw; obtain ⟨hcq, hfq⟩ := bcell hSw; go_simp; (try with_reducible rfl); done))
      (try simp only [Act.put, List.setIfInBounds_toArray, List.set_cons_zero, List.set_cons_succ])
      first | (refine anyT_take 1 (some 27) (v := ?_) rfl rfl (by kernel_rfl) (by kernel_rfl) (by kernel_rfl) (by kernel_rfl) (fun _ _ _ h => h) (Or.inl ⟨by rfl, ?_⟩) hHeld ?_; rotate_left; focus (intro wq hSw; obtain ⟨hcq, hfq⟩ := bcell hSw; go_simp; (try with_reducible rfl); done))
      (try simp only [Act.put, List.setIfInBounds_toArray, List.set_cons_zero, List.set_cons_succ])
      first | (refine anyT_take 2 (some 28) (v := ?_) rfl rfl (by kernel_rfl) (by kernel_rfl) (by kernel_rfl) (by kernel_rfl) (fun _ _ _ h => h) (Or.inl ⟨by rfl, ?_⟩) hHeld ?_; rotate_left; focus (intro wq hSw; obtain ⟨hcq, hfq⟩ := bcell hSw; go_simp; (try with_reducible rfl); done))
      (try simp only [Act.put, List.setIfInBounds_toArray, List.set_cons_zero, List.set_cons_succ])
      first | (refine anyT_take 3 (some 29) (v := ?_) rfl rfl (by kernel_rfl) (by kernel_rfl) (by kernel_rfl) (by kernel_rfl) (fun _ _ _ h => h) (Or.inl ⟨by rfl, ?_⟩) hHeld ?_; rotate_left; focus (intro wq hSw; obtain ⟨hcq, hfq⟩ := bcell hSw; go_simp; (try with_reducible rfl); done))
      (try simp only [Act.put, List.setIfInBounds_toArray, List.set_cons_zero, List.set_cons_succ])
      refine anyT_last (by kernel_rfl) rfl (fun K hK => ?_)
      obtain ⟨W9, hrun, hmW, hkW⟩ := intKeys.update (HN3.out.below hHeld) (gi x sn); unfold intK at hrun
      go_simp
      refine hK.out _ _ ?_
      clear hK K
      (try simp only [Act.put, List.setIfInBounds_toArray, List.set_cons_zero, List.set_cons_succ])
      refine anyT_done (by kernel_rfl) ?_ _
      have hk9 : Keep (fun k => k = bm) W3 W9 := (Keep.of_below hHeld).trans hkW
      clear hrun hHeld
      gi_wp2
      exact ⟨hk9, by rw [Hmet.out]; exact hmW, HK3.out.trans (hk9.mono (fun k _ e => .inl e))⟩
  · have hres : Hid (askedR B (inB s 0 2) = .tuple #[.agg #[.slice none 0 0, .int .i64 0, .int .i64 0, .int .i64 0, .int .i64 0, .int .i64 0, .int .i64 0, .slice none 0 0, .int .i64 0, .int .i64 0, .int .i64 0, .int .i64 0, .int .i64 0, .slice none 0 0], .int .i64 (askedE B (inB s 0 2))]) := Lib.hid (by unfold askedR; rw [if_neg he]; rfl)
    have He := Lib.hid he
    generalize hq : askedE B (inB s 0 2) = q at *
    have hq0 : ¬ q = 0 := He.out
    have Hq := Lib.hid hq
    clear hq he
    go_enter Tryd.func31, Tryd.ntmps31
    go_upto_region 1 with (fail)
    generalize (w.alloc _).alloc _ = W1 at *
    generalize w.heap.size + 1 = n3 at *
    have H1 := Lib.hid Hb
    obtain ⟨c2, f2, l2⟩ := k2
    obtain ⟨c3, f3, l3⟩ := k3
    clear Hb
    apply region_told0 (S := fun w' => Below W1.heap.size W1 w') (F := fun m w' => W1.heap.size ≤ m ∧ BoxAt w' m zeroF ∧ Below W1.heap.size W1 w') 10 (by kernel_rfl)
    case k0 => exact (Below.refl _ _).drew
    case reg =>
      intro hHeld
      generalize hWd : World.drew W1 = Wd at *
      first | (refine anyT_take 0 (some 13) (v := ?_) rfl rfl (by kernel_rfl) (by kernel_rfl) (by kernel_rfl) (by kernel_rfl) (fun _ _ _ h => h) (Or.inl ⟨by rfl, ?_⟩) hHeld ?_; rotate_left; focus (intro wq hSw; obtain ⟨hcq, hfq⟩ := bcell hSw; go_simp; (try with_reducible rfl); done))
      (try simp only [Act.put, List.setIfInBounds_toArray, List.set_cons_zero, List.set_cons_succ])
      first | (refine anyT_take 1 (some 14) (v := ?_) rfl rfl (by kernel_rfl) (by kernel_rfl) (by kernel_rfl) (by kernel_rfl) (fun _ _ _ h => h) (Or.inl ⟨by rfl, ?_⟩) hHeld ?_; rotate_left; focus (intro wq hSw; obtain ⟨hcq, hfq⟩ := bcell hSw; go_simp; (try with_reducible rfl); done))
      (try simp only [Act.put, List.setIfInBounds_toArray, List.set_cons_zero, List.set_cons_succ])
      refine anyT_two 2 7 (by kernel_rfl) rfl rfl (fun K hK => ?_) (fun K hK => ?_)
      · go_simp
        refine (in_calls _ _ _ _).mono ?_; rintro e wx ⟨rfl, rfl⟩
        refine hK.out _ _ ?_ (fun hHeld => ?_)
        · exact hHeld
        clear hK K
        (try simp only [Act.put, List.setIfInBounds_toArray, List.set_cons_zero, List.set_cons_succ])
        refine anyT_two 3 7 (by kernel_rfl) rfl rfl (fun K hK => ?_) (fun K hK => ?_)
        · go_simp
          refine (eq0_2 (v' := B.val) (by unfold ForgeV.val ForgeV.cells; rfl) (asked_calls B _ _ (HB.out.below (below_then H1.out H1.out.size hHeld)))).mono ?_; rintro e w5 ⟨rfl, hb5⟩; (try replace k6 := k6.below hb5); rw [hres.out]
          refine hK.out _ _ ?_ (fun hHeld => ?_)
          · exact below_then hHeld hHeld.size hb5
          clear hK K
          (try simp only [Act.put, List.setIfInBounds_toArray, List.set_cons_zero, List.set_cons_succ])
          first | (refine anyT_take 4 (some 12) (v := ?_) rfl rfl (by kernel_rfl) (by kernel_rfl) (by kernel_rfl) (by kernel_rfl) (fun _ _ _ h => h) (Or.inl ⟨by rfl, ?_⟩) hHeld ?_; rotate_left; focus (intro wq hSw; obtain ⟨hcq, hfq⟩ := bcell hSw; go_simp; (try with_reducible rfl); done))
          (try simp only [Act.put, List.setIfInBounds_toArray, List.set_cons_zero, List.set_cons_succ])
          first | (refine anyT_take 5 (some 17) (v := ?_) rfl rfl (by kernel_rfl) (by kernel_rfl) (by kernel_rfl) (by kernel_rfl) (fun _ _ _ h => h) (Or.inl ⟨by rfl, ?_⟩) hHeld ?_; rotate_left; focus (intro wq hSw; obtain ⟨hcq, hfq⟩ := bcell hSw; go_simp; (try with_reducible rfl); done))
          (try simp only [Act.put, List.setIfInBounds_toArray, List.set_cons_zero, List.set_cons_succ])
          first | (refine anyT_take 6 (some 18) (v := ?_) rfl rfl (by kernel_rfl) (by kernel_rfl) (by kernel_rfl) (by kernel_rfl) (fun _ _ _ h => h) (Or.inl ⟨by rfl, ?_⟩) hHeld ?_; rotate_left; focus (intro wq hSw; obtain ⟨hcq, hfq⟩ := bcell hSw; go_simp; (try with_reducible rfl); done))
          (try simp only [Act.put, List.setIfInBounds_toArray, List.set_cons_zero, List.set_cons_succ])
          refine anyT_one 7 (by kernel_rfl) rfl (fun K hK => ?_)
          go_simp
          have hn6 := hHeld.size; first | (have k6 := BoxAt.new w5 zeroF 87; have hb6 : Below w5.heap.size w5 (w5.alloc (.cells zeroF 87)) := (Below.refl _ _).alloc (Nat.le_refl _) _; unfold zeroF at k6 hb6; generalize w5.alloc _ = W6 at *; have hS6 := below_then hHeld hHeld.size hb6; generalize w5.heap.size = n6 at *) | (have k6 := BoxAt.new Wd zeroF 87; have hb6 : Below Wd.heap.size Wd (Wd.alloc (.cells zeroF 87)) := (Below.refl _ _).alloc (Nat.le_refl _) _; unfold zeroF at k6 hb6; generalize Wd.alloc _ = W6 at *; have hS6 := below_then hHeld hHeld.size hb6; generalize Wd.heap.size = n6 at *)
          refine hK.out _ _ ?_ (fun hHeld => ?_)
          · exact hS6
          clear hK K
          (try simp only [Act.put, List.setIfInBounds_toArray, List.set_cons_zero, List.set_cons_succ])
          refine anyT_one 8 (by kernel_rfl) rfl (fun K hK => ?_)
          have k6' := k6; obtain ⟨c6, f6, l6⟩ := k6
          go_simp
          change K _ (putAll _ n6 0 zeroF.toList); have k9 := putAll_box k6' zeroF.toList rfl; have hS9 := hHeld.trans ((putAll_keep n6 zeroF.toList 0 _).below (fun k _ e => by omega) hHeld.size); generalize putAll _ n6 0 zeroF.toList = W9 at *
          refine hK.out _ _ ?_ (fun hHeld => ?_)
          · exact hS9
          clear hK K
          (try simp only [Act.put, List.setIfInBounds_toArray, List.set_cons_zero, List.set_cons_succ])
          first | (refine anyT_take 9 (some 7) (v := ?_) rfl rfl (by kernel_rfl) (by kernel_rfl) (by kernel_rfl) (by kernel_rfl) (fun _ _ _ h => h) (Or.inl ⟨by rfl, ?_⟩) hHeld ?_; rotate_left; focus (intro wq hSw; obtain ⟨hcq, hfq⟩ := bcell hSw; go_simp; (try with_reducible rfl); done))
          (try simp only [Act.put, List.setIfInBounds_toArray, List.set_cons_zero, List.set_cons_succ])
          refine anyT_done (by kernel_rfl) ?_ _
          exact ⟨n6, rfl, hn6, k9, hHeld⟩
        · go_simp
          have hn6 := hHeld.size; first | (have k6 := BoxAt.new w5 zeroF 87; have hb6 : Below w5.heap.size w5 (w5.alloc (.cells zeroF 87)) := (Below.refl _ _).alloc (Nat.le_refl _) _; unfold zeroF at k6 hb6; generalize w5.alloc _ = W6 at *; have hS6 := below_then hHeld hHeld.size hb6; generalize w5.heap.size = n6 at *) | (have k6 := BoxAt.new Wd zeroF 87; have hb6 : Below Wd.heap.size Wd (Wd.alloc (.cells zeroF 87)) := (Below.refl _ _).alloc (Nat.le_refl _) _; unfold zeroF at k6 hb6; generalize Wd.alloc _ = W6 at *; have hS6 := below_then hHeld hHeld.size hb6; generalize Wd.heap.size = n6 at *)
          refine hK.out _ _ ?_ (fun hHeld => ?_)
          · exact hS6
          clear hK K
          (try simp only [Act.put, List.setIfInBounds_toArray, List.set_cons_zero, List.set_cons_succ])
          refine anyT_one 3 (by kernel_rfl) rfl (fun K hK => ?_)
          go_simp
          refine (eq0_2 (v' := B.val) (by unfold ForgeV.val ForgeV.cells; rfl) (asked_calls B _ _ (HB.out.below (below_then H1.out H1.out.size hHeld)))).mono ?_; rintro e w5 ⟨rfl, hb5⟩; (try replace k6 := k6.below hb5); rw [hres.out]
          refine hK.out _ _ ?_ (fun hHeld => ?_)
          · exact below_then hHeld hHeld.size hb5
          clear hK K
          (try simp only [Act.put, List.setIfInBounds_toArray, List.set_cons_zero, List.set_cons_succ])
          first | (refine anyT_take 4 (some 12) (v := ?_) rfl rfl (by kernel_rfl) (by kernel_rfl) (by kernel_rfl) (by kernel_rfl) (fun _ _ _ h => h) (Or.inl ⟨by rfl, ?_⟩) hHeld ?_; rotate_left; focus (intro wq hSw; obtain ⟨hcq, hfq⟩ := bcell hSw; go_simp; (try with_reducible rfl); done))
          (try simp only [Act.put, List.setIfInBounds_toArray, List.set_cons_zero, List.set_cons_succ])
          first | (refine anyT_take 5 (some 17) (v := ?_) rfl rfl (by kernel_rfl) (by kernel_rfl) (by kernel_rfl) (by kernel_rfl) (fun _ _ _ h => h) (Or.inl ⟨by rfl, ?_⟩) hHeld ?_; rotate_left; focus (intro wq hSw; obtain ⟨hcq, hfq⟩ := bcell hSw; go_simp; (try with_reducible rfl); done))
          (try simp only [Act.put, List.setIfInBounds_toArray, List.set_cons_zero, List.set_cons_succ])
          first | (refine anyT_take 6 (some 18) (v := ?_) rfl rfl (by kernel_rfl) (by kernel_rfl) (by kernel_rfl) (by kernel_rfl) (fun _ _ _ h => h) (Or.inl ⟨by rfl, ?_⟩) hHeld ?_; rotate_left; focus (intro wq hSw; obtain ⟨hcq, hfq⟩ := bcell hSw; go_simp; (try with_reducible rfl); done))
          (try simp only [Act.put, List.setIfInBounds_toArray, List.set_cons_zero, List.set_cons_succ])
          refine anyT_one 8 (by kernel_rfl) rfl (fun K hK => ?_)
          have k6' := k6; obtain ⟨c6, f6, l6⟩ := k6
          go_simp
          change K _ (putAll _ n6 0 zeroF.toList); have k9 := putAll_box k6' zeroF.toList rfl; have hS9 := hHeld.trans ((putAll_keep n6 zeroF.toList 0 _).below (fun k _ e => by omega) hHeld.size); generalize putAll _ n6 0 zeroF.toList = W9 at *
          refine hK.out _ _ ?_ (fun hHeld => ?_)
          · exact hS9
          clear hK K
          (try simp only [Act.put, List.setIfInBounds_toArray, List.set_cons_zero, List.set_cons_succ])
          first | (refine anyT_take 9 (some 7) (v := ?_) rfl rfl (by kernel_rfl) (by kernel_rfl) (by kernel_rfl) (by kernel_rfl) (fun _ _ _ h => h) (Or.inl ⟨by rfl, ?_⟩) hHeld ?_; rotate_left; focus (intro wq hSw; obtain ⟨hcq, hfq⟩ := bcell hSw; go_simp; (try with_reducible rfl); done))
          (try simp only [Act.put, List.setIfInBounds_toArray, List.set_cons_zero, List.set_cons_succ])
          refine anyT_done (by kernel_rfl) ?_ _
          exact ⟨n6, rfl, hn6, k9, hHeld⟩
      · go_simp
        have hn6 := hHeld.size; first | (have k6 := BoxAt.new w5 zeroF 87; have hb6 : Below w5.heap.size w5 (w5.alloc (.cells zeroF 87)) := (Below.refl _ _).alloc (Nat.le_refl _) _; unfold zeroF at k6 hb6; generalize w5.alloc _ = W6 at *; have hS6 := below_then hHeld hHeld.size hb6; generalize w5.heap.size = n6 at *) | (have k6 := BoxAt.new Wd zeroF 87; have hb6 : Below Wd.heap.size Wd (Wd.alloc (.cells zeroF 87)) := (Below.refl _ _).alloc (Nat.le_refl _) _; unfold zeroF at k6 hb6; generalize Wd.alloc _ = W6 at *; have hS6 := below_then hHeld hHeld.size hb6; generalize Wd.heap.size = n6 at *)
        refine hK.out _ _ ?_ (fun hHeld => ?_)
        · exact hS6
        clear hK K
        (try simp only [Act.put, List.setIfInBounds_toArray, List.set_cons_zero, List.set_cons_succ])
        refine anyT_one 2 (by kernel_rfl) rfl (fun K hK => ?_)
        go_simp
        refine (in_calls _ _ _ _).mono ?_; rintro e wx ⟨rfl, rfl⟩
        refine hK.out _ _ ?_ (fun hHeld => ?_)
        · exact hHeld
        clear hK K
        (try simp only [Act.put, List.setIfInBounds_toArray, List.set_cons_zero, List.set_cons_succ])
        refine anyT_one 3 (by kernel_rfl) rfl (fun K hK => ?_)
        go_simp
        refine (eq0_2 (v' := B.val) (by unfold ForgeV.val ForgeV.cells; rfl) (asked_calls B _ _ (HB.out.below (below_then H1.out H1.out.size hHeld)))).mono ?_; rintro e w5 ⟨rfl, hb5⟩; (try replace k6 := k6.below hb5); rw [hres.out]
        refine hK.out _ _ ?_ (fun hHeld => ?_)
        · exact below_then hHeld hHeld.size hb5
        clear hK K
        (try simp only [Act.put, List.setIfInBounds_toArray, List.set_cons_zero, List.set_cons_succ])
        first | (refine anyT_take 4 (some 12) (v := ?_) rfl rfl (by kernel_rfl) (by kernel_rfl) (by kernel_rfl) (by kernel_rfl) (fun _ _ _ h => h) (Or.inl ⟨by rfl, ?_⟩) hHeld ?_; rotate_left; focus (intro wq hSw; obtain ⟨hcq, hfq⟩ := bcell hSw; go_simp; (try with_reducible rfl); done))
        (try simp only [Act.put, List.setIfInBounds_toArray, List.set_cons_zero, List.set_cons_succ])
        first | (refine anyT_take 5 (some 17) (v := ?_) rfl rfl (by kernel_rfl) (by kernel_rfl) (by kernel_rfl) (by kernel_rfl) (fun _ _ _ h => h) (Or.inl ⟨by rfl, ?_⟩) hHeld ?_; rotate_left; focus (intro wq hSw; obtain ⟨hcq, hfq⟩ := bcell hSw; go_simp; (try with_reducible rfl); done))
        (try simp only [Act.put, List.setIfInBounds_toArray, List.set_cons_zero, List.set_cons_succ])
        first | (refine anyT_take 6 (some 18) (v := ?_) rfl rfl (by kernel_rfl) (by kernel_rfl) (by kernel_rfl) (by kernel_rfl) (fun _ _ _ h => h) (Or.inl ⟨by rfl, ?_⟩) hHeld ?_; rotate_left; focus (intro wq hSw; obtain ⟨hcq, hfq⟩ := bcell hSw; go_simp; (try with_reducible rfl); done))
        (try simp only [Act.put, List.setIfInBounds_toArray, List.set_cons_zero, List.set_cons_succ])
        refine anyT_one 8 (by kernel_rfl) rfl (fun K hK => ?_)
        have k6' := k6; obtain ⟨c6, f6, l6⟩ := k6
        go_simp
        change K _ (putAll _ n6 0 zeroF.toList); have k9 := putAll_box k6' zeroF.toList rfl; have hS9 := hHeld.trans ((putAll_keep n6 zeroF.toList 0 _).below (fun k _ e => by omega) hHeld.size); generalize putAll _ n6 0 zeroF.toList = W9 at *
        refine hK.out _ _ ?_ (fun hHeld => ?_)
        · exact hS9
        clear hK K
        (try simp only [Act.put, List.setIfInBounds_toArray, List.set_cons_zero, List.set_cons_succ])
        first | (refine anyT_take 9 (some 7) (v := ?_) rfl rfl (by kernel_rfl) (by kernel_rfl) (by kernel_rfl) (by kernel_rfl) (fun _ _ _ h => h) (Or.inl ⟨by rfl, ?_⟩) hHeld ?_; rotate_left; focus (intro wq hSw; obtain ⟨hcq, hfq⟩ := bcell hSw; go_simp; (try with_reducible rfl); done))
        (try simp only [Act.put, List.setIfInBounds_toArray, List.set_cons_zero, List.set_cons_succ])
        refine anyT_done (by kernel_rfl) ?_ _
        exact ⟨n6, rfl, hn6, k9, hHeld⟩

    rintro n6 W5 ⟨hn6, k6, hb5⟩
    have HF := Lib.hid (below_then H1.out H1.out.size hb5)
    clear hb5 c2 f2 l2 c3 f3 l3 k6
    go_wp2
    go_ret2
    exact ⟨.inl ⟨by rw [Hq.out]; exact hq0, by rw [Hq.out]; rfl⟩, HF.out⟩
end
end Go.Proofs.YtgfbfbfajnfbjaaDoor
