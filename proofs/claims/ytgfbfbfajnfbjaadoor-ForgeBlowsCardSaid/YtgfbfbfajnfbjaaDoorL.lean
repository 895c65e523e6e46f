import Derived.Test.YtgfbfbfajnfbjaaDoorK
namespace Go.Proofs.YtgfbfbfajnfbjaaDoor
section
open Go.RowKit Go.Shelf
attribute [local go_sem] Oper.semAt_some
set_option linter.unusedSimpArgs false
set_option linter.unusedVariables false
theorem gi_cons_zero (x : Int) (l : List Int) : gi (x :: l) 0 = x := rfl
theorem gi_cons_succ (x : Int) (l : List Int) (k : Nat) : gi (x :: l) (k + 1) = gi l k := rfl
theorem gi_nil (k : Nat) : gi [] k = 0 := rfl
theorem choices_mem : ∀ (l : List Int) (m : Int) (x : List Int), (∀ k, 0 ≤ gi l k) → x ∈ choices l m → x.length = l.length ∧ ∀ k, 0 ≤ gi x k ∧ gi x k ≤ gi l k
  | [], m, x, _, h => by
    unfold choices at h
    split at h
    · simp at h
    · simp at h; subst h; exact ⟨rfl, fun k => by simp [gi]⟩
  | a :: t, m, x, hl, h => by
    unfold choices at h
    rw [List.mem_flatMap] at h
    obtain ⟨k, hk, hx⟩ := h
    obtain ⟨y, hy, rfl⟩ := List.mem_map.1 hx
    have ih := choices_mem t (m - k) y (fun j => hl (j + 1)) hy
    refine ⟨by simp [ih.1], fun j => ?_⟩
    rw [List.mem_range] at hk
    cases j with
    | zero => rw [gi_cons_zero, gi_cons_zero]; omega
    | succ j => rw [gi_cons_succ, gi_cons_succ]; exact ih.2 j
theorem meltsS_mem {B : ForgeV} {hv : List Int} {many : Int} {x : List Int} (hl : ∀ k, 0 ≤ gi hv k) (h : x ∈ meltsS B hv many) : x.length = hv.length ∧ (∀ k, 0 ≤ gi x k ∧ gi x k ≤ gi hv k) ∧ rightS B x = true := by
  unfold meltsS at h
  rw [List.mem_filter] at h
  have := choices_mem hv many x hl h.1
  exact ⟨this.1, this.2, h.2⟩
theorem stock_bd {B : ForgeV} (g : B.Good) (k : Nat) : 0 ≤ gi (stockS B) k ∧ gi (stockS B) k ≤ 6 := by
  by_cases h : k < B.lots.length
  · rw [gi_stock B k h]; exact (g.lot k h).1
  · rw [gi_out (by simpa [stockS] using h)]; omega
theorem right_nz {B : ForgeV} {x : List Int} (h : rightS B x = true) : zeroB x = false := by
  rw [rightS_eq, Bool.and_eq_true] at h; simpa using h.1
theorem bestOf_snoc (l : List (List Int)) (p : List Int) : bestOf (l ++ [p]) = bestStep (bestOf l) p := by unfold bestOf; rw [List.foldl_append]; rfl
theorem bestOf_mem : ∀ (l : List (List Int)) (b : Option (List Int)) (q : List Int), l.foldl bestStep b = some q → q ∈ l ∨ b = some q
  | [], b, q, h => .inr h
  | p :: l, b, q, h => by
    rcases bestOf_mem l (bestStep b p) q h with h1 | h1
    · exact .inl (List.mem_cons_of_mem _ h1)
    · cases b with
      | none => simp [bestStep] at h1; exact .inl (by simp [h1])
      | some r =>
        simp only [bestStep] at h1
        split at h1
        · injection h1 with h1; exact .inl (by simp [h1])
        · exact .inr h1
def bestV (l : List (List Int)) : List Int := (bestOf l).getD []
def CastR (B : ForgeV) (many : Int) (e : Ending) (w' : World) : Prop :=
  (goodF B = false ∧ e = .returned (.tuple #[.slice none 0 0, .int .i64 20])) ∨ (goodF B = true ∧ inB many 1 24 = false ∧ e = .returned (.tuple #[.slice none 0 0, .int .i64 21])) ∨
  (goodF B = true ∧ inB many 1 24 = true ∧ bestOf (meltsS B (stockS B) many) = none ∧ e = .returned (.tuple #[.slice none 0 0, .int .i64 4])) ∨
  (goodF B = true ∧ inB many 1 24 = true ∧ ∃ q A, bestOf (meltsS B (stockS B) many) = some q ∧ e = .returned (.tuple #[.slice A q.length q.length, .int .i64 0]) ∧ IntsAt w' A q)
set_option maxRecDepth 100000 in
set_option maxHeartbeats 4000000 in
theorem Cast_calls (B : ForgeV) (many : Int) (w : World) (hB : B.Reads w) (hM : EndsAt w) :
    Calls Tryd.prog 22 #[B.val, .int .i64 many] w fun e w' => CastR B many e w' ∧ Below w.heap.size w w' := by
  have HB := Lib.hid hB
  have HM := Lib.hid hM
  clear hB hM
  have Hb : Below w.heap.size w (w.alloc (.cells B.cells 28)) := (Below.refl _ _).alloc (Nat.le_refl _) _
  have k1 := BoxAt.new w B.cells 28
  unfold ForgeV.val ForgeV.cells
  unfold ForgeV.cells at k1 Hb
  cases hg : goodF B with
  | false =>
    go_enter Tryd.func22, Tryd.ntmps22
    go_wp2_with fail
    generalize w.alloc _ = W at *
    refine (eq0_1 (v' := B.val) (by unfold ForgeV.val ForgeV.cells; rfl) (Check_calls B _ (HB.out.below Hb))).mono ?_
    rintro e w1 ⟨rfl, hb⟩
    have H1 := below_then Hb Hb.size hb
    clear hb k1
    rw [hg, cond_false]
    go_wp2
    go_ret2
    exact ⟨.inl ⟨hg, rfl⟩, H1⟩
  | true =>
    have g := (goodF_iff B).1 hg
    have Hg := Lib.hid g
    have Hgg := Lib.hid hg
    clear g
    cases hin : inB many 1 24 with
    | false =>
      go_enter Tryd.func22, Tryd.ntmps22
      go_wp2_with fail
      generalize w.alloc _ = W at *
      refine (eq0_1 (v' := B.val) (by unfold ForgeV.val ForgeV.cells; rfl) (Check_calls B _ (HB.out.below Hb))).mono ?_
      rintro e w1 ⟨rfl, hb⟩
      have H1 := below_then Hb Hb.size hb
      clear hb k1
      rw [hg, cond_true]
      go_wp2_with fail
      refine (in_calls _ _ _ _).mono ?_
      rintro e w2 ⟨rfl, rfl⟩
      rw [hin]
      go_wp2
      go_ret2
      exact ⟨.inr (.inl ⟨hg, hin, rfl⟩), H1⟩
    | true =>
      have hmn := inB_iff.1 hin
      refine (callsIn_wide (n := 0)).1 ?_
      refine callsIn_of_wp_marks Tryd.func22 rfl trivial ?_ rfl
      simp only [Tryd.ntmps22, List.size_toArray, List.length_cons, List.length_nil, Nat.reduceAdd, Nat.reduceSub, Array.replicate_succ, Array.replicate_zero, List.push_toArray, List.append_toArray, List.nil_append, List.cons_append]
      gi_wp2_with fail
      generalize w.alloc _ = W at *
      refine ⟨trivial, rfl, ?_⟩
      refine (callsIn_wide.2 (eq0_1 (v' := B.val) (by unfold ForgeV.val ForgeV.cells; rfl) (Check_calls B _ (HB.out.below Hb)))).mono ?_
      rintro e w1 ⟨rfl, hb⟩
      have H1 := below_then Hb Hb.size hb
      have K1 := Lib.hid (k1.below hb)
      obtain ⟨c1, f1, l1⟩ := K1.out
      clear hb k1 Hb
      rw [hg, cond_true]
      gi_wp2_with fail
      refine ⟨trivial, rfl, ?_⟩
      refine (callsIn_wide.2 (in_calls _ _ _ _)).mono ?_
      rintro e w2 ⟨rfl, rfl⟩
      rw [hin]
      have Hin := Lib.hid hin
      have Hmn := Lib.hid hmn
      clear hin hmn hg
      gi_wp2_with fail
      refine ⟨trivial, rfl, ?_⟩
      have k7 := BoxAt.new w1 B.cells 87
      have hb7 : Below w1.heap.size w1 (w1.alloc (.cells B.cells 87)) := (Below.refl _ _).alloc (Nat.le_refl _) _
      unfold ForgeV.cells at k7 hb7
      generalize w1.alloc _ = w2 at *
      have H2 := below_then H1 H1.size hb7
      have hn7 := H1.size
      generalize w1.heap.size = n7 at *
      clear K1 c1 f1 l1 hb7 H1
      refine (callsIn_wide.2 (nothing_calls _)).mono ?_
      rintro e w3 ⟨rfl, hb⟩
      have H3 := below_then H2 H2.size hb
      replace k7 := k7.below hb
      clear hb H2
      gi_upto_region 8 with (fail)
      have hn78 : n7 < w3.heap.size := k7.lt
      have k8 := BoxAt.new w3 #[.int .i64 0, .int .i64 0, .int .i64 0, .int .i64 0] 85
      have hb8 : Below w3.heap.size w3 (w3.alloc (.cells #[.int .i64 0, .int .i64 0, .int .i64 0, .int .i64 0] 85)) := (Below.refl _ _).alloc (Nat.le_refl _) _
      generalize w3.alloc _ = w4 at *
      have H4 := below_then H3 H3.size hb8
      have hn8 := H3.size
      replace k7 := k7.below hb8
      have k8' : BoxAt w4 w3.heap.size (pad4 []) := k8
      have Hn := Lib.hid (show w.heap.size ≤ n7 ∧ n7 < w3.heap.size from ⟨hn7, hn78⟩)
      generalize w3.heap.size = n8 at *
      have K7 := Lib.hid k7
      have K8 := Lib.hid k8'
      have HH4 := Lib.hid H4
      obtain ⟨c7, f7, l7⟩ := k7
      clear k8 k8' H3 H4 hb8 hn7 hn8 hn78
      refine region_wideN (S := fun w' => Below w4.heap.size w4 w') 5 (by kernel_rfl) ?_ (fun hHeld => ?_)
      · exact (Below.refl _ _).drew
      first | (refine anyT_take 0 (some 21) (v := ?_) rfl rfl (by kernel_rfl) (by kernel_rfl) (by kernel_rfl) (by kernel_rfl) (fun _ _ _ h => h) (Or.inl ⟨by rfl, ?_⟩) hHeld ?_; rotate_left; focus (intro wq hSw; obtain ⟨hcq, hfq⟩ := bcell hSw; go_simp; (try with_reducible rfl); done))
      (try simp only [Act.put, List.setIfInBounds_toArray, List.set_cons_zero, List.set_cons_succ])
      first | (refine anyT_take 1 (some 22) (v := ?_) rfl rfl (by kernel_rfl) (by kernel_rfl) (by kernel_rfl) (by kernel_rfl) (fun _ _ _ h => h) (Or.inl ⟨by rfl, ?_⟩) hHeld ?_; rotate_left; focus (intro wq hSw; obtain ⟨hcq, hfq⟩ := bcell hSw; go_simp; (try with_reducible rfl); done))
      (try simp only [Act.put, List.setIfInBounds_toArray, List.set_cons_zero, List.set_cons_succ])
      first | (refine anyT_take 3 (some 24) (v := ?_) rfl rfl (by kernel_rfl) (by kernel_rfl) (by kernel_rfl) (by kernel_rfl) (fun _ _ _ h => h) (Or.inl ⟨by rfl, ?_⟩) hHeld ?_; rotate_left; focus (intro wq hSw; obtain ⟨hcq, hfq⟩ := bcell hSw; go_simp; (try with_reducible rfl); done))
      (try simp only [Act.put, List.setIfInBounds_toArray, List.set_cons_zero, List.set_cons_succ])
      refine anyT_one 2 (by kernel_rfl) rfl (fun K hK => ?_)
      go_simp
      refine (eq0_1 (v' := B.val) (by unfold ForgeV.val ForgeV.cells; rfl) (stock_calls B Hg.out _ (HB.out.below (below_then HH4.out HH4.out.size hHeld)))).mono ?_; rintro e w5 ⟨rfl, hb5⟩
      refine hK.out _ _ ?_ (fun hHeld => ?_)
      · exact below_then hHeld hHeld.size hb5
      clear hK K
      (try simp only [Act.put, List.setIfInBounds_toArray, List.set_cons_zero, List.set_cons_succ])
      refine anyT_one 4 (by kernel_rfl) rfl (fun K hK => ?_)
      go_simp
      refine (eq0_3 (v' := B.val) (by unfold ForgeV.val ForgeV.cells; rfl) (melts_calls B (stockS B) many _)).mono ?_; rintro e w6 ⟨bB, bH, bm, rfl, ⟨kB, kH, km⟩, hle, hb6⟩; have hHb := hHeld
      refine hK.out _ _ ?_ (fun hHeld => ?_)
      · exact below_then hHeld hHeld.size hb6
      clear hK K
      (try simp only [Act.put, List.setIfInBounds_toArray, List.set_cons_zero, List.set_cons_succ])
      refine anyT_done (by kernel_rfl) ?_ _
      rw [NP_normal]
      have H6 := below_then HH4.out HH4.out.size hHeld
      have k8 := K8.out.below hHeld
      have k7 := K7.out.below hHeld
      have hnn : n8 < bB ∧ n8 < bH := by have := (K8.out.below hHb).lt; omega
      have hn8 : w.heap.size ≤ n8 := by have := Hn.out; omega
      clear hHeld hb6 hHb K7 K8 HH4 c7 f7 l7 hle
      have K7 := Lib.hid k7
      clear k7
      gi_wp2_with fail
      refine wpIn_range_p (gf := 102) (lb := #[.pointer (some ⟨bB, 0, none⟩), .pointer (some ⟨bH, 0, none⟩), .pointer (some ⟨bm, 0, none⟩)]) rfl entersMelts1
        (melts_seq B Hg.out (stockS B) (by simp [stockS]) (fun k => by have := stock_bd Hg.out k; omega) many (by have := Hmn.out; omega) w HB.out HM.out bB bH bm (fun k => k = n8) w6 H6 kB kH km (by rintro k rfl; exact ⟨hn8, k8.lt, by omega, by omega⟩)) (fun _ => False) (by rintro k rfl; exact k8.lt) (fun _ h => h.elim) (fun x vs W hE => by rw [hE]; rfl)
        (fun pre Pv W => BoxAt W n8 (pad4 (bestV pre)) ∧ Keep (fun k => k = n8 ∨ w6.heap.size ≤ k) w6 W) (fun _ _ _ => False)
        (fun Pv l s X Y r hl hr hk hI => ⟨hI.1.keep hk (by have := k8.lt; omega), hI.2.trans (hk.mono fun k _ e => .inr (by omega))⟩)
        (fun s Pv Pv' X Y hI hk hp _ => ⟨hI.1.keep hk (fun h => by have := hp _ h; have := k8.lt; omega), hI.2.trans (hk.mono fun k _ h => .inr (by have := hp k h; omega))⟩)
        (fun _ _ _ _ _ _ _ _ _ h => h) (fun _ _ _ _ h _ => h)
        ⟨k8, Keep.refl _ _⟩ ?round ?done ?stop
      case stop => rintro D c pre W _ _ _ h; exact h.elim
      case done =>
        rintro D W2 hD hK ⟨Pv, hN, _⟩ hd
        have Hb := Lib.hid (H6.trans (hK.below (fun k _ h => by have := H6.size; omega) H6.size))
        have k7 := K7.out.keep hK (by have := Hn.out; have := K7.out.lt; omega)
        have K7 := Lib.hid k7
        have Hd := Lib.hid hd
        have hDl : D < W2.heap.size := (Array.getElem?_eq_some_iff.1 hd).1
        have HDl := Lib.hid hDl
        have HD := Lib.hid (show w.heap.size ≤ D by have := H6.size; omega)
        clear hd hK hD hDl k7
        cases hbest : bestOf (meltsS B (stockS B) many) with
        | none =>
          have hbv : bestV (meltsS B (stockS B) many) = [] := by unfold bestV; rw [hbest]; rfl
          rw [hbv] at hN
          have hN4 : BoxAt W2 n8 #[.int .i64 0, .int .i64 0, .int .i64 0, .int .i64 0] := hN
          have Hbest := Lib.hid hbest
          obtain ⟨c8, f8, l8⟩ := hN4
          have heq := fun w => eq4 0 0 0 0 0 0 0 0 w
          simp only [decide_true, Bool.and_true] at heq
          clear hbest hbv hN
          gi_upto_region 12 with (fail)
          refine region_wideN (S := fun w' => Below W2.heap.size W2 w') 3 (by kernel_rfl) ?_ (fun hHeld => ?_)
          · exact (Below.refl _ _).drew
          first | (refine anyT_take 0 (some 38) (v := ?_) rfl rfl (by kernel_rfl) (by kernel_rfl) (by kernel_rfl) (by kernel_rfl) (fun _ _ _ h => h) (Or.inl ⟨by rfl, ?_⟩) hHeld ?_; rotate_left; focus (intro wq hSw; obtain ⟨hcq, hfq⟩ := bcell hSw; go_simp; (try with_reducible rfl); done))
          (try simp only [Act.put, List.setIfInBounds_toArray, List.set_cons_zero, List.set_cons_succ])
          refine anyT_one 1 (by kernel_rfl) rfl (fun K hK => ?_)
          go_simp
          refine (nothing_calls _).mono ?_; rintro e w8 ⟨rfl, hb8⟩
          refine hK.out _ _ ?_ (fun hHeld => ?_)
          · exact below_then hHeld hHeld.size hb8
          clear hK K
          (try simp only [Act.put, List.setIfInBounds_toArray, List.set_cons_zero, List.set_cons_succ])
          first | (refine anyT_take 2 (some 40) (v := ?_) rfl rfl (by kernel_rfl) (by kernel_rfl) (by kernel_rfl) (by kernel_rfl) (fun _ _ _ h => h) (Or.inl ⟨by rfl, ?_⟩) hHeld ?_; rotate_left; focus (intro wq hSw; obtain ⟨hcq, hfq⟩ := bcell hSw; go_simp; (try with_reducible rfl); done))
          (try simp only [Act.put, List.setIfInBounds_toArray, List.set_cons_zero, List.set_cons_succ])
          refine anyT_done (by kernel_rfl) ?_ _
          rw [NP_normal]
          have Hd5 := Lib.hid ((hHeld.block D HDl.out).trans Hd.out)
          have HF := Lib.hid (below_then Hb.out Hb.out.size hHeld)
          clear hHeld
          gi_wp2
          refine ⟨by simp, .inl ⟨_, _, rfl, run_takeDeferred Hd5.out, ?_⟩⟩
          refine ⟨_, results_tmp2 rfl _ _ _, .inr (.inr (.inl ⟨Hgg.out, Hin.out, Hbest.out, rfl⟩)), ?_⟩
          exact HF.out.trans ((Keep.putObj _ _ _).below (fun k _ e => by have := HD.out; omega) HF.out.size)
        | some q =>
          have hq := (bestOf_mem (meltsS B (stockS B) many) none q hbest).resolve_right (by simp)
          have hqm := meltsS_mem (fun k => (stock_bd Hg.out k).1) hq
          have hqz := right_nz hqm.2.2
          have hql : q.length = B.lots.length := by rw [hqm.1]; simp [stockS]
          have hbv : bestV (meltsS B (stockS B) many) = q := by unfold bestV; rw [hbest]; rfl
          rw [hbv] at hN
          have HN4 := Lib.hid hN
          have Hbest := Lib.hid hbest
          have Hql := Lib.hid hql
          obtain ⟨c8, f8, l8⟩ := hN
          unfold pad4 at c8
          have heq := fun w => eq4 (gi q 0) (gi q 1) (gi q 2) (gi q 3) 0 0 0 0 w
          change ∀ w, _ = Result.ok (zeroB q) w at heq
          rw [hqz] at heq
          clear hbest hbv hq hqm hqz hql
          gi_upto_region 12 with (fail)
          refine region_wideN (S := fun w' => Below W2.heap.size W2 w') 3 (by kernel_rfl) ?_ (fun hHeld => ?_)
          · exact (Below.refl _ _).drew
          first | (refine anyT_take 0 (some 38) (v := ?_) rfl rfl (by kernel_rfl) (by kernel_rfl) (by kernel_rfl) (by kernel_rfl) (fun _ _ _ h => h) (Or.inl ⟨by rfl, ?_⟩) hHeld ?_; rotate_left; focus (intro wq hSw; obtain ⟨hcq, hfq⟩ := bcell hSw; go_simp; (try with_reducible rfl); done))
          (try simp only [Act.put, List.setIfInBounds_toArray, List.set_cons_zero, List.set_cons_succ])
          refine anyT_one 1 (by kernel_rfl) rfl (fun K hK => ?_)
          go_simp
          refine (nothing_calls _).mono ?_; rintro e w8 ⟨rfl, hb8⟩
          refine hK.out _ _ ?_ (fun hHeld => ?_)
          · exact below_then hHeld hHeld.size hb8
          clear hK K
          (try simp only [Act.put, List.setIfInBounds_toArray, List.set_cons_zero, List.set_cons_succ])
          first | (refine anyT_take 2 (some 40) (v := ?_) rfl rfl (by kernel_rfl) (by kernel_rfl) (by kernel_rfl) (by kernel_rfl) (fun _ _ _ h => h) (Or.inl ⟨by rfl, ?_⟩) hHeld ?_; rotate_left; focus (intro wq hSw; obtain ⟨hcq, hfq⟩ := bcell hSw; go_simp; (try with_reducible rfl); done))
          (try simp only [Act.put, List.setIfInBounds_toArray, List.set_cons_zero, List.set_cons_succ])
          refine anyT_done (by kernel_rfl) ?_ _
          rw [NP_normal]
          have Hh := Lib.hid hHeld
          have HF := Lib.hid (below_then Hb.out Hb.out.size hHeld)
          obtain ⟨c7, f7, l7⟩ := K7.out.below hHeld
          obtain ⟨c8, f8, l8⟩ := HN4.out.below hHeld
          unfold pad4 at c8
          clear hHeld
          gi_wp2_with fail
          refine ⟨trivial, rfl, ?_⟩
          refine (callsIn_wide.2 (eq0_2 (v' := B.val) (by unfold ForgeV.val ForgeV.cells; rfl) (list_calls B Hg.out q Hql.out _))).mono ?_
          rintro e w9 ⟨A, rfl, hi9, hA9, hb9⟩
          have Hd5 := Lib.hid ((hb9.block D (Nat.lt_of_lt_of_le HDl.out Hh.out.size)).trans ((Hh.out.block D HDl.out).trans Hd.out))
          have HF9 := Lib.hid (below_then HF.out HF.out.size hb9)
          have Hi9 := Lib.hid hi9
          have HDA := Lib.hid (show ∀ b o, A = some ⟨b, o, none⟩ → ¬ b = D from fun b o e h => by have := hA9 b o e; have := Hh.out.size; have := HDl.out; omega)
          clear hi9 hA9 hb9 c7 f7 l7 c8 f8 l8
          gi_wp2
          refine ⟨by simp, .inl ⟨_, _, rfl, run_takeDeferred Hd5.out, ?_⟩⟩
          refine ⟨_, results_tmp2 rfl _ _ _, .inr (.inr (.inr ⟨Hgg.out, Hin.out, q, A, Hbest.out, rfl, ?_⟩)), ?_⟩
          · exact Hi9.out.keep (Keep.putObj _ _ _) HDA.out
          · exact HF9.out.trans ((Keep.putObj _ _ _).below (fun k _ e => by have := HD.out; omega) HF9.out.size)
      case round =>
        rintro l Pv pre x rest vs W2 hxs hl hle hpv ⟨hN, hK⟩ hE
        unfold EncMelt at hE
        subst hE
        have hxm := meltsS_mem (fun k => (stock_bd Hg.out k).1) (show x ∈ meltsS B (stockS B) many by rw [hxs]; simp)
        have hnl : n8 ≠ l := by have := k8.lt; omega
        have Hxs := Lib.hid hxs
        have HN := Lib.hid hN
        have HK := Lib.hid hK
        have hb9 : Below W2.heap.size W2 (W2.alloc (.cells (pad4 x) 85)) := (Below.refl _ _).alloc (Nat.le_refl _) _
        have k9 := BoxAt.new W2 (pad4 x) 85
        have hxz := right_nz hxm.2.2
        clear hxs hN hK hxm
        unfold pad4
        gi_wp2
        change Keep _ W2 (W2.alloc (.cells (pad4 x) 85)) ∧ _
        refine ⟨Keep.of_below hb9, ?_⟩
        rintro W3 r hlr hk2
        have hn9 : W2.heap.size ≠ l := fun e => by
          have := cell_ne_loop hlr (p := ⟨W2.heap.size, 0, none⟩) (v := .int .i64 (gi x 0)) (by exact k9.cell 0)
          exact this e
        have K9 := Lib.hid (k9.keep hk2 hn9)
        have HN3 := Lib.hid ((HN.out.below hb9).keep hk2 hnl)
        have HK3 := Lib.hid ((HK.out.trans (Keep.of_below hb9)).trans (hk2.mono fun k _ e => .inr (by omega)))
        have hn89 : n8 < W2.heap.size := HN.out.lt
        generalize W2.heap.size = n9 at *
        clear hb9 k9 hlr hk2 hn9 HN HK
        obtain ⟨c9, f9, l9⟩ := K9.out
        unfold pad4 at c9
        have k8l := k8.lt
        cases hbest : bestOf pre with
        | none =>
          have hbv : bestV pre = [] := by unfold bestV; rw [hbest]; rfl
          have hsn : bestV (pre ++ [x]) = x := by unfold bestV; rw [bestOf_snoc, hbest]; rfl
          have hN4 := HN3.out
          rw [hbv] at hN4
          have hN4 : BoxAt W3 n8 #[.int .i64 0, .int .i64 0, .int .i64 0, .int .i64 0] := hN4
          have HN4 := Lib.hid hN4
          have Hsn := Lib.hid hsn
          obtain ⟨c8, f8, l8⟩ := hN4
          have heq := fun w => eq4 0 0 0 0 0 0 0 0 w
          simp only [decide_true, Bool.and_true] at heq
          clear hbest hsn hbv
          gi_upto_region 10 with (fail)
          refine region_round (S := fun w' => Below W3.heap.size W3 w') 10 (by kernel_rfl) (by kernel_rfl) (fun _ _ h => h) ?_ (fun hHeld => ?_)
          · exact (Below.refl _ _).drew
          first | (refine anyT_take 0 (some 27) (v := ?_) rfl rfl (by kernel_rfl) (by kernel_rfl) (by kernel_rfl) (by kernel_rfl) (fun _ _ _ h => h) (Or.inl ⟨by rfl, ?_⟩) hHeld ?_; rotate_left; focus (intro wq hSw; obtain ⟨hcq, hfq⟩ := bcell hSw; go_simp; (try with_reducible rfl); done))
          (try simp only [Act.put, List.setIfInBounds_toArray, List.set_cons_zero, List.set_cons_succ])
          refine anyT_one 1 (by kernel_rfl) rfl (fun K hK => ?_)
          go_simp
          refine (nothing_calls _).mono ?_; rintro e w8 ⟨rfl, hb8⟩
          refine hK.out _ _ ?_ (fun hHeld => ?_)
          · exact below_then hHeld hHeld.size hb8
          clear hK K
          (try simp only [Act.put, List.setIfInBounds_toArray, List.set_cons_zero, List.set_cons_succ])
          first | (refine anyT_take 2 (some 29) (v := ?_) rfl rfl (by kernel_rfl) (by kernel_rfl) (by kernel_rfl) (by kernel_rfl) (fun _ _ _ h => h) (Or.inl ⟨by rfl, ?_⟩) hHeld ?_; rotate_left; focus (intro wq hSw; obtain ⟨hcq, hfq⟩ := bcell hSw; go_simp; (try with_reducible rfl); done))
          (try simp only [Act.put, List.setIfInBounds_toArray, List.set_cons_zero, List.set_cons_succ])
          first | (refine anyT_take 3 (some 30) (v := ?_) rfl rfl (by kernel_rfl) (by kernel_rfl) (by kernel_rfl) (by kernel_rfl) (fun _ _ _ h => h) (Or.inl ⟨by rfl, ?_⟩) hHeld ?_; rotate_left; focus (intro wq hSw; obtain ⟨hcq, hfq⟩ := bcell hSw; go_simp; (try with_reducible rfl); done))
          (try simp only [Act.put, List.setIfInBounds_toArray, List.set_cons_zero, List.set_cons_succ])
          first | (refine anyT_take 4 (some 31) rfl rfl (by kernel_rfl) (by kernel_rfl) (by kernel_rfl) (by kernel_rfl) (fun _ _ _ h => h) (Or.inr ⟨by rfl, rfl⟩) hHeld ?_) | (refine anyT_take 4 (some 31) (v := ?_) rfl rfl (by kernel_rfl) (by kernel_rfl) (by kernel_rfl) (by kernel_rfl) (fun _ _ _ h => h) (Or.inl ⟨by rfl, ?_⟩) hHeld ?_; rotate_left; focus (intro wq hSw; obtain ⟨hcq, hfq⟩ := bcell hSw; go_simp; (try with_reducible rfl); done))
          (try simp only [Act.put, List.setIfInBounds_toArray, List.set_cons_zero, List.set_cons_succ])
          first | (refine anyT_take 6 (some 33) rfl rfl (by kernel_rfl) (by kernel_rfl) (by kernel_rfl) (by kernel_rfl) (fun _ _ _ h => h) (Or.inr ⟨by rfl, rfl⟩) hHeld ?_) | (refine anyT_take 6 (some 33) (v := ?_) rfl rfl (by kernel_rfl) (by kernel_rfl) (by kernel_rfl) (by kernel_rfl) (fun _ _ _ h => h) (Or.inl ⟨by rfl, ?_⟩) hHeld ?_; rotate_left; focus (intro wq hSw; obtain ⟨hcq, hfq⟩ := bcell hSw; go_simp; (try with_reducible rfl); done))
          (try simp only [Act.put, List.setIfInBounds_toArray, List.set_cons_zero, List.set_cons_succ])
          refine anyT_one 5 (by kernel_rfl) rfl (fun K hK => ?_)
          go_simp
          refine hK.out _ _ ?_ (fun hHeld => ?_)
          · exact hHeld
          clear hK K
          (try simp only [Act.put, List.setIfInBounds_toArray, List.set_cons_zero, List.set_cons_succ])
          refine anyT_one 7 (by kernel_rfl) rfl (fun K hK => ?_)
          go_simp
          refine hK.out _ _ ?_ (fun hHeld => ?_)
          · exact hHeld
          clear hK K
          (try simp only [Act.put, List.setIfInBounds_toArray, List.set_cons_zero, List.set_cons_succ])
          first | (refine anyT_take 8 (some 35) rfl rfl (by kernel_rfl) (by kernel_rfl) (by kernel_rfl) (by kernel_rfl) (fun _ _ _ h => h) (Or.inr ⟨by rfl, rfl⟩) hHeld ?_) | (refine anyT_take 8 (some 35) (v := ?_) rfl rfl (by kernel_rfl) (by kernel_rfl) (by kernel_rfl) (by kernel_rfl) (fun _ _ _ h => h) (Or.inl ⟨by rfl, ?_⟩) hHeld ?_; rotate_left; focus (intro wq hSw; obtain ⟨hcq, hfq⟩ := bcell hSw; go_simp; (try with_reducible rfl); done))
          (try simp only [Act.put, List.setIfInBounds_toArray, List.set_cons_zero, List.set_cons_succ])
          first | (refine anyT_take 9 (some 36) (v := ?_) rfl rfl (by kernel_rfl) (by kernel_rfl) (by kernel_rfl) (by kernel_rfl) (fun _ _ _ h => h) (Or.inl ⟨by rfl, ?_⟩) hHeld ?_; rotate_left; focus (intro wq hSw; obtain ⟨hcq, hfq⟩ := bcell hSw; go_simp; (try with_reducible rfl); done))
          (try simp only [Act.put, List.setIfInBounds_toArray, List.set_cons_zero, List.set_cons_succ])
          refine anyT_done (by kernel_rfl) ?_ _
          have Hh := Lib.hid hHeld
          obtain ⟨c9, f9, l9⟩ := K9.out.below hHeld
          obtain ⟨c8, f8, l8⟩ := HN4.out.below hHeld
          unfold pad4 at c9
          have hst := box_store4 (HN4.out.below hHeld) rfl (.int .i64 (gi x 0)) (.int .i64 (gi x 1)) (.int .i64 (gi x 2)) (.int .i64 (gi x 3))
          have Hst := Lib.hid hst
          clear hHeld hst
          gi_wp2
          refine ⟨(Keep.of_below Hh.out).trans Hst.out.2, ?_, (HK3.out.trans (Keep.of_below Hh.out)).trans (Hst.out.2.mono fun k _ e => .inl e)⟩
          rw [Hsn.out]
          exact Hst.out.1
        | some q =>
          have hq := (bestOf_mem pre none q hbest).resolve_right (by simp)
          have hqm := meltsS_mem (fun k => (stock_bd Hg.out k).1) (show q ∈ meltsS B (stockS B) many by rw [Hxs.out]; simp [hq])
          have hqz := right_nz hqm.2.2
          have hbv : bestV pre = q := by unfold bestV; rw [hbest]; rfl
          have hN4 := HN3.out
          rw [hbv] at hN4
          have HN4 := Lib.hid hN4
          obtain ⟨c8, f8, l8⟩ := hN4
          unfold pad4 at c8
          have heq := fun w => eq4 (gi q 0) (gi q 1) (gi q 2) (gi q 3) 0 0 0 0 w
          change ∀ w, _ = Result.ok (zeroB q) w at heq
          rw [hqz] at heq
          have Hbest := Lib.hid hbest
          clear hq hqm hqz hbv hbest hxz
          by_cases hlt : lotsS x < lotsS q
          · have hsn : bestV (pre ++ [x]) = x := by unfold bestV; rw [bestOf_snoc, Hbest.out]; simp [bestStep, hlt]
            have Hsn := Lib.hid hsn
            have hlti : (lotsS x : Int) < lotsS q := by omega
            clear hsn
            gi_upto_region 10 with (fail)
            refine region_round (S := fun w' => Below W3.heap.size W3 w') 10 (by kernel_rfl) (by kernel_rfl) (fun _ _ h => h) ?_ (fun hHeld => ?_)
            · exact (Below.refl _ _).drew
            first | (refine anyT_take 0 (some 27) (v := ?_) rfl rfl (by kernel_rfl) (by kernel_rfl) (by kernel_rfl) (by kernel_rfl) (fun _ _ _ h => h) (Or.inl ⟨by rfl, ?_⟩) hHeld ?_; rotate_left; focus (intro wq hSw; obtain ⟨hcq, hfq⟩ := bcell hSw; go_simp; (try with_reducible rfl); done))
            (try simp only [Act.put, List.setIfInBounds_toArray, List.set_cons_zero, List.set_cons_succ])
            refine anyT_one 1 (by kernel_rfl) rfl (fun K hK => ?_)
            go_simp
            refine (nothing_calls _).mono ?_; rintro e w8 ⟨rfl, hb8⟩
            refine hK.out _ _ ?_ (fun hHeld => ?_)
            · exact below_then hHeld hHeld.size hb8
            clear hK K
            (try simp only [Act.put, List.setIfInBounds_toArray, List.set_cons_zero, List.set_cons_succ])
            first | (refine anyT_take 2 (some 29) (v := ?_) rfl rfl (by kernel_rfl) (by kernel_rfl) (by kernel_rfl) (by kernel_rfl) (fun _ _ _ h => h) (Or.inl ⟨by rfl, ?_⟩) hHeld ?_; rotate_left; focus (intro wq hSw; obtain ⟨hcq, hfq⟩ := bcell hSw; go_simp; (try with_reducible rfl); done))
            (try simp only [Act.put, List.setIfInBounds_toArray, List.set_cons_zero, List.set_cons_succ])
            first | (refine anyT_take 3 (some 30) (v := ?_) rfl rfl (by kernel_rfl) (by kernel_rfl) (by kernel_rfl) (by kernel_rfl) (fun _ _ _ h => h) (Or.inl ⟨by rfl, ?_⟩) hHeld ?_; rotate_left; focus (intro wq hSw; obtain ⟨hcq, hfq⟩ := bcell hSw; go_simp; (try with_reducible rfl); done))
            (try simp only [Act.put, List.setIfInBounds_toArray, List.set_cons_zero, List.set_cons_succ])
            first | (refine anyT_take 4 (some 31) rfl rfl (by kernel_rfl) (by kernel_rfl) (by kernel_rfl) (by kernel_rfl) (fun _ _ _ h => h) (Or.inr ⟨by rfl, rfl⟩) hHeld ?_) | (refine anyT_take 4 (some 31) (v := ?_) rfl rfl (by kernel_rfl) (by kernel_rfl) (by kernel_rfl) (by kernel_rfl) (fun _ _ _ h => h) (Or.inl ⟨by rfl, ?_⟩) hHeld ?_; rotate_left; focus (intro wq hSw; obtain ⟨hcq, hfq⟩ := bcell hSw; go_simp; (try with_reducible rfl); done))
            (try simp only [Act.put, List.setIfInBounds_toArray, List.set_cons_zero, List.set_cons_succ])
            first | (refine anyT_take 6 (some 33) rfl rfl (by kernel_rfl) (by kernel_rfl) (by kernel_rfl) (by kernel_rfl) (fun _ _ _ h => h) (Or.inr ⟨by rfl, rfl⟩) hHeld ?_) | (refine anyT_take 6 (some 33) (v := ?_) rfl rfl (by kernel_rfl) (by kernel_rfl) (by kernel_rfl) (by kernel_rfl) (fun _ _ _ h => h) (Or.inl ⟨by rfl, ?_⟩) hHeld ?_; rotate_left; focus (intro wq hSw; obtain ⟨hcq, hfq⟩ := bcell hSw; go_simp; (try with_reducible rfl); done))
            (try simp only [Act.put, List.setIfInBounds_toArray, List.set_cons_zero, List.set_cons_succ])
            refine anyT_one 5 (by kernel_rfl) rfl (fun K hK => ?_)
            go_simp
            refine (lots_calls x _).mono ?_; rintro e w9 ⟨rfl, hb8⟩
            refine hK.out _ _ ?_ (fun hHeld => ?_)
            · exact below_then hHeld hHeld.size hb8
            clear hK K
            (try simp only [Act.put, List.setIfInBounds_toArray, List.set_cons_zero, List.set_cons_succ])
            refine anyT_one 7 (by kernel_rfl) rfl (fun K hK => ?_)
            go_simp
            refine (lots_calls q _).mono ?_; rintro e w10 ⟨rfl, hb8⟩
            refine hK.out _ _ ?_ (fun hHeld => ?_)
            · exact below_then hHeld hHeld.size hb8
            clear hK K
            (try simp only [Act.put, List.setIfInBounds_toArray, List.set_cons_zero, List.set_cons_succ])
            first | (refine anyT_take 8 (some 35) rfl rfl (by kernel_rfl) (by kernel_rfl) (by kernel_rfl) (by kernel_rfl) (fun _ _ _ h => h) (Or.inr ⟨by rfl, rfl⟩) hHeld ?_) | (refine anyT_take 8 (some 35) (v := ?_) rfl rfl (by kernel_rfl) (by kernel_rfl) (by kernel_rfl) (by kernel_rfl) (fun _ _ _ h => h) (Or.inl ⟨by rfl, ?_⟩) hHeld ?_; rotate_left; focus (intro wq hSw; obtain ⟨hcq, hfq⟩ := bcell hSw; go_simp; (try with_reducible rfl); done))
            (try simp only [Act.put, List.setIfInBounds_toArray, List.set_cons_zero, List.set_cons_succ])
            first | (refine anyT_take 9 (some 36) (v := ?_) rfl rfl (by kernel_rfl) (by kernel_rfl) (by kernel_rfl) (by kernel_rfl) (fun _ _ _ h => h) (Or.inl ⟨by rfl, ?_⟩) hHeld ?_; rotate_left; focus (intro wq hSw; obtain ⟨hcq, hfq⟩ := bcell hSw; go_simp; (try with_reducible rfl); done))
            (try simp only [Act.put, List.setIfInBounds_toArray, List.set_cons_zero, List.set_cons_succ])
            refine anyT_done (by kernel_rfl) ?_ _
            have Hh := Lib.hid hHeld
            obtain ⟨c9, f9, l9⟩ := K9.out.below hHeld
            obtain ⟨c8, f8, l8⟩ := HN4.out.below hHeld
            unfold pad4 at c9 c8
            have hst := box_store4 (HN4.out.below hHeld) rfl (.int .i64 (gi x 0)) (.int .i64 (gi x 1)) (.int .i64 (gi x 2)) (.int .i64 (gi x 3))
            have Hst := Lib.hid hst
            clear hHeld hst
            gi_wp2
            refine ⟨(Keep.of_below Hh.out).trans Hst.out.2, ?_, (HK3.out.trans (Keep.of_below Hh.out)).trans (Hst.out.2.mono fun k _ e => .inl e)⟩
            rw [Hsn.out]
            exact Hst.out.1
          · have hsn : bestV (pre ++ [x]) = q := by unfold bestV; rw [bestOf_snoc, Hbest.out]; simp [bestStep, hlt]
            have Hsn := Lib.hid hsn
            have hlti : ¬ (lotsS x : Int) < lotsS q := by omega
            clear hsn
            gi_upto_region 10 with (fail)
            refine region_round (S := fun w' => Below W3.heap.size W3 w') 10 (by kernel_rfl) (by kernel_rfl) (fun _ _ h => h) ?_ (fun hHeld => ?_)
            · exact (Below.refl _ _).drew
            first | (refine anyT_take 0 (some 27) (v := ?_) rfl rfl (by kernel_rfl) (by kernel_rfl) (by kernel_rfl) (by kernel_rfl) (fun _ _ _ h => h) (Or.inl ⟨by rfl, ?_⟩) hHeld ?_; rotate_left; focus (intro wq hSw; obtain ⟨hcq, hfq⟩ := bcell hSw; go_simp; (try with_reducible rfl); done))
            (try simp only [Act.put, List.setIfInBounds_toArray, List.set_cons_zero, List.set_cons_succ])
            refine anyT_one 1 (by kernel_rfl) rfl (fun K hK => ?_)
            go_simp
            refine (nothing_calls _).mono ?_; rintro e w8 ⟨rfl, hb8⟩
            refine hK.out _ _ ?_ (fun hHeld => ?_)
            · exact below_then hHeld hHeld.size hb8
            clear hK K
            (try simp only [Act.put, List.setIfInBounds_toArray, List.set_cons_zero, List.set_cons_succ])
            first | (refine anyT_take 2 (some 29) (v := ?_) rfl rfl (by kernel_rfl) (by kernel_rfl) (by kernel_rfl) (by kernel_rfl) (fun _ _ _ h => h) (Or.inl ⟨by rfl, ?_⟩) hHeld ?_; rotate_left; focus (intro wq hSw; obtain ⟨hcq, hfq⟩ := bcell hSw; go_simp; (try with_reducible rfl); done))
            (try simp only [Act.put, List.setIfInBounds_toArray, List.set_cons_zero, List.set_cons_succ])
            first | (refine anyT_take 3 (some 30) (v := ?_) rfl rfl (by kernel_rfl) (by kernel_rfl) (by kernel_rfl) (by kernel_rfl) (fun _ _ _ h => h) (Or.inl ⟨by rfl, ?_⟩) hHeld ?_; rotate_left; focus (intro wq hSw; obtain ⟨hcq, hfq⟩ := bcell hSw; go_simp; (try with_reducible rfl); done))
            (try simp only [Act.put, List.setIfInBounds_toArray, List.set_cons_zero, List.set_cons_succ])
            first | (refine anyT_take 4 (some 31) rfl rfl (by kernel_rfl) (by kernel_rfl) (by kernel_rfl) (by kernel_rfl) (fun _ _ _ h => h) (Or.inr ⟨by rfl, rfl⟩) hHeld ?_) | (refine anyT_take 4 (some 31) (v := ?_) rfl rfl (by kernel_rfl) (by kernel_rfl) (by kernel_rfl) (by kernel_rfl) (fun _ _ _ h => h) (Or.inl ⟨by rfl, ?_⟩) hHeld ?_; rotate_left; focus (intro wq hSw; obtain ⟨hcq, hfq⟩ := bcell hSw; go_simp; (try with_reducible rfl); done))
            (try simp only [Act.put, List.setIfInBounds_toArray, List.set_cons_zero, List.set_cons_succ])
            first | (refine anyT_take 6 (some 33) rfl rfl (by kernel_rfl) (by kernel_rfl) (by kernel_rfl) (by kernel_rfl) (fun _ _ _ h => h) (Or.inr ⟨by rfl, rfl⟩) hHeld ?_) | (refine anyT_take 6 (some 33) (v := ?_) rfl rfl (by kernel_rfl) (by kernel_rfl) (by kernel_rfl) (by kernel_rfl) (fun _ _ _ h => h) (Or.inl ⟨by rfl, ?_⟩) hHeld ?_; rotate_left; focus (intro wq hSw; obtain ⟨hcq, hfq⟩ := bcell hSw; go_simp; (try with_reducible rfl); done))
            (try simp only [Act.put, List.setIfInBounds_toArray, List.set_cons_zero, List.set_cons_succ])
            refine anyT_one 5 (by kernel_rfl) rfl (fun K hK => ?_)
            go_simp
            refine (lots_calls x _).mono ?_; rintro e w9 ⟨rfl, hb8⟩
            refine hK.out _ _ ?_ (fun hHeld => ?_)
            · exact below_then hHeld hHeld.size hb8
            clear hK K
            (try simp only [Act.put, List.setIfInBounds_toArray, List.set_cons_zero, List.set_cons_succ])
            refine anyT_one 7 (by kernel_rfl) rfl (fun K hK => ?_)
            go_simp
            refine (lots_calls q _).mono ?_; rintro e w10 ⟨rfl, hb8⟩
            refine hK.out _ _ ?_ (fun hHeld => ?_)
            · exact below_then hHeld hHeld.size hb8
            clear hK K
            (try simp only [Act.put, List.setIfInBounds_toArray, List.set_cons_zero, List.set_cons_succ])
            first | (refine anyT_take 8 (some 35) rfl rfl (by kernel_rfl) (by kernel_rfl) (by kernel_rfl) (by kernel_rfl) (fun _ _ _ h => h) (Or.inr ⟨by rfl, rfl⟩) hHeld ?_) | (refine anyT_take 8 (some 35) (v := ?_) rfl rfl (by kernel_rfl) (by kernel_rfl) (by kernel_rfl) (by kernel_rfl) (fun _ _ _ h => h) (Or.inl ⟨by rfl, ?_⟩) hHeld ?_; rotate_left; focus (intro wq hSw; obtain ⟨hcq, hfq⟩ := bcell hSw; go_simp; (try with_reducible rfl); done))
            (try simp only [Act.put, List.setIfInBounds_toArray, List.set_cons_zero, List.set_cons_succ])
            first | (refine anyT_take 9 (some 36) (v := ?_) rfl rfl (by kernel_rfl) (by kernel_rfl) (by kernel_rfl) (by kernel_rfl) (fun _ _ _ h => h) (Or.inl ⟨by rfl, ?_⟩) hHeld ?_; rotate_left; focus (intro wq hSw; obtain ⟨hcq, hfq⟩ := bcell hSw; go_simp; (try with_reducible rfl); done))
            (try simp only [Act.put, List.setIfInBounds_toArray, List.set_cons_zero, List.set_cons_succ])
            refine anyT_done (by kernel_rfl) ?_ _
            have Hh := Lib.hid hHeld
            clear hHeld
            gi_wp2
            refine ⟨Keep.of_below Hh.out, ?_, HK3.out.trans (Keep.of_below Hh.out)⟩
            rw [Hsn.out]
            exact HN4.out.below Hh.out
end
end Go.Proofs.YtgfbfbfajnfbjaaDoor
