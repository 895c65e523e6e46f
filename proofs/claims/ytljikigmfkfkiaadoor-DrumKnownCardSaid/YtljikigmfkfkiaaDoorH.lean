import Derived.Test.YtljikigmfkfkiaaDoorF
namespace Go.Proofs.YtljikigmfkfkiaaDoor
open Go.RowKit Go.Shelf
attribute [local go_sem] Oper.semAt_some
set_option linter.unusedSimpArgs false
set_option linter.unusedVariables false
set_option maxRecDepth 100000 in
set_option maxHeartbeats 4000000 in
theorem late_true (B : BookV) (g : B.Good) (pb po : Nat) (hA : B.pA = some ⟨pb, po, none⟩) (b o c : Nat) (path : List Int) (hp : IsPath B path) (j n : Nat) (hj : j < B.players.length) (hn : n ≤ (B.parts * B.size).toNat) (w : World)
    (hpl : PlayersAt w B.pA B.players) (hpa : IntsAt w (some ⟨b, o, none⟩) path) (hMk : MarksAt w) :
    Calls Tryd.prog 66 #[B.val, .slice (some ⟨b, o, none⟩) path.length c, .int .i64 j, .int .i64 n, endV true, endV false] w fun e w' => e = .returned (.int .i64 (lateTo B path (gp B.players j) true n)) ∧ Below w.heap.size w w' := by
  obtain ⟨hpl1, hpl2, hpl3⟩ := hpl
  have hpc := hpl2.resolve_left (by intro h; rw [h] at hj; simp at hj)
  obtain ⟨b2, o2, e2, hcells⟩ := hpc
  rw [hA] at e2; cases e2
  obtain ⟨c0, c1, c2⟩ := hcells j hj
  have hbl := World.block_lt_of_cell? w _ c0
  obtain ⟨n1, n2, n3, n4, n5, n6⟩ := old_lt hbl
  have hgj := g.late j hj
  have Hg := Lib.hid g
  have Hp := Lib.hid hp
  have Hcl := Lib.hid hcells
  have HA := Lib.hid hA
  have Hpl3 := Lib.hid hpl3
  have Hpa := Lib.hid hpa
  have HMk := Lib.hid hMk
  clear hMk
  have Hn := Lib.hid hn
  clear hcells hA g hp hpl2 hpl3 hpa hn
  generalize hpv : gp B.players j = p at *
  obtain ⟨plo, phi, pcA, pcC, pct⟩ := p
  have Hpv := Lib.hid hpv
  clear hpv
  simp only at c0 c1 c2 hgj
  unfold BookV.val BookV.cells
  rw [HA.out]
  unfold endV
  rw [cond_false, cond_true]
  refine (callsIn_wide (n := 0)).1 ?_
  refine callsIn_of_wp_marks Tryd.func66 rfl trivial ?_ rfl
  simp only [Tryd.ntmps66, List.size_toArray, List.length_cons, List.length_nil, Nat.reduceAdd, Nat.reduceSub, Array.replicate_succ, Array.replicate_zero, List.push_toArray, List.append_toArray, List.nil_append, List.cons_append]
  gi_wp2_with fail
  refine ⟨trivial, rfl, ?_⟩
  refine (callsIn_wide.2 (high1_calls _ _ _)).mono ?_
  rintro e w1 ⟨rfl, hb1⟩
  have k6 := BoxAt.below (((((BoxAt.new w _ _).alloc _).alloc _).alloc _).alloc _) hb1
  have k7 := BoxAt.below ((((BoxAt.new (w.alloc _) _ _).alloc _).alloc _).alloc _) hb1
  have k10 := BoxAt.below (((BoxAt.new ((w.alloc _).alloc _) _ _).alloc _).alloc _) hb1
  have k11 := BoxAt.below ((BoxAt.new (((w.alloc _).alloc _).alloc _) _ _).alloc _) hb1
  have k13 := BoxAt.below (BoxAt.new ((((w.alloc _).alloc _).alloc _).alloc _) _ _) hb1
  have H1 : Below w.heap.size w w1 := below_then (((((Below.refl _ _).alloc (Nat.le_refl _) _).alloc (by simp) _).alloc (by simp; omega) _).alloc (by simp; omega) _ |>.alloc (by simp; omega) _) (by simp; omega) hb1
  simp only [World.size_alloc] at k7 k10 k11 k13
  clear hb1 c0 c1 c2
  obtain ⟨c6, f6, l6⟩ := k6
  obtain ⟨c7, f7, l7⟩ := k7
  obtain ⟨c10, f10, l10⟩ := k10
  obtain ⟨c11, f11, l11⟩ := k11
  obtain ⟨c13, f13, l13⟩ := k13
  gi_wp2_with fail
  refine ⟨trivial, rfl, ?_⟩
  refine (callsIn_wide.2 (eq0_2 (v' := B.val) (by unfold BookV.val BookV.cells; rw [HA.out]) (beats_box B n _))).mono ?_
  rintro e w2 ⟨bm, bb, rfl, km, kb, lm, lb, hb2⟩
  have k14 := (BoxAt.new w1 _ _).below hb2
  have k6 := (BoxAt.mk c6 f6 l6).alloc _ |>.below hb2
  have k7 := (BoxAt.mk c7 f7 l7).alloc _ |>.below hb2
  have k10 := (BoxAt.mk c10 f10 l10).alloc _ |>.below hb2
  have k11 := (BoxAt.mk c11 f11 l11).alloc _ |>.below hb2
  have k13 := (BoxAt.mk c13 f13 l13).alloc _ |>.below hb2
  have H2 : Below w.heap.size w w2 := below_then (H1.alloc H1.size _) (by simp; have := H1.size; omega) hb2
  rw [World.size_alloc] at lm lb
  have Hlt : w1.heap.size < bm ∧ w1.heap.size < bb := ⟨by omega, by omega⟩
  have H14 : w.heap.size + 1 + 1 + 1 + 1 < w1.heap.size := l13
  clear hb2 c6 f6 l6 c7 f7 l7 c10 f10 l10 c11 f11 l11 c13 f13 l13 lm lb
  generalize w1.heap.size = nb at *
  clear H1
  gi_wp2_with fail
  have cm0 : w2.cell? ⟨bm, 0, none⟩ = some (.int .i64 n) := by simpa using km.cell 0
  have cb0 : w2.cell? ⟨bb, 1, none⟩ = some (.int .i64 B.size) := by simpa [BookV.cells] using kb.cell 1
  have hnm : n ≤ 1000000 := by
    have h1 := Hg.out.parts; have h2 := Hg.out.size; have h3 := Hn.out
    have h4 : B.parts * B.size ≤ 8 * 16 := Int.mul_le_mul h1.2 h2.2 (by omega) (by omega)
    omega
  have hnb : nb < w2.heap.size := k14.lt
  refine wpIn_range_x (gf := 98) (lb := #[.pointer (some ⟨bm, 0, none⟩), .pointer (some ⟨bb, 0, none⟩)]) rfl (enters_of Tryd.func98 (by kernel_rfl) rfl)
    (beats_seq B n bm bb (fun k => k = nb) w2 Hg.out.size.1 hnm (by omega) (by omega) cm0 cb0) (fun _ => False) (fun k hk => by omega) (fun _ h => h.elim) (fun x vs W hE => by rw [show vs = _ from hE]; rfl)
    (fun pre W => BoxAt W nb #[.int .i64 (lateTo B path (gp B.players j) true pre.length)] ∧ Keep (fun k => k = nb ∨ w2.heap.size ≤ k) w2 W) (fun _ _ _ => False)
    (fun l s X Y r hl hr hk hI => ⟨hI.1.keep hk (by omega), hI.2.trans (hk.mono fun k _ e => .inr (by omega))⟩)
    (fun s X Y hI hb => ⟨hI.1.below hb, hI.2.trans (Keep.of_below hb)⟩)
    (fun _ _ _ _ _ _ _ _ _ h => h) (fun _ _ _ _ h _ => h)
    ⟨by rw [Hpv.out]; exact k14, Keep.refl _ _⟩ ?round ?done ?stop
  case stop => rintro D c pre W _ _ _ h; exact h.elim
  case done =>
    rintro D W hD hK ⟨hN, _⟩ hd
    obtain ⟨c14, f14, l14⟩ := hN
    rw [List.length_range, Hpv.out] at c14
    have Hb : Below w.heap.size w W := H2.trans (hK.below (fun k _ h => by have := H2.size; omega) H2.size)
    have Hd := Lib.hid hd
    clear hd hK
    gi_wp2
    refine ⟨by simp, .inl ⟨_, _, rfl, run_takeDeferred Hd.out, ?_⟩⟩
    refine ⟨_, results_tmp rfl _ _ _, rfl, ?_⟩
    exact Hb.trans ((Keep.putObj _ _ _).below (fun k _ e => by have := H2.size; omega) Hb.size)
  case round =>
    rintro l pre x rest vs W hxs hl hle ⟨hN, hK⟩ hE
    obtain ⟨rfl, hlt⟩ := range_at hxs
    rw [show vs = _ from hE]
    gi_wp2
    refine ⟨Keep.refl _ _, ?_⟩
    rintro W2 r hlr hk2
    have hK2 : Keep (fun k => k = nb ∨ w2.heap.size ≤ k) w2 W2 := hK.trans (hk2.mono fun k _ e => .inr (by omega))
    have hBl : Below w.heap.size w W2 := H2.trans (hK2.below (fun k _ h => by have := H2.size; omega) H2.size)
    obtain ⟨c6, f6, l6⟩ := k6.keep hK2 (by omega)
    obtain ⟨c7, f7, l7⟩ := k7.keep hK2 (by have := k7.lt; omega)
    obtain ⟨c10, f10, l10⟩ := k10.keep hK2 (by have := k10.lt; omega)
    obtain ⟨c11, f11, l11⟩ := k11.keep hK2 (by have := k11.lt; omega)
    obtain ⟨c13, f13, l13⟩ := k13.keep hK2 (by have := k13.lt; omega)
    obtain ⟨c14, f14, l14⟩ := hN.keep hk2 (by omega)
    have hq := part_lt Hg.out Hp.out.len hlt Hn.out
    have hln := (lateTo_bd Hg.out path (gp B.players j) true (Hg.out.late j hj) (fun k => (catchAt_bd Hg.out Hp.out hj true k).1) pre.length)
    generalize hkk : pre.length = k at *
    have Hk := Lib.hid hkk
    clear hN hK hlr hk2 km kb k6 k7 k10 k11 k13 k14 hE hxs hkk
    generalize hL : lateTo B path (gp B.players j) true k = L at *
    have HL := Lib.hid hL
    clear hL
    -- what is read of the book and the path
    obtain ⟨hsp, hsc⟩ := Hpl3.out _ (gp_mem hj)
    rw [Hpv.out] at hsp hsc
    have hcl := Hg.out.catchLen j hj
    have hcb := Hg.out.catches j hj
    rw [Hpv.out] at hcl hcb
    simp only at hsp hsc hcl hcb
    obtain ⟨cb, co, rfl, hcc⟩ := hsp.2.resolve_left (by intro h; rw [h] at hcl; simp at hcl)
    have hrg := Hp.out.range _ hq
    obtain ⟨lv, hlv⟩ := Int.eq_ofNat_of_zero_le hrg.1
    have hlv4 : lv < 4 := by omega
    have hlvi : (lv : Int) < 4 := by omega
    have pq := cell_below hBl (Hpa.out.at_ hq)
    have pq' := cell_below hBl (Hpa.out.at_ (show partOf B.size k - 1 < path.length by omega))
    rw [hlv] at pq
    obtain ⟨q0, q1⟩ := hcc lv (by omega)
    have cbw : cb < w.heap.size := World.block_lt_of_cell? w _ q0
    replace q0 := cell_below hBl q0
    replace q1 := cell_below hBl q1
    obtain ⟨hb0, hb1, hb2⟩ := hcb lv hlv4
    have pbl := World.block_lt_of_cell? W2 _ pq
    have cbl := World.block_lt_of_cell? W2 _ q0
    simp only at pbl cbl
    have hcat : catchAt B path (gp B.players j) true k = (gs pct lv).1 := by
      unfold catchAt; rw [Hpv.out, hlv]; simp [endOf]
    have Hcat := Lib.hid hcat
    have Hlv := Lib.hid hlv
    have hsz := Hg.out.size
    have hsl := Hg.out.slip
    have hpl : path.length ≤ 9223372036854775807 := Hpa.out.1
    generalize hc1 : (gs pct lv).1 = x1 at *
    generalize hc2 : (gs pct lv).2 = x2 at *
    clear hc1 hc2 hcat hlv hsp hsc hcb hcc hrg
    have hrm : (k : Int) % B.size = ((k % B.size.toNat : Nat) : Int) := by
      rw [Int.natCast_emod, Int.toNat_of_nonneg (by omega)]
    have Hq := Lib.hid hq
    have hLx : L ≤ 200000000 := by omega
    obtain ⟨mk0, mk1⟩ := HMk.out.below hBl
    have mkl := World.block_lt_of_cell? W2 _ mk0
    simp only at mkl
    -- the round's end, whatever the slip
    have Hend : ∀ (s : Int) (W5 W6 : World), slipAt B path true k = s → Keep (fun k => k = nb) W2 W5 → BoxAt W5 nb #[.int .i64 (L + s)] → Below W5.heap.size W5 W6 → ∀ v, v = max 0 (L + s - x1) →
        Keep (fun k => k = nb) W2 (W6.setCell ⟨nb, 0, none⟩ (.int .i64 v)) ∧ BoxAt (W6.setCell ⟨nb, 0, none⟩ (.int .i64 v)) nb #[.int .i64 (lateTo B path (gp B.players j) true (pre ++ [k]).length)] ∧
          Keep (fun k => k = nb ∨ w2.heap.size ≤ k) w2 (W6.setCell ⟨nb, 0, none⟩ (.int .i64 v)) := by
      rintro s W5 W6 hs hK5 hB5 hB6 v rfl
      have kf := (hK5.trans (Keep.of_below hB6)).setCell (p := ⟨nb, 0, none⟩) (.inl rfl) (.int .i64 (max 0 (L + s - x1)))
      refine ⟨kf, ?_, hK2.trans (kf.mono fun k _ e => .inl e)⟩
      have hlen : (pre ++ [k]).length = k + 1 := by rw [List.length_append, Hk.out]; rfl
      rw [hlen, lateTo, HL.out, hs, Hcat.out]
      exact BoxAt.set1 (hB5.below hB6) _
    have pbw : b < w.heap.size := World.block_lt_of_cell? w _ (Hpa.out.at_ Hq.out)
    by_cases hm : k % B.size.toNat = 0 ∧ 0 < partOf B.size k
    · obtain ⟨hm0, hm1⟩ := hm
      have hrb : ((k : Int) % B.size == 0) = true := by rw [hrm, hm0]; rfl
      have hsb := endOf_le (hi := true) hsl.1 hsl.2.1 hsl.2.2
      have Hsd : Hid (¬ gi path (partOf B.size k) = gi path (partOf B.size k - 1) → slipAt B path true k = endOf true B.slo B.shi) := fun h => by unfold slipAt; rw [if_pos ⟨hm0, hm1, h⟩]
      have Hss : Hid (gi path (partOf B.size k) = gi path (partOf B.size k - 1) → slipAt B path true k = 0) := fun h => by unfold slipAt; rw [if_neg (fun hh => hh.2.2 h)]
      clear hrm hm0
      generalize partOf B.size k = q at *
      have hd : decide ((0 : Int) < (q : Int)) = true := by simpa using hm1
      have hqi : (1 : Int) ≤ (q : Int) := by omega
      have hq1 : ((q : Int) - 1).toNat = q - 1 := by omega
      have hqp : (q : Int) - 1 < (path.length : Int) := by omega
      have hwq : IntKind.i64.wrap ((q : Int) - 1) = (q : Int) - 1 := wrap_in (by omega) (by omega)
      by_cases heq : (lv : Int) = gi path (q - 1)
      · have hsa : slipAt B path true k = 0 := Hss.out (by rw [Hlv.out]; exact heq)
        have Hsa := Lib.hid hsa
        have hbe : ((lv : Int) == gi path (q - 1)) = true := by rw [beq_iff_eq]; exact heq
        have hwr : IntKind.i64.wrap (L - x1) = L - x1 := wrap_in (by omega) (by omega)
        have hwl : IntKind.i64.wrap L = L := wrap_in (by omega) (by omega)
        clear hsa heq
        gi_wp2
        refine region_round (S := fun w' => Below W2.heap.size W2 w') 10 (by kernel_rfl) (by kernel_rfl) (fun _ _ h => h) ?_ (fun hHeld => ?_)
        · exact (Below.refl _ _).drew
        first | (refine anyT_take 0 (some 44) (v := ?_) rfl rfl (by kernel_rfl) (by kernel_rfl) (by kernel_rfl) (by kernel_rfl) (fun _ _ _ h => h) (Or.inl ⟨by rfl, ?_⟩) hHeld ?_; rotate_left; focus (intro wq hSw; obtain ⟨hcq, hfq⟩ := bcell hSw; go_simp; (try with_reducible rfl); done))
        (try simp only [Act.put, List.setIfInBounds_toArray, List.set_cons_zero, List.set_cons_succ])
        first | (refine anyT_take 1 (some 45) (v := ?_) rfl rfl (by kernel_rfl) (by kernel_rfl) (by kernel_rfl) (by kernel_rfl) (fun _ _ _ h => h) (Or.inl ⟨by rfl, ?_⟩) hHeld ?_; rotate_left; focus (intro wq hSw; obtain ⟨hcq, hfq⟩ := bcell hSw; go_simp; (try with_reducible rfl); done))
        (try simp only [Act.put, List.setIfInBounds_toArray, List.set_cons_zero, List.set_cons_succ])
        first | (refine anyT_take 2 (some 46) (v := ?_) rfl rfl (by kernel_rfl) (by kernel_rfl) (by kernel_rfl) (by kernel_rfl) (fun _ _ _ h => h) (Or.inl ⟨by rfl, ?_⟩) hHeld ?_; rotate_left; focus (intro wq hSw; obtain ⟨hcq, hfq⟩ := bcell hSw; go_simp; (try with_reducible rfl); done))
        (try simp only [Act.put, List.setIfInBounds_toArray, List.set_cons_zero, List.set_cons_succ])
        first | (refine anyT_take 3 (some 47) (v := ?_) rfl rfl (by kernel_rfl) (by kernel_rfl) (by kernel_rfl) (by kernel_rfl) (fun _ _ _ h => h) (Or.inl ⟨by rfl, ?_⟩) hHeld ?_; rotate_left; focus (intro wq hSw; obtain ⟨hcq, hfq⟩ := bcell hSw; go_simp; (try with_reducible rfl); done))
        (try simp only [Act.put, List.setIfInBounds_toArray, List.set_cons_zero, List.set_cons_succ])
        first | (refine anyT_take 4 (some 48) (v := ?_) rfl rfl (by kernel_rfl) (by kernel_rfl) (by kernel_rfl) (by kernel_rfl) (fun _ _ _ h => h) (Or.inl ⟨by rfl, ?_⟩) hHeld ?_; rotate_left; focus (intro wq hSw; obtain ⟨hcq, hfq⟩ := bcell hSw; go_simp; (try with_reducible rfl); done))
        (try simp only [Act.put, List.setIfInBounds_toArray, List.set_cons_zero, List.set_cons_succ])
        first | (refine anyT_take 5 (some 49) (v := ?_) rfl rfl (by kernel_rfl) (by kernel_rfl) (by kernel_rfl) (by kernel_rfl) (fun _ _ _ h => h) (Or.inl ⟨by rfl, ?_⟩) hHeld ?_; rotate_left; focus (intro wq hSw; obtain ⟨hcq, hfq⟩ := bcell hSw; go_simp; (try with_reducible rfl); done))
        (try simp only [Act.put, List.setIfInBounds_toArray, List.set_cons_zero, List.set_cons_succ])
        first | (refine anyT_take 6 (some 50) (v := ?_) rfl rfl (by kernel_rfl) (by kernel_rfl) (by kernel_rfl) (by kernel_rfl) (fun _ _ _ h => h) (Or.inl ⟨by rfl, ?_⟩) hHeld ?_; rotate_left; focus (intro wq hSw; obtain ⟨hcq, hfq⟩ := bcell hSw; go_simp; (try with_reducible rfl); done))
        (try simp only [Act.put, List.setIfInBounds_toArray, List.set_cons_zero, List.set_cons_succ])
        first | (refine anyT_take 7 (some 51) (v := ?_) rfl rfl (by kernel_rfl) (by kernel_rfl) (by kernel_rfl) (by kernel_rfl) (fun _ _ _ h => h) (Or.inl ⟨by rfl, ?_⟩) hHeld ?_; rotate_left; focus (intro wq hSw; obtain ⟨hcq, hfq⟩ := bcell hSw; go_simp; (try with_reducible rfl); done))
        (try simp only [Act.put, List.setIfInBounds_toArray, List.set_cons_zero, List.set_cons_succ])
        first | (refine anyT_take 8 (some 52) (v := ?_) rfl rfl (by kernel_rfl) (by kernel_rfl) (by kernel_rfl) (by kernel_rfl) (fun _ _ _ h => h) (Or.inl ⟨by rfl, ?_⟩) hHeld ?_; rotate_left; focus (intro wq hSw; obtain ⟨hcq, hfq⟩ := bcell hSw; go_simp; (try with_reducible rfl); done))
        (try simp only [Act.put, List.setIfInBounds_toArray, List.set_cons_zero, List.set_cons_succ])
        first | (refine anyT_take 9 (some 53) (v := ?_) rfl rfl (by kernel_rfl) (by kernel_rfl) (by kernel_rfl) (by kernel_rfl) (fun _ _ _ h => h) (Or.inl ⟨by rfl, ?_⟩) hHeld ?_; rotate_left; focus (intro wq hSw; obtain ⟨hcq, hfq⟩ := bcell hSw; go_simp; (try with_reducible rfl); done))
        (try simp only [Act.put, List.setIfInBounds_toArray, List.set_cons_zero, List.set_cons_succ])
        refine anyT_done (by kernel_rfl) ?_ _
        gi_wp2
        refine region_round (S := fun w' => Below W2.heap.size W2 w') 8 (by kernel_rfl) (by kernel_rfl) (fun _ _ h => h) ?_ (fun hHeld => ?_)
        · exact ((Below.refl _ _).drew).drew
        first | (refine anyT_take 0 (some 54) (v := ?_) rfl rfl (by kernel_rfl) (by kernel_rfl) (by kernel_rfl) (by kernel_rfl) (fun _ _ _ h => h) (Or.inl ⟨by rfl, ?_⟩) hHeld ?_; rotate_left; focus (intro wq hSw; obtain ⟨hcq, hfq⟩ := bcell hSw; go_simp; (try with_reducible rfl); done))
        (try simp only [Act.put, List.setIfInBounds_toArray, List.set_cons_zero, List.set_cons_succ])
        first | (refine anyT_take 1 (some 55) (v := ?_) rfl rfl (by kernel_rfl) (by kernel_rfl) (by kernel_rfl) (by kernel_rfl) (fun _ _ _ h => h) (Or.inl ⟨by rfl, ?_⟩) hHeld ?_; rotate_left; focus (intro wq hSw; obtain ⟨hcq, hfq⟩ := bcell hSw; go_simp; (try with_reducible rfl); done))
        (try simp only [Act.put, List.setIfInBounds_toArray, List.set_cons_zero, List.set_cons_succ])
        first | (refine anyT_take 2 (some 56) (v := ?_) rfl rfl (by kernel_rfl) (by kernel_rfl) (by kernel_rfl) (by kernel_rfl) (fun _ _ _ h => h) (Or.inl ⟨by rfl, ?_⟩) hHeld ?_; rotate_left; focus (intro wq hSw; obtain ⟨hcq, hfq⟩ := bcell hSw; go_simp; (try with_reducible rfl); done))
        (try simp only [Act.put, List.setIfInBounds_toArray, List.set_cons_zero, List.set_cons_succ])
        first | (refine anyT_take 3 (some 57) (v := ?_) rfl rfl (by kernel_rfl) (by kernel_rfl) (by kernel_rfl) (by kernel_rfl) (fun _ _ _ h => h) (Or.inl ⟨by rfl, ?_⟩) hHeld ?_; rotate_left; focus (intro wq hSw; obtain ⟨hcq, hfq⟩ := bcell hSw; go_simp; (try with_reducible rfl); done))
        (try simp only [Act.put, List.setIfInBounds_toArray, List.set_cons_zero, List.set_cons_succ])
        first | (refine anyT_take 4 (some 58) (v := ?_) rfl rfl (by kernel_rfl) (by kernel_rfl) (by kernel_rfl) (by kernel_rfl) (fun _ _ _ h => h) (Or.inl ⟨by rfl, ?_⟩) hHeld ?_; rotate_left; focus (intro wq hSw; obtain ⟨hcq, hfq⟩ := bcell hSw; go_simp; (try with_reducible rfl); done))
        (try simp only [Act.put, List.setIfInBounds_toArray, List.set_cons_zero, List.set_cons_succ])
        first | (refine anyT_take 5 (some 59) (v := ?_) rfl rfl (by kernel_rfl) (by kernel_rfl) (by kernel_rfl) (by kernel_rfl) (fun _ _ _ h => h) (Or.inl ⟨by rfl, ?_⟩) hHeld ?_; rotate_left; focus (intro wq hSw; obtain ⟨hcq, hfq⟩ := bcell hSw; go_simp; (try with_reducible rfl); done))
        (try simp only [Act.put, List.setIfInBounds_toArray, List.set_cons_zero, List.set_cons_succ])
        refine anyT_one 6 (by kernel_rfl) rfl (fun K hK => ?_)
        go_simp
        refine (eq0_2 (v' := B.val) (by unfold BookV.val BookV.cells; rw [HA.out]) (stays_calls B _ _)).mono ?_; rintro e w3 ⟨rfl, hb3⟩
        refine hK.out _ _ ?_ (fun hHeld => ?_)
        · exact below_then hHeld hHeld.size hb3
        clear hK K
        (try simp only [Act.put, List.setIfInBounds_toArray, List.set_cons_zero, List.set_cons_succ])
        first | (refine anyT_take 7 (some 61) (v := ?_) rfl rfl (by kernel_rfl) (by kernel_rfl) (by kernel_rfl) (by kernel_rfl) (fun _ _ _ h => h) (Or.inl ⟨by rfl, ?_⟩) hHeld ?_; rotate_left; focus (intro wq hSw; obtain ⟨hcq, hfq⟩ := bcell hSw; go_simp; (try with_reducible rfl); done))
        (try simp only [Act.put, List.setIfInBounds_toArray, List.set_cons_zero, List.set_cons_succ])
        refine anyT_last (by kernel_rfl) rfl (fun K hK => ?_)
        obtain ⟨hcq, hfq⟩ := bcell hHeld
        go_simp
        refine hK.out _ _ ?_
        clear hK K
        (try simp only [Act.put, List.setIfInBounds_toArray, List.set_cons_zero, List.set_cons_succ])
        refine anyT_done (by kernel_rfl) ?_ _
        gi_wp2
        obtain ⟨W5, hW5⟩ : ∃ W5, W5 = w3.setCell ⟨nb, 0, none⟩ (.int .i64 (L + 0)) := ⟨_, rfl⟩
        have kf5 : Keep (fun k => k = nb) W2 W5 := by rw [hW5]; exact (Keep.of_below (M := fun k => k = nb) hHeld).setCell (p := ⟨nb, 0, none⟩) (.inl rfl) _
        have hB5 : BoxAt W5 nb #[.int .i64 (L + 0)] := by rw [hW5]; exact BoxAt.set1 ((BoxAt.mk c14 f14 l14).below hHeld) _
        first | rw [← hW5] | (rw [Int.add_zero] at hW5; rw [← hW5])
        clear hHeld hW5
        have nbs := l14
        obtain ⟨c7', f7', l7'⟩ := (BoxAt.mk c7 f7 l7).keep kf5 (by omega)
        obtain ⟨c11', f11', l11'⟩ := (BoxAt.mk c11 f11 l11).keep kf5 (by omega)
        obtain ⟨c13', f13', l13'⟩ := (BoxAt.mk c13 f13 l13).keep kf5 (by omega)
        obtain ⟨c14', f14', l14'⟩ := hB5
        have pq5 := kf5.cell pq (by show ¬ b = nb; omega)
        have q05 := kf5.cell q0 (by show ¬ cb = nb; omega)
        have q15 := kf5.cell q1 (by show ¬ cb = nb; omega)
        have pbl5 := World.block_lt_of_cell? W5 _ pq5
        have cbl5 := World.block_lt_of_cell? W5 _ q05
        simp only at pbl5 cbl5
        clear c6 f6 l6 c7 f7 l7 c10 f10 l10 c11 f11 l11 c13 f13 l13 c14 f14 pq q0 q1 pq' pbl cbl
        refine region_round (S := fun w' => Below W5.heap.size W5 w') 15 (by kernel_rfl) (by kernel_rfl) (fun _ _ h => h) ?_ (fun hHeld => ?_)
        · exact (Below.refl _ _).drew
        first | (refine anyT_take 0 (some 62) (v := ?_) rfl rfl (by kernel_rfl) (by kernel_rfl) (by kernel_rfl) (by kernel_rfl) (fun _ _ _ h => h) (Or.inl ⟨by rfl, ?_⟩) hHeld ?_; rotate_left; focus (intro wq hSw; obtain ⟨hcq, hfq⟩ := bcell hSw; go_simp; (try with_reducible rfl); done))
        (try simp only [Act.put, List.setIfInBounds_toArray, List.set_cons_zero, List.set_cons_succ])
        first | (refine anyT_take 1 (some 63) (v := ?_) rfl rfl (by kernel_rfl) (by kernel_rfl) (by kernel_rfl) (by kernel_rfl) (fun _ _ _ h => h) (Or.inl ⟨by rfl, ?_⟩) hHeld ?_; rotate_left; focus (intro wq hSw; obtain ⟨hcq, hfq⟩ := bcell hSw; go_simp; (try with_reducible rfl); done))
        (try simp only [Act.put, List.setIfInBounds_toArray, List.set_cons_zero, List.set_cons_succ])
        first | (refine anyT_take 2 (some 64) (v := ?_) rfl rfl (by kernel_rfl) (by kernel_rfl) (by kernel_rfl) (by kernel_rfl) (fun _ _ _ h => h) (Or.inl ⟨by rfl, ?_⟩) hHeld ?_; rotate_left; focus (intro wq hSw; obtain ⟨hcq, hfq⟩ := bcell hSw; go_simp; (try with_reducible rfl); done))
        (try simp only [Act.put, List.setIfInBounds_toArray, List.set_cons_zero, List.set_cons_succ])
        first | (refine anyT_take 3 (some 65) (v := ?_) rfl rfl (by kernel_rfl) (by kernel_rfl) (by kernel_rfl) (by kernel_rfl) (fun _ _ _ h => h) (Or.inl ⟨by rfl, ?_⟩) hHeld ?_; rotate_left; focus (intro wq hSw; obtain ⟨hcq, hfq⟩ := bcell hSw; go_simp; (try with_reducible rfl); done))
        (try simp only [Act.put, List.setIfInBounds_toArray, List.set_cons_zero, List.set_cons_succ])
        first | (refine anyT_take 4 (some 66) (v := ?_) rfl rfl (by kernel_rfl) (by kernel_rfl) (by kernel_rfl) (by kernel_rfl) (fun _ _ _ h => h) (Or.inl ⟨by rfl, ?_⟩) hHeld ?_; rotate_left; focus (intro wq hSw; obtain ⟨hcq, hfq⟩ := bcell hSw; go_simp; (try with_reducible rfl); done))
        (try simp only [Act.put, List.setIfInBounds_toArray, List.set_cons_zero, List.set_cons_succ])
        first | (refine anyT_take 5 (some 67) (v := ?_) rfl rfl (by kernel_rfl) (by kernel_rfl) (by kernel_rfl) (by kernel_rfl) (fun _ _ _ h => h) (Or.inl ⟨by rfl, ?_⟩) hHeld ?_; rotate_left; focus (intro wq hSw; obtain ⟨hcq, hfq⟩ := bcell hSw; go_simp; (try with_reducible rfl); done))
        (try simp only [Act.put, List.setIfInBounds_toArray, List.set_cons_zero, List.set_cons_succ])
        first | (refine anyT_take 6 (some 68) (v := ?_) rfl rfl (by kernel_rfl) (by kernel_rfl) (by kernel_rfl) (by kernel_rfl) (fun _ _ _ h => h) (Or.inl ⟨by rfl, ?_⟩) hHeld ?_; rotate_left; focus (intro wq hSw; obtain ⟨hcq, hfq⟩ := bcell hSw; go_simp; (try with_reducible rfl); done))
        (try simp only [Act.put, List.setIfInBounds_toArray, List.set_cons_zero, List.set_cons_succ])
        first | (refine anyT_take 7 (some 69) (v := ?_) rfl rfl (by kernel_rfl) (by kernel_rfl) (by kernel_rfl) (by kernel_rfl) (fun _ _ _ h => h) (Or.inl ⟨by rfl, ?_⟩) hHeld ?_; rotate_left; focus (intro wq hSw; obtain ⟨hcq, hfq⟩ := bcell hSw; go_simp; (try with_reducible rfl); done))
        (try simp only [Act.put, List.setIfInBounds_toArray, List.set_cons_zero, List.set_cons_succ])
        first | (refine anyT_take 8 (some 70) (v := ?_) rfl rfl (by kernel_rfl) (by kernel_rfl) (by kernel_rfl) (by kernel_rfl) (fun _ _ _ h => h) (Or.inl ⟨by rfl, ?_⟩) hHeld ?_; rotate_left; focus (intro wq hSw; obtain ⟨hcq, hfq⟩ := bcell hSw; go_simp; (try with_reducible rfl); done))
        (try simp only [Act.put, List.setIfInBounds_toArray, List.set_cons_zero, List.set_cons_succ])
        first | (refine anyT_take 9 (some 71) (v := ?_) rfl rfl (by kernel_rfl) (by kernel_rfl) (by kernel_rfl) (by kernel_rfl) (fun _ _ _ h => h) (Or.inl ⟨by rfl, ?_⟩) hHeld ?_; rotate_left; focus (intro wq hSw; obtain ⟨hcq, hfq⟩ := bcell hSw; go_simp; (try with_reducible rfl); done))
        (try simp only [Act.put, List.setIfInBounds_toArray, List.set_cons_zero, List.set_cons_succ])
        first | (refine anyT_take 10 (some 72) (v := ?_) rfl rfl (by kernel_rfl) (by kernel_rfl) (by kernel_rfl) (by kernel_rfl) (fun _ _ _ h => h) (Or.inl ⟨by rfl, ?_⟩) hHeld ?_; rotate_left; focus (intro wq hSw; obtain ⟨hcq, hfq⟩ := bcell hSw; go_simp; (try with_reducible rfl); done))
        (try simp only [Act.put, List.setIfInBounds_toArray, List.set_cons_zero, List.set_cons_succ])
        refine anyT_one 11 (by kernel_rfl) rfl (fun K hK => ?_)
        go_simp
        refine (low1_calls _ _ _).mono ?_; rintro e w3 ⟨rfl, hb3⟩
        refine hK.out _ _ ?_ (fun hHeld => ?_)
        · exact below_then hHeld hHeld.size hb3
        clear hK K
        (try simp only [Act.put, List.setIfInBounds_toArray, List.set_cons_zero, List.set_cons_succ])
        first | (refine anyT_take 12 (some 74) (v := ?_) rfl rfl (by kernel_rfl) (by kernel_rfl) (by kernel_rfl) (by kernel_rfl) (fun _ _ _ h => h) (Or.inl ⟨by rfl, ?_⟩) hHeld ?_; rotate_left; focus (intro wq hSw; obtain ⟨hcq, hfq⟩ := bcell hSw; go_simp; (try with_reducible rfl); done))
        (try simp only [Act.put, List.setIfInBounds_toArray, List.set_cons_zero, List.set_cons_succ])
        refine anyT_one 13 (by kernel_rfl) rfl (fun K hK => ?_)
        go_simp
        refine hK.out _ _ ?_ (fun hHeld => ?_)
        · exact hHeld.alloc hHeld.size _
        clear hK K
        (try simp only [Act.put, List.setIfInBounds_toArray, List.set_cons_zero, List.set_cons_succ])
        refine anyT_one 14 (by kernel_rfl) rfl (fun K hK => ?_)
        go_simp
        refine (greatest_calls _ _ _ _ _ _ (cell_new1 _ _ _)).mono ?_; rintro e w4 ⟨rfl, rfl⟩
        refine hK.out _ _ ?_ (fun hHeld => ?_)
        · exact hHeld
        clear hK K
        (try simp only [Act.put, List.setIfInBounds_toArray, List.set_cons_zero, List.set_cons_succ])
        refine anyT_last (by kernel_rfl) rfl (fun K hK => ?_)
        obtain ⟨hcq, hfq⟩ := bcell hHeld
        go_simp
        refine hK.out _ _ ?_
        clear hK K
        (try simp only [Act.put, List.setIfInBounds_toArray, List.set_cons_zero, List.set_cons_succ])
        refine anyT_done (by kernel_rfl) ?_ _
        exact Hend 0 W5 _ Hsa.out kf5 (BoxAt.mk c14' f14' l14') hHeld _ (by simp)
      · have hsa : slipAt B path true k = endOf true B.slo B.shi := Hsd.out (by rw [Hlv.out]; exact heq)
        have Hsa := Lib.hid hsa
        have hbe : ((lv : Int) == gi path (q - 1)) = false := by rw [beq_eq_false_iff_ne]; exact heq
        obtain ⟨hs0, hs1⟩ := hsb
        have hwl : IntKind.i64.wrap (L + endOf true B.slo B.shi) = L + endOf true B.slo B.shi := wrap_in (by omega) (by omega)
        have hwr : IntKind.i64.wrap (L + endOf true B.slo B.shi - x1) = L + endOf true B.slo B.shi - x1 := wrap_in (by omega) (by omega)
        clear hsa heq
        gi_wp2
        refine region_round (S := fun w' => Below W2.heap.size W2 w') 10 (by kernel_rfl) (by kernel_rfl) (fun _ _ h => h) ?_ (fun hHeld => ?_)
        · exact (Below.refl _ _).drew
        first | (refine anyT_take 0 (some 44) (v := ?_) rfl rfl (by kernel_rfl) (by kernel_rfl) (by kernel_rfl) (by kernel_rfl) (fun _ _ _ h => h) (Or.inl ⟨by rfl, ?_⟩) hHeld ?_; rotate_left; focus (intro wq hSw; obtain ⟨hcq, hfq⟩ := bcell hSw; go_simp; (try with_reducible rfl); done))
        (try simp only [Act.put, List.setIfInBounds_toArray, List.set_cons_zero, List.set_cons_succ])
        first | (refine anyT_take 1 (some 45) (v := ?_) rfl rfl (by kernel_rfl) (by kernel_rfl) (by kernel_rfl) (by kernel_rfl) (fun _ _ _ h => h) (Or.inl ⟨by rfl, ?_⟩) hHeld ?_; rotate_left; focus (intro wq hSw; obtain ⟨hcq, hfq⟩ := bcell hSw; go_simp; (try with_reducible rfl); done))
        (try simp only [Act.put, List.setIfInBounds_toArray, List.set_cons_zero, List.set_cons_succ])
        first | (refine anyT_take 2 (some 46) (v := ?_) rfl rfl (by kernel_rfl) (by kernel_rfl) (by kernel_rfl) (by kernel_rfl) (fun _ _ _ h => h) (Or.inl ⟨by rfl, ?_⟩) hHeld ?_; rotate_left; focus (intro wq hSw; obtain ⟨hcq, hfq⟩ := bcell hSw; go_simp; (try with_reducible rfl); done))
        (try simp only [Act.put, List.setIfInBounds_toArray, List.set_cons_zero, List.set_cons_succ])
        first | (refine anyT_take 3 (some 47) (v := ?_) rfl rfl (by kernel_rfl) (by kernel_rfl) (by kernel_rfl) (by kernel_rfl) (fun _ _ _ h => h) (Or.inl ⟨by rfl, ?_⟩) hHeld ?_; rotate_left; focus (intro wq hSw; obtain ⟨hcq, hfq⟩ := bcell hSw; go_simp; (try with_reducible rfl); done))
        (try simp only [Act.put, List.setIfInBounds_toArray, List.set_cons_zero, List.set_cons_succ])
        first | (refine anyT_take 4 (some 48) (v := ?_) rfl rfl (by kernel_rfl) (by kernel_rfl) (by kernel_rfl) (by kernel_rfl) (fun _ _ _ h => h) (Or.inl ⟨by rfl, ?_⟩) hHeld ?_; rotate_left; focus (intro wq hSw; obtain ⟨hcq, hfq⟩ := bcell hSw; go_simp; (try with_reducible rfl); done))
        (try simp only [Act.put, List.setIfInBounds_toArray, List.set_cons_zero, List.set_cons_succ])
        first | (refine anyT_take 5 (some 49) (v := ?_) rfl rfl (by kernel_rfl) (by kernel_rfl) (by kernel_rfl) (by kernel_rfl) (fun _ _ _ h => h) (Or.inl ⟨by rfl, ?_⟩) hHeld ?_; rotate_left; focus (intro wq hSw; obtain ⟨hcq, hfq⟩ := bcell hSw; go_simp; (try with_reducible rfl); done))
        (try simp only [Act.put, List.setIfInBounds_toArray, List.set_cons_zero, List.set_cons_succ])
        first | (refine anyT_take 6 (some 50) (v := ?_) rfl rfl (by kernel_rfl) (by kernel_rfl) (by kernel_rfl) (by kernel_rfl) (fun _ _ _ h => h) (Or.inl ⟨by rfl, ?_⟩) hHeld ?_; rotate_left; focus (intro wq hSw; obtain ⟨hcq, hfq⟩ := bcell hSw; go_simp; (try with_reducible rfl); done))
        (try simp only [Act.put, List.setIfInBounds_toArray, List.set_cons_zero, List.set_cons_succ])
        first | (refine anyT_take 7 (some 51) (v := ?_) rfl rfl (by kernel_rfl) (by kernel_rfl) (by kernel_rfl) (by kernel_rfl) (fun _ _ _ h => h) (Or.inl ⟨by rfl, ?_⟩) hHeld ?_; rotate_left; focus (intro wq hSw; obtain ⟨hcq, hfq⟩ := bcell hSw; go_simp; (try with_reducible rfl); done))
        (try simp only [Act.put, List.setIfInBounds_toArray, List.set_cons_zero, List.set_cons_succ])
        first | (refine anyT_take 8 (some 52) (v := ?_) rfl rfl (by kernel_rfl) (by kernel_rfl) (by kernel_rfl) (by kernel_rfl) (fun _ _ _ h => h) (Or.inl ⟨by rfl, ?_⟩) hHeld ?_; rotate_left; focus (intro wq hSw; obtain ⟨hcq, hfq⟩ := bcell hSw; go_simp; (try with_reducible rfl); done))
        (try simp only [Act.put, List.setIfInBounds_toArray, List.set_cons_zero, List.set_cons_succ])
        first | (refine anyT_take 9 (some 53) (v := ?_) rfl rfl (by kernel_rfl) (by kernel_rfl) (by kernel_rfl) (by kernel_rfl) (fun _ _ _ h => h) (Or.inl ⟨by rfl, ?_⟩) hHeld ?_; rotate_left; focus (intro wq hSw; obtain ⟨hcq, hfq⟩ := bcell hSw; go_simp; (try with_reducible rfl); done))
        (try simp only [Act.put, List.setIfInBounds_toArray, List.set_cons_zero, List.set_cons_succ])
        refine anyT_done (by kernel_rfl) ?_ _
        gi_wp2
        refine region_round (S := fun w' => Below W2.heap.size W2 w') 8 (by kernel_rfl) (by kernel_rfl) (fun _ _ h => h) ?_ (fun hHeld => ?_)
        · exact ((Below.refl _ _).drew).drew
        first | (refine anyT_take 0 (some 54) (v := ?_) rfl rfl (by kernel_rfl) (by kernel_rfl) (by kernel_rfl) (by kernel_rfl) (fun _ _ _ h => h) (Or.inl ⟨by rfl, ?_⟩) hHeld ?_; rotate_left; focus (intro wq hSw; obtain ⟨hcq, hfq⟩ := bcell hSw; go_simp; (try with_reducible rfl); done))
        (try simp only [Act.put, List.setIfInBounds_toArray, List.set_cons_zero, List.set_cons_succ])
        first | (refine anyT_take 1 (some 55) (v := ?_) rfl rfl (by kernel_rfl) (by kernel_rfl) (by kernel_rfl) (by kernel_rfl) (fun _ _ _ h => h) (Or.inl ⟨by rfl, ?_⟩) hHeld ?_; rotate_left; focus (intro wq hSw; obtain ⟨hcq, hfq⟩ := bcell hSw; go_simp; (try with_reducible rfl); done))
        (try simp only [Act.put, List.setIfInBounds_toArray, List.set_cons_zero, List.set_cons_succ])
        first | (refine anyT_take 2 (some 56) (v := ?_) rfl rfl (by kernel_rfl) (by kernel_rfl) (by kernel_rfl) (by kernel_rfl) (fun _ _ _ h => h) (Or.inl ⟨by rfl, ?_⟩) hHeld ?_; rotate_left; focus (intro wq hSw; obtain ⟨hcq, hfq⟩ := bcell hSw; go_simp; (try with_reducible rfl); done))
        (try simp only [Act.put, List.setIfInBounds_toArray, List.set_cons_zero, List.set_cons_succ])
        first | (refine anyT_take 3 (some 57) (v := ?_) rfl rfl (by kernel_rfl) (by kernel_rfl) (by kernel_rfl) (by kernel_rfl) (fun _ _ _ h => h) (Or.inl ⟨by rfl, ?_⟩) hHeld ?_; rotate_left; focus (intro wq hSw; obtain ⟨hcq, hfq⟩ := bcell hSw; go_simp; (try with_reducible rfl); done))
        (try simp only [Act.put, List.setIfInBounds_toArray, List.set_cons_zero, List.set_cons_succ])
        first | (refine anyT_take 4 (some 58) (v := ?_) rfl rfl (by kernel_rfl) (by kernel_rfl) (by kernel_rfl) (by kernel_rfl) (fun _ _ _ h => h) (Or.inl ⟨by rfl, ?_⟩) hHeld ?_; rotate_left; focus (intro wq hSw; obtain ⟨hcq, hfq⟩ := bcell hSw; go_simp; (try with_reducible rfl); done))
        (try simp only [Act.put, List.setIfInBounds_toArray, List.set_cons_zero, List.set_cons_succ])
        first | (refine anyT_take 5 (some 59) (v := ?_) rfl rfl (by kernel_rfl) (by kernel_rfl) (by kernel_rfl) (by kernel_rfl) (fun _ _ _ h => h) (Or.inl ⟨by rfl, ?_⟩) hHeld ?_; rotate_left; focus (intro wq hSw; obtain ⟨hcq, hfq⟩ := bcell hSw; go_simp; (try with_reducible rfl); done))
        (try simp only [Act.put, List.setIfInBounds_toArray, List.set_cons_zero, List.set_cons_succ])
        refine anyT_one 6 (by kernel_rfl) rfl (fun K hK => ?_)
        go_simp
        refine (eq0_2 (v' := B.val) (by unfold BookV.val BookV.cells; rw [HA.out]) (slips_calls B true _)).mono ?_; rintro e w3 ⟨rfl, hb3⟩
        refine hK.out _ _ ?_ (fun hHeld => ?_)
        · exact below_then hHeld hHeld.size hb3
        clear hK K
        (try simp only [Act.put, List.setIfInBounds_toArray, List.set_cons_zero, List.set_cons_succ])
        first | (refine anyT_take 7 (some 61) (v := ?_) rfl rfl (by kernel_rfl) (by kernel_rfl) (by kernel_rfl) (by kernel_rfl) (fun _ _ _ h => h) (Or.inl ⟨by rfl, ?_⟩) hHeld ?_; rotate_left; focus (intro wq hSw; obtain ⟨hcq, hfq⟩ := bcell hSw; go_simp; (try with_reducible rfl); done))
        (try simp only [Act.put, List.setIfInBounds_toArray, List.set_cons_zero, List.set_cons_succ])
        refine anyT_last (by kernel_rfl) rfl (fun K hK => ?_)
        obtain ⟨hcq, hfq⟩ := bcell hHeld
        go_simp
        refine hK.out _ _ ?_
        clear hK K
        (try simp only [Act.put, List.setIfInBounds_toArray, List.set_cons_zero, List.set_cons_succ])
        refine anyT_done (by kernel_rfl) ?_ _
        gi_wp2
        obtain ⟨W5, hW5⟩ : ∃ W5, W5 = w3.setCell ⟨nb, 0, none⟩ (.int .i64 (L + endOf true B.slo B.shi)) := ⟨_, rfl⟩
        have kf5 : Keep (fun k => k = nb) W2 W5 := by rw [hW5]; exact (Keep.of_below (M := fun k => k = nb) hHeld).setCell (p := ⟨nb, 0, none⟩) (.inl rfl) _
        have hB5 : BoxAt W5 nb #[.int .i64 (L + endOf true B.slo B.shi)] := by rw [hW5]; exact BoxAt.set1 ((BoxAt.mk c14 f14 l14).below hHeld) _
        first | rw [← hW5] | (rw [Int.add_zero] at hW5; rw [← hW5])
        clear hHeld hW5
        have nbs := l14
        obtain ⟨c7', f7', l7'⟩ := (BoxAt.mk c7 f7 l7).keep kf5 (by omega)
        obtain ⟨c11', f11', l11'⟩ := (BoxAt.mk c11 f11 l11).keep kf5 (by omega)
        obtain ⟨c13', f13', l13'⟩ := (BoxAt.mk c13 f13 l13).keep kf5 (by omega)
        obtain ⟨c14', f14', l14'⟩ := hB5
        have pq5 := kf5.cell pq (by show ¬ b = nb; omega)
        have q05 := kf5.cell q0 (by show ¬ cb = nb; omega)
        have q15 := kf5.cell q1 (by show ¬ cb = nb; omega)
        have pbl5 := World.block_lt_of_cell? W5 _ pq5
        have cbl5 := World.block_lt_of_cell? W5 _ q05
        simp only at pbl5 cbl5
        clear c6 f6 l6 c7 f7 l7 c10 f10 l10 c11 f11 l11 c13 f13 l13 c14 f14 pq q0 q1 pq' pbl cbl
        refine region_round (S := fun w' => Below W5.heap.size W5 w') 15 (by kernel_rfl) (by kernel_rfl) (fun _ _ h => h) ?_ (fun hHeld => ?_)
        · exact (Below.refl _ _).drew
        first | (refine anyT_take 0 (some 62) (v := ?_) rfl rfl (by kernel_rfl) (by kernel_rfl) (by kernel_rfl) (by kernel_rfl) (fun _ _ _ h => h) (Or.inl ⟨by rfl, ?_⟩) hHeld ?_; rotate_left; focus (intro wq hSw; obtain ⟨hcq, hfq⟩ := bcell hSw; go_simp; (try with_reducible rfl); done))
        (try simp only [Act.put, List.setIfInBounds_toArray, List.set_cons_zero, List.set_cons_succ])
        first | (refine anyT_take 1 (some 63) (v := ?_) rfl rfl (by kernel_rfl) (by kernel_rfl) (by kernel_rfl) (by kernel_rfl) (fun _ _ _ h => h) (Or.inl ⟨by rfl, ?_⟩) hHeld ?_; rotate_left; focus (intro wq hSw; obtain ⟨hcq, hfq⟩ := bcell hSw; go_simp; (try with_reducible rfl); done))
        (try simp only [Act.put, List.setIfInBounds_toArray, List.set_cons_zero, List.set_cons_succ])
        first | (refine anyT_take 2 (some 64) (v := ?_) rfl rfl (by kernel_rfl) (by kernel_rfl) (by kernel_rfl) (by kernel_rfl) (fun _ _ _ h => h) (Or.inl ⟨by rfl, ?_⟩) hHeld ?_; rotate_left; focus (intro wq hSw; obtain ⟨hcq, hfq⟩ := bcell hSw; go_simp; (try with_reducible rfl); done))
        (try simp only [Act.put, List.setIfInBounds_toArray, List.set_cons_zero, List.set_cons_succ])
        first | (refine anyT_take 3 (some 65) (v := ?_) rfl rfl (by kernel_rfl) (by kernel_rfl) (by kernel_rfl) (by kernel_rfl) (fun _ _ _ h => h) (Or.inl ⟨by rfl, ?_⟩) hHeld ?_; rotate_left; focus (intro wq hSw; obtain ⟨hcq, hfq⟩ := bcell hSw; go_simp; (try with_reducible rfl); done))
        (try simp only [Act.put, List.setIfInBounds_toArray, List.set_cons_zero, List.set_cons_succ])
        first | (refine anyT_take 4 (some 66) (v := ?_) rfl rfl (by kernel_rfl) (by kernel_rfl) (by kernel_rfl) (by kernel_rfl) (fun _ _ _ h => h) (Or.inl ⟨by rfl, ?_⟩) hHeld ?_; rotate_left; focus (intro wq hSw; obtain ⟨hcq, hfq⟩ := bcell hSw; go_simp; (try with_reducible rfl); done))
        (try simp only [Act.put, List.setIfInBounds_toArray, List.set_cons_zero, List.set_cons_succ])
        first | (refine anyT_take 5 (some 67) (v := ?_) rfl rfl (by kernel_rfl) (by kernel_rfl) (by kernel_rfl) (by kernel_rfl) (fun _ _ _ h => h) (Or.inl ⟨by rfl, ?_⟩) hHeld ?_; rotate_left; focus (intro wq hSw; obtain ⟨hcq, hfq⟩ := bcell hSw; go_simp; (try with_reducible rfl); done))
        (try simp only [Act.put, List.setIfInBounds_toArray, List.set_cons_zero, List.set_cons_succ])
        first | (refine anyT_take 6 (some 68) (v := ?_) rfl rfl (by kernel_rfl) (by kernel_rfl) (by kernel_rfl) (by kernel_rfl) (fun _ _ _ h => h) (Or.inl ⟨by rfl, ?_⟩) hHeld ?_; rotate_left; focus (intro wq hSw; obtain ⟨hcq, hfq⟩ := bcell hSw; go_simp; (try with_reducible rfl); done))
        (try simp only [Act.put, List.setIfInBounds_toArray, List.set_cons_zero, List.set_cons_succ])
        first | (refine anyT_take 7 (some 69) (v := ?_) rfl rfl (by kernel_rfl) (by kernel_rfl) (by kernel_rfl) (by kernel_rfl) (fun _ _ _ h => h) (Or.inl ⟨by rfl, ?_⟩) hHeld ?_; rotate_left; focus (intro wq hSw; obtain ⟨hcq, hfq⟩ := bcell hSw; go_simp; (try with_reducible rfl); done))
        (try simp only [Act.put, List.setIfInBounds_toArray, List.set_cons_zero, List.set_cons_succ])
        first | (refine anyT_take 8 (some 70) (v := ?_) rfl rfl (by kernel_rfl) (by kernel_rfl) (by kernel_rfl) (by kernel_rfl) (fun _ _ _ h => h) (Or.inl ⟨by rfl, ?_⟩) hHeld ?_; rotate_left; focus (intro wq hSw; obtain ⟨hcq, hfq⟩ := bcell hSw; go_simp; (try with_reducible rfl); done))
        (try simp only [Act.put, List.setIfInBounds_toArray, List.set_cons_zero, List.set_cons_succ])
        first | (refine anyT_take 9 (some 71) (v := ?_) rfl rfl (by kernel_rfl) (by kernel_rfl) (by kernel_rfl) (by kernel_rfl) (fun _ _ _ h => h) (Or.inl ⟨by rfl, ?_⟩) hHeld ?_; rotate_left; focus (intro wq hSw; obtain ⟨hcq, hfq⟩ := bcell hSw; go_simp; (try with_reducible rfl); done))
        (try simp only [Act.put, List.setIfInBounds_toArray, List.set_cons_zero, List.set_cons_succ])
        first | (refine anyT_take 10 (some 72) (v := ?_) rfl rfl (by kernel_rfl) (by kernel_rfl) (by kernel_rfl) (by kernel_rfl) (fun _ _ _ h => h) (Or.inl ⟨by rfl, ?_⟩) hHeld ?_; rotate_left; focus (intro wq hSw; obtain ⟨hcq, hfq⟩ := bcell hSw; go_simp; (try with_reducible rfl); done))
        (try simp only [Act.put, List.setIfInBounds_toArray, List.set_cons_zero, List.set_cons_succ])
        refine anyT_one 11 (by kernel_rfl) rfl (fun K hK => ?_)
        go_simp
        refine (low1_calls _ _ _).mono ?_; rintro e w3 ⟨rfl, hb3⟩
        refine hK.out _ _ ?_ (fun hHeld => ?_)
        · exact below_then hHeld hHeld.size hb3
        clear hK K
        (try simp only [Act.put, List.setIfInBounds_toArray, List.set_cons_zero, List.set_cons_succ])
        first | (refine anyT_take 12 (some 74) (v := ?_) rfl rfl (by kernel_rfl) (by kernel_rfl) (by kernel_rfl) (by kernel_rfl) (fun _ _ _ h => h) (Or.inl ⟨by rfl, ?_⟩) hHeld ?_; rotate_left; focus (intro wq hSw; obtain ⟨hcq, hfq⟩ := bcell hSw; go_simp; (try with_reducible rfl); done))
        (try simp only [Act.put, List.setIfInBounds_toArray, List.set_cons_zero, List.set_cons_succ])
        refine anyT_one 13 (by kernel_rfl) rfl (fun K hK => ?_)
        go_simp
        refine hK.out _ _ ?_ (fun hHeld => ?_)
        · exact hHeld.alloc hHeld.size _
        clear hK K
        (try simp only [Act.put, List.setIfInBounds_toArray, List.set_cons_zero, List.set_cons_succ])
        refine anyT_one 14 (by kernel_rfl) rfl (fun K hK => ?_)
        go_simp
        refine (greatest_calls _ _ _ _ _ _ (cell_new1 _ _ _)).mono ?_; rintro e w4 ⟨rfl, rfl⟩
        refine hK.out _ _ ?_ (fun hHeld => ?_)
        · exact hHeld
        clear hK K
        (try simp only [Act.put, List.setIfInBounds_toArray, List.set_cons_zero, List.set_cons_succ])
        refine anyT_last (by kernel_rfl) rfl (fun K hK => ?_)
        obtain ⟨hcq, hfq⟩ := bcell hHeld
        go_simp
        refine hK.out _ _ ?_
        clear hK K
        (try simp only [Act.put, List.setIfInBounds_toArray, List.set_cons_zero, List.set_cons_succ])
        refine anyT_done (by kernel_rfl) ?_ _
        exact Hend _ W5 _ Hsa.out kf5 (BoxAt.mk c14' f14' l14') hHeld _ rfl
    · have hsa : slipAt B path true k = 0 := by unfold slipAt; rw [if_neg (fun h => hm ⟨h.1, h.2.1⟩)]
      have Hsa := Lib.hid hsa
      have hwr : IntKind.i64.wrap (L - x1) = L - x1 := wrap_in (by omega) (by omega)
      clear hsa
      by_cases hm0 : k % B.size.toNat = 0
      · have hm1 : ¬ 0 < partOf B.size k := fun h => hm ⟨hm0, h⟩
        have hrb : ((k : Int) % B.size == 0) = true := by rw [hrm, hm0]; rfl
        clear hrm hm0 hm
        generalize partOf B.size k = q at *
        have hd : decide ((0 : Int) < (q : Int)) = false := by simpa using hm1
        gi_wp2
        refine region_round (S := fun w' => Below W2.heap.size W2 w') 15 (by kernel_rfl) (by kernel_rfl) (fun _ _ h => h) ?_ (fun hHeld => ?_)
        · exact (Below.refl _ _).drew
        first | (refine anyT_take 0 (some 62) (v := ?_) rfl rfl (by kernel_rfl) (by kernel_rfl) (by kernel_rfl) (by kernel_rfl) (fun _ _ _ h => h) (Or.inl ⟨by rfl, ?_⟩) hHeld ?_; rotate_left; focus (intro wq hSw; obtain ⟨hcq, hfq⟩ := bcell hSw; go_simp; (try with_reducible rfl); done))
        (try simp only [Act.put, List.setIfInBounds_toArray, List.set_cons_zero, List.set_cons_succ])
        first | (refine anyT_take 1 (some 63) (v := ?_) rfl rfl (by kernel_rfl) (by kernel_rfl) (by kernel_rfl) (by kernel_rfl) (fun _ _ _ h => h) (Or.inl ⟨by rfl, ?_⟩) hHeld ?_; rotate_left; focus (intro wq hSw; obtain ⟨hcq, hfq⟩ := bcell hSw; go_simp; (try with_reducible rfl); done))
        (try simp only [Act.put, List.setIfInBounds_toArray, List.set_cons_zero, List.set_cons_succ])
        first | (refine anyT_take 2 (some 64) (v := ?_) rfl rfl (by kernel_rfl) (by kernel_rfl) (by kernel_rfl) (by kernel_rfl) (fun _ _ _ h => h) (Or.inl ⟨by rfl, ?_⟩) hHeld ?_; rotate_left; focus (intro wq hSw; obtain ⟨hcq, hfq⟩ := bcell hSw; go_simp; (try with_reducible rfl); done))
        (try simp only [Act.put, List.setIfInBounds_toArray, List.set_cons_zero, List.set_cons_succ])
        first | (refine anyT_take 3 (some 65) (v := ?_) rfl rfl (by kernel_rfl) (by kernel_rfl) (by kernel_rfl) (by kernel_rfl) (fun _ _ _ h => h) (Or.inl ⟨by rfl, ?_⟩) hHeld ?_; rotate_left; focus (intro wq hSw; obtain ⟨hcq, hfq⟩ := bcell hSw; go_simp; (try with_reducible rfl); done))
        (try simp only [Act.put, List.setIfInBounds_toArray, List.set_cons_zero, List.set_cons_succ])
        first | (refine anyT_take 4 (some 66) (v := ?_) rfl rfl (by kernel_rfl) (by kernel_rfl) (by kernel_rfl) (by kernel_rfl) (fun _ _ _ h => h) (Or.inl ⟨by rfl, ?_⟩) hHeld ?_; rotate_left; focus (intro wq hSw; obtain ⟨hcq, hfq⟩ := bcell hSw; go_simp; (try with_reducible rfl); done))
        (try simp only [Act.put, List.setIfInBounds_toArray, List.set_cons_zero, List.set_cons_succ])
        first | (refine anyT_take 5 (some 67) (v := ?_) rfl rfl (by kernel_rfl) (by kernel_rfl) (by kernel_rfl) (by kernel_rfl) (fun _ _ _ h => h) (Or.inl ⟨by rfl, ?_⟩) hHeld ?_; rotate_left; focus (intro wq hSw; obtain ⟨hcq, hfq⟩ := bcell hSw; go_simp; (try with_reducible rfl); done))
        (try simp only [Act.put, List.setIfInBounds_toArray, List.set_cons_zero, List.set_cons_succ])
        first | (refine anyT_take 6 (some 68) (v := ?_) rfl rfl (by kernel_rfl) (by kernel_rfl) (by kernel_rfl) (by kernel_rfl) (fun _ _ _ h => h) (Or.inl ⟨by rfl, ?_⟩) hHeld ?_; rotate_left; focus (intro wq hSw; obtain ⟨hcq, hfq⟩ := bcell hSw; go_simp; (try with_reducible rfl); done))
        (try simp only [Act.put, List.setIfInBounds_toArray, List.set_cons_zero, List.set_cons_succ])
        first | (refine anyT_take 7 (some 69) (v := ?_) rfl rfl (by kernel_rfl) (by kernel_rfl) (by kernel_rfl) (by kernel_rfl) (fun _ _ _ h => h) (Or.inl ⟨by rfl, ?_⟩) hHeld ?_; rotate_left; focus (intro wq hSw; obtain ⟨hcq, hfq⟩ := bcell hSw; go_simp; (try with_reducible rfl); done))
        (try simp only [Act.put, List.setIfInBounds_toArray, List.set_cons_zero, List.set_cons_succ])
        first | (refine anyT_take 8 (some 70) (v := ?_) rfl rfl (by kernel_rfl) (by kernel_rfl) (by kernel_rfl) (by kernel_rfl) (fun _ _ _ h => h) (Or.inl ⟨by rfl, ?_⟩) hHeld ?_; rotate_left; focus (intro wq hSw; obtain ⟨hcq, hfq⟩ := bcell hSw; go_simp; (try with_reducible rfl); done))
        (try simp only [Act.put, List.setIfInBounds_toArray, List.set_cons_zero, List.set_cons_succ])
        first | (refine anyT_take 9 (some 71) (v := ?_) rfl rfl (by kernel_rfl) (by kernel_rfl) (by kernel_rfl) (by kernel_rfl) (fun _ _ _ h => h) (Or.inl ⟨by rfl, ?_⟩) hHeld ?_; rotate_left; focus (intro wq hSw; obtain ⟨hcq, hfq⟩ := bcell hSw; go_simp; (try with_reducible rfl); done))
        (try simp only [Act.put, List.setIfInBounds_toArray, List.set_cons_zero, List.set_cons_succ])
        first | (refine anyT_take 10 (some 72) (v := ?_) rfl rfl (by kernel_rfl) (by kernel_rfl) (by kernel_rfl) (by kernel_rfl) (fun _ _ _ h => h) (Or.inl ⟨by rfl, ?_⟩) hHeld ?_; rotate_left; focus (intro wq hSw; obtain ⟨hcq, hfq⟩ := bcell hSw; go_simp; (try with_reducible rfl); done))
        (try simp only [Act.put, List.setIfInBounds_toArray, List.set_cons_zero, List.set_cons_succ])
        refine anyT_one 11 (by kernel_rfl) rfl (fun K hK => ?_)
        go_simp
        refine (low1_calls _ _ _).mono ?_; rintro e w3 ⟨rfl, hb3⟩
        refine hK.out _ _ ?_ (fun hHeld => ?_)
        · exact below_then hHeld hHeld.size hb3
        clear hK K
        (try simp only [Act.put, List.setIfInBounds_toArray, List.set_cons_zero, List.set_cons_succ])
        first | (refine anyT_take 12 (some 74) (v := ?_) rfl rfl (by kernel_rfl) (by kernel_rfl) (by kernel_rfl) (by kernel_rfl) (fun _ _ _ h => h) (Or.inl ⟨by rfl, ?_⟩) hHeld ?_; rotate_left; focus (intro wq hSw; obtain ⟨hcq, hfq⟩ := bcell hSw; go_simp; (try with_reducible rfl); done))
        (try simp only [Act.put, List.setIfInBounds_toArray, List.set_cons_zero, List.set_cons_succ])
        refine anyT_one 13 (by kernel_rfl) rfl (fun K hK => ?_)
        go_simp
        refine hK.out _ _ ?_ (fun hHeld => ?_)
        · exact hHeld.alloc hHeld.size _
        clear hK K
        (try simp only [Act.put, List.setIfInBounds_toArray, List.set_cons_zero, List.set_cons_succ])
        refine anyT_one 14 (by kernel_rfl) rfl (fun K hK => ?_)
        go_simp
        refine (greatest_calls _ _ _ _ _ _ (cell_new1 _ _ _)).mono ?_; rintro e w4 ⟨rfl, rfl⟩
        refine hK.out _ _ ?_ (fun hHeld => ?_)
        · exact hHeld
        clear hK K
        (try simp only [Act.put, List.setIfInBounds_toArray, List.set_cons_zero, List.set_cons_succ])
        refine anyT_last (by kernel_rfl) rfl (fun K hK => ?_)
        obtain ⟨hcq, hfq⟩ := bcell hHeld
        go_simp
        refine hK.out _ _ ?_
        clear hK K
        (try simp only [Act.put, List.setIfInBounds_toArray, List.set_cons_zero, List.set_cons_succ])
        refine anyT_done (by kernel_rfl) ?_ _
        exact Hend 0 W2 _ Hsa.out (Keep.refl _ _) (by simpa using BoxAt.mk c14 f14 l14) hHeld _ (by simp)
      · have hrb : ((k : Int) % B.size == 0) = false := by rw [hrm, beq_eq_false_iff_ne]; omega
        clear hrm hm0 hm
        generalize partOf B.size k = q at *
        gi_wp2
        refine region_round (S := fun w' => Below W2.heap.size W2 w') 15 (by kernel_rfl) (by kernel_rfl) (fun _ _ h => h) ?_ (fun hHeld => ?_)
        · exact (Below.refl _ _).drew
        first | (refine anyT_take 0 (some 62) (v := ?_) rfl rfl (by kernel_rfl) (by kernel_rfl) (by kernel_rfl) (by kernel_rfl) (fun _ _ _ h => h) (Or.inl ⟨by rfl, ?_⟩) hHeld ?_; rotate_left; focus (intro wq hSw; obtain ⟨hcq, hfq⟩ := bcell hSw; go_simp; (try with_reducible rfl); done))
        (try simp only [Act.put, List.setIfInBounds_toArray, List.set_cons_zero, List.set_cons_succ])
        first | (refine anyT_take 1 (some 63) (v := ?_) rfl rfl (by kernel_rfl) (by kernel_rfl) (by kernel_rfl) (by kernel_rfl) (fun _ _ _ h => h) (Or.inl ⟨by rfl, ?_⟩) hHeld ?_; rotate_left; focus (intro wq hSw; obtain ⟨hcq, hfq⟩ := bcell hSw; go_simp; (try with_reducible rfl); done))
        (try simp only [Act.put, List.setIfInBounds_toArray, List.set_cons_zero, List.set_cons_succ])
        first | (refine anyT_take 2 (some 64) (v := ?_) rfl rfl (by kernel_rfl) (by kernel_rfl) (by kernel_rfl) (by kernel_rfl) (fun _ _ _ h => h) (Or.inl ⟨by rfl, ?_⟩) hHeld ?_; rotate_left; focus (intro wq hSw; obtain ⟨hcq, hfq⟩ := bcell hSw; go_simp; (try with_reducible rfl); done))
        (try simp only [Act.put, List.setIfInBounds_toArray, List.set_cons_zero, List.set_cons_succ])
        first | (refine anyT_take 3 (some 65) (v := ?_) rfl rfl (by kernel_rfl) (by kernel_rfl) (by kernel_rfl) (by kernel_rfl) (fun _ _ _ h => h) (Or.inl ⟨by rfl, ?_⟩) hHeld ?_; rotate_left; focus (intro wq hSw; obtain ⟨hcq, hfq⟩ := bcell hSw; go_simp; (try with_reducible rfl); done))
        (try simp only [Act.put, List.setIfInBounds_toArray, List.set_cons_zero, List.set_cons_succ])
        first | (refine anyT_take 4 (some 66) (v := ?_) rfl rfl (by kernel_rfl) (by kernel_rfl) (by kernel_rfl) (by kernel_rfl) (fun _ _ _ h => h) (Or.inl ⟨by rfl, ?_⟩) hHeld ?_; rotate_left; focus (intro wq hSw; obtain ⟨hcq, hfq⟩ := bcell hSw; go_simp; (try with_reducible rfl); done))
        (try simp only [Act.put, List.setIfInBounds_toArray, List.set_cons_zero, List.set_cons_succ])
        first | (refine anyT_take 5 (some 67) (v := ?_) rfl rfl (by kernel_rfl) (by kernel_rfl) (by kernel_rfl) (by kernel_rfl) (fun _ _ _ h => h) (Or.inl ⟨by rfl, ?_⟩) hHeld ?_; rotate_left; focus (intro wq hSw; obtain ⟨hcq, hfq⟩ := bcell hSw; go_simp; (try with_reducible rfl); done))
        (try simp only [Act.put, List.setIfInBounds_toArray, List.set_cons_zero, List.set_cons_succ])
        first | (refine anyT_take 6 (some 68) (v := ?_) rfl rfl (by kernel_rfl) (by kernel_rfl) (by kernel_rfl) (by kernel_rfl) (fun _ _ _ h => h) (Or.inl ⟨by rfl, ?_⟩) hHeld ?_; rotate_left; focus (intro wq hSw; obtain ⟨hcq, hfq⟩ := bcell hSw; go_simp; (try with_reducible rfl); done))
        (try simp only [Act.put, List.setIfInBounds_toArray, List.set_cons_zero, List.set_cons_succ])
        first | (refine anyT_take 7 (some 69) (v := ?_) rfl rfl (by kernel_rfl) (by kernel_rfl) (by kernel_rfl) (by kernel_rfl) (fun _ _ _ h => h) (Or.inl ⟨by rfl, ?_⟩) hHeld ?_; rotate_left; focus (intro wq hSw; obtain ⟨hcq, hfq⟩ := bcell hSw; go_simp; (try with_reducible rfl); done))
        (try simp only [Act.put, List.setIfInBounds_toArray, List.set_cons_zero, List.set_cons_succ])
        first | (refine anyT_take 8 (some 70) (v := ?_) rfl rfl (by kernel_rfl) (by kernel_rfl) (by kernel_rfl) (by kernel_rfl) (fun _ _ _ h => h) (Or.inl ⟨by rfl, ?_⟩) hHeld ?_; rotate_left; focus (intro wq hSw; obtain ⟨hcq, hfq⟩ := bcell hSw; go_simp; (try with_reducible rfl); done))
        (try simp only [Act.put, List.setIfInBounds_toArray, List.set_cons_zero, List.set_cons_succ])
        first | (refine anyT_take 9 (some 71) (v := ?_) rfl rfl (by kernel_rfl) (by kernel_rfl) (by kernel_rfl) (by kernel_rfl) (fun _ _ _ h => h) (Or.inl ⟨by rfl, ?_⟩) hHeld ?_; rotate_left; focus (intro wq hSw; obtain ⟨hcq, hfq⟩ := bcell hSw; go_simp; (try with_reducible rfl); done))
        (try simp only [Act.put, List.setIfInBounds_toArray, List.set_cons_zero, List.set_cons_succ])
        first | (refine anyT_take 10 (some 72) (v := ?_) rfl rfl (by kernel_rfl) (by kernel_rfl) (by kernel_rfl) (by kernel_rfl) (fun _ _ _ h => h) (Or.inl ⟨by rfl, ?_⟩) hHeld ?_; rotate_left; focus (intro wq hSw; obtain ⟨hcq, hfq⟩ := bcell hSw; go_simp; (try with_reducible rfl); done))
        (try simp only [Act.put, List.setIfInBounds_toArray, List.set_cons_zero, List.set_cons_succ])
        refine anyT_one 11 (by kernel_rfl) rfl (fun K hK => ?_)
        go_simp
        refine (low1_calls _ _ _).mono ?_; rintro e w3 ⟨rfl, hb3⟩
        refine hK.out _ _ ?_ (fun hHeld => ?_)
        · exact below_then hHeld hHeld.size hb3
        clear hK K
        (try simp only [Act.put, List.setIfInBounds_toArray, List.set_cons_zero, List.set_cons_succ])
        first | (refine anyT_take 12 (some 74) (v := ?_) rfl rfl (by kernel_rfl) (by kernel_rfl) (by kernel_rfl) (by kernel_rfl) (fun _ _ _ h => h) (Or.inl ⟨by rfl, ?_⟩) hHeld ?_; rotate_left; focus (intro wq hSw; obtain ⟨hcq, hfq⟩ := bcell hSw; go_simp; (try with_reducible rfl); done))
        (try simp only [Act.put, List.setIfInBounds_toArray, List.set_cons_zero, List.set_cons_succ])
        refine anyT_one 13 (by kernel_rfl) rfl (fun K hK => ?_)
        go_simp
        refine hK.out _ _ ?_ (fun hHeld => ?_)
        · exact hHeld.alloc hHeld.size _
        clear hK K
        (try simp only [Act.put, List.setIfInBounds_toArray, List.set_cons_zero, List.set_cons_succ])
        refine anyT_one 14 (by kernel_rfl) rfl (fun K hK => ?_)
        go_simp
        refine (greatest_calls _ _ _ _ _ _ (cell_new1 _ _ _)).mono ?_; rintro e w4 ⟨rfl, rfl⟩
        refine hK.out _ _ ?_ (fun hHeld => ?_)
        · exact hHeld
        clear hK K
        (try simp only [Act.put, List.setIfInBounds_toArray, List.set_cons_zero, List.set_cons_succ])
        refine anyT_last (by kernel_rfl) rfl (fun K hK => ?_)
        obtain ⟨hcq, hfq⟩ := bcell hHeld
        go_simp
        refine hK.out _ _ ?_
        clear hK K
        (try simp only [Act.put, List.setIfInBounds_toArray, List.set_cons_zero, List.set_cons_succ])
        refine anyT_done (by kernel_rfl) ?_ _
        exact Hend 0 W2 _ Hsa.out (Keep.refl _ _) (by simpa using BoxAt.mk c14 f14 l14) hHeld _ (by simp)

end Go.Proofs.YtljikigmfkfkiaaDoor
