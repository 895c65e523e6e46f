import Derived.Test.YtljikigmfkfkiaaDoorBQ
namespace Go.Proofs.YtljikigmfkfkiaaDoor
open Go.RowKit Go.Shelf
attribute [local go_sem] Oper.semAt_some
set_option linter.unusedSimpArgs false
set_option linter.unusedVariables false

theorem late_there {B : BookV} (g : B.Good) {path : List Int} {i : Nat} (hi : i < B.players.length) : (i : Int) ∈ lastL B path 5 ↔ 0 < lateTo B path (gp B.players i) true (B.parts * B.size).toNat := by
  have hm := g.many
  rw [lastL_mem]
  constructor
  · rintro ⟨j, _, e, h⟩
    obtain rfl : i = j := by omega
    unfold lastAt at h; rwa [if_pos hi] at h
  · intro h
    exact ⟨i, by omega, rfl, by unfold lastAt; rw [if_pos hi]; exact h⟩
theorem lateR_ok {B : BookV} (hg : goodB B = true) {path : List Int} (hi : isPathS B.parts B.start path = true) {j n : Nat} (hj : j < B.players.length) (hn : (n : Int) ≤ B.parts * B.size) :
    lateR B path j n = .tuple #[.agg #[.int .i64 (lateTo B path (gp B.players j) false n), .int .i64 (lateTo B path (gp B.players j) true n)], .int .i64 0] := by
  unfold lateR lateAsk
  rw [hg, hi, inB_iff.2 (show (0 : Int) ≤ (j : Int) ∧ (j : Int) ≤ B.players.length - 1 by omega), inB_iff.2 (show (0 : Int) ≤ (n : Int) ∧ (n : Int) ≤ B.parts * B.size by omega)]
  rfl
set_option maxRecDepth 100000 in
set_option maxHeartbeats 8000000 in
theorem DrumTrue_calls (B : BookV) (A : Option Addr) (c : Nat) (bits : List Int) (w : World) (hB : B.Reads w) (hp : IntsAt w A bits) (hM : MarksAt w) :
    Calls Tryd.prog 8 #[B.val, .slice A bits.length c] w fun e w' => e = .returned (.bool true) ∧ Below w.heap.size w w' := by
  have HB := Lib.hid hB
  have HP := Lib.hid hp
  have HM := Lib.hid hM
  have H : Below w.heap.size w (w.alloc (.cells B.cells 27)) := (Below.refl _ _).alloc (Nat.le_refl _) _
  have k2 := BoxAt.new w B.cells 27
  clear hB hp hM
  unfold BookV.val BookV.cells
  go_enter Tryd.func8, Tryd.ntmps8
  go_upto_region 1 with (fail)
  unfold BookV.cells at H k2
  generalize w.alloc _ = w0 at *
  have K2 := Lib.hid k2
  obtain ⟨c2, f2, l2⟩ := k2
  go_wp2_with fail
  refine (eq0_1 (v' := B.val) (by unfold BookV.val BookV.cells; rfl) (sound_calls B _ (HB.out.below H))).mono ?_
  rintro e w1 ⟨rfl, hb⟩
  replace H := below_then H H.size hb
  replace K2 := Lib.hid (K2.out.below hb)
  clear hb c2 f2 l2
  cases hg : goodB B with
  | false =>
    have HH := Lib.hid H
    clear H hg
    go_wp2_with fail
    refine (works_calls _ (HM.out.below HH.out)).mono ?_
    rintro e w2 ⟨rfl, hb⟩
    have hfin := below_then HH.out HH.out.size hb
    clear hb
    go_wp2
    go_ret
    exact ⟨rfl, hfin⟩
  | true =>
    have Hgg := Lib.hid hg
    have g := Lib.hid ((goodB_iff B).1 hg)
    clear hg
    obtain ⟨c2, f2, l2⟩ := K2.out
    go_wp2_with fail
    refine (eq0_2 (v' := B.val) (by unfold BookV.val BookV.cells; rfl) (chosen_calls B g.out A c bits _ (HP.out.below H))).mono ?_
    rintro e w2 ⟨⟨A2, cc2, rfl, hi2, hc2⟩, hb⟩
    replace H := below_then H H.size hb
    replace K2 := Lib.hid (K2.out.below hb)
    have ip := Lib.hid (chosenP_path g.out bits)
    generalize chosenP B bits = path at *
    have Hi2 := Lib.hid hi2
    clear hb c2 f2 l2 hi2
    obtain ⟨c2, f2, l2⟩ := K2.out
    go_wp2_with fail
    refine (eq0_2 (v' := B.val) (by unfold BookV.val BookV.cells; rfl) (Last_calls B _ cc2 path _ (HB.out.below H) Hi2.out (HM.out.below H))).mono ?_
    rintro e w3 ⟨hR, hb⟩
    obtain ⟨A3, cc3, rfl, hi3⟩ : ∃ A c4, e = .returned (.tuple #[.slice A (lastL B path 5).length c4, .int .i64 0]) ∧ IntsAt w3 A (lastL B path 5) := by
      rcases hR with ⟨h, _⟩ | ⟨_, h, _⟩ | ⟨_, _, A, rfl, hi⟩
      · rw [Hgg.out] at h; cases h
      · rw [(isPathS_iff g.out path).2 ip.out] at h; cases h
      · exact ⟨A, _, rfl, hi⟩
    replace H := below_then H H.size hb
    replace K2 := Lib.hid (K2.out.below hb)
    replace Hi2 := Lib.hid (Hi2.out.below hb)
    have hrise : Rising (lastL B path 5) B.players.length := by rw [lastL_five g.out]; exact lastL_rising B path _
    have Hrise := Lib.hid hrise
    have Hthere : Hid (∀ i : Nat, i < B.players.length → ((i : Int) ∈ lastL B path 5 ↔ 0 < lateTo B path (gp B.players i) true (B.parts * B.size).toNat)) := fun i hi => late_there g.out hi
    have Hi3 := Lib.hid hi3
    have H3 := Lib.hid H
    clear hb hR c2 f2 l2 hi3 hrise H
    generalize lastL B path 5 = ll at *
    obtain ⟨c2, f2, l2⟩ := K2.out
    have hpll := HB.out.2.1
    have hmany := g.out.many
    have hps := parts_size g.out
    go_wp2_with fail
    refine (Grows_true A3 cc3 ll _ _ Hi3.out Hrise.out).mono ?_
    rintro e w3' ⟨rfl, rfl⟩
    go_upto_block 0 with (fail)
    clear c2 f2 l2
    obtain ⟨nn, hnn⟩ : ∃ nn : Nat, B.parts * B.size = (nn : Int) := Int.eq_ofNat_of_zero_le (by omega)
    have hnn8 : nn ≤ 128 := by omega
    have hwps : IntKind.i64.wrap (B.parts * B.size) = (nn : Int) := by rw [hnn]; exact wrap_in (by omega) (by omega)
    have hnt : (B.parts * B.size).toNat = nn := by omega
    have Hnn := Lib.hid hnn
    have Hnt := Lib.hid hnt
    clear hnn hnt hps
    go_wp2
    go_loopg [8] B.players.length (fun gk i wr => ∃ k : Nat, k ≤ B.players.length ∧ gk = B.players.length - k ∧ i = .int .i64 k ∧ Below w3.heap.size w3 wr)
    case atStart => exact ⟨0, Nat.zero_le _, rfl, rfl, Below.refl _ _⟩
    case round =>
      obtain ⟨k, hk, hgk, rfl, hbe⟩ := hrel
      have Hgk := Lib.hid hgk
      have Hbe := Lib.hid hbe
      have HW := Lib.hid (below_then H3.out H3.out.size hbe)
      obtain ⟨c2, f2, l2⟩ := K2.out.below hbe
      clear hgk hbe
      by_cases hlt : k < B.players.length
      · have hki : (k : Int) < B.players.length := by omega
        have Hlt := Lib.hid hlt
        clear hlt
        go_wp2_with fail
        refine (eq0_4 (v' := B.val) (by unfold BookV.val BookV.cells; rfl) (truly_calls B g.out A2 cc2 path ip.out k Hlt.out A c bits _ (HB.out.below HW.out) (Hi2.out.below Hbe.out) (HP.out.below HW.out))).mono ?_
        rintro e w4 ⟨⟨A4, cc4, r, rfl, hi4, hrow⟩, hb⟩
        rw [Hnt.out] at hrow
        have hrl : r.length = nn + 1 := hrow.1
        obtain ⟨br, or', rfl⟩ := hi4.some_ (by omega)
        have Hi4 := Lib.hid hi4
        have Hrow := Lib.hid hrow
        have Hrl := Lib.hid hrl
        have Hb4 := Lib.hid (below_then Hbe.out Hbe.out.size hb)
        have HW4 := Lib.hid (below_then HW.out HW.out.size hb)
        rw [hrl]
        clear hb hi4 hrow hrl c2 f2 l2
        go_upto_block 2 with (fail)
        go_cut [10] (fun s w5 => Below w4.heap.size w4 w5)
        case first =>
          go_wp2
          go_loopg [10] (nn + 1) (fun gi' i wi => ∃ m : Nat, m ≤ nn + 1 ∧ gi' = nn + 1 - m ∧ i = .int .i64 m ∧ Below w4.heap.size w4 wi)
          case atStart => exact ⟨0, Nat.zero_le _, rfl, rfl, Below.refl _ _⟩
          case round =>
            obtain ⟨m, hm, hgm, rfl, hbm⟩ := hrel
            have Hgm := Lib.hid hgm
            have Hbm := Lib.hid hbm
            have HWm := Lib.hid (below_then HW4.out HW4.out.size hbm)
            have hB4 := Lib.hid (below_then Hb4.out Hb4.out.size hbm)
            obtain ⟨c2, f2, l2⟩ := K2.out.below hB4.out
            clear hgm hbm
            by_cases hlm : m < nn + 1
            · have hmi : (m : Int) < (nn : Int) + 1 := by omega
              have hcr := Hi4.out.at_ (show m < r.length by have := Hrl.out; omega)
              have hcr2 := cell_below Hbm.out hcr
              have brl := World.block_lt_of_cell? _ _ hcr2
              simp only at brl
              have hbr := Hrow.out.2 m (by omega)
              have hbear : inB (gi r m) (lateTo B path (gp B.players k) false m) (lateTo B path (gp B.players k) true m) = true := inB_iff.2 hbr
              have hlR := lateR_ok Hgg.out ((isPathS_iff g.out path).2 ip.out) Hlt.out (show (m : Int) ≤ B.parts * B.size by have := Hnn.out; omega)
              have HlR := Lib.hid hlR
              clear hcr hbr hlR
              generalize lateTo B path (gp B.players k) false m = lo at *
              generalize lateTo B path (gp B.players k) true m = hi at *
              go_wp2_with fail
              refine (eq0_4 (v' := B.val) (by unfold BookV.val BookV.cells; rfl) (Late_calls B A2 cc2 path k m _ (HB.out.below HWm.out) (Hi2.out.below hB4.out) (HM.out.below HWm.out))).mono ?_
              rintro e w5 ⟨rfl, hb⟩
              rw [HlR.out]
              have hb5 := Lib.hid (below_then Hbm.out Hbm.out.size hb)
              clear hb c2 f2 l2 hcr2 brl
              go_upto_region 15 with (fail)
              have kk := BoxAt.new w5 #[.int .i64 lo, .int .i64 hi] 24
              have hb6 := hb5.out.alloc hb5.out.size (.cells #[.int .i64 lo, .int .i64 hi] 24)
              generalize w5.alloc _ = w6 at *
              generalize w5.heap.size = n5 at *
              obtain ⟨c11, f11, l11⟩ := kk
              have hcr := cell_below hb6 (Hi4.out.at_ (show m < r.length by have := Hrl.out; omega))
              have brl := World.block_lt_of_cell? _ _ hcr
              simp only at brl
              have Hb6 := Lib.hid hb6
              clear hb6
              refine region_plain (S := fun w' => Below w6.heap.size w6 w') 11 (by kernel_rfl) ?_ (fun hHeld => ?_)
              · exact (Below.refl _ _).drew
              first | (refine anyT_take 0 (some 64) (v := ?_) rfl rfl (by kernel_rfl) (by kernel_rfl) (by kernel_rfl) (by kernel_rfl) (fun _ _ _ h => h) (Or.inl ⟨by rfl, ?_⟩) hHeld ?_; rotate_left; focus (intro wq hSw; obtain ⟨hcq, hfq⟩ := bcell hSw; go_simp; (try with_reducible rfl); done))
              (try simp only [Act.put, List.setIfInBounds_toArray, List.set_cons_zero, List.set_cons_succ])
              first | (refine anyT_take 1 (some 65) (v := ?_) rfl rfl (by kernel_rfl) (by kernel_rfl) (by kernel_rfl) (by kernel_rfl) (fun _ _ _ h => h) (Or.inl ⟨by rfl, ?_⟩) hHeld ?_; rotate_left; focus (intro wq hSw; obtain ⟨hcq, hfq⟩ := bcell hSw; go_simp; (try with_reducible rfl); done))
              (try simp only [Act.put, List.setIfInBounds_toArray, List.set_cons_zero, List.set_cons_succ])
              first | (refine anyT_take 2 (some 66) (v := ?_) rfl rfl (by kernel_rfl) (by kernel_rfl) (by kernel_rfl) (by kernel_rfl) (fun _ _ _ h => h) (Or.inl ⟨by rfl, ?_⟩) hHeld ?_; rotate_left; focus (intro wq hSw; obtain ⟨hcq, hfq⟩ := bcell hSw; go_simp; (try with_reducible rfl); done))
              (try simp only [Act.put, List.setIfInBounds_toArray, List.set_cons_zero, List.set_cons_succ])
              first | (refine anyT_take 3 (some 67) rfl rfl (by kernel_rfl) (by kernel_rfl) (by kernel_rfl) (by kernel_rfl) (fun _ _ _ h => h) (Or.inr ⟨by rfl, rfl⟩) hHeld ?_) | (refine anyT_take 3 (some 67) (v := ?_) rfl rfl (by kernel_rfl) (by kernel_rfl) (by kernel_rfl) (by kernel_rfl) (fun _ _ _ h => h) (Or.inl ⟨by rfl, ?_⟩) hHeld ?_; rotate_left; focus (intro wq hSw; obtain ⟨hcq, hfq⟩ := bcell hSw; go_simp; (try with_reducible rfl); done))
              (try simp only [Act.put, List.setIfInBounds_toArray, List.set_cons_zero, List.set_cons_succ])
              first | (refine anyT_take 4 (some 68) rfl rfl (by kernel_rfl) (by kernel_rfl) (by kernel_rfl) (by kernel_rfl) (fun _ _ _ h => h) (Or.inr ⟨by rfl, rfl⟩) hHeld ?_) | (refine anyT_take 4 (some 68) (v := ?_) rfl rfl (by kernel_rfl) (by kernel_rfl) (by kernel_rfl) (by kernel_rfl) (fun _ _ _ h => h) (Or.inl ⟨by rfl, ?_⟩) hHeld ?_; rotate_left; focus (intro wq hSw; obtain ⟨hcq, hfq⟩ := bcell hSw; go_simp; (try with_reducible rfl); done))
              (try simp only [Act.put, List.setIfInBounds_toArray, List.set_cons_zero, List.set_cons_succ])
              first | (refine anyT_take 5 (some 69) rfl rfl (by kernel_rfl) (by kernel_rfl) (by kernel_rfl) (by kernel_rfl) (fun _ _ _ h => h) (Or.inr ⟨by rfl, rfl⟩) hHeld ?_) | (refine anyT_take 5 (some 69) (v := ?_) rfl rfl (by kernel_rfl) (by kernel_rfl) (by kernel_rfl) (by kernel_rfl) (fun _ _ _ h => h) (Or.inl ⟨by rfl, ?_⟩) hHeld ?_; rotate_left; focus (intro wq hSw; obtain ⟨hcq, hfq⟩ := bcell hSw; go_simp; (try with_reducible rfl); done))
              (try simp only [Act.put, List.setIfInBounds_toArray, List.set_cons_zero, List.set_cons_succ])
              first | (refine anyT_take 6 (some 70) rfl rfl (by kernel_rfl) (by kernel_rfl) (by kernel_rfl) (by kernel_rfl) (fun _ _ _ h => h) (Or.inr ⟨by rfl, rfl⟩) hHeld ?_) | (refine anyT_take 6 (some 70) (v := ?_) rfl rfl (by kernel_rfl) (by kernel_rfl) (by kernel_rfl) (by kernel_rfl) (fun _ _ _ h => h) (Or.inl ⟨by rfl, ?_⟩) hHeld ?_; rotate_left; focus (intro wq hSw; obtain ⟨hcq, hfq⟩ := bcell hSw; go_simp; (try with_reducible rfl); done))
              (try simp only [Act.put, List.setIfInBounds_toArray, List.set_cons_zero, List.set_cons_succ])
              first | (refine anyT_take 7 (some 71) rfl rfl (by kernel_rfl) (by kernel_rfl) (by kernel_rfl) (by kernel_rfl) (fun _ _ _ h => h) (Or.inr ⟨by rfl, rfl⟩) hHeld ?_) | (refine anyT_take 7 (some 71) (v := ?_) rfl rfl (by kernel_rfl) (by kernel_rfl) (by kernel_rfl) (by kernel_rfl) (fun _ _ _ h => h) (Or.inl ⟨by rfl, ?_⟩) hHeld ?_; rotate_left; focus (intro wq hSw; obtain ⟨hcq, hfq⟩ := bcell hSw; go_simp; (try with_reducible rfl); done))
              (try simp only [Act.put, List.setIfInBounds_toArray, List.set_cons_zero, List.set_cons_succ])
              refine anyT_one 8 (by kernel_rfl) rfl (fun K hK => ?_)
              go_simp
              refine (Bears_calls _ _ _ _).mono ?_; rintro e w7 ⟨rfl, hb7⟩; rw [hbear]
              refine hK.out _ _ ?_ (fun hHeld => ?_)
              · exact below_then hHeld hHeld.size hb7
              clear hK K
              (try simp only [Act.put, List.setIfInBounds_toArray, List.set_cons_zero, List.set_cons_succ])
              first | (refine anyT_take 9 (some 73) rfl rfl (by kernel_rfl) (by kernel_rfl) (by kernel_rfl) (by kernel_rfl) (fun _ _ _ h => h) (Or.inr ⟨by rfl, rfl⟩) hHeld ?_) | (refine anyT_take 9 (some 73) (v := ?_) rfl rfl (by kernel_rfl) (by kernel_rfl) (by kernel_rfl) (by kernel_rfl) (fun _ _ _ h => h) (Or.inl ⟨by rfl, ?_⟩) hHeld ?_; rotate_left; focus (intro wq hSw; obtain ⟨hcq, hfq⟩ := bcell hSw; go_simp; (try with_reducible rfl); done))
              (try simp only [Act.put, List.setIfInBounds_toArray, List.set_cons_zero, List.set_cons_succ])
              first | (refine anyT_take 10 (some 74) (v := ?_) rfl rfl (by kernel_rfl) (by kernel_rfl) (by kernel_rfl) (by kernel_rfl) (fun _ _ _ h => h) (Or.inl ⟨by rfl, ?_⟩) hHeld ?_; rotate_left; focus (intro wq hSw; obtain ⟨hcq, hfq⟩ := bcell hSw; go_simp; (try with_reducible rfl); done))
              (try simp only [Act.put, List.setIfInBounds_toArray, List.set_cons_zero, List.set_cons_succ])
              refine anyT_done (by kernel_rfl) ?_ _
              have Hh := Lib.hid hHeld
              clear hHeld hcr brl c11 f11 l11
              go_wp2
              go_roundg (nn + 1 - (m + 1))
              case measure => have := Hgm.out; omega
              case rel => exact ⟨m + 1, by omega, rfl, by go_num, below_then Hb6.out Hb6.out.size Hh.out⟩
            · obtain rfl : m = nn + 1 := by omega
              clear c2 f2 l2
              go_wp2
              go_meet
              exact Hbm.out
        case rest =>
          have hb5 := hcut
          clear hcut
          generalize wc = w5 at *
          have Hb5 := Lib.hid (below_then Hb4.out Hb4.out.size hb5)
          have HW5 := Lib.hid (below_then H3.out H3.out.size Hb5.out)
          have hcr := cell_below hb5 (Hi4.out.at_ (show nn < r.length by have := Hrl.out; omega))
          have brl := World.block_lt_of_cell? _ _ hcr
          simp only at brl
          have hni : (nn : Int) < (nn : Int) + 1 := by omega
          have hwn : IntKind.i64.wrap ((nn : Int) + 1 - 1) = (nn : Int) := by rw [show (nn : Int) + 1 - 1 = nn by omega]; exact wrap_in (by omega) (by omega)
          have hxr := Hrow.out.2 nn (Nat.le_refl _)
          have hth := Hthere.out k Hlt.out
          rw [Hnt.out] at hth
          have hlR := lateR_ok Hgg.out ((isPathS_iff g.out path).2 ip.out) Hlt.out (show (nn : Int) ≤ B.parts * B.size by have := Hnn.out; omega)
          have HlR := Lib.hid hlR
          have Hth := Lib.hid hth
          have Hxr := Lib.hid hxr
          obtain ⟨c2, f2, l2⟩ := K2.out.below Hb5.out
          clear hb5 hlR hth hxr
          generalize gi r nn = x at *
          generalize lateTo B path (gp B.players k) false nn = lo at *
          generalize lateTo B path (gp B.players k) true nn = hi at *
          go_upto_region 17 with (fail)
          go_cut [87] (fun s w6 => s = .bool false ∧ w5 = w6)
          case first =>
            by_cases hx : 0 < x
            · have Hin : Hid ((k : Int) ∈ ll) := Lib.hid (Hth.out.2 (by have := Hxr.out.2; omega))
              go_wp2_with fail
              refine (Where_calls A3 cc3 ll k _ (Hi3.out.below Hb5.out)).mono ?_
              rintro e w6 ⟨⟨rr, rfl, hrr⟩, rfl⟩
              have Hr0 : Hid (¬ rr < 0) := by unfold Hid; rcases hrr with ⟨h, _⟩ | ⟨_, h⟩; omega; exact absurd Hin.out h
              clear hrr
              go_wp2
              go_meet
              exact ⟨by have := Hr0.out; simp [this], rfl⟩
            · go_wp2
              go_meet
              exact ⟨rfl, rfl⟩
          case rest =>
            obtain ⟨rfl, rfl⟩ := hcut
            clear hcr brl
            go_wp2_with fail
            refine (eq0_4 (v' := B.val) (by unfold BookV.val BookV.cells; rfl) (Late_calls B A2 cc2 path k nn _ (HB.out.below HW5.out) (Hi2.out.below Hb5.out) (HM.out.below HW5.out))).mono ?_
            rintro e w6 ⟨rfl, hb⟩
            rw [HlR.out]
            have hb6 := Lib.hid (below_then Hb5.out Hb5.out.size hb)
            clear hb c2 f2 l2
            go_upto_region 20 with (fail)
            have kk := BoxAt.new w6 #[.int .i64 lo, .int .i64 hi] 24
            have hb7 := hb6.out.alloc hb6.out.size (.cells #[.int .i64 lo, .int .i64 hi] 24)
            generalize w6.alloc _ = w7 at *
            generalize w6.heap.size = n6 at *
            obtain ⟨c13, f13, l13⟩ := kk
            have Hb7 := Lib.hid hb7
            clear hb7
            by_cases hh : 0 < hi
            · have Hin : Hid ((k : Int) ∈ ll) := Lib.hid (Hth.out.2 hh)
              refine region_plain (S := fun w' => Below w7.heap.size w7 w') 12 (by kernel_rfl) ?_ (fun hHeld => ?_)
              · exact (Below.refl _ _).drew
              first | (refine anyT_take 0 (some 100) (v := ?_) rfl rfl (by kernel_rfl) (by kernel_rfl) (by kernel_rfl) (by kernel_rfl) (fun _ _ _ h => h) (Or.inl ⟨by rfl, ?_⟩) hHeld ?_; rotate_left; focus (intro wq hSw; obtain ⟨hcq, hfq⟩ := bcell hSw; go_simp; (try with_reducible rfl); done))
              (try simp only [Act.put, List.setIfInBounds_toArray, List.set_cons_zero, List.set_cons_succ])
              first | (refine anyT_take 1 (some 101) (v := ?_) rfl rfl (by kernel_rfl) (by kernel_rfl) (by kernel_rfl) (by kernel_rfl) (fun _ _ _ h => h) (Or.inl ⟨by rfl, ?_⟩) hHeld ?_; rotate_left; focus (intro wq hSw; obtain ⟨hcq, hfq⟩ := bcell hSw; go_simp; (try with_reducible rfl); done))
              (try simp only [Act.put, List.setIfInBounds_toArray, List.set_cons_zero, List.set_cons_succ])
              first | (refine anyT_take 2 (some 102) (v := ?_) rfl rfl (by kernel_rfl) (by kernel_rfl) (by kernel_rfl) (by kernel_rfl) (fun _ _ _ h => h) (Or.inl ⟨by rfl, ?_⟩) hHeld ?_; rotate_left; focus (intro wq hSw; obtain ⟨hcq, hfq⟩ := bcell hSw; go_simp; (try with_reducible rfl); done))
              (try simp only [Act.put, List.setIfInBounds_toArray, List.set_cons_zero, List.set_cons_succ])
              first | (refine anyT_take 3 (some 103) rfl rfl (by kernel_rfl) (by kernel_rfl) (by kernel_rfl) (by kernel_rfl) (fun _ _ _ h => h) (Or.inr ⟨by rfl, rfl⟩) hHeld ?_) | (refine anyT_take 3 (some 103) (v := ?_) rfl rfl (by kernel_rfl) (by kernel_rfl) (by kernel_rfl) (by kernel_rfl) (fun _ _ _ h => h) (Or.inl ⟨by rfl, ?_⟩) hHeld ?_; rotate_left; focus (intro wq hSw; obtain ⟨hcq, hfq⟩ := bcell hSw; go_simp; (try with_reducible rfl); done))
              (try simp only [Act.put, List.setIfInBounds_toArray, List.set_cons_zero, List.set_cons_succ])
              first | (refine anyT_take 4 (some 104) rfl rfl (by kernel_rfl) (by kernel_rfl) (by kernel_rfl) (by kernel_rfl) (fun _ _ _ h => h) (Or.inr ⟨by rfl, rfl⟩) hHeld ?_) | (refine anyT_take 4 (some 104) (v := ?_) rfl rfl (by kernel_rfl) (by kernel_rfl) (by kernel_rfl) (by kernel_rfl) (fun _ _ _ h => h) (Or.inl ⟨by rfl, ?_⟩) hHeld ?_; rotate_left; focus (intro wq hSw; obtain ⟨hcq, hfq⟩ := bcell hSw; go_simp; (try with_reducible rfl); done))
              (try simp only [Act.put, List.setIfInBounds_toArray, List.set_cons_zero, List.set_cons_succ])
              first | (refine anyT_take 5 (some 105) rfl rfl (by kernel_rfl) (by kernel_rfl) (by kernel_rfl) (by kernel_rfl) (fun _ _ _ h => h) (Or.inr ⟨by rfl, rfl⟩) hHeld ?_) | (refine anyT_take 5 (some 105) (v := ?_) rfl rfl (by kernel_rfl) (by kernel_rfl) (by kernel_rfl) (by kernel_rfl) (fun _ _ _ h => h) (Or.inl ⟨by rfl, ?_⟩) hHeld ?_; rotate_left; focus (intro wq hSw; obtain ⟨hcq, hfq⟩ := bcell hSw; go_simp; (try with_reducible rfl); done))
              (try simp only [Act.put, List.setIfInBounds_toArray, List.set_cons_zero, List.set_cons_succ])
              first | (refine anyT_take 6 (some 106) rfl rfl (by kernel_rfl) (by kernel_rfl) (by kernel_rfl) (by kernel_rfl) (fun _ _ _ h => h) (Or.inr ⟨by rfl, rfl⟩) hHeld ?_) | (refine anyT_take 6 (some 106) (v := ?_) rfl rfl (by kernel_rfl) (by kernel_rfl) (by kernel_rfl) (by kernel_rfl) (fun _ _ _ h => h) (Or.inl ⟨by rfl, ?_⟩) hHeld ?_; rotate_left; focus (intro wq hSw; obtain ⟨hcq, hfq⟩ := bcell hSw; go_simp; (try with_reducible rfl); done))
              (try simp only [Act.put, List.setIfInBounds_toArray, List.set_cons_zero, List.set_cons_succ])
              first | (refine anyT_take 7 (some 107) rfl rfl (by kernel_rfl) (by kernel_rfl) (by kernel_rfl) (by kernel_rfl) (fun _ _ _ h => h) (Or.inr ⟨by rfl, rfl⟩) hHeld ?_) | (refine anyT_take 7 (some 107) (v := ?_) rfl rfl (by kernel_rfl) (by kernel_rfl) (by kernel_rfl) (by kernel_rfl) (fun _ _ _ h => h) (Or.inl ⟨by rfl, ?_⟩) hHeld ?_; rotate_left; focus (intro wq hSw; obtain ⟨hcq, hfq⟩ := bcell hSw; go_simp; (try with_reducible rfl); done))
              (try simp only [Act.put, List.setIfInBounds_toArray, List.set_cons_zero, List.set_cons_succ])
              refine anyT_one 8 (by kernel_rfl) rfl (fun K hK => ?_)
              go_simp
              refine (Where_calls A3 cc3 ll k _ ((Hi3.out.below Hb7.out).below hHeld)).mono ?_; rintro e w8 ⟨⟨rr, rfl, hrr⟩, rfl⟩; have hr0 : 0 ≤ rr := (by rcases hrr with ⟨h, _⟩ | ⟨_, h⟩; exact h; exact absurd Hin.out h); clear hrr
              refine hK.out _ _ ?_ (fun hHeld => ?_)
              · exact hHeld
              clear hK K
              (try simp only [Act.put, List.setIfInBounds_toArray, List.set_cons_zero, List.set_cons_succ])
              first | (refine anyT_take 9 (some 109) rfl rfl (by kernel_rfl) (by kernel_rfl) (by kernel_rfl) (by kernel_rfl) (fun _ _ _ h => h) (Or.inr ⟨by rfl, rfl⟩) hHeld ?_) | (refine anyT_take 9 (some 109) (v := ?_) rfl rfl (by kernel_rfl) (by kernel_rfl) (by kernel_rfl) (by kernel_rfl) (fun _ _ _ h => h) (Or.inl ⟨by rfl, ?_⟩) hHeld ?_; rotate_left; focus (intro wq hSw; obtain ⟨hcq, hfq⟩ := bcell hSw; go_simp; (try with_reducible rfl); done))
              (try simp only [Act.put, List.setIfInBounds_toArray, List.set_cons_zero, List.set_cons_succ])
              first | (refine anyT_take 10 (some 110) rfl rfl (by kernel_rfl) (by kernel_rfl) (by kernel_rfl) (by kernel_rfl) (fun _ _ _ h => h) (Or.inr ⟨by rfl, rfl⟩) hHeld ?_) | (refine anyT_take 10 (some 110) (v := ?_) rfl rfl (by kernel_rfl) (by kernel_rfl) (by kernel_rfl) (by kernel_rfl) (fun _ _ _ h => h) (Or.inl ⟨by rfl, ?_⟩) hHeld ?_; rotate_left; focus (intro wq hSw; obtain ⟨hcq, hfq⟩ := bcell hSw; go_simp; (try with_reducible rfl); done))
              (try simp only [Act.put, List.setIfInBounds_toArray, List.set_cons_zero, List.set_cons_succ])
              first | (refine anyT_take 11 (some 111) (v := ?_) rfl rfl (by kernel_rfl) (by kernel_rfl) (by kernel_rfl) (by kernel_rfl) (fun _ _ _ h => h) (Or.inl ⟨by rfl, ?_⟩) hHeld ?_; rotate_left; focus (intro wq hSw; obtain ⟨hcq, hfq⟩ := bcell hSw; go_simp; (try with_reducible rfl); done))
              (try simp only [Act.put, List.setIfInBounds_toArray, List.set_cons_zero, List.set_cons_succ])
              refine anyT_done (by kernel_rfl) ?_ _
              have Hh := Lib.hid hHeld
              clear hHeld c13 f13 l13
              go_wp2
              go_roundg (B.players.length - (k + 1))
              case measure => have := Hgk.out; omega
              case rel => exact ⟨k + 1, by have := Hlt.out; omega, rfl, by go_num, below_then Hb7.out Hb7.out.size Hh.out⟩
            · have Hin : Hid ((k : Int) ∉ ll) := fun h => hh (Hth.out.1 h)
              refine region_plain (S := fun w' => Below w7.heap.size w7 w') 12 (by kernel_rfl) ?_ (fun hHeld => ?_)
              · exact (Below.refl _ _).drew
              first | (refine anyT_take 0 (some 100) (v := ?_) rfl rfl (by kernel_rfl) (by kernel_rfl) (by kernel_rfl) (by kernel_rfl) (fun _ _ _ h => h) (Or.inl ⟨by rfl, ?_⟩) hHeld ?_; rotate_left; focus (intro wq hSw; obtain ⟨hcq, hfq⟩ := bcell hSw; go_simp; (try with_reducible rfl); done))
              (try simp only [Act.put, List.setIfInBounds_toArray, List.set_cons_zero, List.set_cons_succ])
              first | (refine anyT_take 1 (some 101) (v := ?_) rfl rfl (by kernel_rfl) (by kernel_rfl) (by kernel_rfl) (by kernel_rfl) (fun _ _ _ h => h) (Or.inl ⟨by rfl, ?_⟩) hHeld ?_; rotate_left; focus (intro wq hSw; obtain ⟨hcq, hfq⟩ := bcell hSw; go_simp; (try with_reducible rfl); done))
              (try simp only [Act.put, List.setIfInBounds_toArray, List.set_cons_zero, List.set_cons_succ])
              first | (refine anyT_take 2 (some 102) (v := ?_) rfl rfl (by kernel_rfl) (by kernel_rfl) (by kernel_rfl) (by kernel_rfl) (fun _ _ _ h => h) (Or.inl ⟨by rfl, ?_⟩) hHeld ?_; rotate_left; focus (intro wq hSw; obtain ⟨hcq, hfq⟩ := bcell hSw; go_simp; (try with_reducible rfl); done))
              (try simp only [Act.put, List.setIfInBounds_toArray, List.set_cons_zero, List.set_cons_succ])
              first | (refine anyT_take 3 (some 103) rfl rfl (by kernel_rfl) (by kernel_rfl) (by kernel_rfl) (by kernel_rfl) (fun _ _ _ h => h) (Or.inr ⟨by rfl, rfl⟩) hHeld ?_) | (refine anyT_take 3 (some 103) (v := ?_) rfl rfl (by kernel_rfl) (by kernel_rfl) (by kernel_rfl) (by kernel_rfl) (fun _ _ _ h => h) (Or.inl ⟨by rfl, ?_⟩) hHeld ?_; rotate_left; focus (intro wq hSw; obtain ⟨hcq, hfq⟩ := bcell hSw; go_simp; (try with_reducible rfl); done))
              (try simp only [Act.put, List.setIfInBounds_toArray, List.set_cons_zero, List.set_cons_succ])
              first | (refine anyT_take 4 (some 104) rfl rfl (by kernel_rfl) (by kernel_rfl) (by kernel_rfl) (by kernel_rfl) (fun _ _ _ h => h) (Or.inr ⟨by rfl, rfl⟩) hHeld ?_) | (refine anyT_take 4 (some 104) (v := ?_) rfl rfl (by kernel_rfl) (by kernel_rfl) (by kernel_rfl) (by kernel_rfl) (fun _ _ _ h => h) (Or.inl ⟨by rfl, ?_⟩) hHeld ?_; rotate_left; focus (intro wq hSw; obtain ⟨hcq, hfq⟩ := bcell hSw; go_simp; (try with_reducible rfl); done))
              (try simp only [Act.put, List.setIfInBounds_toArray, List.set_cons_zero, List.set_cons_succ])
              first | (refine anyT_take 5 (some 105) rfl rfl (by kernel_rfl) (by kernel_rfl) (by kernel_rfl) (by kernel_rfl) (fun _ _ _ h => h) (Or.inr ⟨by rfl, rfl⟩) hHeld ?_) | (refine anyT_take 5 (some 105) (v := ?_) rfl rfl (by kernel_rfl) (by kernel_rfl) (by kernel_rfl) (by kernel_rfl) (fun _ _ _ h => h) (Or.inl ⟨by rfl, ?_⟩) hHeld ?_; rotate_left; focus (intro wq hSw; obtain ⟨hcq, hfq⟩ := bcell hSw; go_simp; (try with_reducible rfl); done))
              (try simp only [Act.put, List.setIfInBounds_toArray, List.set_cons_zero, List.set_cons_succ])
              first | (refine anyT_take 6 (some 106) rfl rfl (by kernel_rfl) (by kernel_rfl) (by kernel_rfl) (by kernel_rfl) (fun _ _ _ h => h) (Or.inr ⟨by rfl, rfl⟩) hHeld ?_) | (refine anyT_take 6 (some 106) (v := ?_) rfl rfl (by kernel_rfl) (by kernel_rfl) (by kernel_rfl) (by kernel_rfl) (fun _ _ _ h => h) (Or.inl ⟨by rfl, ?_⟩) hHeld ?_; rotate_left; focus (intro wq hSw; obtain ⟨hcq, hfq⟩ := bcell hSw; go_simp; (try with_reducible rfl); done))
              (try simp only [Act.put, List.setIfInBounds_toArray, List.set_cons_zero, List.set_cons_succ])
              first | (refine anyT_take 7 (some 107) rfl rfl (by kernel_rfl) (by kernel_rfl) (by kernel_rfl) (by kernel_rfl) (fun _ _ _ h => h) (Or.inr ⟨by rfl, rfl⟩) hHeld ?_) | (refine anyT_take 7 (some 107) (v := ?_) rfl rfl (by kernel_rfl) (by kernel_rfl) (by kernel_rfl) (by kernel_rfl) (fun _ _ _ h => h) (Or.inl ⟨by rfl, ?_⟩) hHeld ?_; rotate_left; focus (intro wq hSw; obtain ⟨hcq, hfq⟩ := bcell hSw; go_simp; (try with_reducible rfl); done))
              (try simp only [Act.put, List.setIfInBounds_toArray, List.set_cons_zero, List.set_cons_succ])
              refine anyT_one 8 (by kernel_rfl) rfl (fun K hK => ?_)
              go_simp
              refine (Where_calls A3 cc3 ll k _ ((Hi3.out.below Hb7.out).below hHeld)).mono ?_; rintro e w8 ⟨⟨rr, rfl, hrr⟩, rfl⟩; have hr0 : ¬ 0 ≤ rr := (by rcases hrr with ⟨_, h⟩ | ⟨h, _⟩; exact absurd h Hin.out; omega); clear hrr
              refine hK.out _ _ ?_ (fun hHeld => ?_)
              · exact hHeld
              clear hK K
              (try simp only [Act.put, List.setIfInBounds_toArray, List.set_cons_zero, List.set_cons_succ])
              first | (refine anyT_take 9 (some 109) rfl rfl (by kernel_rfl) (by kernel_rfl) (by kernel_rfl) (by kernel_rfl) (fun _ _ _ h => h) (Or.inr ⟨by rfl, rfl⟩) hHeld ?_) | (refine anyT_take 9 (some 109) (v := ?_) rfl rfl (by kernel_rfl) (by kernel_rfl) (by kernel_rfl) (by kernel_rfl) (fun _ _ _ h => h) (Or.inl ⟨by rfl, ?_⟩) hHeld ?_; rotate_left; focus (intro wq hSw; obtain ⟨hcq, hfq⟩ := bcell hSw; go_simp; (try with_reducible rfl); done))
              (try simp only [Act.put, List.setIfInBounds_toArray, List.set_cons_zero, List.set_cons_succ])
              first | (refine anyT_take 10 (some 110) rfl rfl (by kernel_rfl) (by kernel_rfl) (by kernel_rfl) (by kernel_rfl) (fun _ _ _ h => h) (Or.inr ⟨by rfl, rfl⟩) hHeld ?_) | (refine anyT_take 10 (some 110) (v := ?_) rfl rfl (by kernel_rfl) (by kernel_rfl) (by kernel_rfl) (by kernel_rfl) (fun _ _ _ h => h) (Or.inl ⟨by rfl, ?_⟩) hHeld ?_; rotate_left; focus (intro wq hSw; obtain ⟨hcq, hfq⟩ := bcell hSw; go_simp; (try with_reducible rfl); done))
              (try simp only [Act.put, List.setIfInBounds_toArray, List.set_cons_zero, List.set_cons_succ])
              first | (refine anyT_take 11 (some 111) (v := ?_) rfl rfl (by kernel_rfl) (by kernel_rfl) (by kernel_rfl) (by kernel_rfl) (fun _ _ _ h => h) (Or.inl ⟨by rfl, ?_⟩) hHeld ?_; rotate_left; focus (intro wq hSw; obtain ⟨hcq, hfq⟩ := bcell hSw; go_simp; (try with_reducible rfl); done))
              (try simp only [Act.put, List.setIfInBounds_toArray, List.set_cons_zero, List.set_cons_succ])
              refine anyT_done (by kernel_rfl) ?_ _
              have Hh := Lib.hid hHeld
              clear hHeld c13 f13 l13
              go_wp2
              go_roundg (B.players.length - (k + 1))
              case measure => have := Hgk.out; omega
              case rel => exact ⟨k + 1, by have := Hlt.out; omega, rfl, by go_num, below_then Hb7.out Hb7.out.size Hh.out⟩
      · obtain rfl : k = B.players.length := by omega
        go_wp2_with fail
        clear c2 f2 l2
        refine (works_calls _ (HM.out.below HW.out)).mono ?_
        rintro e w13 ⟨rfl, hb⟩
        have hfin := below_then HW.out HW.out.size hb
        clear hb
        go_wp2
        go_ret
        exact ⟨rfl, hfin⟩
end Go.Proofs.YtljikigmfkfkiaaDoor
