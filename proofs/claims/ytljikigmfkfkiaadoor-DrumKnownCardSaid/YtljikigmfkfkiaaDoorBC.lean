import Derived.Test.YtljikigmfkfkiaaDoorAW
namespace Go.Proofs.YtljikigmfkfkiaaDoor
open Go.RowKit Go.Shelf
attribute [local go_sem] Oper.semAt_some
set_option linter.unusedSimpArgs false
set_option linter.unusedVariables false

set_option maxRecDepth 100000 in
set_option maxHeartbeats 4000000 in
theorem sound_calls (B : BookV) (w : World) (hB : B.Reads w) :
    Calls Tryd.prog 39 #[B.val] w fun e w' => e = .returned (.bool (goodB B)) ∧ Below w.heap.size w w' := by
  have HB := Lib.hid hB
  have Hb : Below w.heap.size w (w.alloc (.cells B.cells 27)) := (Below.refl _ _).alloc (Nat.le_refl _) _
  have k1 := BoxAt.new w B.cells 27
  cases hg : goodB B with
  | false =>
    have Hg := Lib.hid hg
    have K1 := Lib.hid k1
    clear hg hB k1
    unfold BookV.val BookV.cells
    go_enter Tryd.func39, Tryd.ntmps39
    go_wp2_with fail
    refine (eq0_1 (v' := B.val) (by unfold BookV.val BookV.cells; rfl) (Check_calls B _ (HB.out.below Hb))).mono ?_
    rintro e w1 ⟨rfl, hb⟩
    rw [Hg.out, cond_false]
    have H1 := Lib.hid (below_then Hb Hb.size hb)
    clear Hb hb
    go_wp2
    refine wp_loop_rounds 1 ?_
    rw [rounds_succ]
    go_wp2
    refine wp_loop_rounds 1 ?_
    rw [rounds_succ]
    go_wp2
    go_ret
    exact ⟨rfl, H1.out⟩
  | true =>
    have Hg := Lib.hid hg
    have g := Lib.hid ((goodB_iff B).1 hg)
    have hbl4 := g.out.beatsLen
    have hmany := g.out.many
    obtain ⟨b, o, e, hc⟩ := hB.1.2.resolve_left (by intro e; rw [e] at hbl4; simp at hbl4)
    obtain ⟨pb, po, ep, hpc⟩ := hB.2.2.1.resolve_left (by intro e; rw [e] at hmany; simp at hmany)
    have hpl := hB.2.1
    have h1 : inB B.parts 1 8 = true := inB_iff.2 g.out.parts
    have h2 : inB B.size 1 16 = true := inB_iff.2 g.out.size
    have h3 : inB B.start 0 3 = true := inB_iff.2 g.out.start
    have h4 : inB B.fin 0 3 = true := inB_iff.2 g.out.fin
    have h5 : spanB B.tlo B.thi 0 128000 = true := spanB_iff.2 g.out.time
    have h6 : spanB B.slo B.shi 0 100 = true := spanB_iff.2 g.out.slip
    have h7 : inB B.notice 1 B.size = true := inB_iff.2 g.out.notice
    have h8 : inB B.players.length 1 5 = true := inB_iff.2 (by omega)
    have Hc := Lib.hid hc
    have Hpc := Lib.hid hpc
    have Hbl := Lib.hid hbl4
    have E := Lib.hid e
    have EP := Lib.hid ep
    have K1 := Lib.hid k1
    clear hg hB k1 e ep hc hpc hbl4
    unfold BookV.val BookV.cells
    rw [E.out, EP.out, Hbl.out]
    go_enter Tryd.func39, Tryd.ntmps39
    go_upto_region 1 with fail
    have k1 := K1.out
    unfold BookV.cells at k1 Hb
    rw [E.out, EP.out, Hbl.out] at k1 Hb
    generalize w.alloc _ = w1 at *
    have K2 := Lib.hid k1
    clear k1 K1
    obtain ⟨c1, f1, l1⟩ := K2.out
    go_cut [3] (fun s w2 => s = .bool true ∧ Below w1.heap.size w1 w2)
    case first =>
      go_wp2_with fail
      refine (eq0_1 (v' := B.val) (by unfold BookV.val BookV.cells; rw [E.out, EP.out, Hbl.out]) (Check_calls B _ (HB.out.below Hb))).mono ?_
      rintro e w2 ⟨rfl, hb⟩
      rw [Hg.out, cond_true]
      obtain ⟨c2, f2, l2⟩ := K2.out.below hb
      have Hc := hb
      clear c1 f1 l1 hb
      go_wp2_with (first
        | (go_at_call 53; refine (Sits_calls _ _ _ _).mono ?_; rintro e w' ⟨rfl, rfl⟩)
        | (go_at_call 64; refine (Good_calls _ _ _ _ _).mono ?_; rintro e w' ⟨rfl, hb⟩; obtain ⟨c2, f2, l2⟩ := BoxAt.below ⟨c2, f2, l2⟩ hb; have Hc := below_then Hc Hc.size hb; clear hb))
      go_meet
      exact ⟨rfl, by assumption⟩
    case rest =>
      obtain ⟨rfl, hb⟩ := hcut
      have H2 := Lib.hid (below_then Hb Hb.size hb)
      have K3 := Lib.hid (K2.out.below hb)
      clear hb c1 f1 l1 h1 h2 h3 h4 h5 h6 h7 h8
      generalize wc = w2 at *
      obtain ⟨c2, f2, l2⟩ := K3.out
      go_upto_block 0 with (fail)
      go_cut [3] (fun s w3 => s = .bool true ∧ w2 = w3)
      case first =>
        go_wp2
        go_loop [4, 3] (fun i s => ∃ k : Nat, k ≤ 4 ∧ i = .int .i64 k ∧ s = .bool true) (fun i _ => 4 - (intOf i).toNat)
        case atStart => exact ⟨0, Nat.zero_le _, rfl, rfl⟩
        case round =>
          obtain ⟨k, hk, rfl, rfl⟩ := hrel
          by_cases hlt : k < 4
          · have hck := cell_below H2.out (Hc.out k (by rw [Hbl.out]; exact hlt))
            have hki : (k : Int) < 4 := by omega
            have hin : inB (gi B.beats k) 1 1000 = true := inB_iff.2 (g.out.beats k hlt)
            have bk := World.block_lt_of_cell? _ _ hck
            simp only at bk
            go_wp2_with (go_at_call 53; refine (Sits_calls _ _ _ _).mono ?_; rintro e w' ⟨rfl, rfl⟩)
            go_round
            case rel => exact ⟨k + 1, by omega, by go_num, rfl⟩
            case measure => simp [intOf]; omega
          · obtain rfl : k = 4 := by omega
            go_wp2
            go_meet
            exact ⟨rfl, rfl⟩
      case rest =>
        obtain ⟨rfl, rfl⟩ := hcut
        clear c2 f2 l2
        obtain ⟨c2, f2, l2⟩ := K3.out
        go_upto_block 2 with (fail)
        clear c2 f2 l2
        go_wp2
        go_loopg [5, 3] B.players.length (fun gk i s wr => ∃ k : Nat, k ≤ B.players.length ∧ gk = B.players.length - k ∧ i = .int .i64 k ∧ s = .bool true ∧ Below w2.heap.size w2 wr)
        case atStart => exact ⟨0, Nat.zero_le _, rfl, rfl, rfl, Below.refl _ _⟩
        case round =>
          obtain ⟨k, hk, hgk, rfl, rfl, hB2⟩ := hrel
          have Hgk := Lib.hid hgk
          have HBw := Lib.hid (below_then H2.out H2.out.size hB2)
          obtain ⟨c4, f4, l4⟩ := K3.out.below hB2
          clear hgk
          by_cases hlt : k < B.players.length
          · obtain ⟨p0, p1, p2⟩ := Hpc.out k hlt
            have hps := HB.out.2.2.2 _ (gp_mem hlt)
            have hlate := g.out.late k hlt
            have hcl := g.out.catchLen k hlt
            have hcb := g.out.catches k hlt
            generalize hpv : gp B.players k = p at *
            clear hpv
            obtain ⟨plo, phi, pcA, pcC, pct⟩ := p
            simp only at p0 p1 p2 hps hlate hcl hcb
            obtain ⟨cb, co, rfl, hcc⟩ := hps.1.2.resolve_left (by intro e; rw [e] at hcl; simp at hcl)
            have hspl : spanB plo phi 0 500 = true := spanB_iff.2 hlate
            rw [hcl] at p2
            replace p0 := cell_below HBw.out p0
            replace p1 := cell_below HBw.out p1
            replace p2 := cell_below HBw.out p2
            have pbl := World.block_lt_of_cell? _ _ p0
            simp only at pbl
            have hlti : (k : Int) < B.players.length := by omega
            have Hcc := Lib.hid hcc
            have Hcb := Lib.hid hcb
            have Hcl := Lib.hid hcl
            clear hps hcc hcb hcl hlate
            have k7 := BoxAt.new wr #[.int .i64 plo, .int .i64 phi, .slice (some ⟨cb, co, none⟩) 4 pcC] 68
            have Hb2 : Below w2.heap.size w2 (wr.alloc (.cells #[.int .i64 plo, .int .i64 phi, .slice (some ⟨cb, co, none⟩) 4 pcC] 68)) := hB2.alloc hB2.size _
            go_upto_region 10 with (fail)
            generalize wr.alloc _ = wp at *
            have K7 := Lib.hid k7
            obtain ⟨c7, f7, l7⟩ := k7
            generalize wr.heap.size = nb at *
            have HBr := Lib.hid hB2
            clear p0 p1 p2 c4 f4 l4 hB2 pbl
            go_wp2_with (go_at_call 64; refine (Good_calls _ _ _ _ _).mono ?_; rintro e w5 ⟨rfl, hb⟩; have Hb3 := below_then Hb2 Hb2.size hb; have k8 := K7.out.below hb; obtain ⟨c8, f8, l8⟩ := k8; clear hb c7 f7 l7)
            have K8 : Hid (BoxAt w5 nb _) := Lib.hid ⟨c8, f8, l8⟩
            go_loopg [7, 3] 4 (fun gi' i s wi => ∃ m : Nat, m ≤ 4 ∧ gi' = 4 - m ∧ i = .int .i64 m ∧ s = .bool true ∧ Below w5.heap.size w5 wi)
            case atStart => exact ⟨0, Nat.zero_le _, rfl, rfl, rfl, Below.refl _ _⟩
            case round =>
              obtain ⟨m, hm, hgm, rfl, rfl, hB3⟩ := hrel
              have Hgm := Lib.hid hgm
              have Hb5 := Lib.hid (below_then Hb3 Hb3.size hB3)
              clear hgm c8 f8 l8
              obtain ⟨c9, f9, l9⟩ := K8.out.below hB3
              by_cases hlm : m < 4
              · obtain ⟨s0, s1⟩ := Hcc.out m (by rw [Hcl.out]; exact hlm)
                have hbw := below_then H2.out H2.out.size Hb5.out
                replace s0 := cell_below hbw s0
                replace s1 := cell_below hbw s1
                have sbl := World.block_lt_of_cell? _ _ s0
                simp only at sbl
                have hmi : (m : Int) < 4 := by omega
                have hsp : spanB (gs pct m).1 (gs pct m).2 0 100 = true := spanB_iff.2 (Hcb.out m hlm)
                generalize (gs pct m).1 = x1 at *
                generalize (gs pct m).2 = x2 at *
                clear hbw
                go_wp2_with (go_at_call 64; refine (Good_calls _ _ _ _ _).mono ?_; rintro e w' ⟨rfl, hb⟩)
                go_roundg (4 - (m + 1))
                case measure => have := Hgm.out; omega
                case rel => exact ⟨m + 1, by omega, rfl, by go_num, rfl, below_then hB3 hB3.size hb⟩
              · obtain rfl : m = 4 := by omega
                go_wp2
                go_roundg (B.players.length - (k + 1))
                case measure => have := Hgk.out; omega
                case rel => exact ⟨k + 1, by omega, rfl, by go_num, rfl, Hb5.out⟩
          · obtain rfl : k = B.players.length := by omega
            go_wp2
            go_ret
            exact ⟨rfl, HBw.out⟩
end Go.Proofs.YtljikigmfkfkiaaDoor
