import Derived.Test.YtljikigmfkfkiaaDoorAW
import Derived.Test.YtljikigmfkfkiaaDoorBE
namespace Go.Proofs.YtljikigmfkfkiaaDoor
open Go.RowKit Go.Shelf
attribute [local go_sem] Oper.semAt_some
set_option linter.unusedSimpArgs false
set_option linter.unusedVariables false

/-- what is known of how late a player truly is -/
def TrueRow (B : BookV) (path : List Int) (p : PlayerV) (r : List Int) (n : Nat) : Prop :=
  r.length = n + 1 ∧ ∀ i, i ≤ n → lateTo B path p false i ≤ gi r i ∧ gi r i ≤ lateTo B path p true i
theorem TrueRow.snoc {B : BookV} {path : List Int} {p : PlayerV} {r : List Int} {n : Nat} {x : Int} (h : TrueRow B path p r n) (h1 : lateTo B path p false (n + 1) ≤ x) (h2 : x ≤ lateTo B path p true (n + 1)) : TrueRow B path p (r ++ [x]) (n + 1) := by
  refine ⟨by rw [List.length_append, h.1]; rfl, fun i hi => ?_⟩
  rcases Nat.lt_or_eq_of_le hi with h3 | h3
  · rw [gi_snoc_lt _ _ _ (by have := h.1; omega)]; exact h.2 i (by omega)
  · subst h3
    have e : gi (r ++ [x]) (n + 1) = x := by rw [← h.1]; exact gi_snoc_at _ _
    rw [e]; exact ⟨h1, h2⟩
theorem step_in {l h now d c x1 x2 s1 s2 : Int} (h1 : l ≤ now) (h2 : now ≤ h) (h3 : s1 ≤ d) (h4 : d ≤ s2) (h5 : x1 ≤ c) (h6 : c ≤ x2) : max 0 (l + s1 - x2) ≤ max 0 (now + d - c) ∧ max 0 (now + d - c) ≤ max 0 (h + s2 - x1) := by omega
set_option maxRecDepth 100000 in
set_option maxHeartbeats 8000000 in
theorem truly_calls (B : BookV) (g : B.Good) (A : Option Addr) (c : Nat) (path : List Int) (hp : IsPath B path) (j : Nat) (hj : j < B.players.length) (A2 : Option Addr) (cb2 : Nat) (bits : List Int) (w : World)
    (hB : B.Reads w) (hpa : IntsAt w A path) (hbi : IntsAt w A2 bits) :
    Calls Tryd.prog 43 #[B.val, .slice A path.length c, .int .i64 j, .slice A2 bits.length cb2] w fun e w' => (∃ A' c' r, e = .returned (.slice A' r.length c') ∧ IntsAt w' A' r ∧ TrueRow B path (gp B.players j) r (B.parts * B.size).toNat) ∧ Below w.heap.size w w' := by
  have hgj := g.late j hj
  have hcl := g.catchLen j hj
  have hcb := g.catches j hj
  obtain ⟨hsp, hsc⟩ := hB.2.2.2 _ (gp_mem hj)
  obtain ⟨plb, plo', ePA, hpc'⟩ := hB.2.2.1.resolve_left (by intro e; rw [e] at hj; simp at hj)
  obtain ⟨p0, p1, p2⟩ := hpc' j hj
  have hpll := hB.2.1
  have hm := g.many
  have Hbd : Hid (∀ k, (0 ≤ lateTo B path (gp B.players j) false k ∧ lateTo B path (gp B.players j) false k ≤ 500 + 100 * k) ∧ (0 ≤ lateTo B path (gp B.players j) true k ∧ lateTo B path (gp B.players j) true k ≤ 500 + 100 * k)) :=
    fun k => ⟨lateTo_bd g path _ false hgj (fun k => (catchAt_bd g hp hj false k).1) k, lateTo_bd g path _ true hgj (fun k => (catchAt_bd g hp hj true k).1) k⟩
  have hji : (j : Int) < B.players.length := by omega
  have hj5 : j < 5 := by omega
  generalize gp B.players j = p at *
  have hpos := hp.pos g
  obtain ⟨b, o, rfl, hpc⟩ := hpa.2.resolve_left (by intro h; rw [h] at hpos; simp at hpos)
  obtain ⟨plo, phi, pcA, pcC, pct⟩ := p
  simp only at hgj hcl hcb hsp hsc p0 p1 p2
  obtain ⟨cb, co, rfl, hcc⟩ := hsp.2.resolve_left (by intro h; rw [h] at hcl; simp at hcl)
  rw [hcl] at p2
  have pblw := World.block_lt_of_cell? _ _ p0
  have Hps := parts_size g
  obtain ⟨nn, hnn⟩ : ∃ nn : Nat, B.parts * B.size = (nn : Int) := Int.eq_ofNat_of_zero_le (by omega)
  have hnn8 : nn ≤ 128 := by omega
  have hwps : IntKind.i64.wrap (B.parts * B.size) = (nn : Int) := by rw [hnn]; exact wrap_in (by omega) (by omega)
  have hlp := hpa.1
  have Hg := Lib.hid g
  have Hp := Lib.hid hp
  have Hpc := Lib.hid hpc
  have Hcc := Lib.hid hcc
  have Hcb := Lib.hid hcb
  have Hcl := Lib.hid hcl
  have HP := Lib.hid hbi
  have Hnn := Lib.hid hnn
  have hplen : path.length ≤ 8 := by have := hp.len; have := g.parts; omega
  have hpl2 := hp.len
  have Hpl2 := Lib.hid hpl2
  have k4 := ((BoxAt.new w B.cells 27).alloc (.cells #[.int .i64 plo, .int .i64 phi, .slice (some ⟨cb, co, none⟩) 4 pcC] 68))
  have k9 := BoxAt.new (w.alloc (.cells B.cells 27)) #[.int .i64 plo, .int .i64 phi, .slice (some ⟨cb, co, none⟩) 4 pcC] 68
  have hW : Below w.heap.size w ((w.alloc (.cells B.cells 27)).alloc (.cells #[.int .i64 plo, .int .i64 phi, .slice (some ⟨cb, co, none⟩) 4 pcC] 68)) := ((Below.refl _ _).alloc (Nat.le_refl _) _).alloc (by simp) _
  simp only [World.size_alloc] at k4 k9
  simp only at pblw
  obtain ⟨n1, n2, n3, n4, n5, n6⟩ := old_lt pblw
  clear g hp hpa hpc hcc hcb hsp hcl hpos hB hbi hpc' hnn hpl2 Hps
  unfold BookV.val BookV.cells
  rw [ePA]
  go_enter Tryd.func43, Tryd.ntmps43
  go_upto_region 2 with (fail)
  unfold BookV.cells at k4 k9 hW
  rw [ePA] at k4 k9 hW
  generalize (w.alloc _).alloc _ = W2 at *
  have K4 := Lib.hid k4
  have K9' := Lib.hid k9
  have HW := Lib.hid hW
  clear p0 p1 p2 pblw n1 n2 n3 n4 n5 n6 k4 hW ePA
  obtain ⟨c9, f9, l9⟩ := k9
  refine region_plain (S := fun w' => Below W2.heap.size W2 w') 7 (by kernel_rfl) ?_ (fun hHeld => ?_)
  · exact (Below.refl _ _).drew
  first | (refine anyT_take 0 (some 19) (v := ?_) rfl rfl (by kernel_rfl) (by kernel_rfl) (by kernel_rfl) (by kernel_rfl) (fun _ _ _ h => h) (Or.inl ⟨by rfl, ?_⟩) hHeld ?_; rotate_left; focus (intro wq hSw; obtain ⟨hcq, hfq⟩ := bcell hSw; go_simp; (try with_reducible rfl); done))
  (try simp only [Act.put, List.setIfInBounds_toArray, List.set_cons_zero, List.set_cons_succ])
  first | (refine anyT_take 1 (some 20) (v := ?_) rfl rfl (by kernel_rfl) (by kernel_rfl) (by kernel_rfl) (by kernel_rfl) (fun _ _ _ h => h) (Or.inl ⟨by rfl, ?_⟩) hHeld ?_; rotate_left; focus (intro wq hSw; obtain ⟨hcq, hfq⟩ := bcell hSw; go_simp; (try with_reducible rfl); done))
  (try simp only [Act.put, List.setIfInBounds_toArray, List.set_cons_zero, List.set_cons_succ])
  first | (refine anyT_take 2 (some 21) (v := ?_) rfl rfl (by kernel_rfl) (by kernel_rfl) (by kernel_rfl) (by kernel_rfl) (fun _ _ _ h => h) (Or.inl ⟨by rfl, ?_⟩) hHeld ?_; rotate_left; focus (intro wq hSw; obtain ⟨hcq, hfq⟩ := bcell hSw; go_simp; (try with_reducible rfl); done))
  (try simp only [Act.put, List.setIfInBounds_toArray, List.set_cons_zero, List.set_cons_succ])
  first | (refine anyT_take 3 (some 22) (v := ?_) rfl rfl (by kernel_rfl) (by kernel_rfl) (by kernel_rfl) (by kernel_rfl) (fun _ _ _ h => h) (Or.inl ⟨by rfl, ?_⟩) hHeld ?_; rotate_left; focus (intro wq hSw; obtain ⟨hcq, hfq⟩ := bcell hSw; go_simp; (try with_reducible rfl); done))
  (try simp only [Act.put, List.setIfInBounds_toArray, List.set_cons_zero, List.set_cons_succ])
  refine anyT_one 4 (by kernel_rfl) rfl (fun K hK => ?_)
  have hbq : Below w.heap.size w _ := below_then HW.out HW.out.size hHeld
  go_simp
  refine (Nth_calls A2 cb2 bits _ _ (HP.out.below hbq)).mono ?_; clear hbq; rintro e w3 ⟨rfl, rfl⟩
  refine hK.out _ _ ?_ (fun hHeld => ?_)
  · exact hHeld
  clear hK K
  (try simp only [Act.put, List.setIfInBounds_toArray, List.set_cons_zero, List.set_cons_succ])
  refine anyT_one 5 (by kernel_rfl) rfl (fun K hK => ?_)
  go_simp
  refine (Draw_calls _ _ _ _ (by omega) (by omega) (by omega) (by omega)).mono ?_; rintro e w4 ⟨rfl, hb4⟩
  refine hK.out _ _ ?_ (fun hHeld => ?_)
  · exact below_then hHeld hHeld.size hb4
  clear hK K
  (try simp only [Act.put, List.setIfInBounds_toArray, List.set_cons_zero, List.set_cons_succ])
  first | (refine anyT_take 6 (some 10) (v := ?_) rfl rfl (by kernel_rfl) (by kernel_rfl) (by kernel_rfl) (by kernel_rfl) (fun _ _ _ h => h) (Or.inl ⟨by rfl, ?_⟩) hHeld ?_; rotate_left; focus (intro wq hSw; obtain ⟨hcq, hfq⟩ := bcell hSw; go_simp; (try with_reducible rfl); done))
  (try simp only [Act.put, List.setIfInBounds_toArray, List.set_cons_zero, List.set_cons_succ])
  refine anyT_done (by kernel_rfl) ?_ _
  have Hh := Lib.hid hHeld
  have hd := drawZ_in (lo := plo) (hi := phi) (n := nthZ bits j) hgj.2.1
  have Hd := Lib.hid hd
  clear hHeld hd c9 f9 l9
  generalize drawZ plo phi (nthZ bits j) = now0 at *
  have HW4 := Lib.hid (below_then HW.out HW.out.size Hh.out)
  have K44 := Lib.hid (K4.out.below Hh.out)
  have K94 := Lib.hid (K9'.out.below Hh.out)
  go_upto_region 4 with (fail)
  have hown0 := OwnInts.lit1 w4 now0
  have hn5 : Below w4.heap.size w4 (w4.alloc (.cells #[.int .i64 now0] 3)) := (Below.refl _ _).alloc (Nat.le_refl _) _
  have Hown0 := Lib.hid hown0
  have Hn5 := Lib.hid hn5
  clear hown0 hn5
  go_wp2
  go_loopg [12, 10, 11] nn (fun gk i nw v wr => ∃ (k : Nat) (now : Int) (r : List Int), k ≤ nn ∧ gk = nn - k ∧ i = .int .i64 k ∧ nw = .int .i64 now ∧ OwnInts wr w4.heap.size v r ∧ TrueRow B path ⟨plo, phi, some ⟨cb, co, none⟩, pcC, pct⟩ r k ∧ gi r k = now ∧ Below w4.heap.size w4 wr)
  case atStart => exact ⟨0, now0, [now0], Nat.zero_le _, rfl, rfl, rfl, Hown0.out, ⟨rfl, fun i hi => (by have e : i = 0 := Nat.le_zero.1 hi; subst e; exact Hd.out)⟩, rfl, Hn5.out⟩
  case round =>
    obtain ⟨k, now, r, hk, hgk, rfl, rfl, hown, hrow, hnow, hbe⟩ := hrel
    have Hgk := Lib.hid hgk
    have Hown := Lib.hid hown
    have Hrow := Lib.hid hrow
    have Hnow := Lib.hid hnow
    have Hbe := Lib.hid hbe
    have HWr := Lib.hid (below_then HW4.out HW4.out.size hbe)
    obtain ⟨c4, f4, l4⟩ := K44.out.below hbe
    clear hgk hown hrow hnow hbe
    by_cases hlt : k < nn
    · have hlti : (k : Int) < (nn : Int) := by omega
      have hq := part_lt Hg.out Hp.out.len hlt (by have := Hnn.out; omega)
      have hrg := Hp.out.range _ hq
      obtain ⟨lv, hlv⟩ := Int.eq_ofNat_of_zero_le hrg.1
      have hlv4 : lv < 4 := by omega
      have hlvi : (lv : Int) < 4 := by omega
      have hsz := Hg.out.size
      have hsl := Hg.out.slip
      obtain ⟨⟨hL0, hL1⟩, hH0, hH1⟩ := Hbd.out k
      have hrm : (k : Int) % B.size = ((k % B.size.toNat : Nat) : Int) := by
        rw [Int.natCast_emod, Int.toNat_of_nonneg (by omega)]
      have hdv : (k : Int) / B.size = ((partOf B.size k : Nat) : Int) := (div_nat hsz.1).symm
      have hsz0 : ¬ B.size = 0 := by omega
      have hd0 : 0 ≤ (k : Int) / B.size := Int.ediv_nonneg (by omega) (by omega)
      have hd1 : (k : Int) / B.size ≤ 128 := Int.le_trans (Int.ediv_le_self _ (by omega)) (by omega)
      have Hsf := Lib.hid (slipAt_mark B path false k)
      have Hst := Lib.hid (slipAt_mark B path true k)
      obtain ⟨hc0, hc1⟩ := Hcc.out lv (by rw [Hcl.out]; exact hlv4)
      obtain ⟨hb0, hb1, hb2⟩ := Hcb.out lv hlv4
      have Hcf : Hid (catchAt B path ⟨plo, phi, some ⟨cb, co, none⟩, pcC, pct⟩ false k = (gs pct lv).2) := by unfold Hid catchAt; rw [hlv]; simp [endOf]
      have Hct : Hid (catchAt B path ⟨plo, phi, some ⟨cb, co, none⟩, pcC, pct⟩ true k = (gs pct lv).1) := by unfold Hid catchAt; rw [hlv]; simp [endOf]
      have Hlf : Hid (lateTo B path ⟨plo, phi, some ⟨cb, co, none⟩, pcC, pct⟩ false (k + 1) = max 0 (lateTo B path ⟨plo, phi, some ⟨cb, co, none⟩, pcC, pct⟩ false k + slipAt B path false k - (gs pct lv).2)) := by unfold Hid; rw [← Hcf.out]; rfl
      have Hlt : Hid (lateTo B path ⟨plo, phi, some ⟨cb, co, none⟩, pcC, pct⟩ true (k + 1) = max 0 (lateTo B path ⟨plo, phi, some ⟨cb, co, none⟩, pcC, pct⟩ true k + slipAt B path true k - (gs pct lv).1)) := by unfold Hid; rw [← Hct.out]; rfl
      have hnb : lateTo B path ⟨plo, phi, some ⟨cb, co, none⟩, pcC, pct⟩ false k ≤ now ∧ now ≤ lateTo B path ⟨plo, phi, some ⟨cb, co, none⟩, pcC, pct⟩ true k := by rw [← Hnow.out]; exact Hrow.out.2 k (Nat.le_refl _)
      generalize (gs pct lv).1 = x1 at *
      generalize (gs pct lv).2 = x2 at *
      generalize hLL : lateTo B path ⟨plo, phi, some ⟨cb, co, none⟩, pcC, pct⟩ false k = L at *
      generalize hHH : lateTo B path ⟨plo, phi, some ⟨cb, co, none⟩, pcC, pct⟩ true k = H at *
      have Hhc0 := Lib.hid hc0
      have Hhc1 := Lib.hid hc1
      have hpq := cell_below HWr.out (Hpc.out _ hq)
      have hpq' := cell_below HWr.out (Hpc.out (partOf B.size k - 1) (by omega))
      have pbl := World.block_lt_of_cell? _ _ hpq
      simp only at pbl
      have Hlv := Lib.hid hlv
      have Hq := Lib.hid hq
      clear hc0 hc1 hlv hrg hLL hHH
      go_upto_region 8 with (fail)
      go_cut [60] (fun s w3 => s = .bool (markB B path k) ∧ Below wr.heap.size wr w3)
      case first =>
        have Hmk : Hid (markB B path k = (decide (k % B.size.toNat = 0) && decide (0 < partOf B.size k) && decide (gi path (partOf B.size k) ≠ gi path (partOf B.size k - 1)))) := rfl
        clear hd0 hd1 hdv
        generalize markB B path k = mk at *
        generalize partOf B.size k = q at *
        have hqp : (q : Int) - 1 < (path.length : Int) := by omega
        have hqi : (q : Int) < (path.length : Int) := by omega
        by_cases hm0 : k % B.size.toNat = 0
        · have hrb : ((k : Int) % B.size == 0) = true := by rw [hrm, hm0]; rfl
          by_cases hm1 : 0 < q
          · have hd : (0 : Int) < (q : Int) := by omega
            have hq1 : ((q : Int) - 1).toNat = q - 1 := by omega
            have hq1i : (1 : Int) ≤ (q : Int) := by omega
            have hwq : IntKind.i64.wrap ((q : Int) - 1) = (q : Int) - 1 := wrap_in (by omega) (by omega)
            by_cases hm2 : gi path q = gi path (q - 1)
            · have hbe : (gi path q != gi path (q - 1)) = false := by rw [bne_eq_false_iff_eq]; exact hm2
              have hmk : mk = false := by rw [Hmk.out]; simp [hm2]
              have Hmk2 := Lib.hid hmk
              clear hmk hm2 hrm hm0
              go_wp2
              go_quiet (fail)
              go_wp2
              go_meet
              exact ⟨by rw [Hmk2.out], below_drewN (Below.refl _ _) _⟩
            · have hbe : (gi path q != gi path (q - 1)) = true := by rw [bne_iff_ne]; exact hm2
              have hmk : mk = true := by rw [Hmk.out]; simp [hm2, hm0, hm1]
              have Hmk2 := Lib.hid hmk
              clear hmk hm2 hrm hm0
              go_wp2
              go_quiet (fail)
              go_wp2
              go_meet
              exact ⟨by rw [Hmk2.out], below_drewN (Below.refl _ _) _⟩
          · have hd : ¬ (0 : Int) < (q : Int) := by omega
            have hmk : mk = false := by rw [Hmk.out]; simp [hm1]
            have Hmk2 := Lib.hid hmk
            clear hmk hrm hm0 hqp hqi
            obtain rfl : q = 0 := by omega
            clear hd hm1
            go_wp2
            go_quiet (fail)
            go_wp2
            go_meet
            exact ⟨by rw [Hmk2.out], below_drewN (Below.refl _ _) _⟩
        · have hrb : ((k : Int) % B.size == 0) = false := by rw [hrm, beq_eq_false_iff_ne]; omega
          have hmk : mk = false := by rw [Hmk.out]; simp [hm0]
          have Hmk2 := Lib.hid hmk
          clear hmk hrm hm0
          go_wp2
          go_quiet (fail)
          go_wp2
          go_meet
          exact ⟨by rw [Hmk2.out], below_drewN (Below.refl _ _) _⟩
      case rest =>
        obtain ⟨rfl, hbq⟩ := hcut
        have Hb3 := Lib.hid hbq
        clear hbq c4 f4 l4 hpq hpq' pbl
        generalize wc = w5 at *
        have Hbe5 := Lib.hid (below_then Hbe.out Hbe.out.size Hb3.out)
        have Hown5 := Lib.hid (Hown.out.keep Hb3.out)
        obtain ⟨c4, f4, l4⟩ := K44.out.below Hbe5.out
        have HW5 := Lib.hid (below_then HW4.out HW4.out.size Hbe5.out)
        go_step
        go_cut [10] (fun s w6 => (∃ d, s = .int .i64 (now + d) ∧ slipAt B path false k ≤ d ∧ d ≤ slipAt B path true k) ∧ Below w5.heap.size w5 w6)
        case first =>
          generalize hmk : markB B path k = mk at *
          cases mk with
          | false =>
            go_wp2
            go_meet
            exact ⟨⟨0, by simp, by rw [Hsf.out]; simp, by rw [Hst.out]; simp⟩, Below.refl _ _⟩
          | true =>
            have hds := drawZ_in (lo := B.slo) (hi := B.shi) (n := nthZ bits ((k : Int) + j)) hsl.2.1
            have Hds := Lib.hid hds
            have hwa : IntKind.i64.wrap ((k : Int) + j) = (k : Int) + j := wrap_in (by omega) (by omega)
            have hwd : IntKind.i64.wrap (now + drawZ B.slo B.shi (nthZ bits ((k : Int) + j))) = now + drawZ B.slo B.shi (nthZ bits ((k : Int) + j)) := wrap_in (by omega) (by omega)
            clear hds
            go_upto_region 9 with (fail)
            refine region_plain (S := fun w' => Below w5.heap.size w5 w') 11 (by kernel_rfl) ?_ (fun hHeld => ?_)
            · exact (Below.refl _ _).drew
            first | (refine anyT_take 0 (some 61) (v := ?_) rfl rfl (by kernel_rfl) (by kernel_rfl) (by kernel_rfl) (by kernel_rfl) (fun _ _ _ h => h) (Or.inl ⟨by rfl, ?_⟩) hHeld ?_; rotate_left; focus (intro wq hSw; obtain ⟨hcq, hfq⟩ := bcell hSw; go_simp; (try with_reducible rfl); done))
            (try simp only [Act.put, List.setIfInBounds_toArray, List.set_cons_zero, List.set_cons_succ])
            first | (refine anyT_take 1 (some 62) (v := ?_) rfl rfl (by kernel_rfl) (by kernel_rfl) (by kernel_rfl) (by kernel_rfl) (fun _ _ _ h => h) (Or.inl ⟨by rfl, ?_⟩) hHeld ?_; rotate_left; focus (intro wq hSw; obtain ⟨hcq, hfq⟩ := bcell hSw; go_simp; (try with_reducible rfl); done))
            (try simp only [Act.put, List.setIfInBounds_toArray, List.set_cons_zero, List.set_cons_succ])
            first | (refine anyT_take 2 (some 63) (v := ?_) rfl rfl (by kernel_rfl) (by kernel_rfl) (by kernel_rfl) (by kernel_rfl) (fun _ _ _ h => h) (Or.inl ⟨by rfl, ?_⟩) hHeld ?_; rotate_left; focus (intro wq hSw; obtain ⟨hcq, hfq⟩ := bcell hSw; go_simp; (try with_reducible rfl); done))
            (try simp only [Act.put, List.setIfInBounds_toArray, List.set_cons_zero, List.set_cons_succ])
            first | (refine anyT_take 3 (some 64) (v := ?_) rfl rfl (by kernel_rfl) (by kernel_rfl) (by kernel_rfl) (by kernel_rfl) (fun _ _ _ h => h) (Or.inl ⟨by rfl, ?_⟩) hHeld ?_; rotate_left; focus (intro wq hSw; obtain ⟨hcq, hfq⟩ := bcell hSw; go_simp; (try with_reducible rfl); done))
            (try simp only [Act.put, List.setIfInBounds_toArray, List.set_cons_zero, List.set_cons_succ])
            first | (refine anyT_take 4 (some 65) (v := ?_) rfl rfl (by kernel_rfl) (by kernel_rfl) (by kernel_rfl) (by kernel_rfl) (fun _ _ _ h => h) (Or.inl ⟨by rfl, ?_⟩) hHeld ?_; rotate_left; focus (intro wq hSw; obtain ⟨hcq, hfq⟩ := bcell hSw; go_simp; (try with_reducible rfl); done))
            (try simp only [Act.put, List.setIfInBounds_toArray, List.set_cons_zero, List.set_cons_succ])
            first | (refine anyT_take 5 (some 66) (v := ?_) rfl rfl (by kernel_rfl) (by kernel_rfl) (by kernel_rfl) (by kernel_rfl) (fun _ _ _ h => h) (Or.inl ⟨by rfl, ?_⟩) hHeld ?_; rotate_left; focus (intro wq hSw; obtain ⟨hcq, hfq⟩ := bcell hSw; go_simp; (try with_reducible rfl); done))
            (try simp only [Act.put, List.setIfInBounds_toArray, List.set_cons_zero, List.set_cons_succ])
            first | (refine anyT_take 6 (some 67) (v := ?_) rfl rfl (by kernel_rfl) (by kernel_rfl) (by kernel_rfl) (by kernel_rfl) (fun _ _ _ h => h) (Or.inl ⟨by rfl, ?_⟩) hHeld ?_; rotate_left; focus (intro wq hSw; obtain ⟨hcq, hfq⟩ := bcell hSw; go_simp; (try with_reducible rfl); done))
            (try simp only [Act.put, List.setIfInBounds_toArray, List.set_cons_zero, List.set_cons_succ])
            refine anyT_one 7 (by kernel_rfl) rfl (fun K hK => ?_)
            have hbq : Below w.heap.size w _ := below_then HW5.out HW5.out.size hHeld
            go_simp
            refine (Nth_calls A2 cb2 bits _ _ (HP.out.below hbq)).mono ?_; clear hbq; rintro e w6 ⟨rfl, rfl⟩
            refine hK.out _ _ ?_ (fun hHeld => ?_)
            · exact hHeld
            clear hK K
            (try simp only [Act.put, List.setIfInBounds_toArray, List.set_cons_zero, List.set_cons_succ])
            refine anyT_one 8 (by kernel_rfl) rfl (fun K hK => ?_)
            go_simp
            refine (Draw_calls _ _ _ _ (by omega) (by omega) (by omega) (by omega)).mono ?_; rintro e w7 ⟨rfl, hb7⟩; generalize drawZ B.slo B.shi (nthZ bits ((k : Int) + j)) = dd at *
            refine hK.out _ _ ?_ (fun hHeld => ?_)
            · exact below_then hHeld hHeld.size hb7
            clear hK K
            (try simp only [Act.put, List.setIfInBounds_toArray, List.set_cons_zero, List.set_cons_succ])
            first | (refine anyT_take 9 (some 70) (v := ?_) rfl rfl (by kernel_rfl) (by kernel_rfl) (by kernel_rfl) (by kernel_rfl) (fun _ _ _ h => h) (Or.inl ⟨by rfl, ?_⟩) hHeld ?_; rotate_left; focus (intro wq hSw; obtain ⟨hcq, hfq⟩ := bcell hSw; go_simp; (try with_reducible rfl); done))
            (try simp only [Act.put, List.setIfInBounds_toArray, List.set_cons_zero, List.set_cons_succ])
            first | (refine anyT_take 10 (some 10) (v := ?_) rfl rfl (by kernel_rfl) (by kernel_rfl) (by kernel_rfl) (by kernel_rfl) (fun _ _ _ h => h) (Or.inl ⟨by rfl, ?_⟩) hHeld ?_; rotate_left; focus (intro wq hSw; obtain ⟨hcq, hfq⟩ := bcell hSw; go_simp; (try with_reducible rfl); done))
            (try simp only [Act.put, List.setIfInBounds_toArray, List.set_cons_zero, List.set_cons_succ])
            refine anyT_done (by kernel_rfl) ?_ _
            go_wp2
            go_meet
            exact ⟨⟨_, rfl, by rw [Hsf.out]; simpa [endOf] using Hds.out.1, by rw [Hst.out]; simpa [endOf] using Hds.out.2⟩, hHeld⟩
        case rest =>
          obtain ⟨⟨d, rfl, hds1, hds2⟩, hb6⟩ := hcut
          clear c4 f4 l4
          generalize wc = w6 at *
          have Hb6 := Lib.hid hb6
          have Hbe6 := Lib.hid (below_then Hbe5.out Hbe5.out.size Hb6.out)
          have Hown6 := Lib.hid (Hown5.out.keep Hb6.out)
          have HW6 := Lib.hid (below_then HW4.out HW4.out.size Hbe6.out)
          have hs1 := slipAt_bd Hg.out path false k
          have hs2 := slipAt_bd Hg.out path true k
          have hpq := cell_below HW6.out (Hpc.out _ Hq.out)
          rw [Hlv.out] at hpq
          have hc0 := cell_below HW6.out Hhc0.out
          have hc1 := cell_below HW6.out Hhc1.out
          have pbl := World.block_lt_of_cell? _ _ hpq
          have cbl := World.block_lt_of_cell? _ _ hc0
          simp only at pbl cbl
          have hqi : ((partOf B.size k : Nat) : Int) < (path.length : Int) := by have := Hq.out; omega
          obtain ⟨c9, f9, l9⟩ := K94.out.below Hbe6.out
          clear Hsf Hst hrm hdv hd0 hd1 hb6
          generalize slipAt B path false k = s1 at *
          generalize slipAt B path true k = s2 at *
          generalize partOf B.size k = q at *
          have hdc := drawZ_in (lo := x1) (hi := x2) (n := nthZ bits ((k : Int) + 2 * j + 1)) hb1
          have hw2 : IntKind.i64.wrap (2 * (j : Int)) = 2 * (j : Int) := wrap_in (by omega) (by omega)
          have hw3 : IntKind.i64.wrap ((k : Int) + 2 * j) = (k : Int) + 2 * j := wrap_in (by omega) (by omega)
          have hw4 : IntKind.i64.wrap ((k : Int) + 2 * j + 1) = (k : Int) + 2 * j + 1 := wrap_in (by omega) (by omega)
          generalize hdd : drawZ x1 x2 (nthZ bits ((k : Int) + 2 * j + 1)) = dd at *
          have hw5 : IntKind.i64.wrap (now + d - dd) = now + d - dd := wrap_in (by omega) (by omega)
          have Hdd := Lib.hid hdd
          clear hdd
          have hse := Lib.hid (step_in hnb.1 hnb.2 hds1 hds2 hdc.1 hdc.2)
          rcases Int.lt_or_le dd (now + d) with h1 | h1
          · have hmx : max 0 (now + d - dd) = now + d - dd := by omega
            have Hmx := Lib.hid hmx
            clear hmx
            go_upto_region 10 with (fail)
            refine region_plain (S := fun w' => Below w6.heap.size w6 w') 20 (by kernel_rfl) ?_ (fun hHeld => ?_)
            · exact (Below.refl _ _).drew
            first | (refine anyT_take 0 (some 71) (v := ?_) rfl rfl (by kernel_rfl) (by kernel_rfl) (by kernel_rfl) (by kernel_rfl) (fun _ _ _ h => h) (Or.inl ⟨by rfl, ?_⟩) hHeld ?_; rotate_left; focus (intro wq hSw; obtain ⟨hcq, hfq⟩ := bcell hSw; go_simp; (try with_reducible rfl); done))
            (try simp only [Act.put, List.setIfInBounds_toArray, List.set_cons_zero, List.set_cons_succ])
            first | (refine anyT_take 1 (some 72) (v := ?_) rfl rfl (by kernel_rfl) (by kernel_rfl) (by kernel_rfl) (by kernel_rfl) (fun _ _ _ h => h) (Or.inl ⟨by rfl, ?_⟩) hHeld ?_; rotate_left; focus (intro wq hSw; obtain ⟨hcq, hfq⟩ := bcell hSw; go_simp; (try with_reducible rfl); done))
            (try simp only [Act.put, List.setIfInBounds_toArray, List.set_cons_zero, List.set_cons_succ])
            first | (refine anyT_take 2 (some 73) (v := ?_) rfl rfl (by kernel_rfl) (by kernel_rfl) (by kernel_rfl) (by kernel_rfl) (fun _ _ _ h => h) (Or.inl ⟨by rfl, ?_⟩) hHeld ?_; rotate_left; focus (intro wq hSw; obtain ⟨hcq, hfq⟩ := bcell hSw; go_simp; (try with_reducible rfl); done))
            (try simp only [Act.put, List.setIfInBounds_toArray, List.set_cons_zero, List.set_cons_succ])
            first | (refine anyT_take 3 (some 74) (v := ?_) rfl rfl (by kernel_rfl) (by kernel_rfl) (by kernel_rfl) (by kernel_rfl) (fun _ _ _ h => h) (Or.inl ⟨by rfl, ?_⟩) hHeld ?_; rotate_left; focus (intro wq hSw; obtain ⟨hcq, hfq⟩ := bcell hSw; go_simp; (try with_reducible rfl); done))
            (try simp only [Act.put, List.setIfInBounds_toArray, List.set_cons_zero, List.set_cons_succ])
            first | (refine anyT_take 4 (some 75) (v := ?_) rfl rfl (by kernel_rfl) (by kernel_rfl) (by kernel_rfl) (by kernel_rfl) (fun _ _ _ h => h) (Or.inl ⟨by rfl, ?_⟩) hHeld ?_; rotate_left; focus (intro wq hSw; obtain ⟨hcq, hfq⟩ := bcell hSw; go_simp; (try with_reducible rfl); done))
            (try simp only [Act.put, List.setIfInBounds_toArray, List.set_cons_zero, List.set_cons_succ])
            first | (refine anyT_take 5 (some 76) (v := ?_) rfl rfl (by kernel_rfl) (by kernel_rfl) (by kernel_rfl) (by kernel_rfl) (fun _ _ _ h => h) (Or.inl ⟨by rfl, ?_⟩) hHeld ?_; rotate_left; focus (intro wq hSw; obtain ⟨hcq, hfq⟩ := bcell hSw; go_simp; (try with_reducible rfl); done))
            (try simp only [Act.put, List.setIfInBounds_toArray, List.set_cons_zero, List.set_cons_succ])
            first | (refine anyT_take 6 (some 77) (v := ?_) rfl rfl (by kernel_rfl) (by kernel_rfl) (by kernel_rfl) (by kernel_rfl) (fun _ _ _ h => h) (Or.inl ⟨by rfl, ?_⟩) hHeld ?_; rotate_left; focus (intro wq hSw; obtain ⟨hcq, hfq⟩ := bcell hSw; go_simp; (try with_reducible rfl); done))
            (try simp only [Act.put, List.setIfInBounds_toArray, List.set_cons_zero, List.set_cons_succ])
            first | (refine anyT_take 7 (some 78) (v := ?_) rfl rfl (by kernel_rfl) (by kernel_rfl) (by kernel_rfl) (by kernel_rfl) (fun _ _ _ h => h) (Or.inl ⟨by rfl, ?_⟩) hHeld ?_; rotate_left; focus (intro wq hSw; obtain ⟨hcq, hfq⟩ := bcell hSw; go_simp; (try with_reducible rfl); done))
            (try simp only [Act.put, List.setIfInBounds_toArray, List.set_cons_zero, List.set_cons_succ])
            first | (refine anyT_take 8 (some 79) (v := ?_) rfl rfl (by kernel_rfl) (by kernel_rfl) (by kernel_rfl) (by kernel_rfl) (fun _ _ _ h => h) (Or.inl ⟨by rfl, ?_⟩) hHeld ?_; rotate_left; focus (intro wq hSw; obtain ⟨hcq, hfq⟩ := bcell hSw; go_simp; (try with_reducible rfl); done))
            (try simp only [Act.put, List.setIfInBounds_toArray, List.set_cons_zero, List.set_cons_succ])
            first | (refine anyT_take 9 (some 80) (v := ?_) rfl rfl (by kernel_rfl) (by kernel_rfl) (by kernel_rfl) (by kernel_rfl) (fun _ _ _ h => h) (Or.inl ⟨by rfl, ?_⟩) hHeld ?_; rotate_left; focus (intro wq hSw; obtain ⟨hcq, hfq⟩ := bcell hSw; go_simp; (try with_reducible rfl); done))
            (try simp only [Act.put, List.setIfInBounds_toArray, List.set_cons_zero, List.set_cons_succ])
            first | (refine anyT_take 10 (some 81) (v := ?_) rfl rfl (by kernel_rfl) (by kernel_rfl) (by kernel_rfl) (by kernel_rfl) (fun _ _ _ h => h) (Or.inl ⟨by rfl, ?_⟩) hHeld ?_; rotate_left; focus (intro wq hSw; obtain ⟨hcq, hfq⟩ := bcell hSw; go_simp; (try with_reducible rfl); done))
            (try simp only [Act.put, List.setIfInBounds_toArray, List.set_cons_zero, List.set_cons_succ])
            first | (refine anyT_take 11 (some 82) (v := ?_) rfl rfl (by kernel_rfl) (by kernel_rfl) (by kernel_rfl) (by kernel_rfl) (fun _ _ _ h => h) (Or.inl ⟨by rfl, ?_⟩) hHeld ?_; rotate_left; focus (intro wq hSw; obtain ⟨hcq, hfq⟩ := bcell hSw; go_simp; (try with_reducible rfl); done))
            (try simp only [Act.put, List.setIfInBounds_toArray, List.set_cons_zero, List.set_cons_succ])
            first | (refine anyT_take 12 (some 83) (v := ?_) rfl rfl (by kernel_rfl) (by kernel_rfl) (by kernel_rfl) (by kernel_rfl) (fun _ _ _ h => h) (Or.inl ⟨by rfl, ?_⟩) hHeld ?_; rotate_left; focus (intro wq hSw; obtain ⟨hcq, hfq⟩ := bcell hSw; go_simp; (try with_reducible rfl); done))
            (try simp only [Act.put, List.setIfInBounds_toArray, List.set_cons_zero, List.set_cons_succ])
            first | (refine anyT_take 13 (some 84) (v := ?_) rfl rfl (by kernel_rfl) (by kernel_rfl) (by kernel_rfl) (by kernel_rfl) (fun _ _ _ h => h) (Or.inl ⟨by rfl, ?_⟩) hHeld ?_; rotate_left; focus (intro wq hSw; obtain ⟨hcq, hfq⟩ := bcell hSw; go_simp; (try with_reducible rfl); done))
            (try simp only [Act.put, List.setIfInBounds_toArray, List.set_cons_zero, List.set_cons_succ])
            first | (refine anyT_take 14 (some 85) (v := ?_) rfl rfl (by kernel_rfl) (by kernel_rfl) (by kernel_rfl) (by kernel_rfl) (fun _ _ _ h => h) (Or.inl ⟨by rfl, ?_⟩) hHeld ?_; rotate_left; focus (intro wq hSw; obtain ⟨hcq, hfq⟩ := bcell hSw; go_simp; (try with_reducible rfl); done))
            (try simp only [Act.put, List.setIfInBounds_toArray, List.set_cons_zero, List.set_cons_succ])
            refine anyT_one 15 (by kernel_rfl) rfl (fun K hK => ?_)
            have hbq : Below w.heap.size w _ := below_then HW6.out HW6.out.size hHeld
            go_simp
            refine (Nth_calls A2 cb2 bits _ _ (HP.out.below hbq)).mono ?_; clear hbq; rintro e w7 ⟨rfl, rfl⟩
            refine hK.out _ _ ?_ (fun hHeld => ?_)
            · exact hHeld
            clear hK K
            (try simp only [Act.put, List.setIfInBounds_toArray, List.set_cons_zero, List.set_cons_succ])
            refine anyT_one 16 (by kernel_rfl) rfl (fun K hK => ?_)
            go_simp
            refine (Draw_calls _ _ _ _ (by omega) (by omega) (by omega) (by omega)).mono ?_; rintro e w8 ⟨rfl, hb8⟩; rw [Hdd.out]
            refine hK.out _ _ ?_ (fun hHeld => ?_)
            · exact below_then hHeld hHeld.size hb8
            clear hK K
            (try simp only [Act.put, List.setIfInBounds_toArray, List.set_cons_zero, List.set_cons_succ])
            first | (refine anyT_take 17 (some 88) (v := ?_) rfl rfl (by kernel_rfl) (by kernel_rfl) (by kernel_rfl) (by kernel_rfl) (fun _ _ _ h => h) (Or.inl ⟨by rfl, ?_⟩) hHeld ?_; rotate_left; focus (intro wq hSw; obtain ⟨hcq, hfq⟩ := bcell hSw; go_simp; (try with_reducible rfl); done))
            (try simp only [Act.put, List.setIfInBounds_toArray, List.set_cons_zero, List.set_cons_succ])
            first | (refine anyT_take 18 (some 89) (v := ?_) rfl rfl (by kernel_rfl) (by kernel_rfl) (by kernel_rfl) (by kernel_rfl) (fun _ _ _ h => h) (Or.inl ⟨by rfl, ?_⟩) hHeld ?_; rotate_left; focus (intro wq hSw; obtain ⟨hcq, hfq⟩ := bcell hSw; go_simp; (try with_reducible rfl); done))
            (try simp only [Act.put, List.setIfInBounds_toArray, List.set_cons_zero, List.set_cons_succ])
            first | (refine anyT_take 19 (some 10) (v := ?_) rfl rfl (by kernel_rfl) (by kernel_rfl) (by kernel_rfl) (by kernel_rfl) (fun _ _ _ h => h) (Or.inl ⟨by rfl, ?_⟩) hHeld ?_; rotate_left; focus (intro wq hSw; obtain ⟨hcq, hfq⟩ := bcell hSw; go_simp; (try with_reducible rfl); done))
            (try simp only [Act.put, List.setIfInBounds_toArray, List.set_cons_zero, List.set_cons_succ])
            refine anyT_done (by kernel_rfl) ?_ _
            have Hh8 := Lib.hid hHeld
            have Ho8 := Lib.hid (Hown6.out.keep hHeld)
            have Hb8 := Lib.hid (below_then Hbe6.out Hbe6.out.size hHeld)
            clear hHeld hpq hc0 hc1 c9 f9 l9
            go_wp2_with (at_builtin; refine wpList_app1 _ rfl _ _ rfl w4.heap.size _ _ rfl (Ho8.out.alloc _) _ _ _ rfl (cell_new1 _ _ _) (by have := Hrow.out.1; omega) (by have := Hb8.out.size; simp; omega) ?_)
            intro v' w9 ho hb9 hsz9 _
            have Hho := Lib.hid ho
            have Hb9 := Lib.hid hb9
            clear ho hb9 hsz9
            go_wp2
            go_roundg (nn - (k + 1))
            case measure => have := Hgk.out; omega
            case rel => exact ⟨k + 1, now + d - dd, r ++ [now + d - dd], by omega, rfl, by go_num, rfl, Hho.out, Hrow.out.snoc (by rw [Hlf.out, ← Hmx.out]; exact hse.out.1) (by rw [Hlt.out, ← Hmx.out]; exact hse.out.2), (by rw [← Hrow.out.1]; exact gi_snoc_at _ _), (Hb8.out.alloc Hb8.out.size _).trans Hb9.out⟩
          · have hmx : max 0 (now + d - dd) = 0 := by omega
            have Hmx := Lib.hid hmx
            clear hmx
            go_upto_region 10 with (fail)
            refine region_plain (S := fun w' => Below w6.heap.size w6 w') 20 (by kernel_rfl) ?_ (fun hHeld => ?_)
            · exact (Below.refl _ _).drew
            first | (refine anyT_take 0 (some 71) (v := ?_) rfl rfl (by kernel_rfl) (by kernel_rfl) (by kernel_rfl) (by kernel_rfl) (fun _ _ _ h => h) (Or.inl ⟨by rfl, ?_⟩) hHeld ?_; rotate_left; focus (intro wq hSw; obtain ⟨hcq, hfq⟩ := bcell hSw; go_simp; (try with_reducible rfl); done))
            (try simp only [Act.put, List.setIfInBounds_toArray, List.set_cons_zero, List.set_cons_succ])
            first | (refine anyT_take 1 (some 72) (v := ?_) rfl rfl (by kernel_rfl) (by kernel_rfl) (by kernel_rfl) (by kernel_rfl) (fun _ _ _ h => h) (Or.inl ⟨by rfl, ?_⟩) hHeld ?_; rotate_left; focus (intro wq hSw; obtain ⟨hcq, hfq⟩ := bcell hSw; go_simp; (try with_reducible rfl); done))
            (try simp only [Act.put, List.setIfInBounds_toArray, List.set_cons_zero, List.set_cons_succ])
            first | (refine anyT_take 2 (some 73) (v := ?_) rfl rfl (by kernel_rfl) (by kernel_rfl) (by kernel_rfl) (by kernel_rfl) (fun _ _ _ h => h) (Or.inl ⟨by rfl, ?_⟩) hHeld ?_; rotate_left; focus (intro wq hSw; obtain ⟨hcq, hfq⟩ := bcell hSw; go_simp; (try with_reducible rfl); done))
            (try simp only [Act.put, List.setIfInBounds_toArray, List.set_cons_zero, List.set_cons_succ])
            first | (refine anyT_take 3 (some 74) (v := ?_) rfl rfl (by kernel_rfl) (by kernel_rfl) (by kernel_rfl) (by kernel_rfl) (fun _ _ _ h => h) (Or.inl ⟨by rfl, ?_⟩) hHeld ?_; rotate_left; focus (intro wq hSw; obtain ⟨hcq, hfq⟩ := bcell hSw; go_simp; (try with_reducible rfl); done))
            (try simp only [Act.put, List.setIfInBounds_toArray, List.set_cons_zero, List.set_cons_succ])
            first | (refine anyT_take 4 (some 75) (v := ?_) rfl rfl (by kernel_rfl) (by kernel_rfl) (by kernel_rfl) (by kernel_rfl) (fun _ _ _ h => h) (Or.inl ⟨by rfl, ?_⟩) hHeld ?_; rotate_left; focus (intro wq hSw; obtain ⟨hcq, hfq⟩ := bcell hSw; go_simp; (try with_reducible rfl); done))
            (try simp only [Act.put, List.setIfInBounds_toArray, List.set_cons_zero, List.set_cons_succ])
            first | (refine anyT_take 5 (some 76) (v := ?_) rfl rfl (by kernel_rfl) (by kernel_rfl) (by kernel_rfl) (by kernel_rfl) (fun _ _ _ h => h) (Or.inl ⟨by rfl, ?_⟩) hHeld ?_; rotate_left; focus (intro wq hSw; obtain ⟨hcq, hfq⟩ := bcell hSw; go_simp; (try with_reducible rfl); done))
            (try simp only [Act.put, List.setIfInBounds_toArray, List.set_cons_zero, List.set_cons_succ])
            first | (refine anyT_take 6 (some 77) (v := ?_) rfl rfl (by kernel_rfl) (by kernel_rfl) (by kernel_rfl) (by kernel_rfl) (fun _ _ _ h => h) (Or.inl ⟨by rfl, ?_⟩) hHeld ?_; rotate_left; focus (intro wq hSw; obtain ⟨hcq, hfq⟩ := bcell hSw; go_simp; (try with_reducible rfl); done))
            (try simp only [Act.put, List.setIfInBounds_toArray, List.set_cons_zero, List.set_cons_succ])
            first | (refine anyT_take 7 (some 78) (v := ?_) rfl rfl (by kernel_rfl) (by kernel_rfl) (by kernel_rfl) (by kernel_rfl) (fun _ _ _ h => h) (Or.inl ⟨by rfl, ?_⟩) hHeld ?_; rotate_left; focus (intro wq hSw; obtain ⟨hcq, hfq⟩ := bcell hSw; go_simp; (try with_reducible rfl); done))
            (try simp only [Act.put, List.setIfInBounds_toArray, List.set_cons_zero, List.set_cons_succ])
            first | (refine anyT_take 8 (some 79) (v := ?_) rfl rfl (by kernel_rfl) (by kernel_rfl) (by kernel_rfl) (by kernel_rfl) (fun _ _ _ h => h) (Or.inl ⟨by rfl, ?_⟩) hHeld ?_; rotate_left; focus (intro wq hSw; obtain ⟨hcq, hfq⟩ := bcell hSw; go_simp; (try with_reducible rfl); done))
            (try simp only [Act.put, List.setIfInBounds_toArray, List.set_cons_zero, List.set_cons_succ])
            first | (refine anyT_take 9 (some 80) (v := ?_) rfl rfl (by kernel_rfl) (by kernel_rfl) (by kernel_rfl) (by kernel_rfl) (fun _ _ _ h => h) (Or.inl ⟨by rfl, ?_⟩) hHeld ?_; rotate_left; focus (intro wq hSw; obtain ⟨hcq, hfq⟩ := bcell hSw; go_simp; (try with_reducible rfl); done))
            (try simp only [Act.put, List.setIfInBounds_toArray, List.set_cons_zero, List.set_cons_succ])
            first | (refine anyT_take 10 (some 81) (v := ?_) rfl rfl (by kernel_rfl) (by kernel_rfl) (by kernel_rfl) (by kernel_rfl) (fun _ _ _ h => h) (Or.inl ⟨by rfl, ?_⟩) hHeld ?_; rotate_left; focus (intro wq hSw; obtain ⟨hcq, hfq⟩ := bcell hSw; go_simp; (try with_reducible rfl); done))
            (try simp only [Act.put, List.setIfInBounds_toArray, List.set_cons_zero, List.set_cons_succ])
            first | (refine anyT_take 11 (some 82) (v := ?_) rfl rfl (by kernel_rfl) (by kernel_rfl) (by kernel_rfl) (by kernel_rfl) (fun _ _ _ h => h) (Or.inl ⟨by rfl, ?_⟩) hHeld ?_; rotate_left; focus (intro wq hSw; obtain ⟨hcq, hfq⟩ := bcell hSw; go_simp; (try with_reducible rfl); done))
            (try simp only [Act.put, List.setIfInBounds_toArray, List.set_cons_zero, List.set_cons_succ])
            first | (refine anyT_take 12 (some 83) (v := ?_) rfl rfl (by kernel_rfl) (by kernel_rfl) (by kernel_rfl) (by kernel_rfl) (fun _ _ _ h => h) (Or.inl ⟨by rfl, ?_⟩) hHeld ?_; rotate_left; focus (intro wq hSw; obtain ⟨hcq, hfq⟩ := bcell hSw; go_simp; (try with_reducible rfl); done))
            (try simp only [Act.put, List.setIfInBounds_toArray, List.set_cons_zero, List.set_cons_succ])
            first | (refine anyT_take 13 (some 84) (v := ?_) rfl rfl (by kernel_rfl) (by kernel_rfl) (by kernel_rfl) (by kernel_rfl) (fun _ _ _ h => h) (Or.inl ⟨by rfl, ?_⟩) hHeld ?_; rotate_left; focus (intro wq hSw; obtain ⟨hcq, hfq⟩ := bcell hSw; go_simp; (try with_reducible rfl); done))
            (try simp only [Act.put, List.setIfInBounds_toArray, List.set_cons_zero, List.set_cons_succ])
            first | (refine anyT_take 14 (some 85) (v := ?_) rfl rfl (by kernel_rfl) (by kernel_rfl) (by kernel_rfl) (by kernel_rfl) (fun _ _ _ h => h) (Or.inl ⟨by rfl, ?_⟩) hHeld ?_; rotate_left; focus (intro wq hSw; obtain ⟨hcq, hfq⟩ := bcell hSw; go_simp; (try with_reducible rfl); done))
            (try simp only [Act.put, List.setIfInBounds_toArray, List.set_cons_zero, List.set_cons_succ])
            refine anyT_one 15 (by kernel_rfl) rfl (fun K hK => ?_)
            have hbq : Below w.heap.size w _ := below_then HW6.out HW6.out.size hHeld
            go_simp
            refine (Nth_calls A2 cb2 bits _ _ (HP.out.below hbq)).mono ?_; clear hbq; rintro e w7 ⟨rfl, rfl⟩
            refine hK.out _ _ ?_ (fun hHeld => ?_)
            · exact hHeld
            clear hK K
            (try simp only [Act.put, List.setIfInBounds_toArray, List.set_cons_zero, List.set_cons_succ])
            refine anyT_one 16 (by kernel_rfl) rfl (fun K hK => ?_)
            go_simp
            refine (Draw_calls _ _ _ _ (by omega) (by omega) (by omega) (by omega)).mono ?_; rintro e w8 ⟨rfl, hb8⟩; rw [Hdd.out]
            refine hK.out _ _ ?_ (fun hHeld => ?_)
            · exact below_then hHeld hHeld.size hb8
            clear hK K
            (try simp only [Act.put, List.setIfInBounds_toArray, List.set_cons_zero, List.set_cons_succ])
            first | (refine anyT_take 17 (some 88) (v := ?_) rfl rfl (by kernel_rfl) (by kernel_rfl) (by kernel_rfl) (by kernel_rfl) (fun _ _ _ h => h) (Or.inl ⟨by rfl, ?_⟩) hHeld ?_; rotate_left; focus (intro wq hSw; obtain ⟨hcq, hfq⟩ := bcell hSw; go_simp; (try with_reducible rfl); done))
            (try simp only [Act.put, List.setIfInBounds_toArray, List.set_cons_zero, List.set_cons_succ])
            first | (refine anyT_take 18 (some 89) (v := ?_) rfl rfl (by kernel_rfl) (by kernel_rfl) (by kernel_rfl) (by kernel_rfl) (fun _ _ _ h => h) (Or.inl ⟨by rfl, ?_⟩) hHeld ?_; rotate_left; focus (intro wq hSw; obtain ⟨hcq, hfq⟩ := bcell hSw; go_simp; (try with_reducible rfl); done))
            (try simp only [Act.put, List.setIfInBounds_toArray, List.set_cons_zero, List.set_cons_succ])
            first | (refine anyT_take 19 (some 10) (v := ?_) rfl rfl (by kernel_rfl) (by kernel_rfl) (by kernel_rfl) (by kernel_rfl) (fun _ _ _ h => h) (Or.inl ⟨by rfl, ?_⟩) hHeld ?_; rotate_left; focus (intro wq hSw; obtain ⟨hcq, hfq⟩ := bcell hSw; go_simp; (try with_reducible rfl); done))
            (try simp only [Act.put, List.setIfInBounds_toArray, List.set_cons_zero, List.set_cons_succ])
            refine anyT_done (by kernel_rfl) ?_ _
            have Hh8 := Lib.hid hHeld
            have Ho8 := Lib.hid (Hown6.out.keep hHeld)
            have Hb8 := Lib.hid (below_then Hbe6.out Hbe6.out.size hHeld)
            clear hHeld hpq hc0 hc1 c9 f9 l9
            go_wp2_with (at_builtin; refine wpList_app1 _ rfl _ _ rfl w4.heap.size _ _ rfl (Ho8.out.alloc _) _ _ _ rfl (cell_new1 _ _ _) (by have := Hrow.out.1; omega) (by have := Hb8.out.size; simp; omega) ?_)
            intro v' w9 ho hb9 hsz9 _
            have Hho := Lib.hid ho
            have Hb9 := Lib.hid hb9
            clear ho hb9 hsz9
            go_wp2
            go_roundg (nn - (k + 1))
            case measure => have := Hgk.out; omega
            case rel => exact ⟨k + 1, 0, r ++ [0], by omega, rfl, by go_num, rfl, Hho.out, Hrow.out.snoc (by rw [Hlf.out]; have h2 := hse.out.1; rw [Hmx.out] at h2; exact h2) (by rw [Hlt.out]; have h2 := hse.out.2; rw [Hmx.out] at h2; exact h2), (by rw [← Hrow.out.1]; exact gi_snoc_at _ _), (Hb8.out.alloc Hb8.out.size _).trans Hb9.out⟩
    · obtain rfl : k = nn := by omega
      obtain ⟨A', c', rfl, hi', hc', hm', _, h0⟩ := Hown.out.reads
      have Hi' := Lib.hid hi'
      have Hnn2 : Hid ((B.parts * B.size).toNat = k) := by unfold Hid; have := Hnn.out; omega
      clear hi' h0
      go_wp2
      go_ret
      exact ⟨⟨A', c', r, rfl, Hi'.out, by rw [Hnn2.out]; exact Hrow.out⟩, HWr.out⟩
end Go.Proofs.YtljikigmfkfkiaaDoor
