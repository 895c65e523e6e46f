import Derived.Test.YtljikigmfkfkiaaDoorF
import Derived.Test.YtljikigmfkfkiaaDoorL
import Derived.Test.YtljikigmfkfkiaaDoorH
import Derived.OwnWalk
namespace Go.Proofs.YtljikigmfkfkiaaDoor
section
open Go.RowKit
set_option linter.unusedSimpArgs false
set_option linter.unusedVariables false

theorem dec4 {n : Nat} : ((n : Int) == 4) = decide (n = 4) := by rw [Bool.eq_iff_iff]; simp; omega
def headB (B : BookV) : Bool := inB B.parts 1 8 && inB B.size 1 16 && decide (B.beats.length = 4) && inB B.start 0 3 && inB B.fin 0 3
def head2B (B : BookV) : Bool := spanB B.tlo B.thi 0 128000 && spanB B.slo B.shi 0 100 && inB B.notice 1 B.size && inB B.players.length 1 5
def beatsB (l : List Int) (k : Nat) : Bool := (List.range k).all fun j => inB (gi l j) 1 1000
def catchB (l : List (Int × Int)) (k : Nat) : Bool := (List.range k).all fun j => spanB (gs l j).1 (gs l j).2 0 100
def playerB (p : PlayerV) : Bool := spanB p.lo p.hi 0 500 && decide (p.catches.length = 4) && catchB p.catches p.catches.length
def playersB (l : List PlayerV) (k : Nat) : Bool := (List.range k).all fun j => playerB (gp l j)
def goodB (B : BookV) : Bool := headB B && head2B B && beatsB B.beats B.beats.length && playersB B.players B.players.length
theorem beatsB_succ (l : List Int) (k : Nat) : beatsB l (k + 1) = (beatsB l k && inB (gi l k) 1 1000) := range_all_succ _ _
theorem catchB_succ (l : List (Int × Int)) (k : Nat) : catchB l (k + 1) = (catchB l k && spanB (gs l k).1 (gs l k).2 0 100) := range_all_succ _ _
theorem playersB_succ (l : List PlayerV) (k : Nat) : playersB l (k + 1) = (playersB l k && playerB (gp l k)) := range_all_succ _ _
theorem spanB_iff {a b lo hi : Int} : spanB a b lo hi = true ↔ lo ≤ a ∧ a ≤ b ∧ b ≤ hi := by simp [spanB, and_assoc]
theorem inB_iff {n a b : Int} : inB n a b = true ↔ a ≤ n ∧ n ≤ b := by simp [inB]
theorem goodB_iff (B : BookV) : goodB B = true ↔ B.Good := by
  constructor
  · intro h
    simp only [goodB, headB, head2B, Bool.and_eq_true, inB_iff, spanB_iff, decide_eq_true_eq] at h
    obtain ⟨⟨⟨⟨⟨⟨⟨h1, h2⟩, h3⟩, h4⟩, h5⟩, ⟨⟨⟨h6, h7⟩, h8⟩, h9⟩⟩, h10⟩, h11⟩ := h
    have hb := fun k (hk : k < 4) => inB_iff.1 (range_all_get h10 k (by omega))
    have hp := fun j (hj : j < B.players.length) => range_all_get h11 j hj
    simp only [playerB, Bool.and_eq_true, spanB_iff, decide_eq_true_eq] at hp
    exact ⟨h1, h2, h3, h4, h5, h6, h7, h8, ⟨by omega, by omega⟩, hb, fun j hj => (hp j hj).1.1, fun j hj => (hp j hj).1.2, fun j hj k hk => spanB_iff.1 (range_all_get (hp j hj).2 k (by have := (hp j hj).1.2; omega))⟩
  · intro g
    have hall : ∀ {n : Nat} {p : Nat → Bool}, (∀ k, k < n → p k = true) → (List.range n).all p = true := fun h => List.all_eq_true.2 fun x hx => h x (List.mem_range.1 hx)
    simp only [goodB, headB, head2B, Bool.and_eq_true, inB_iff, spanB_iff, decide_eq_true_eq]
    refine ⟨⟨⟨⟨⟨⟨⟨g.parts, g.size⟩, g.beatsLen⟩, g.start⟩, g.fin⟩, ⟨⟨⟨g.time, g.slip⟩, g.notice⟩, by have := g.many; omega⟩⟩, hall fun k hk => inB_iff.2 (g.beats k (by have := g.beatsLen; omega))⟩, hall fun j hj => ?_⟩
    simp only [playerB, Bool.and_eq_true, spanB_iff, decide_eq_true_eq]
    exact ⟨⟨g.late j hj, g.catchLen j hj⟩, hall fun k hk => spanB_iff.2 (g.catches j hj k (by have := g.catchLen j hj; omega))⟩

set_option maxRecDepth 100000 in
set_option maxHeartbeats 4000000 in
theorem Check_calls (B : BookV) (w : World) (hB : B.Reads w) :
    Calls Tryd.prog 18 #[B.val] w fun e w' => e = .returned (.int .i64 (bif goodB B then 0 else 80)) ∧ Below w.heap.size w w' := by
  obtain ⟨⟨hbl, hbc⟩, hpl, hpc, hps⟩ := hB
  have Hbc := Lib.hid hbc
  have Hpc := Lib.hid hpc
  have Hps := Lib.hid hps
  clear hbc hpc hps
  unfold BookV.val BookV.cells
  go_enter Tryd.func18, Tryd.ntmps18
  go_upto_region 1 with fail
  go_cut [3] (fun s w1 => s = .bool (headB B) ∧ w1 = w.alloc (.cells B.cells 27))
  case first =>
    rcases chain4 (inB B.parts 1 8) (inB B.size 1 16) ((B.beats.length : Int) == 4) (inB B.start 0 3) with h1 | ⟨h1, h2⟩ | ⟨h1, h2, h3⟩ | ⟨h1, h2, h3, h4⟩ | ⟨h1, h2, h3, h4⟩
    all_goals
      go_wp2_with (go_at_call 62; refine (in_calls _ _ _ _).mono ?_; rintro e w' ⟨rfl, rfl⟩)
      go_meet
      exact ⟨by simp_all [headB, dec4], rfl⟩
  case rest =>
    obtain ⟨rfl, rfl⟩ := hcut
    have k1 := BoxAt.new w B.cells 27
    have H1 : Below w.heap.size w (w.alloc (.cells B.cells 27)) := (Below.refl _ _).alloc (Nat.le_refl _) _
    generalize w.alloc (.cells B.cells 27) = w1 at *
    generalize hh : headB B = h at *
    have Hh := Lib.hid hh
    clear hh
    unfold BookV.cells at k1
    have K1 := Lib.hid k1
    obtain ⟨c1, f1, l1⟩ := k1
    go_upto_region 2 with fail
    go_cut [3] (fun s w2 => s = .bool (h && head2B B) ∧ Below w1.heap.size w1 w2)
    case first =>
      cases h with
      | false =>
        go_wp2
        go_meet
        exact ⟨rfl, Below.refl _ _⟩
      | true =>
        have Hc : Below w1.heap.size w1 w1 := Below.refl _ _
        rcases chain3 (spanB B.tlo B.thi 0 128000) (spanB B.slo B.shi 0 100) (inB B.notice 1 B.size) with h1 | ⟨h1, h2⟩ | ⟨h1, h2, h3⟩ | ⟨h1, h2, h3⟩
        all_goals
          go_wp2_with (first
            | (go_at_call 62; refine (in_calls _ _ _ _).mono ?_; rintro e w' ⟨rfl, rfl⟩)
            | (go_at_call 63; refine (isSpan_calls _ _ _ _ _).mono ?_; rintro e w' ⟨rfl, hb⟩; obtain ⟨c1, f1, l1⟩ := BoxAt.below ⟨c1, f1, l1⟩ hb; have Hc := below_then Hc Hc.size hb; clear hb))
          go_meet
          refine ⟨by simp [head2B, *], by assumption⟩
    case rest =>
      obtain ⟨rfl, hb⟩ := hcut
      have H2 := below_then H1 H1.size hb
      have k2 := K1.out.below hb
      clear hb H1 c1 f1 l1
      generalize wc = w2 at *
      generalize hh : (h && head2B B) = g at *
      have Hg : Hid (g = (headB B && head2B B)) := by unfold Hid; rw [← hh, Hh.out]
      clear hh Hh K1
      have K2 := Lib.hid k2
      obtain ⟨c2, f2, l2⟩ := k2
      -- the beats
      go_upto_block 0 with (fail)
      go_cut [3] (fun s w3 => s = .bool (g && beatsB B.beats B.beats.length) ∧ w2 = w3)
      case first =>
        rcases Hbc.out with he | ⟨b, o, e, hc⟩
        · have hl0 : ¬ 0 < B.beats.length := by rw [he]; simp
          have hz : (B.beats.length : Int) = 0 := by omega
          have He : Hid (beatsB B.beats B.beats.length = true) := by unfold Hid; rw [he]; rfl
          clear he
          go_wp2
          refine wp_loop_rounds 1 ?_
          rw [rounds_succ]
          go_wp2
          go_meet
          exact ⟨by rw [He.out]; simp, rfl⟩
        · have Hc := Lib.hid hc
          clear hc
          rw [e]
          go_wp2
          go_loop [61, 3] (fun i s => ∃ k : Nat, k ≤ B.beats.length ∧ i = .int .i64 k ∧ s = .bool (g && beatsB B.beats k)) (fun i _ => B.beats.length - (intOf i).toNat)
          case atStart => exact ⟨0, Nat.zero_le _, rfl, by simp [beatsB]⟩
          case round =>
            obtain ⟨k, hk, rfl, rfl⟩ := hrel
            by_cases hlt : k < B.beats.length
            · have hck := cell_below H2 (Hc.out k hlt)
              have hs := beatsB_succ B.beats k
              have Hs := Lib.hid hs
              clear hs
              generalize hx : (g && beatsB B.beats k) = x at *
              have Hx := Lib.hid hx
              clear hx
              cases x with
              | false =>
                go_wp2
                go_round
                case rel => exact ⟨k + 1, by omega, by go_num, by rw [Hs.out, ← Bool.and_assoc, Hx.out]; rfl⟩
                case measure => simp [intOf]; omega
              | true =>
                go_wp2_with (go_at_call 62; refine (in_calls _ _ _ _).mono ?_; rintro e w' ⟨rfl, rfl⟩)
                go_round
                case rel => exact ⟨k + 1, by omega, by go_num, by rw [Hs.out, ← Bool.and_assoc, Hx.out]; rfl⟩
                case measure => simp [intOf]; omega
            · obtain rfl : k = B.beats.length := by omega
              go_wp2
              refine Met.intro ?_
              go_step
              (repeat apply Exists.intro)
              refine ⟨?relb, by rw [e]⟩
              exact ⟨rfl, rfl⟩
      case rest =>
        obtain ⟨rfl, rfl⟩ := hcut
        generalize hh : (g && beatsB B.beats B.beats.length) = g2 at *
        have Hg2 : Hid (g2 = (headB B && head2B B && beatsB B.beats B.beats.length)) := by unfold Hid; rw [← hh, Hg.out]
        clear hh Hg
        -- the players
        go_upto_block 2 with (fail)
        go_cut [3] (fun s w3 => s = .bool (g2 && playersB B.players B.players.length) ∧ Below w.heap.size w w3)
        case first =>
          rcases Hpc.out with he | ⟨b, o, e, hc⟩
          · have hl0 : ¬ 0 < B.players.length := by rw [he]; simp
            have hz : (B.players.length : Int) = 0 := by omega
            have He : Hid (playersB B.players B.players.length = true) := by unfold Hid; rw [he]; rfl
            clear he
            go_wp2
            refine wp_loop_rounds 1 ?_
            rw [rounds_succ]
            go_wp2
            go_meet
            exact ⟨by rw [He.out]; simp, H2⟩
          · have Hc := Lib.hid hc
            clear hc
            rw [e]
            go_wp2
            go_loopg [74, 3] B.players.length (fun gk i s wr => ∃ k : Nat, k ≤ B.players.length ∧ gk = B.players.length - k ∧ i = .int .i64 k ∧ s = .bool (g2 && playersB B.players k) ∧ Below w.heap.size w wr)
            case atStart => exact ⟨0, Nat.zero_le _, rfl, rfl, by simp [playersB], H2⟩
            case round =>
              obtain ⟨k, hk, hgk, rfl, rfl, hB⟩ := hrel
              have Hgk := Lib.hid hgk
              clear hgk
              by_cases hlt : k < B.players.length
              · obtain ⟨p0, p1, p2⟩ := Hc.out k hlt
                have hps := Hps.out _ (gp_mem hlt)
                have hs := playersB_succ B.players k
                unfold playerB at hs
                have Hs := Lib.hid hs
                clear hs
                generalize hpv : gp B.players k = p at *
                clear hpv
                obtain ⟨plo, phi, pcA, pcC, pct⟩ := p
                simp only at p0 p1 p2 hps
                replace p0 := cell_below hB p0
                replace p1 := cell_below hB p1
                replace p2 := cell_below hB p2
                have pbl := World.block_lt_of_cell? _ _ p0
                simp only at pbl
                have hpl2 := hps.1.1
                have Hsp := Lib.hid hps.1.2
                clear hps
                have k7 := BoxAt.new wr #[.int .i64 plo, .int .i64 phi, .slice pcA pct.length pcC] 68
                have Hb1 : Below w.heap.size w (wr.alloc (.cells #[.int .i64 plo, .int .i64 phi, .slice pcA pct.length pcC] 68)) := hB.alloc hB.size _
                go_upto_region 11 with (fail)
                obtain ⟨wp, hwp⟩ : ∃ wp, wp = wr.alloc (.cells #[.int .i64 plo, .int .i64 phi, .slice pcA pct.length pcC] 68) := ⟨_, rfl⟩
                rw [← hwp] at k7 Hb1 ⊢
                clear hwp p0 p1 p2 hB
                have K7 := Lib.hid k7
                obtain ⟨c7, f7, l7⟩ := k7
                generalize hx : (g2 && playersB B.players k) = x at *
                have Hx := Lib.hid hx
                clear hx
                generalize wr.heap.size = nb at *
                go_cut [3] (fun s w3 => s = .bool (x && (spanB plo phi 0 500 && decide (pct.length = 4))) ∧ Below wp.heap.size wp w3)
                case first =>
                  cases x with
                  | false =>
                    go_wp2
                    go_meet
                    exact ⟨rfl, Below.refl _ _⟩
                  | true =>
                    rcases chain1 (spanB plo phi 0 500) with h1 | h1
                    all_goals
                      go_wp2_with (go_at_call 63; refine (isSpan_calls _ _ _ _ _).mono ?_; rintro e w' ⟨rfl, hb⟩; obtain ⟨c7, f7, l7⟩ := BoxAt.below ⟨c7, f7, l7⟩ hb)
                      go_meet
                      exact ⟨by simp [h1, dec4], by assumption⟩
                case rest =>
                  obtain ⟨rfl, hb⟩ := hcut
                  have Hb2 := below_then Hb1 Hb1.size hb
                  have k8 := K7.out.below hb
                  clear hb Hb1 c7 f7 l7 K7
                  generalize wc = w3 at *
                  generalize hy : (x && (spanB plo phi 0 500 && decide (pct.length = 4))) = y at *
                  have Hy : Hid ((g2 && playersB B.players (k + 1)) = (y && catchB pct pct.length)) := by unfold Hid; rw [Hs.out, ← hy, ← Hx.out]; simp only [Bool.and_assoc]
                  clear hy Hx Hs
                  obtain ⟨c8, f8, l8⟩ := k8
                  rcases Hsp.out with he | ⟨b2, o2, rfl, hc2⟩
                  · have hz : (pct.length : Int) = 0 := by rw [he]; rfl
                    have He : Hid (catchB pct pct.length = true) := by unfold Hid; rw [he]; rfl
                    clear he
                    go_wp2
                    refine wp_loop_rounds 1 ?_
                    rw [rounds_succ]
                    go_wp2
                    go_roundg (B.players.length - (k + 1))
                    case measure => have := Hgk.out; omega
                    case rel => exact ⟨k + 1, by omega, rfl, by go_num, by rw [Hy.out, He.out]; simp, Hb2⟩
                  · have Hc2 := Lib.hid hc2
                    clear hc2 Hsp
                    go_wp2
                    go_loopg [93, 3] pct.length (fun gi' i s wi => ∃ m : Nat, m ≤ pct.length ∧ gi' = pct.length - m ∧ i = .int .i64 m ∧ s = .bool (y && catchB pct m) ∧ Below w.heap.size w wi)
                    case atStart => exact ⟨0, Nat.zero_le _, rfl, rfl, by simp [catchB], Hb2⟩
                    case round =>
                      obtain ⟨m, hm, hgm, rfl, rfl, hB2⟩ := hrel
                      have Hgm := Lib.hid hgm
                      clear hgm c8 f8 l8
                      by_cases hlm : m < pct.length
                      · obtain ⟨s0, s1⟩ := Hc2.out m hlm
                        have Hs := Lib.hid (catchB_succ pct m)
                        replace s0 := cell_below hB2 s0
                        replace s1 := cell_below hB2 s1
                        have sbl := World.block_lt_of_cell? _ _ s0
                        simp only at sbl
                        generalize (gs pct m).1 = x1 at *
                        generalize (gs pct m).2 = x2 at *
                        generalize hz : (y && catchB pct m) = z at *
                        have Hz := Lib.hid hz
                        clear hz
                        cases z with
                        | false =>
                          go_wp2
                          go_roundg (pct.length - (m + 1))
                          case measure => have := Hgm.out; omega
                          case rel => exact ⟨m + 1, by omega, rfl, by go_num, by rw [Hs.out, ← Bool.and_assoc, Hz.out]; rfl, hB2.alloc hB2.size _⟩
                        | true =>
                          have Hbn : Below w.heap.size w (wr.alloc (.cells #[.int .i64 x1, .int .i64 x2] 24)) := hB2.alloc hB2.size _
                          go_wp2_with (go_at_call 63; refine (isSpan_calls _ _ _ _ _).mono ?_; rintro e w' ⟨rfl, hb⟩)
                          go_roundg (pct.length - (m + 1))
                          case measure => have := Hgm.out; omega
                          case rel => exact ⟨m + 1, by omega, rfl, by go_num, by rw [Hs.out, ← Bool.and_assoc, Hz.out]; rfl, below_then Hbn Hbn.size hb⟩
                      · obtain rfl : m = pct.length := by omega
                        have Hb3 := Lib.hid hB2
                        go_wp2
                        go_roundg (B.players.length - (k + 1))
                        case measure => have := Hgk.out; omega
                        case rel => exact ⟨k + 1, by omega, rfl, by go_num, by rw [Hy.out], Hb3.out⟩
              · obtain rfl : k = B.players.length := by omega
                go_wp2
                refine Met.intro ?_
                go_step
                (repeat apply Exists.intro)
                refine ⟨⟨rfl, hB⟩, ?_⟩
                rw [e]
        case rest =>
          obtain ⟨rfl, hb⟩ := hcut
          have hv : Hid (∀ v, v = (g2 && playersB B.players B.players.length) → (bif goodB B then (0 : Int) else 80) = (bif v then 0 else 80)) := fun v e => by
            rw [e, Hg2.out]; rfl
          generalize (g2 && playersB B.players B.players.length) = v at *
          have Hv := Lib.hid (hv.out v rfl)
          cases v
          all_goals
            go_wp2
            go_ret
            exact ⟨by rw [Hv.out]; rfl, hb⟩
end
end Go.Proofs.YtljikigmfkfkiaaDoor
namespace Go.Proofs.YtljikigmfkfkiaaDoor
section
open Go.RowKit
set_option linter.unusedSimpArgs false
set_option linter.unusedVariables false

theorem isPathS_iff {B : BookV} (g : B.Good) (path : List Int) : isPathS B.parts B.start path = true ↔ IsPath B path := by
  have hp := g.parts
  rw [isPathS, Bool.and_eq_true, Bool.and_eq_true, decide_eq_true_eq, decide_eq_true_eq]
  constructor
  · rintro ⟨⟨h1, h2⟩, h3⟩
    have hk := fun k (hk : k < path.length) => range_all_get h3 k hk
    simp only [Bool.and_eq_true, Bool.or_eq_true, beq_iff_eq, inB_iff] at hk
    exact ⟨h1, h2, fun k h => (hk k h).1, fun k h0 h => by rcases (hk k h).2 with e | e; (omega); exact e⟩
  · rintro ⟨h1, h2, h3, h4⟩
    refine ⟨⟨h1, h2⟩, List.all_eq_true.2 fun k hk => ?_⟩
    rw [List.mem_range] at hk
    simp only [Bool.and_eq_true, Bool.or_eq_true, beq_iff_eq, inB_iff]
    refine ⟨h3 k hk, ?_⟩
    rcases Nat.eq_zero_or_pos k with e | e
    · exact .inl e
    · exact .inr (h4 k e hk)
theorem isPath_all (B : BookV) (g : 1 ≤ B.parts) (A : Option Addr) (c : Nat) (path : List Int) (w : World) (hp : IntsAt w A path) :
    Calls Tryd.prog 58 #[B.val, .slice A path.length c] w fun e w' => e = .returned (.bool (isPathS B.parts B.start path)) ∧ Below w.heap.size w w' := by
  by_cases hl : (path.length : Int) = B.parts
  · obtain ⟨h1, h2⟩ := hp
    rcases h2 with h2 | ⟨b, o, rfl, hc⟩
    · rw [h2] at hl; simp at hl; omega
    · exact isPath_calls B b o c path w h1 (by omega) hl hc
  · refine (isPath_short B A c path w hl).mono ?_
    rintro e w' ⟨rfl, hb⟩
    exact ⟨by rw [show isPathS B.parts B.start path = false by simp [isPathS, hl]], hb⟩

/-- how long the first k parts last -/
def timeTo (B : BookV) (path : List Int) : Nat → Int
  | 0 => 0
  | k + 1 => timeTo B path k + B.size * gi B.beats (gi path k).toNat
theorem timeTo_bd {B : BookV} (g : B.Good) {path : List Int} (hp : IsPath B path) : ∀ k, 0 ≤ timeTo B path k ∧ timeTo B path k ≤ 16000 * k
  | 0 => by simp [timeTo]
  | k + 1 => by
    have h1 := timeTo_bd g hp k
    have h2 := gi_path hp k
    have h3 := g.beats (gi path k).toNat (by omega)
    have h4 := g.size
    have h5 : 0 ≤ B.size * gi B.beats (gi path k).toNat := Int.mul_nonneg (by omega) (by omega)
    have h6 : B.size * gi B.beats (gi path k).toNat ≤ 16 * 1000 := Int.mul_le_mul h4.2 h3.2 (by omega) (by omega)
    simp only [timeTo]; omega
set_option maxRecDepth 100000 in
set_option maxHeartbeats 1000000 in
theorem time_calls (B : BookV) (g : B.Good) (A : Option Addr) (c : Nat) (path : List Int) (hp : IsPath B path) (w : World) (hpa : IntsAt w A path) (hbe : IntsAt w B.bA B.beats) :
    Calls Tryd.prog 59 #[B.val, .slice A path.length c] w fun e w' => e = .returned (.int .i64 (timeTo B path path.length)) ∧ Below w.heap.size w w' := by
  have hl := hp.len
  have hpp := g.parts
  have hpl := hpa.1
  obtain ⟨b, o, rfl, hc⟩ := hpa.2.resolve_left (by intro h; rw [h] at hl; simp at hl; omega)
  have hbl := g.beatsLen
  obtain ⟨b2, o2, e2, hc2⟩ := hbe.2.resolve_left (by intro h; rw [h] at hbl; simp at hbl)
  have Hc := Lib.hid hc
  have Hc2 := Lib.hid hc2
  have Hg := Lib.hid g
  have Hp := Lib.hid hp
  have Hbl := Lib.hid hbl
  clear hc hc2 hl hpp g hp hpa hbe
  unfold BookV.val BookV.cells
  rw [e2, hbl]
  clear e2 hbl
  go_enter Tryd.func59, Tryd.ntmps59
  go_upto_block 0 with (fail)
  have k2 := BoxAt.new w #[.int .i64 B.parts, .int .i64 B.size, .slice (some ⟨b2, o2, none⟩) 4 B.bCap, .int .i64 B.start, .int .i64 B.fin, .int .i64 B.tlo, .int .i64 B.thi, .int .i64 B.slo, .int .i64 B.shi, .int .i64 B.notice, .slice B.pA B.players.length B.pCap] 78
  have H2 : Below w.heap.size w (w.alloc (.cells #[.int .i64 B.parts, .int .i64 B.size, .slice (some ⟨b2, o2, none⟩) 4 B.bCap, .int .i64 B.start, .int .i64 B.fin, .int .i64 B.tlo, .int .i64 B.thi, .int .i64 B.slo, .int .i64 B.shi, .int .i64 B.notice, .slice B.pA B.players.length B.pCap] 78)) := (Below.refl _ _).alloc (Nat.le_refl _) _
  generalize w.alloc (.cells #[.int .i64 B.parts, .int .i64 B.size, .slice (some ⟨b2, o2, none⟩) 4 B.bCap, .int .i64 B.start, .int .i64 B.fin, .int .i64 B.tlo, .int .i64 B.thi, .int .i64 B.slo, .int .i64 B.shi, .int .i64 B.notice, .slice B.pA B.players.length B.pCap] 78) = w2 at *
  have K2 := Lib.hid k2
  clear k2
  go_wp2
  go_loopg [10, 5] path.length (fun gk i s wr => ∃ k : Nat, k ≤ path.length ∧ gk = path.length - k ∧ i = .int .i64 k ∧ s = .int .i64 (timeTo B path k) ∧ Below w2.heap.size w2 wr)
  case atStart => exact ⟨0, Nat.zero_le _, rfl, rfl, rfl, Below.refl _ _⟩
  case round =>
    obtain ⟨k, hk, hgk, rfl, rfl, hB⟩ := hrel
    have Hgk := Lib.hid hgk
    clear hgk
    have HB := below_then H2 H2.size hB
    have hbd := timeTo_bd Hg.out Hp.out k
    have hlen : path.length ≤ 8 := by have := Hp.out.len; have := Hg.out.parts; omega
    by_cases hlt : k < path.length
    · obtain ⟨c2, f2, l2⟩ := K2.out.below hB
      have hck := cell_below HB (Hc.out k hlt)
      obtain ⟨lv, hlv⟩ := Int.eq_ofNat_of_zero_le (gi_path Hp.out k).1
      have hlv4 : lv < 4 := by have := (gi_path Hp.out k).2; omega
      have hlvi : (lv : Int) < 4 := by omega
      have hcb := cell_below HB (Hc2.out lv (by rw [Hbl.out]; omega))
      have hst : Hid (timeTo B path (k + 1) = timeTo B path k + B.size * gi B.beats lv) := by unfold Hid; rw [timeTo, hlv, Int.toNat_natCast]
      rw [hlv] at hck
      have h3 := Hg.out.beats lv hlv4
      have h4 := Hg.out.size
      have h5 : 0 ≤ B.size * gi B.beats lv := Int.mul_nonneg (by omega) (by omega)
      have h6 : B.size * gi B.beats lv ≤ 16 * 1000 := Int.mul_le_mul h4.2 h3.2 (by omega) (by omega)
      have hw1 : IntKind.i64.wrap (B.size * gi B.beats lv) = B.size * gi B.beats lv := wrap_in (by omega) (by omega)
      have hw2 : IntKind.i64.wrap (timeTo B path k + B.size * gi B.beats lv) = timeTo B path k + B.size * gi B.beats lv := wrap_in (by omega) (by omega)
      have b1 := World.block_lt_of_cell? _ _ hck
      have b3 := World.block_lt_of_cell? _ _ hcb
      simp only at b1 b3
      have Hlv := Lib.hid hlv
      clear hlv
      go_wp2
      go_quiet (fail)
      go_wp2
      go_roundg (path.length - (k + 1))
      case measure => have := Hgk.out; omega
      case rel => exact ⟨k + 1, by omega, rfl, by go_num, by rw [hst.out], below_drewN hB _⟩
    · obtain rfl : k = path.length := by omega
      go_wp2
      go_ret
      exact ⟨rfl, HB⟩
end
end Go.Proofs.YtljikigmfkfkiaaDoor
namespace Go.Proofs.YtljikigmfkfkiaaDoor
section
open Go.RowKit
set_option linter.unusedSimpArgs false
set_option linter.unusedVariables false

def zB : Value := .agg #[.int .i64 0, .int .i64 0, .slice none 0 0, .int .i64 0, .int .i64 0, .int .i64 0, .int .i64 0, .int .i64 0, .int .i64 0, .int .i64 0, .slice none 0 0]
/-- what a question's check comes to: the book, and the error -/
def askR (B : BookV) (r : Bool) : Value := bif goodB B then (bif r then .tuple #[B.val, .int .i64 0] else .tuple #[zB, .int .i64 81]) else .tuple #[zB, .int .i64 80]
set_option maxRecDepth 100000 in
set_option maxHeartbeats 1000000 in
theorem asked_calls (B : BookV) (w : World) (hB : B.Reads w) (gf : Nat) (caps : Array Value) (r : Bool) (eg : ∀ args w, (callFunc gf args).run Tryd.prog w = .ok (.enter gf args) w)
    (hR : goodB B = true → ∀ w', Below w.heap.size w w' → Calls Tryd.prog gf (#[B.val] ++ caps) w' fun e w'' => e = .returned (.bool r) ∧ Below w'.heap.size w' w'') :
    Calls Tryd.prog 56 #[B.val, .func (.func gf) #[] caps] w fun e w' => e = .returned (askR B r) ∧ Below w.heap.size w w' := by
  have HR := Lib.hid hR
  have HB := Lib.hid hB
  clear hR hB
  unfold askR
  cases hg : goodB B with
  | false =>
    rw [cond_false]
    unfold BookV.val BookV.cells
    go_enter Tryd.func56, Tryd.ntmps56
    go_wp2_with fail
    refine (eq0_1 (v' := B.val) rfl (Check_calls B _ (HB.out.below (((Below.refl _ _).alloc (Nat.le_refl _) _).alloc (by simp) _)))).mono ?_
    rintro e w1 ⟨rfl, hb⟩
    rw [hg, cond_false]
    have k2 := ((BoxAt.new w _ _).alloc _).below hb
    have k4 := (BoxAt.new (w.alloc _) _ _).below hb
    have H1 : Below w.heap.size w w1 := below_then (((Below.refl _ _).alloc (Nat.le_refl _) _).alloc (by simp) _) (by simp; omega) hb
    rw [World.size_alloc] at k4
    clear hb
    obtain ⟨hst, hbel⟩ := box_store11 k4 rfl (.int .i64 0) (.int .i64 0) (.slice none 0 0) (.int .i64 0) (.int .i64 0) (.int .i64 0) (.int .i64 0) (.int .i64 0) (.int .i64 0) (.int .i64 0) (.slice none 0 0)
    have hfin : Below w.heap.size w _ := H1.trans (hbel w.heap.size (by omega))
    obtain ⟨c2, f2, l2⟩ := k2
    obtain ⟨c4, f4, l4⟩ := k4
    go_wp2
    obtain ⟨c5, f5, l5⟩ := hst
    exact bodyPost_ret (v := .tuple #[zB, .int .i64 80]) (by simp [results, Tryd.results56, go_sem, c5, zB]) rfl ⟨rfl, hfin⟩
  | true =>
    rw [cond_true]
    cases r with
    | false =>
      rw [cond_false]
      unfold BookV.val BookV.cells
      go_enter Tryd.func56, Tryd.ntmps56
      go_wp2_with fail
      refine (eq0_1 (v' := B.val) rfl (Check_calls B _ (HB.out.below (((Below.refl _ _).alloc (Nat.le_refl _) _).alloc (by simp) _)))).mono ?_
      rintro e w1 ⟨rfl, hb⟩
      rw [hg, cond_true]
      have k2 := ((BoxAt.new w _ _).alloc _).below hb
      have k4 := (BoxAt.new (w.alloc _) _ _).below hb
      have H1 : Below w.heap.size w w1 := below_then (((Below.refl _ _).alloc (Nat.le_refl _) _).alloc (by simp) _) (by simp; omega) hb
      rw [World.size_alloc] at k4
      clear hb
      have K2 := Lib.hid k2
      have K4 := Lib.hid k4
      obtain ⟨c2, f2, l2⟩ := k2
      go_wp2_with fail
      refine (HR.out hg _ H1).mono ?_
      rintro e w2 ⟨rfl, hb⟩
      have H2 := below_then H1 H1.size hb
      obtain ⟨hst, hbel⟩ := box_store11 (K4.out.below hb) rfl (.int .i64 0) (.int .i64 0) (.slice none 0 0) (.int .i64 0) (.int .i64 0) (.int .i64 0) (.int .i64 0) (.int .i64 0) (.int .i64 0) (.int .i64 0) (.slice none 0 0)
      have hfin : Below w.heap.size w _ := H2.trans (hbel w.heap.size (by omega))
      obtain ⟨c3, f3, l3⟩ := K2.out.below hb
      obtain ⟨c4, f4, l4⟩ := K4.out.below hb
      clear c2 f2 l2 hb
      go_wp2
      obtain ⟨c5, f5, l5⟩ := hst
      exact bodyPost_ret (v := .tuple #[zB, .int .i64 81]) (by simp [results, Tryd.results56, go_sem, c5, zB, BookV.val, BookV.cells]) rfl ⟨rfl, hfin⟩
    | true =>
      rw [cond_true]
      unfold BookV.val BookV.cells
      go_enter Tryd.func56, Tryd.ntmps56
      go_wp2_with fail
      refine (eq0_1 (v' := B.val) rfl (Check_calls B _ (HB.out.below (((Below.refl _ _).alloc (Nat.le_refl _) _).alloc (by simp) _)))).mono ?_
      rintro e w1 ⟨rfl, hb⟩
      rw [hg, cond_true]
      have k2 := ((BoxAt.new w _ _).alloc _).below hb
      have k4 := (BoxAt.new (w.alloc _) _ _).below hb
      have H1 : Below w.heap.size w w1 := below_then (((Below.refl _ _).alloc (Nat.le_refl _) _).alloc (by simp) _) (by simp; omega) hb
      rw [World.size_alloc] at k4
      clear hb
      have K2 := Lib.hid k2
      have K4 := Lib.hid k4
      obtain ⟨c2, f2, l2⟩ := k2
      go_wp2_with fail
      refine (HR.out hg _ H1).mono ?_
      rintro e w2 ⟨rfl, hb⟩
      have H2 := below_then H1 H1.size hb
      obtain ⟨hst, hbel⟩ := box_store11 (K4.out.below hb) rfl (.int .i64 B.parts) (.int .i64 B.size) (.slice B.bA B.beats.length B.bCap) (.int .i64 B.start) (.int .i64 B.fin) (.int .i64 B.tlo) (.int .i64 B.thi) (.int .i64 B.slo) (.int .i64 B.shi) (.int .i64 B.notice) (.slice B.pA B.players.length B.pCap)
      have hfin : Below w.heap.size w _ := H2.trans (hbel w.heap.size (by omega))
      obtain ⟨c3, f3, l3⟩ := K2.out.below hb
      obtain ⟨c4, f4, l4⟩ := K4.out.below hb
      clear c2 f2 l2 hb
      go_wp2
      obtain ⟨c5, f5, l5⟩ := hst
      exact bodyPost_ret (v := .tuple #[B.val, .int .i64 0]) (by simp [results, Tryd.results56, go_sem, c5, zB, BookV.val, BookV.cells]) rfl ⟨rfl, hfin⟩
end
end Go.Proofs.YtljikigmfkfkiaaDoor
namespace Go.Proofs.YtljikigmfkfkiaaDoor
section
open Go.RowKit
set_option linter.unusedSimpArgs false
set_option linter.unusedVariables false

theorem Time1_calls (B : BookV) (g : 1 ≤ B.parts) (A : Option Addr) (c : Nat) (path : List Int) (bx : Nat) (w : World) (hx : BoxAt w bx #[.slice A path.length c]) (hp : IntsAt w A path) :
    Calls Tryd.prog 57 (#[B.val] ++ #[.pointer (some ⟨bx, 0, none⟩)]) w fun e w' => e = .returned (.bool (isPathS B.parts B.start path)) ∧ Below w.heap.size w w' := by
  have HX := Lib.hid hx
  obtain ⟨cx, fx, lx⟩ := hx
  show Calls Tryd.prog 57 #[B.val, .pointer (some ⟨bx, 0, none⟩)] w _
  unfold BookV.val BookV.cells
  go_enter Tryd.func57, Tryd.ntmps57
  go_wp2_with fail
  have Hb : Below w.heap.size w (w.alloc (.cells B.cells 78)) := (Below.refl _ _).alloc (Nat.le_refl _) _
  refine (eq0_2 (v' := B.val) rfl (isPath_all B g A c path _ (hp.below Hb))).mono ?_
  rintro e w1 ⟨rfl, hb⟩
  have H1 := below_then Hb Hb.size hb
  clear hb
  go_wp2
  go_ret
  exact ⟨rfl, H1⟩

theorem Last1_calls (B : BookV) (g : 1 ≤ B.parts) (A : Option Addr) (c : Nat) (path : List Int) (bx : Nat) (w : World) (hx : BoxAt w bx #[.slice A path.length c]) (hp : IntsAt w A path) :
    Calls Tryd.prog 70 (#[B.val] ++ #[.pointer (some ⟨bx, 0, none⟩)]) w fun e w' => e = .returned (.bool (isPathS B.parts B.start path)) ∧ Below w.heap.size w w' := by
  have HX := Lib.hid hx
  obtain ⟨cx, fx, lx⟩ := hx
  show Calls Tryd.prog 70 #[B.val, .pointer (some ⟨bx, 0, none⟩)] w _
  unfold BookV.val BookV.cells
  go_enter Tryd.func70, Tryd.ntmps70
  go_wp2_with fail
  have Hb : Below w.heap.size w (w.alloc (.cells B.cells 78)) := (Below.refl _ _).alloc (Nat.le_refl _) _
  refine (eq0_2 (v' := B.val) rfl (isPath_all B g A c path _ (hp.below Hb))).mono ?_
  rintro e w1 ⟨rfl, hb⟩
  have H1 := below_then Hb Hb.size hb
  clear hb
  go_wp2
  go_ret
  exact ⟨rfl, H1⟩

theorem Cues1_calls (B : BookV) (g : 1 ≤ B.parts) (A : Option Addr) (c : Nat) (path : List Int) (bx : Nat) (w : World) (hx : BoxAt w bx #[.slice A path.length c]) (hp : IntsAt w A path) :
    Calls Tryd.prog 82 (#[B.val] ++ #[.pointer (some ⟨bx, 0, none⟩)]) w fun e w' => e = .returned (.bool (isPathS B.parts B.start path)) ∧ Below w.heap.size w w' := by
  have HX := Lib.hid hx
  obtain ⟨cx, fx, lx⟩ := hx
  show Calls Tryd.prog 82 #[B.val, .pointer (some ⟨bx, 0, none⟩)] w _
  unfold BookV.val BookV.cells
  go_enter Tryd.func82, Tryd.ntmps82
  go_wp2_with fail
  have Hb : Below w.heap.size w (w.alloc (.cells B.cells 78)) := (Below.refl _ _).alloc (Nat.le_refl _) _
  refine (eq0_2 (v' := B.val) rfl (isPath_all B g A c path _ (hp.below Hb))).mono ?_
  rintro e w1 ⟨rfl, hb⟩
  have H1 := below_then Hb Hb.size hb
  clear hb
  go_wp2
  go_ret
  exact ⟨rfl, H1⟩

theorem enters57 : ∀ args w, (callFunc 57 args).run Tryd.prog w = .ok (.enter 57 args) w := enters_of Tryd.func57 (by kernel_rfl) rfl

/-- what Time returns -/
def timeR (B : BookV) (path : List Int) : Value := bif goodB B then (bif isPathS B.parts B.start path then .tuple #[.int .i64 (timeTo B path path.length), .int .i64 0] else .tuple #[.int .i64 0, .int .i64 81]) else .tuple #[.int .i64 0, .int .i64 80]
set_option maxRecDepth 100000 in
set_option maxHeartbeats 1000000 in
theorem Time_calls (B : BookV) (A : Option Addr) (c : Nat) (path : List Int) (w : World) (hB : B.Reads w) (hp : IntsAt w A path) :
    Calls Tryd.prog 16 #[B.val, .slice A path.length c] w fun e w' => e = .returned (timeR B path) ∧ Below w.heap.size w w' := by
  have HB := Lib.hid hB
  have HP := Lib.hid hp
  have hle := hp.1
  clear hB hp
  have Hb : Below w.heap.size w ((w.alloc (.cells B.cells 27)).alloc (.cells #[.slice A path.length c] 22)) := ((Below.refl _ _).alloc (Nat.le_refl _) _).alloc (by simp) _
  have k3 := BoxAt.new (w.alloc (.cells B.cells 27)) #[.slice A path.length c] 22
  rw [World.size_alloc] at k3
  have hask := asked_calls B _ (HB.out.below Hb) 57 #[.pointer (some ⟨w.heap.size + 1, 0, none⟩)] (isPathS B.parts B.start path) enters57
    (fun hg w' hw => Time1_calls B ((goodB_iff B).1 hg).parts.1 A c path _ w' (k3.below hw) ((HP.out.below Hb).below hw))
  have Hask := Lib.hid hask
  have K3 := Lib.hid k3
  clear hask k3
  rcases chain2 (goodB B) (isPathS B.parts B.start path) with hg | ⟨hg, hi⟩ | ⟨hg, hi⟩
  · have hr : timeR B path = .tuple #[.int .i64 0, .int .i64 80] := by simp [timeR, hg]
    have ha : askR B (isPathS B.parts B.start path) = .tuple #[zB, .int .i64 80] := by simp [askR, hg]
    have Ha := Lib.hid ha
    clear ha
    rw [hr]
    unfold BookV.val BookV.cells
    go_enter Tryd.func16, Tryd.ntmps16
    go_wp2_with fail
    refine (eq0_2 (v' := B.val) rfl Hask.out).mono ?_
    rintro e w1 ⟨rfl, hb⟩
    rw [Ha.out]
    have H1 := below_then Hb Hb.size hb
    clear hb
    unfold zB
    go_wp2
    go_ret2
    exact ⟨rfl, H1.alloc H1.size _⟩
  · have hr : timeR B path = .tuple #[.int .i64 0, .int .i64 81] := by simp [timeR, hg, hi]
    have ha : askR B (isPathS B.parts B.start path) = .tuple #[zB, .int .i64 81] := by simp [askR, hg, hi]
    have Ha := Lib.hid ha
    clear ha
    rw [hr]
    unfold BookV.val BookV.cells
    go_enter Tryd.func16, Tryd.ntmps16
    go_wp2_with fail
    refine (eq0_2 (v' := B.val) rfl Hask.out).mono ?_
    rintro e w1 ⟨rfl, hb⟩
    rw [Ha.out]
    have H1 := below_then Hb Hb.size hb
    clear hb
    unfold zB
    go_wp2
    go_ret2
    exact ⟨rfl, H1.alloc H1.size _⟩
  · have g := (goodB_iff B).1 hg
    have ip := (isPathS_iff g path).1 hi
    have hr : timeR B path = .tuple #[.int .i64 (timeTo B path path.length), .int .i64 0] := by simp [timeR, hg, hi]
    have ha : askR B (isPathS B.parts B.start path) = .tuple #[B.val, .int .i64 0] := by simp [askR, hg, hi]
    have Ha := Lib.hid ha
    have Hg := Lib.hid g
    have Hi := Lib.hid ip
    clear ha g ip
    rw [hr]
    unfold BookV.val BookV.cells
    go_enter Tryd.func16, Tryd.ntmps16
    go_wp2_with fail
    refine (eq0_2 (v' := B.val) rfl Hask.out).mono ?_
    rintro e w1 ⟨rfl, hb⟩
    rw [Ha.out]
    have H1 := below_then Hb Hb.size hb
    have k3 := K3.out.below hb
    clear hb
    obtain ⟨c3, f3, l3⟩ := k3
    unfold BookV.val BookV.cells
    go_wp2_with fail
    have H2 : Below w.heap.size w (w1.alloc (.cells B.cells 78)) := H1.alloc H1.size _
    refine (eq0_2 (v' := B.val) rfl (time_calls B Hg.out A c path Hi.out _ (HP.out.below H2) (HB.out.1.below H2))).mono ?_
    rintro e w2 ⟨rfl, hb⟩
    have H3 := below_then H2 H2.size hb
    clear hb
    go_wp2
    go_ret2
    exact ⟨rfl, H3⟩
end
end Go.Proofs.YtljikigmfkfkiaaDoor
namespace Go.Proofs.YtljikigmfkfkiaaDoor
section
open Go.RowKit
set_option linter.unusedSimpArgs false
set_option linter.unusedVariables false

def lateAsk (B : BookV) (path : List Int) (player beats : Int) : Bool := isPathS B.parts B.start path && (inB player 0 (B.players.length - 1) && inB beats 0 (B.parts * B.size))
theorem parts_size {B : BookV} (g : B.Good) : 1 ≤ B.parts * B.size ∧ B.parts * B.size ≤ 128 := by
  have h1 := g.parts; have h2 := g.size
  have h4 : B.parts * B.size ≤ 8 * 16 := Int.mul_le_mul h1.2 h2.2 (by omega) (by omega)
  have h5 : 1 * 1 ≤ B.parts * B.size := Int.mul_le_mul h1.1 h2.1 (by omega) (by omega)
  omega
set_option maxRecDepth 100000 in
set_option maxHeartbeats 1000000 in
theorem Late1_calls (B : BookV) (g : B.Good) (A : Option Addr) (c : Nat) (path : List Int) (player beats : Int) (b1 b2 b3 : Nat) (w : World) (h1 : BoxAt w b1 #[.slice A path.length c]) (h2 : BoxAt w b2 #[.int .i64 player]) (h3 : BoxAt w b3 #[.int .i64 beats]) (hp : IntsAt w A path) :
    Calls Tryd.prog 65 (#[B.val] ++ #[.pointer (some ⟨b1, 0, none⟩), .pointer (some ⟨b2, 0, none⟩), .pointer (some ⟨b3, 0, none⟩)]) w fun e w' => e = .returned (.bool (lateAsk B path player beats)) ∧ Below w.heap.size w w' := by
  have hps := parts_size g
  have hm := g.many
  have hwm : IntKind.i64.wrap (B.parts * B.size) = B.parts * B.size := wrap_in (by omega) (by omega)
  have hg1 := g.parts.1
  have H1 := Lib.hid h1
  have H2 := Lib.hid h2
  have H3 := Lib.hid h3
  have HP := Lib.hid hp
  clear h2 h3 hp g
  obtain ⟨c1, f1, l1⟩ := h1
  show Calls Tryd.prog 65 #[B.val, .pointer (some ⟨b1, 0, none⟩), .pointer (some ⟨b2, 0, none⟩), .pointer (some ⟨b3, 0, none⟩)] w _
  have Hb : Below w.heap.size w (w.alloc (.cells B.cells 78)) := (Below.refl _ _).alloc (Nat.le_refl _) _
  rcases chain3 (isPathS B.parts B.start path) (inB player 0 (B.players.length - 1)) (inB beats 0 (B.parts * B.size)) with hi | ⟨hi, hj⟩ | ⟨hi, hj, hk⟩ | ⟨hi, hj, hk⟩
  all_goals
    have hr : Hid (lateAsk B path player beats = (isPathS B.parts B.start path && (inB player 0 (B.players.length - 1) && inB beats 0 (B.parts * B.size)))) := Lib.hid rfl
    unfold BookV.val BookV.cells
    go_enter Tryd.func65, Tryd.ntmps65
    go_wp2_with fail
    refine (eq0_2 (v' := B.val) rfl (isPath_all B hg1 A c path _ (HP.out.below Hb))).mono ?_
    rintro e w1 ⟨rfl, hb⟩
    have HB1 := below_then Hb Hb.size hb
    have k4 := (BoxAt.new w _ _).below hb
    obtain ⟨c2', f2', l2'⟩ := H2.out.below HB1
    obtain ⟨c3', f3', l3'⟩ := H3.out.below HB1
    clear hb c1 f1 l1
    obtain ⟨c4, f4, l4⟩ := k4
    unfold BookV.cells at c4
    rw [hi]
    go_wp2_with (go_at_call 62; refine (in_calls _ _ _ _).mono ?_; rintro e w' ⟨rfl, rfl⟩)
    go_ret
    exact ⟨by rw [hr.out]; simp [*], HB1⟩
end
end Go.Proofs.YtljikigmfkfkiaaDoor
namespace Go.Proofs.YtljikigmfkfkiaaDoor
section
open Go.RowKit
set_option linter.unusedSimpArgs false
set_option linter.unusedVariables false

theorem IntsAt.some_ {w : World} {A : Option Addr} {xs : List Int} (h : IntsAt w A xs) (hn : 0 < xs.length) : ∃ b o, A = some ⟨b, o, none⟩ := by
  rcases h.2 with e | ⟨b, o, e, _⟩
  · rw [e] at hn; simp at hn
  · exact ⟨b, o, e⟩
theorem PlayersAt.some_ {w : World} {A : Option Addr} {xs : List PlayerV} (h : PlayersAt w A xs) (hn : 0 < xs.length) : ∃ b o, A = some ⟨b, o, none⟩ := by
  rcases h.2.1 with e | ⟨b, o, e, _⟩
  · rw [e] at hn; simp at hn
  · exact ⟨b, o, e⟩
theorem IsPath.pos {B : BookV} (g : B.Good) {path : List Int} (h : IsPath B path) : 0 < path.length := by have := h.len; have := g.parts; omega
/-- both ends of how late a player is -/
theorem late_calls (hi : Bool) (B : BookV) (g : B.Good) (A : Option Addr) (c : Nat) (path : List Int) (hp : IsPath B path) (j n : Nat) (hj : j < B.players.length) (hn : n ≤ (B.parts * B.size).toNat) (w : World)
    (hB : B.Reads w) (hpa : IntsAt w A path) (hMk : MarksAt w) :
    Calls Tryd.prog 66 #[B.val, .slice A path.length c, .int .i64 j, .int .i64 n, endV hi, endV (!hi)] w fun e w' => e = .returned (.int .i64 (lateTo B path (gp B.players j) hi n)) ∧ Below w.heap.size w w' := by
  obtain ⟨b, o, rfl⟩ := hpa.some_ (hp.pos g)
  obtain ⟨pb, po, e⟩ := hB.2.some_ (show 0 < B.players.length by omega)
  cases hi with
  | false => exact late_false B g pb po e b o c path hp j n hj hn w hB.2 hpa hMk
  | true => exact late_true B g pb po e b o c path hp j n hj hn w hB.2 hpa hMk
theorem kcell {n : Nat} {W w1 : World} (hb : Keep (fun k => k = n) W w1) : (∀ b o, b < W.heap.size → b ≠ n → w1.cell? ⟨b, o, none⟩ = W.cell? ⟨b, o, none⟩) ∧ (∀ b o, b < W.heap.size → b ≠ n → w1.frozen? ⟨b, o, none⟩ = W.frozen? ⟨b, o, none⟩) :=
  ⟨fun b o h hn => World.cell?_of_block (w := W) (hb.block b h hn), fun b o h hn => World.frozen?_of_block (w := W) (hb.block b h hn)⟩
theorem Keep.of_belowX {M : Nat → Prop} {a b c : World} (h : Keep M a b) (k : Below b.heap.size b c) : Keep M a c := h.trans (Keep.of_below k)
theorem IntsAt.keep {M : Nat → Prop} {w w1 : World} {A : Option Addr} {xs : List Int} (h : IntsAt w A xs) (hb : Keep M w w1) (hA : ∀ b o, A = some ⟨b, o, none⟩ → ¬ M b) : IntsAt w1 A xs :=
  ⟨h.1, h.2.imp id fun ⟨b, o, e, hc⟩ => ⟨b, o, e, fun j hj => hb.cell (hc j hj) (hA b o e)⟩⟩

/-- all but the block n lies as it lay; n still has m cells -/
structure KB (n m : Nat) (W w' : World) : Prop where
  keep : Keep (fun k => k = n) W w'
  box : ∃ cs, cs.size = m ∧ BoxAt w' n cs
theorem KB.below {n m : Nat} {a b c : World} (h : KB n m a b) (k : Below b.heap.size b c) : KB n m a c := ⟨h.keep.of_belowX k, let ⟨cs, e, x⟩ := h.box; ⟨cs, e, x.below k⟩⟩
def zC : Array Value := #[.int .i64 0, .int .i64 0, .slice none 0 0, .int .i64 0, .int .i64 0, .int .i64 0, .int .i64 0, .int .i64 0, .int .i64 0, .int .i64 0, .slice none 0 0]
theorem enters65 : ∀ args w, (callFunc 65 args).run Tryd.prog w = .ok (.enter 65 args) w := enters_of Tryd.func65 (by kernel_rfl) rfl
theorem enters70 : ∀ args w, (callFunc 70 args).run Tryd.prog w = .ok (.enter 70 args) w := enters_of Tryd.func70 (by kernel_rfl) rfl
theorem enters82 : ∀ args w, (callFunc 82 args).run Tryd.prog w = .ok (.enter 82 args) w := enters_of Tryd.func82 (by kernel_rfl) rfl
def spanV (a b : Int) : Value := .agg #[.int .i64 a, .int .i64 b]
def lateR (B : BookV) (path : List Int) (player beats : Int) : Value :=
  bif goodB B then (bif lateAsk B path player beats then .tuple #[spanV (lateTo B path (gp B.players player.toNat) false beats.toNat) (lateTo B path (gp B.players player.toNat) true beats.toNat), .int .i64 0] else .tuple #[spanV 0 0, .int .i64 81]) else .tuple #[spanV 0 0, .int .i64 80]
set_option maxRecDepth 100000 in
set_option maxHeartbeats 4000000 in
theorem Late_calls (B : BookV) (A : Option Addr) (c : Nat) (path : List Int) (player beats : Int) (w : World) (hB : B.Reads w) (hp : IntsAt w A path) (hM : MarksAt w) :
    Calls Tryd.prog 20 #[B.val, .slice A path.length c, .int .i64 player, .int .i64 beats] w fun e w' => e = .returned (lateR B path player beats) ∧ Below w.heap.size w w' := by
  have HB := Lib.hid hB
  have HP := Lib.hid hp
  have HM := Lib.hid hM
  clear hB hp hM
  have Hb : Below w.heap.size w (((((w.alloc (.cells B.cells 27)).alloc (.cells #[.slice A path.length c] 22)).alloc (.cells #[.int .i64 player] 3)).alloc (.cells #[.int .i64 beats] 3)).alloc (.cells #[.int .i64 0, .int .i64 0] 24)) :=
    (((((Below.refl _ _).alloc (Nat.le_refl _) _).alloc (by simp) _).alloc (by simp; omega) _).alloc (by simp; omega) _).alloc (by simp; omega) _
  have k5 := (((BoxAt.new (w.alloc (.cells B.cells 27)) #[.slice A path.length c] 22).alloc (.cells #[.int .i64 player] 3)).alloc (.cells #[.int .i64 beats] 3)).alloc (.cells #[.int .i64 0, .int .i64 0] 24)
  have k6 := ((BoxAt.new ((w.alloc (.cells B.cells 27)).alloc (.cells #[.slice A path.length c] 22)) #[.int .i64 player] 3).alloc (.cells #[.int .i64 beats] 3)).alloc (.cells #[.int .i64 0, .int .i64 0] 24)
  have k7 := (BoxAt.new (((w.alloc (.cells B.cells 27)).alloc (.cells #[.slice A path.length c] 22)).alloc (.cells #[.int .i64 player] 3)) #[.int .i64 beats] 3).alloc (.cells #[.int .i64 0, .int .i64 0] 24)
  have k8 := BoxAt.new ((((w.alloc (.cells B.cells 27)).alloc (.cells #[.slice A path.length c] 22)).alloc (.cells #[.int .i64 player] 3)).alloc (.cells #[.int .i64 beats] 3)) #[.int .i64 0, .int .i64 0] 24
  simp only [World.size_alloc] at k5 k6 k7 k8
  have hask := asked_calls B _ (HB.out.below Hb) 65 #[.pointer (some ⟨w.heap.size + 1, 0, none⟩), .pointer (some ⟨w.heap.size + 1 + 1, 0, none⟩), .pointer (some ⟨w.heap.size + 1 + 1 + 1, 0, none⟩)] (lateAsk B path player beats) enters65
    (fun hg w' hw => Late1_calls B ((goodB_iff B).1 hg) A c path player beats _ _ _ w' (k5.below hw) (k6.below hw) (k7.below hw) ((HP.out.below Hb).below hw))
  have Hask := Lib.hid hask
  have K5 := Lib.hid k5
  have K6 := Lib.hid k6
  have K7 := Lib.hid k7
  have K8 := Lib.hid k8
  clear hask k5 k6 k7 k8
  have hcase : (∃ n, lateR B path player beats = .tuple #[spanV 0 0, .int .i64 n] ∧ askR B (lateAsk B path player beats) = .tuple #[zB, .int .i64 n] ∧ n ≠ 0) ∨ (goodB B = true ∧ lateAsk B path player beats = true) := by
    rcases chain2 (goodB B) (lateAsk B path player beats) with hg | ⟨hg, hi⟩ | ⟨hg, hi⟩
    · exact .inl ⟨80, by simp [lateR, hg], by simp [askR, hg], by simp⟩
    · exact .inl ⟨81, by simp [lateR, hg, hi], by simp [askR, hg, hi], by simp⟩
    · exact .inr ⟨hg, hi⟩
  rcases hcase with ⟨n, hr, ha, hn⟩ | ⟨hg, hi⟩
  · have Ha := Lib.hid ha
    clear ha
    rw [hr]
    clear hr
    unfold BookV.val BookV.cells
    go_enter Tryd.func20, Tryd.ntmps20
    go_wp2_with fail
    refine (eq0_2 (v' := B.val) rfl Hask.out).mono ?_
    rintro e w1 ⟨rfl, hb⟩
    rw [Ha.out]
    have H1 := below_then Hb (by simp; omega) hb
    have k8 := K8.out.below hb
    clear hb
    unfold zB
    obtain ⟨hst, hbel⟩ := box_store2 k8 rfl (.int .i64 0) (.int .i64 0)
    have hfin0 : Below w.heap.size w _ := H1.trans (hbel w.heap.size (by omega))
    have hfin := hfin0.alloc hfin0.size (.cells zC 78)
    replace hst := hst.alloc (.cells zC 78)
    unfold zC at hst hfin
    clear hfin0
    obtain ⟨c8, f8, l8⟩ := k8
    clear hbel
    go_wp2
    obtain ⟨c5, f5, l5⟩ := hst
    exact bodyPost_ret (v := .tuple #[spanV 0 0, .int .i64 n]) (by simp [results, Tryd.results20, go_sem, c5, spanV]) rfl ⟨rfl, hfin⟩
  · have g := (goodB_iff B).1 hg
    have hia := hi
    unfold lateAsk at hia
    rw [Bool.and_eq_true, Bool.and_eq_true, inB_iff, inB_iff] at hia
    obtain ⟨hia1, hia2, hia3⟩ := hia
    have ip := (isPathS_iff g path).1 hia1
    obtain ⟨j, rfl⟩ := Int.eq_ofNat_of_zero_le hia2.1
    obtain ⟨m, rfl⟩ := Int.eq_ofNat_of_zero_le hia3.1
    have hj : j < B.players.length := by omega
    have hm : m ≤ (B.parts * B.size).toNat := by omega
    have hr : lateR B path j m = .tuple #[spanV (lateTo B path (gp B.players j) false m) (lateTo B path (gp B.players j) true m), .int .i64 0] := by simp [lateR, hg, hi]
    have ha : askR B (lateAsk B path j m) = .tuple #[B.val, .int .i64 0] := by simp [askR, hg, hi]
    have Ha := Lib.hid ha
    have Hg := Lib.hid g
    have Hi := Lib.hid ip
    have Hj := Lib.hid hj
    have Hm := Lib.hid hm
    clear ha g ip hia1 hia2 hia3 hi hg hj hm
    rw [hr]
    clear hr
    unfold BookV.val BookV.cells
    go_enter Tryd.func20, Tryd.ntmps20
    go_wp2_with fail
    refine (eq0_2 (v' := B.val) rfl Hask.out).mono ?_
    rintro e w1 ⟨rfl, hb⟩
    rw [Ha.out]
    have H1 := below_then Hb (by simp; omega) hb
    have k5 := K5.out.below hb
    have k6 := K6.out.below hb
    have k7 := K7.out.below hb
    have k8 := K8.out.below hb
    unfold BookV.val BookV.cells
    have H2 : Below w.heap.size w (w1.alloc (.cells B.cells 78)) := H1.alloc H1.size _
    have k10 := BoxAt.new w1 B.cells 78
    replace k5 := k5.alloc (.cells B.cells 78)
    replace k6 := k6.alloc (.cells B.cells 78)
    replace k7 := k7.alloc (.cells B.cells 78)
    replace k8 := k8.alloc (.cells B.cells 78)
    have hne : w1.heap.size ≠ w.heap.size + 1 + 1 + 1 + 1 := by have := (K8.out.below hb).lt; omega
    clear hb
    generalize hW : w1.alloc (.cells B.cells 78) = W at *
    obtain ⟨c5, f5, l5⟩ := k5
    obtain ⟨c6, f6, l6⟩ := k6
    obtain ⟨c7, f7, l7⟩ := k7
    obtain ⟨c8, f8, l8⟩ := k8
    obtain ⟨c10, f10, l10⟩ := k10
    unfold BookV.cells at c10 hW
    go_upto_region 4 with (rw [hW])
    refine region_plain (S := fun w' => KB (w.heap.size + 1 + 1 + 1 + 1) 2 W w') 17 (by kernel_rfl) ?_ (fun hHeld => ?_)
    · exact ⟨(Keep.refl _ _).drew, _, rfl, (BoxAt.mk c8 f8 l8).below (Below.refl _ _).drew⟩
    first | (refine anyT_take 0 (some 22) (v := ?_) rfl rfl (by kernel_rfl) (by kernel_rfl) (by kernel_rfl) (by kernel_rfl) (fun _ _ _ h => h) (Or.inl ⟨by rfl, ?_⟩) hHeld ?_; rotate_left; focus (intro wq hSw; obtain ⟨hcq, hfq⟩ := kcell hSw.keep; go_simp; (try with_reducible rfl); done))
    (try simp only [Act.put, List.setIfInBounds_toArray, List.set_cons_zero, List.set_cons_succ])
    first | (refine anyT_take 1 (some 23) (v := ?_) rfl rfl (by kernel_rfl) (by kernel_rfl) (by kernel_rfl) (by kernel_rfl) (fun _ _ _ h => h) (Or.inl ⟨by rfl, ?_⟩) hHeld ?_; rotate_left; focus (intro wq hSw; obtain ⟨hcq, hfq⟩ := kcell hSw.keep; go_simp; (try with_reducible rfl); done))
    (try simp only [Act.put, List.setIfInBounds_toArray, List.set_cons_zero, List.set_cons_succ])
    first | (refine anyT_take 2 (some 24) (v := ?_) rfl rfl (by kernel_rfl) (by kernel_rfl) (by kernel_rfl) (by kernel_rfl) (fun _ _ _ h => h) (Or.inl ⟨by rfl, ?_⟩) hHeld ?_; rotate_left; focus (intro wq hSw; obtain ⟨hcq, hfq⟩ := kcell hSw.keep; go_simp; (try with_reducible rfl); done))
    (try simp only [Act.put, List.setIfInBounds_toArray, List.set_cons_zero, List.set_cons_succ])
    first | (refine anyT_take 3 (some 25) (v := ?_) rfl rfl (by kernel_rfl) (by kernel_rfl) (by kernel_rfl) (by kernel_rfl) (fun _ _ _ h => h) (Or.inl ⟨by rfl, ?_⟩) hHeld ?_; rotate_left; focus (intro wq hSw; obtain ⟨hcq, hfq⟩ := kcell hSw.keep; go_simp; (try with_reducible rfl); done))
    (try simp only [Act.put, List.setIfInBounds_toArray, List.set_cons_zero, List.set_cons_succ])
    first | (refine anyT_take 7 (some 29) (v := ?_) rfl rfl (by kernel_rfl) (by kernel_rfl) (by kernel_rfl) (by kernel_rfl) (fun _ _ _ h => h) (Or.inl ⟨by rfl, ?_⟩) hHeld ?_; rotate_left; focus (intro wq hSw; obtain ⟨hcq, hfq⟩ := kcell hSw.keep; go_simp; (try with_reducible rfl); done))
    (try simp only [Act.put, List.setIfInBounds_toArray, List.set_cons_zero, List.set_cons_succ])
    first | (refine anyT_take 8 (some 30) (v := ?_) rfl rfl (by kernel_rfl) (by kernel_rfl) (by kernel_rfl) (by kernel_rfl) (fun _ _ _ h => h) (Or.inl ⟨by rfl, ?_⟩) hHeld ?_; rotate_left; focus (intro wq hSw; obtain ⟨hcq, hfq⟩ := kcell hSw.keep; go_simp; (try with_reducible rfl); done))
    (try simp only [Act.put, List.setIfInBounds_toArray, List.set_cons_zero, List.set_cons_succ])
    first | (refine anyT_take 9 (some 31) (v := ?_) rfl rfl (by kernel_rfl) (by kernel_rfl) (by kernel_rfl) (by kernel_rfl) (fun _ _ _ h => h) (Or.inl ⟨by rfl, ?_⟩) hHeld ?_; rotate_left; focus (intro wq hSw; obtain ⟨hcq, hfq⟩ := kcell hSw.keep; go_simp; (try with_reducible rfl); done))
    (try simp only [Act.put, List.setIfInBounds_toArray, List.set_cons_zero, List.set_cons_succ])
    first | (refine anyT_take 10 (some 32) (v := ?_) rfl rfl (by kernel_rfl) (by kernel_rfl) (by kernel_rfl) (by kernel_rfl) (fun _ _ _ h => h) (Or.inl ⟨by rfl, ?_⟩) hHeld ?_; rotate_left; focus (intro wq hSw; obtain ⟨hcq, hfq⟩ := kcell hSw.keep; go_simp; (try with_reducible rfl); done))
    (try simp only [Act.put, List.setIfInBounds_toArray, List.set_cons_zero, List.set_cons_succ])
    refine anyT_one 4 (by kernel_rfl) rfl (fun K hK => ?_)
    go_simp
    refine (low_calls _).mono ?_; rintro e w3 ⟨rfl, hb3⟩
    refine hK.out _ _ ?_ (fun hHeld => ?_)
    · exact hHeld.below hb3
    clear hK K
    (try simp only [Act.put, List.setIfInBounds_toArray, List.set_cons_zero, List.set_cons_succ])
    refine anyT_one 5 (by kernel_rfl) rfl (fun K hK => ?_)
    go_simp
    refine (high_calls _).mono ?_; rintro e w4 ⟨rfl, hb4⟩
    refine hK.out _ _ ?_ (fun hHeld => ?_)
    · exact hHeld.below hb4
    clear hK K
    (try simp only [Act.put, List.setIfInBounds_toArray, List.set_cons_zero, List.set_cons_succ])
    refine anyT_one 6 (by kernel_rfl) rfl (fun K hK => ?_)
    have hbq : Below w.heap.size w _ := H2.trans (hHeld.keep.below (fun k _ e => by omega) H2.size)
    go_simp
    refine (eq0_6 (v' := B.val) (by unfold BookV.val BookV.cells; rfl) (late_calls false B Hg.out A c path Hi.out j m Hj.out Hm.out _ (HB.out.below hbq) (HP.out.below hbq) (HM.out.below hbq))).mono ?_; clear hbq; rintro e w5 ⟨rfl, hb5⟩
    refine hK.out _ _ ?_ (fun hHeld => ?_)
    · exact hHeld.below hb5
    clear hK K
    (try simp only [Act.put, List.setIfInBounds_toArray, List.set_cons_zero, List.set_cons_succ])
    refine anyT_one 11 (by kernel_rfl) rfl (fun K hK => ?_)
    go_simp
    refine (high_calls _).mono ?_; rintro e w6 ⟨rfl, hb6⟩
    refine hK.out _ _ ?_ (fun hHeld => ?_)
    · exact hHeld.below hb6
    clear hK K
    (try simp only [Act.put, List.setIfInBounds_toArray, List.set_cons_zero, List.set_cons_succ])
    refine anyT_one 12 (by kernel_rfl) rfl (fun K hK => ?_)
    go_simp
    refine (low_calls _).mono ?_; rintro e w7 ⟨rfl, hb7⟩
    refine hK.out _ _ ?_ (fun hHeld => ?_)
    · exact hHeld.below hb7
    clear hK K
    (try simp only [Act.put, List.setIfInBounds_toArray, List.set_cons_zero, List.set_cons_succ])
    refine anyT_one 13 (by kernel_rfl) rfl (fun K hK => ?_)
    have hbq : Below w.heap.size w _ := H2.trans (hHeld.keep.below (fun k _ e => by omega) H2.size)
    go_simp
    refine (eq0_6 (v' := B.val) (by unfold BookV.val BookV.cells; rfl) (late_calls true B Hg.out A c path Hi.out j m Hj.out Hm.out _ (HB.out.below hbq) (HP.out.below hbq) (HM.out.below hbq))).mono ?_; clear hbq; rintro e w8 ⟨rfl, hb8⟩
    refine hK.out _ _ ?_ (fun hHeld => ?_)
    · exact hHeld.below hb8
    clear hK K
    (try simp only [Act.put, List.setIfInBounds_toArray, List.set_cons_zero, List.set_cons_succ])
    first | (refine anyT_take 14 (some 36) (v := ?_) rfl rfl (by kernel_rfl) (by kernel_rfl) (by kernel_rfl) (by kernel_rfl) (fun _ _ _ h => h) (Or.inl ⟨by rfl, ?_⟩) hHeld ?_; rotate_left; focus (intro wq hSw; obtain ⟨hcq, hfq⟩ := kcell hSw.keep; go_simp; (try with_reducible rfl); done))
    (try simp only [Act.put, List.setIfInBounds_toArray, List.set_cons_zero, List.set_cons_succ])
    refine anyT_one 15 (by kernel_rfl) rfl (fun K hK => ?_)
    obtain ⟨cs8, hs8, hx8⟩ := hHeld.box; obtain ⟨hst, hbel⟩ := box_store2 hx8 hs8 (.int .i64 (lateTo B path (gp B.players j) false m)) (.int .i64 (lateTo B path (gp B.players j) true m)); obtain ⟨x0, x1, rfl⟩ := arr2 hs8; obtain ⟨c8', f8', l8'⟩ := hx8
    go_simp
    have hkb : KB (w.heap.size + 1 + 1 + 1 + 1) 2 W _ := ⟨(hHeld.keep.setCell (p := ⟨_, 0, none⟩) (.inl rfl) (.int .i64 (lateTo B path (gp B.players j) false m))).setCell (p := ⟨_, 1, none⟩) (.inl rfl) (.int .i64 (lateTo B path (gp B.players j) true m)), _, rfl, hst⟩
    refine hK.out _ _ ?_ (fun hHeld => ?_)
    · exact hkb
    clear hK K
    (try simp only [Act.put, List.setIfInBounds_toArray, List.set_cons_zero, List.set_cons_succ])
    first | (refine anyT_take 16 (some 9) (v := ?_) rfl rfl (by kernel_rfl) (by kernel_rfl) (by kernel_rfl) (by kernel_rfl) (fun _ _ _ h => h) (Or.inl ⟨by rfl, ?_⟩) hHeld ?_; rotate_left; focus (intro wq hSw; obtain ⟨hcq, hfq⟩ := kcell hSw.keep; go_simp; (try with_reducible rfl); done))
    (try simp only [Act.put, List.setIfInBounds_toArray, List.set_cons_zero, List.set_cons_succ])
    refine anyT_done (by kernel_rfl) ?_ _
    have hfin : Below w.heap.size w _ := H2.trans (hkb.keep.below (fun k _ e => by omega) H2.size)
    obtain ⟨c9, f9, l9⟩ := hst
    clear hbel hHeld
    go_wp2
    exact bodyPost_ret (v := .tuple #[spanV (lateTo B path (gp B.players j) false m) (lateTo B path (gp B.players j) true m), .int .i64 0]) (by simp [results, Tryd.results20, go_sem, c9, spanV]) rfl ⟨rfl, hfin⟩
end
end Go.Proofs.YtljikigmfkfkiaaDoor
namespace Go.Proofs.YtljikigmfkfkiaaDoor
section
open Go.RowKit
set_option linter.unusedSimpArgs false
set_option linter.unusedVariables false

/-- how late the player j can be after all beats, if it is among the first k -/
def lastAt (B : BookV) (path : List Int) (k j : Nat) : Int := if j < k then lateTo B path (gp B.players j) true (B.parts * B.size).toNat else 0
def lastA (B : BookV) (path : List Int) (k : Nat) : Array Value := #[.int .i64 (lastAt B path k 0), .int .i64 (lastAt B path k 1), .int .i64 (lastAt B path k 2), .int .i64 (lastAt B path k 3), .int .i64 (lastAt B path k 4)]
theorem lastAt_succ (B : BookV) (path : List Int) (k j : Nat) (h : k ≠ j) : lastAt B path (k + 1) j = lastAt B path k j := by
  unfold lastAt
  by_cases hj : j < k
  · rw [if_pos hj, if_pos (by omega)]
  · rw [if_neg hj, if_neg (by omega)]
theorem lastAt_at (B : BookV) (path : List Int) (k : Nat) : lastAt B path (k + 1) k = lateTo B path (gp B.players k) true (B.parts * B.size).toNat := by unfold lastAt; rw [if_pos (by omega)]
theorem lastA_succ (B : BookV) (path : List Int) (k : Nat) (h : k < 5) : (lastA B path k).setIfInBounds k (.int .i64 (lateTo B path (gp B.players k) true (B.parts * B.size).toNat)) = lastA B path (k + 1) := by
  have : k = 0 ∨ k = 1 ∨ k = 2 ∨ k = 3 ∨ k = 4 := by omega
  rcases this with rfl | rfl | rfl | rfl | rfl <;> simp [lastA, lastAt_at, lastAt_succ]
theorem lastA_zero (B : BookV) (path : List Int) : lastA B path 0 = #[.int .i64 0, .int .i64 0, .int .i64 0, .int .i64 0, .int .i64 0] := by simp [lastA, lastAt]
set_option maxRecDepth 100000 in
set_option maxHeartbeats 2000000 in
theorem last_calls (B : BookV) (g : B.Good) (A : Option Addr) (c : Nat) (path : List Int) (hp : IsPath B path) (w : World) (hB : B.Reads w) (hpa : IntsAt w A path) (hM : MarksAt w) :
    Calls Tryd.prog 71 #[B.val, .slice A path.length c] w fun e w' => e = .returned (.agg (lastA B path B.players.length)) ∧ Below w.heap.size w w' := by
  have hps := parts_size g
  have hwm : IntKind.i64.wrap (B.parts * B.size) = B.parts * B.size := wrap_in (by omega) (by omega)
  have hm := g.many
  have hpt : B.parts * B.size = ((B.parts * B.size).toNat : Int) := by omega
  have Hps := Lib.hid hpt
  clear hpt
  have HB := Lib.hid hB
  have HP := Lib.hid hpa
  have HM := Lib.hid hM
  have Hg := Lib.hid g
  have Hp := Lib.hid hp
  clear hB hpa hM g hp
  unfold BookV.val BookV.cells
  go_enter Tryd.func71, Tryd.ntmps71
  go_upto_block 0 with (fail)
  have k2 := ((BoxAt.new w B.cells 78).alloc (.cells #[.int .i64 0, .int .i64 0, .int .i64 0, .int .i64 0, .int .i64 0] 91)).alloc (.cells #[.int .i64 0, .int .i64 0, .int .i64 0, .int .i64 0, .int .i64 0] 91)
  have k4 := (BoxAt.new (w.alloc (.cells B.cells 78)) #[.int .i64 0, .int .i64 0, .int .i64 0, .int .i64 0, .int .i64 0] 91).alloc (.cells #[.int .i64 0, .int .i64 0, .int .i64 0, .int .i64 0, .int .i64 0] 91)
  have k5 := BoxAt.new ((w.alloc (.cells B.cells 78)).alloc (.cells #[.int .i64 0, .int .i64 0, .int .i64 0, .int .i64 0, .int .i64 0] 91)) #[.int .i64 0, .int .i64 0, .int .i64 0, .int .i64 0, .int .i64 0] 91
  have H2 : Below w.heap.size w (((w.alloc (.cells B.cells 78)).alloc (.cells #[.int .i64 0, .int .i64 0, .int .i64 0, .int .i64 0, .int .i64 0] 91)).alloc (.cells #[.int .i64 0, .int .i64 0, .int .i64 0, .int .i64 0, .int .i64 0] 91)) := (((Below.refl _ _).alloc (Nat.le_refl _) _).alloc (by simp) _).alloc (by simp; omega) _
  simp only [World.size_alloc] at k4 k5
  unfold BookV.cells at k2 k4 k5 H2
  generalize ((w.alloc _).alloc _).alloc _ = W at *
  obtain ⟨n5, hn5⟩ : ∃ n, n = w.heap.size + 1 + 1 := ⟨_, rfl⟩
  rw [← hn5] at k5 ⊢
  have K2 := Lib.hid k2
  have K4 := Lib.hid k4
  have K5 := Lib.hid k5
  have Hn5 := Lib.hid hn5
  clear k2 k4 k5 hn5
  go_wp2
  go_loopg [11] B.players.length (fun gk i wr => ∃ k : Nat, k ≤ B.players.length ∧ gk = B.players.length - k ∧ i = .int .i64 k ∧ Keep (fun x => x = n5) W wr ∧ BoxAt wr n5 (lastA B path k))
  case atStart => exact ⟨0, Nat.zero_le _, rfl, rfl, Keep.refl _ _, by rw [lastA_zero]; exact K5.out⟩
  case round =>
    obtain ⟨k, hk, hgk, rfl, hK, hbx⟩ := hrel
    have Hgk := Lib.hid hgk
    clear hgk
    have hle : w.heap.size ≤ n5 := by rw [Hn5.out]; omega
    have hlt1 : w.heap.size + 1 < n5 := by rw [Hn5.out]; omega
    by_cases hlt : k < B.players.length
    · have HbW : Below w.heap.size w wr := H2.trans (hK.below (fun k _ e => by omega) H2.size)
      obtain ⟨c2, f2, l2⟩ := K2.out.keep hK (by omega)
      obtain ⟨c5, f5, l5⟩ := hbx
      have hk5 : (k : Int) < 5 := by omega
      obtain ⟨x0, hx0⟩ : ∃ v, (lastA B path k)[k]? = some v := by
        rw [Array.getElem?_eq_getElem (show k < (lastA B path k).size by simp [lastA]; omega)]; exact ⟨_, rfl⟩
      go_upto_region 5 with (fail)
      refine region_plain (S := fun w' => Below wr.heap.size wr w') 15 (by kernel_rfl) ?_ (fun hHeld => ?_)
      · exact (Below.refl _ _).drew
      first | (refine anyT_take 0 (some 14) (v := ?_) rfl rfl (by kernel_rfl) (by kernel_rfl) (by kernel_rfl) (by kernel_rfl) (fun _ _ _ h => h) (Or.inl ⟨by rfl, ?_⟩) hHeld ?_; rotate_left; focus (intro wq hSw; obtain ⟨hcq, hfq⟩ := bcell hSw; go_simp; (try with_reducible rfl); done))
      (try simp only [Act.put, List.setIfInBounds_toArray, List.set_cons_zero, List.set_cons_succ])
      first | (refine anyT_take 1 (some 15) (v := ?_) rfl rfl (by kernel_rfl) (by kernel_rfl) (by kernel_rfl) (by kernel_rfl) (fun _ _ _ h => h) (Or.inl ⟨by rfl, ?_⟩) hHeld ?_; rotate_left; focus (intro wq hSw; obtain ⟨hcq, hfq⟩ := bcell hSw; go_simp; (try with_reducible rfl); done))
      (try simp only [Act.put, List.setIfInBounds_toArray, List.set_cons_zero, List.set_cons_succ])
      first | (refine anyT_take 2 (some 16) (v := ?_) rfl rfl (by kernel_rfl) (by kernel_rfl) (by kernel_rfl) (by kernel_rfl) (fun _ _ _ h => h) (Or.inl ⟨by rfl, ?_⟩) hHeld ?_; rotate_left; focus (intro wq hSw; obtain ⟨hcq, hfq⟩ := bcell hSw; go_simp; (try with_reducible rfl); done))
      (try simp only [Act.put, List.setIfInBounds_toArray, List.set_cons_zero, List.set_cons_succ])
      first | (refine anyT_take 3 (some 17) (v := ?_) rfl rfl (by kernel_rfl) (by kernel_rfl) (by kernel_rfl) (by kernel_rfl) (fun _ _ _ h => h) (Or.inl ⟨by rfl, ?_⟩) hHeld ?_; rotate_left; focus (intro wq hSw; obtain ⟨hcq, hfq⟩ := bcell hSw; go_simp; (try with_reducible rfl); done))
      (try simp only [Act.put, List.setIfInBounds_toArray, List.set_cons_zero, List.set_cons_succ])
      first | (refine anyT_take 4 (some 18) (v := ?_) rfl rfl (by kernel_rfl) (by kernel_rfl) (by kernel_rfl) (by kernel_rfl) (fun _ _ _ h => h) (Or.inl ⟨by rfl, ?_⟩) hHeld ?_; rotate_left; focus (intro wq hSw; obtain ⟨hcq, hfq⟩ := bcell hSw; go_simp; (try with_reducible rfl); done))
      (try simp only [Act.put, List.setIfInBounds_toArray, List.set_cons_zero, List.set_cons_succ])
      first | (refine anyT_take 5 (some 19) (v := ?_) rfl rfl (by kernel_rfl) (by kernel_rfl) (by kernel_rfl) (by kernel_rfl) (fun _ _ _ h => h) (Or.inl ⟨by rfl, ?_⟩) hHeld ?_; rotate_left; focus (intro wq hSw; obtain ⟨hcq, hfq⟩ := bcell hSw; go_simp; (try with_reducible rfl); done))
      (try simp only [Act.put, List.setIfInBounds_toArray, List.set_cons_zero, List.set_cons_succ])
      first | (refine anyT_take 6 (some 20) (v := ?_) rfl rfl (by kernel_rfl) (by kernel_rfl) (by kernel_rfl) (by kernel_rfl) (fun _ _ _ h => h) (Or.inl ⟨by rfl, ?_⟩) hHeld ?_; rotate_left; focus (intro wq hSw; obtain ⟨hcq, hfq⟩ := bcell hSw; go_simp; (try with_reducible rfl); done))
      (try simp only [Act.put, List.setIfInBounds_toArray, List.set_cons_zero, List.set_cons_succ])
      first | (refine anyT_take 7 (some 21) (v := ?_) rfl rfl (by kernel_rfl) (by kernel_rfl) (by kernel_rfl) (by kernel_rfl) (fun _ _ _ h => h) (Or.inl ⟨by rfl, ?_⟩) hHeld ?_; rotate_left; focus (intro wq hSw; obtain ⟨hcq, hfq⟩ := bcell hSw; go_simp; (try with_reducible rfl); done))
      (try simp only [Act.put, List.setIfInBounds_toArray, List.set_cons_zero, List.set_cons_succ])
      first | (refine anyT_take 8 (some 22) (v := ?_) rfl rfl (by kernel_rfl) (by kernel_rfl) (by kernel_rfl) (by kernel_rfl) (fun _ _ _ h => h) (Or.inl ⟨by rfl, ?_⟩) hHeld ?_; rotate_left; focus (intro wq hSw; obtain ⟨hcq, hfq⟩ := bcell hSw; go_simp; (try with_reducible rfl); done))
      (try simp only [Act.put, List.setIfInBounds_toArray, List.set_cons_zero, List.set_cons_succ])
      first | (refine anyT_take 9 (some 23) (v := ?_) rfl rfl (by kernel_rfl) (by kernel_rfl) (by kernel_rfl) (by kernel_rfl) (fun _ _ _ h => h) (Or.inl ⟨by rfl, ?_⟩) hHeld ?_; rotate_left; focus (intro wq hSw; obtain ⟨hcq, hfq⟩ := bcell hSw; go_simp; (try with_reducible rfl); done))
      (try simp only [Act.put, List.setIfInBounds_toArray, List.set_cons_zero, List.set_cons_succ])
      first | (refine anyT_take 10 (some 24) (v := ?_) rfl rfl (by kernel_rfl) (by kernel_rfl) (by kernel_rfl) (by kernel_rfl) (fun _ _ _ h => h) (Or.inl ⟨by rfl, ?_⟩) hHeld ?_; rotate_left; focus (intro wq hSw; obtain ⟨hcq, hfq⟩ := bcell hSw; go_simp; (try with_reducible rfl); done))
      (try simp only [Act.put, List.setIfInBounds_toArray, List.set_cons_zero, List.set_cons_succ])
      refine anyT_one 11 (by kernel_rfl) rfl (fun K hK => ?_)
      go_simp
      refine (high_calls _).mono ?_; rintro e w3 ⟨rfl, hb3⟩
      refine hK.out _ _ ?_ (fun hHeld => ?_)
      · exact below_then hHeld hHeld.size hb3
      clear hK K
      (try simp only [Act.put, List.setIfInBounds_toArray, List.set_cons_zero, List.set_cons_succ])
      refine anyT_one 12 (by kernel_rfl) rfl (fun K hK => ?_)
      go_simp
      refine (low_calls _).mono ?_; rintro e w4 ⟨rfl, hb4⟩
      refine hK.out _ _ ?_ (fun hHeld => ?_)
      · exact below_then hHeld hHeld.size hb4
      clear hK K
      (try simp only [Act.put, List.setIfInBounds_toArray, List.set_cons_zero, List.set_cons_succ])
      refine anyT_one 13 (by kernel_rfl) rfl (fun K hK => ?_)
      have hbq : Below w.heap.size w _ := HbW.trans (hHeld.mono HbW.size)
      go_simp
      refine (eq0_6 (v' := B.val) (by unfold BookV.val BookV.cells; rfl) (by rw [Hps.out]; exact late_calls true B Hg.out A c path Hp.out k _ hlt (Nat.le_refl _) _ (HB.out.below hbq) (HP.out.below hbq) (HM.out.below hbq))).mono ?_; clear hbq; rintro e w5 ⟨rfl, hb5⟩
      refine hK.out _ _ ?_ (fun hHeld => ?_)
      · exact below_then hHeld hHeld.size hb5
      clear hK K
      (try simp only [Act.put, List.setIfInBounds_toArray, List.set_cons_zero, List.set_cons_succ])
      first | (refine anyT_take 14 (some 28) (v := ?_) rfl rfl (by kernel_rfl) (by kernel_rfl) (by kernel_rfl) (by kernel_rfl) (fun _ _ _ h => h) (Or.inl ⟨by rfl, ?_⟩) hHeld ?_; rotate_left; focus (intro wq hSw; obtain ⟨hcq, hfq⟩ := bcell hSw; go_simp; (try with_reducible rfl); done))
      (try simp only [Act.put, List.setIfInBounds_toArray, List.set_cons_zero, List.set_cons_succ])
      refine anyT_last (by kernel_rfl) rfl (fun K hK => ?_)
      obtain ⟨hcq, hfq⟩ := bcell hHeld
      go_simp
      refine hK.out _ _ ?_
      clear hK K
      (try simp only [Act.put, List.setIfInBounds_toArray, List.set_cons_zero, List.set_cons_succ])
      refine anyT_done (by kernel_rfl) ?_ _
      have hK5 : Keep (fun x => x = n5) W _ := (hK.of_belowX hHeld).setCell (p := ⟨n5, k, none⟩) (.inl rfl) (.int .i64 (lateTo B path (gp B.players k) true (B.parts * B.size).toNat))
      have hB5 := ((BoxAt.mk c5 f5 l5).below hHeld).put k (.int .i64 (lateTo B path (gp B.players k) true (B.parts * B.size).toNat)) (by simp [lastA]; omega)
      rw [lastA_succ B path k (by omega)] at hB5
      clear hHeld
      go_wp2
      go_roundg (B.players.length - (k + 1))
      case measure => have := Hgk.out; omega
      case rel => exact ⟨k + 1, by omega, rfl, by go_num, hK5, hB5⟩
    · obtain rfl : k = B.players.length := by omega
      have HbW : Below w.heap.size w wr := H2.trans (hK.below (fun k _ e => by omega) H2.size)
      have k4 := K4.out.keep hK (by have := Hn5.out; omega)
      unfold lastA at hbx
      obtain ⟨hst, hbel⟩ := box_store5 k4 rfl (.int .i64 (lastAt B path B.players.length 0)) (.int .i64 (lastAt B path B.players.length 1)) (.int .i64 (lastAt B path B.players.length 2)) (.int .i64 (lastAt B path B.players.length 3)) (.int .i64 (lastAt B path B.players.length 4))
      have hfin : Below w.heap.size w _ := HbW.trans (hbel w.heap.size (by omega))
      obtain ⟨c5, f5, l5⟩ := hbx
      obtain ⟨c4, f4, l4⟩ := k4
      clear hbel
      go_wp2
      obtain ⟨c9, f9, l9⟩ := hst
      exact bodyPost_ret (v := .agg (lastA B path B.players.length)) (by simp [results, lastA, Tryd.results71, go_sem, c9]) rfl ⟨rfl, hfin⟩
end
end Go.Proofs.YtljikigmfkfkiaaDoor
namespace Go.Proofs.YtljikigmfkfkiaaDoor
section
open Go.RowKit
set_option linter.unusedSimpArgs false
set_option linter.unusedVariables false

/-! A slice of whole numbers that the call itself has made. -/
theorem info3 : (Tryd.prog.info? 3).map (fun i => (i.zero, i.size, i.bytes)) = some (some (.int .i64 0), 1, 8) := by kernel_rfl
theorem under22 : Tryd.prog.underlying 22 = some (.slice 3) := by kernel_rfl
def OwnInts (w : World) (base : Nat) (v : Value) (xs : List Int) : Prop := w.ownsRow base 3 1 v xs.length (xs.map (Value.int .i64))
theorem OwnInts.nil (w : World) (base : Nat) : OwnInts w base (.slice none 0 0) [] := World.ownsRow_nil _ _ _ _
theorem OwnInts.alloc {w : World} {base : Nat} {v : Value} {xs : List Int} (h : OwnInts w base v xs) (o : Obj) : OwnInts (w.alloc o) base v xs := World.ownsRow.alloc h o
theorem OwnInts.keep {w w' : World} {base : Nat} {v : Value} {xs : List Int} (h : OwnInts w base v xs) (hb : Below w.heap.size w w') : OwnInts w' base v xs := by
  refine World.ownsRow.kept h (row := none) ⟨hb.os, hb.tape, hb.output, hb.size, fun k hk _ => hb.block k hk⟩ ?_
  by_cases e : v.ownBlock = none
  · exact .inl e
  · exact .inr e
/-- what it reads as -/
theorem OwnInts.reads {w : World} {base : Nat} {v : Value} {xs : List Int} (h : OwnInts w base v xs) :
    ∃ A c, v = .slice A xs.length c ∧ IntsAt w A xs ∧ xs.length ≤ c ∧ c ≤ 9223372036854775807 ∧ (∀ b o, A = some ⟨b, o, none⟩ → base ≤ b) ∧ (A = none → c = 0) := by
  obtain ⟨h1, h2⟩ := h
  rcases h2 with ⟨rfl, hn⟩ | ⟨g, cap, cur, rfl, hg, hb, hn, hc, hs, ht⟩
  · have : xs = [] := List.eq_nil_of_length_eq_zero hn
    subst this
    exact ⟨none, 0, rfl, ⟨by simp, .inl rfl⟩, by simp, by simp, by simp, by simp⟩
  · refine ⟨_, _, rfl, ⟨by unfold maxLen at hc; omega, .inr ⟨g, 0, rfl, fun j hj => ?_⟩⟩, hn, by unfold maxLen at hc; omega, by rintro b o ⟨⟩; exact hg, by simp⟩
    have hcs := World.ownsRow.cells (w := w) (base := base) (e := 3) (size := 1) (v := .slice (some ⟨g, 0, none⟩) xs.length cap) (n := xs.length) (xs := xs.map (Value.int .i64)) ⟨h1, .inr ⟨g, cap, cur, rfl, hg, hb, hn, hc, hs, ht⟩⟩ (g := g) rfl j (.int .i64 (gi xs j)) (by simp [gi, hj])
    by_cases hj0 : j = 0
    · subst hj0; simpa [Addr.add] using hcs
    · simpa [Addr.add, hj0] using hcs
/-- append of one number -/
theorem wpList_app1 {ops : Array Oper} {rest : List Oper} {o : Oper} {a : Act} {Q : Exit → Act → World → Prop} (w : World) (hgd : o.guard = none) (s x : Operand)
    (ho : o.op = .call { callee := .builtin .append, args := #[s, x], argTypes := #[22, 22] })
    (base : Nat) (v : Value) (xs : List Int) (hs : a.eval s = v) (hown : OwnInts w base v xs)
    (g c : Nat) (n : Int) (hx : a.eval x = .slice (some ⟨g, 0, none⟩) 1 c) (hc : w.cell? ⟨g, 0, none⟩ = some (.int .i64 n)) (hlen : xs.length ≤ 1000000) (hbase : base ≤ w.heap.size)
    (h : ∀ v' w', OwnInts w' base v' (xs ++ [n]) → Below base w w' → w.heap.size ≤ w'.heap.size → (∀ k, k < w.heap.size → some k ≠ v.ownBlock → w'.heap[k]? = w.heap[k]?) → wpList Tryd.prog ops Q rest (a.put o.dst v') w') : wpList Tryd.prog ops Q (o :: rest) a w := by
  obtain ⟨i0, hi, hz0, hz1, hz2⟩ := info_parts info3
  refine wpList_append_own w hgd s x 22 ho base 3 i0 (.int .i64 0) 1 8 under22 hi hz0 hz1 hz2 rfl (by decide) v xs.length (xs.map (Value.int .i64)) hs hown ⟨g, 0, none⟩ 1 c [.int .i64 n] hx rfl ?_ ?_ (by unfold maxLen; omega) (by omega) hbase ?_
  · intro j u hj
    match j, hj with
    | 0, hj => simp at hj; subst hj; simpa [Addr.add] using hc
  · intro u hu; simp at hu; subst hu; rfl
  · intro v' w' h1 h2 _
    refine h v' w' ?_ ((Below.refl _ _).grown h2 hbase fun k hk => (World.ownsRow.lt hown k hk).1) h2.size h2.block
    unfold OwnInts
    rw [List.length_append, List.map_append]
    exact h1
end
end Go.Proofs.YtljikigmfkfkiaaDoor
namespace Go.Proofs.YtljikigmfkfkiaaDoor
section
open Go.RowKit
set_option linter.unusedSimpArgs false
set_option linter.unusedVariables false

/-- who of the first k can be late after all beats -/
def lastL (B : BookV) (path : List Int) (k : Nat) : List Int := ((List.range k).filter fun j => decide (0 < lastAt B path B.players.length j)).map Int.ofNat
theorem lastL_succ (B : BookV) (path : List Int) (k : Nat) : lastL B path (k + 1) = lastL B path k ++ bif decide (0 < lastAt B path B.players.length k) then [(k : Int)] else [] := by
  unfold lastL
  rw [List.range_succ, List.filter_append, List.map_append]
  cases h : decide (0 < lastAt B path B.players.length k) <;> simp_all
theorem lastL_le (B : BookV) (path : List Int) (k : Nat) : (lastL B path k).length ≤ k := by
  unfold lastL
  rw [List.length_map]
  exact Nat.le_trans (List.length_filter_le _ _) (by simp)
theorem lastA_get (B : BookV) (path : List Int) (n k : Nat) (h : k < 5) : (lastA B path n)[k]? = some (.int .i64 (lastAt B path n k)) := by
  have : k = 0 ∨ k = 1 ∨ k = 2 ∨ k = 3 ∨ k = 4 := by omega
  rcases this with rfl | rfl | rfl | rfl | rfl <;> simp [lastA]
theorem idx5_0 (x0 x1 x2 x3 x4 : Int) (w : World) : Sem.run Tryd.prog (Instr.index 91 (.agg #[.int .i64 x0, .int .i64 x1, .int .i64 x2, .int .i64 x3, .int .i64 x4]) (.int .i64 0)) w = .ok (.int .i64 x0) w := by kernel_rfl
theorem idx5_1 (x0 x1 x2 x3 x4 : Int) (w : World) : Sem.run Tryd.prog (Instr.index 91 (.agg #[.int .i64 x0, .int .i64 x1, .int .i64 x2, .int .i64 x3, .int .i64 x4]) (.int .i64 1)) w = .ok (.int .i64 x1) w := by kernel_rfl
theorem idx5_2 (x0 x1 x2 x3 x4 : Int) (w : World) : Sem.run Tryd.prog (Instr.index 91 (.agg #[.int .i64 x0, .int .i64 x1, .int .i64 x2, .int .i64 x3, .int .i64 x4]) (.int .i64 2)) w = .ok (.int .i64 x2) w := by kernel_rfl
theorem idx5_3 (x0 x1 x2 x3 x4 : Int) (w : World) : Sem.run Tryd.prog (Instr.index 91 (.agg #[.int .i64 x0, .int .i64 x1, .int .i64 x2, .int .i64 x3, .int .i64 x4]) (.int .i64 3)) w = .ok (.int .i64 x3) w := by kernel_rfl
theorem idx5_4 (x0 x1 x2 x3 x4 : Int) (w : World) : Sem.run Tryd.prog (Instr.index 91 (.agg #[.int .i64 x0, .int .i64 x1, .int .i64 x2, .int .i64 x3, .int .i64 x4]) (.int .i64 4)) w = .ok (.int .i64 x4) w := by kernel_rfl
theorem lastA_index (B : BookV) (path : List Int) (n k : Nat) (h : k < 5) (w : World) : Sem.run Tryd.prog (Instr.index 91 (.agg (lastA B path n)) (.int .i64 (k : Int))) w = .ok (.int .i64 (lastAt B path n k)) w := by
  have : k = 0 ∨ k = 1 ∨ k = 2 ∨ k = 3 ∨ k = 4 := by omega
  rcases this with rfl | rfl | rfl | rfl | rfl
  · exact idx5_0 _ _ _ _ _ w
  · exact idx5_1 _ _ _ _ _ w
  · exact idx5_2 _ _ _ _ _ w
  · exact idx5_3 _ _ _ _ _ w
  · exact idx5_4 _ _ _ _ _ w
/-- what Last returns, but for where the list lies -/
def LastR (B : BookV) (path : List Int) (e : Ending) (w' : World) : Prop :=
  (goodB B = false ∧ e = .returned (.tuple #[.slice none 0 0, .int .i64 80])) ∨ (goodB B = true ∧ isPathS B.parts B.start path = false ∧ e = .returned (.tuple #[.slice none 0 0, .int .i64 81])) ∨
  (goodB B = true ∧ isPathS B.parts B.start path = true ∧ ∃ A, e = .returned (.tuple #[.slice A (lastL B path 5).length (lastL B path 5).length, .int .i64 0]) ∧ IntsAt w' A (lastL B path 5))
set_option maxRecDepth 100000 in
set_option maxHeartbeats 2000000 in
theorem Last_calls (B : BookV) (A : Option Addr) (c : Nat) (path : List Int) (w : World) (hB : B.Reads w) (hp : IntsAt w A path) (hM : MarksAt w) :
    Calls Tryd.prog 22 #[B.val, .slice A path.length c] w fun e w' => LastR B path e w' ∧ Below w.heap.size w w' := by
  have HB := Lib.hid hB
  have HP := Lib.hid hp
  have HM := Lib.hid hM
  clear hB hp hM
  have Hb : Below w.heap.size w ((w.alloc (.cells B.cells 27)).alloc (.cells #[.slice A path.length c] 22)) := ((Below.refl _ _).alloc (Nat.le_refl _) _).alloc (by simp) _
  have k3 := BoxAt.new (w.alloc (.cells B.cells 27)) #[.slice A path.length c] 22
  rw [World.size_alloc] at k3
  have hask := asked_calls B _ (HB.out.below Hb) 70 #[.pointer (some ⟨w.heap.size + 1, 0, none⟩)] (isPathS B.parts B.start path) enters70
    (fun hg w' hw => Last1_calls B ((goodB_iff B).1 hg).parts.1 A c path _ w' (k3.below hw) ((HP.out.below Hb).below hw))
  have Hask := Lib.hid hask
  have K3 := Lib.hid k3
  clear hask k3
  have hcase : (∃ n, (∀ w', LastR B path (.returned (.tuple #[.slice none 0 0, .int .i64 n])) w') ∧ askR B (isPathS B.parts B.start path) = .tuple #[zB, .int .i64 n] ∧ n ≠ 0) ∨ (goodB B = true ∧ isPathS B.parts B.start path = true) := by
    rcases chain2 (goodB B) (isPathS B.parts B.start path) with hg | ⟨hg, hi⟩ | ⟨hg, hi⟩
    · exact .inl ⟨80, fun _ => .inl ⟨hg, rfl⟩, by simp [askR, hg], by simp⟩
    · exact .inl ⟨81, fun _ => .inr (.inl ⟨hg, hi, rfl⟩), by simp [askR, hg, hi], by simp⟩
    · exact .inr ⟨hg, hi⟩
  rcases hcase with ⟨n, hr, ha, hn⟩ | ⟨hg, hi⟩
  · have Ha := Lib.hid ha
    have Hr := Lib.hid hr
    clear ha hr
    unfold BookV.val BookV.cells
    go_enter Tryd.func22, Tryd.ntmps22
    go_wp2_with fail
    refine (eq0_2 (v' := B.val) rfl Hask.out).mono ?_
    rintro e w1 ⟨rfl, hb⟩
    rw [Ha.out]
    have H1 := below_then Hb (by simp; omega) hb
    clear hb
    unfold zB
    go_wp2
    go_ret2
    exact ⟨Hr.out _, H1.alloc H1.size _⟩
  · have g := (goodB_iff B).1 hg
    have ip := (isPathS_iff g path).1 hi
    have hr : ∀ w' A', IntsAt w' A' (lastL B path 5) → LastR B path (.returned (.tuple #[.slice A' (lastL B path 5).length (lastL B path 5).length, .int .i64 0])) w' := fun w' A' h => .inr (.inr ⟨hg, hi, A', rfl, h⟩)
    have ha : askR B (isPathS B.parts B.start path) = .tuple #[B.val, .int .i64 0] := by simp [askR, hg, hi]
    have Ha := Lib.hid ha
    have Hr := Lib.hid hr
    have Hg := Lib.hid g
    have Hi := Lib.hid ip
    clear ha hr g ip hg hi
    unfold BookV.val BookV.cells
    go_enter Tryd.func22, Tryd.ntmps22
    go_wp2_with fail
    refine (eq0_2 (v' := B.val) rfl Hask.out).mono ?_
    rintro e w1 ⟨rfl, hb⟩
    rw [Ha.out]
    have H1 := below_then Hb (by simp; omega) hb
    obtain ⟨c3, f3, l3⟩ := K3.out.below hb
    clear hb
    unfold BookV.val BookV.cells
    have H2 : Below w.heap.size w (w1.alloc (.cells B.cells 78)) := H1.alloc H1.size _
    go_wp2_with fail
    refine (eq0_2 (v' := B.val) (by unfold BookV.val BookV.cells; rfl) (last_calls B Hg.out A c path Hi.out _ (HB.out.below H2) (HP.out.below H2) (HM.out.below H2))).mono ?_
    rintro e w2 ⟨rfl, hb⟩
    have H3 := below_then H2 H2.size hb
    clear hb c3 f3 l3
    go_upto_block 0 with (fail)
    go_wp2
    go_loopg [23, 8] 5 (fun gk i v wr => ∃ k : Nat, k ≤ 5 ∧ gk = 5 - k ∧ i = .int .i64 k ∧ OwnInts wr w2.heap.size v (lastL B path k) ∧ Below w2.heap.size w2 wr)
    case atStart => exact ⟨0, Nat.zero_le _, rfl, rfl, OwnInts.nil _ _, Below.refl _ _⟩
    case round =>
      obtain ⟨k, hk, hgk, rfl, hown, hbe⟩ := hrel
      have Hgk := Lib.hid hgk
      have Hown := Lib.hid hown
      have Hbe := Lib.hid hbe
      clear hgk hown hbe
      by_cases hlt : k < 5
      · have hlt' : (k : Int) < 5 := by omega
        have hx := lastA_index B path B.players.length k hlt
        have hs := lastL_succ B path k
        by_cases hp : 0 < lastAt B path B.players.length k
        · simp only [hp, decide_true, cond_true] at hs
          have Hs := Lib.hid hs
          clear hs
          go_wp2_with (at_builtin; refine wpList_app1 _ rfl _ _ rfl w2.heap.size _ _ rfl (Hown.out.alloc _) _ _ _ rfl (cell_new1 _ _ _) (by have := lastL_le B path k; omega) (by have := Hbe.out.size; simp; omega) ?_)
          intro v' w5 ho hb5 hsz _
          have Hho := Lib.hid ho
          have Hb5 := Lib.hid hb5
          clear ho hb5 hsz
          go_wp2
          go_roundg (5 - (k + 1))
          case measure => have := Hgk.out; omega
          case rel => exact ⟨k + 1, by omega, rfl, by go_num, by rw [Hs.out]; exact Hho.out, (Hbe.out.alloc Hbe.out.size _).trans Hb5.out⟩
        · simp only [hp, decide_false, cond_false, List.append_nil] at hs
          have Hs := Lib.hid hs
          clear hs
          go_wp2
          go_roundg (5 - (k + 1))
          case measure => have := Hgk.out; omega
          case rel => exact ⟨k + 1, by omega, rfl, by go_num, by rw [Hs.out]; exact Hown.out, Hbe.out⟩
      · obtain rfl : k = 5 := by omega
        obtain ⟨A', c', rfl, hi', hc', hm', _, h0⟩ := Hown.out.reads
        have Hi' := Lib.hid hi'
        clear hi'
        have hfin := below_then H3 H3.size Hbe.out
        cases A' with
        | none =>
          obtain rfl : c' = 0 := h0 rfl
          have hl0 : (lastL B path 5).length = 0 := by omega
          go_wp2
          go_ret2
          exact ⟨by have := Hr.out _ none Hi'.out; rw [hl0] at this; exact this, hfin⟩
        | some ad =>
          go_wp2
          go_ret2
          exact ⟨Hr.out _ _ Hi'.out, hfin⟩
end
end Go.Proofs.YtljikigmfkfkiaaDoor
