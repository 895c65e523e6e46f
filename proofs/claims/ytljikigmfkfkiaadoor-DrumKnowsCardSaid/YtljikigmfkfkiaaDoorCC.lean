import Derived.Test.YtljikigmfkfkiaaDoorCB
import Derived.Test.YtljikigmfkfkiaaDoorBX
namespace Go.Proofs.YtljikigmfkfkiaaDoor
open Go.RowKit Go.Shelf
attribute [local go_sem] Oper.semAt_some
set_option linter.unusedSimpArgs false
set_option linter.unusedVariables false

/-- the list and the error of Knows -/
def knowsV (B : BookV) (heard : List Int) (part : Int) : List Int × Int :=
  bif goodB B then (bif knowsAsk B heard part then (bif decide (knowsTo B heard part.toNat 4 = []) then ([], 4) else (knowsTo B heard part.toNat 4, 0)) else ([], 81)) else ([], 80)
theorem KnowsR_val {B : BookV} {heard : List Int} {part : Int} {e : Ending} {w' : World} (h : KnowsR B heard part e w') : ∃ A c, e = .returned (.tuple #[.slice A (knowsV B heard part).1.length c, .int .i64 (knowsV B heard part).2]) ∧ IntsAt w' A (knowsV B heard part).1 := by
  unfold knowsV
  rcases h with ⟨h, rfl⟩ | ⟨h, h2, rfl⟩ | ⟨h, h2, h3, rfl⟩ | ⟨h, h2, h3, A, rfl, hi⟩
  · rw [h]; exact ⟨none, 0, rfl, by simp, .inl rfl⟩
  · rw [h, h2]; exact ⟨none, 0, rfl, by simp, .inl rfl⟩
  · rw [h, h2, decide_eq_true h3]; exact ⟨none, 0, rfl, by simp, .inl rfl⟩
  · rw [h, h2, decide_eq_false h3]; exact ⟨A, _, rfl, hi⟩
theorem or_bits (p : Nat → Bool) (d : Nat) (h : d < 4) : bits BinOp.or IntKind.i64 (maskZ p) (wrap64 (2 ^ d)) = maskZ fun k => p k || decide (k = d) := by
  have : d = 0 ∨ d = 1 ∨ d = 2 ∨ d = 3 := by omega
  unfold maskZ
  simp only
  generalize p 0 = a0
  generalize p 1 = a1
  generalize p 2 = a2
  generalize p 3 = a3
  rcases this with rfl | rfl | rfl | rfl <;> cases a0 <;> cases a1 <;> cases a2 <;> cases a3 <;> (show _ = _; kernel_rfl)
def inP (ls : List Int) (k : Nat) : Bool := decide ((k : Int) ∈ ls)
theorem maskZ_congr {p q : Nat → Bool} (h : ∀ k, k < 4 → p k = q k) : maskZ p = maskZ q := by
  unfold maskZ; rw [h 0 (by omega), h 1 (by omega), h 2 (by omega), h 3 (by omega)]
theorem inP_add (ls : List Int) (d : Nat) : ∀ k, inP (if (d : Int) ∈ ls then ls else ls ++ [(d : Int)]) k = (inP ls k || decide (k = d)) := by
  intro k
  unfold inP
  by_cases hd : (d : Int) ∈ ls
  · rw [if_pos hd]
    by_cases hk : k = d
    · subst hk; simp [hd]
    · simp [hk]
  · rw [if_neg hd]
    rw [Bool.eq_iff_iff]
    simp only [List.mem_append, List.mem_singleton, decide_eq_true_eq, Bool.or_eq_true]
    constructor
    · rintro (h | h)
      · exact .inl h
      · exact .inr (by omega)
    · rintro (h | h)
      · exact .inl h
      · exact .inr (by omega)
set_option maxRecDepth 100000 in
set_option maxHeartbeats 8000000 in
theorem refKnows_calls (B : BookV) (A : Option Addr) (c : Nat) (heard : List Int) (part : Int) (w : World) (hB : B.Reads w) (hp : IntsAt w A heard) :
    Calls Tryd.prog 38 #[B.val, .slice A heard.length c, .int .i64 part] w fun e w' => (∃ A' c', e = .returned (.tuple #[.slice A' (knowsV B heard part).1.length c', .int .i64 (knowsV B heard part).2]) ∧ IntsAt w' A' (knowsV B heard part).1) ∧ Below w.heap.size w w' := by
  have HB := Lib.hid hB
  have HP := Lib.hid hp
  have hle := hp.1
  have Hb : Below w.heap.size w (w.alloc (.cells B.cells 27)) := (Below.refl _ _).alloc (Nat.le_refl _) _
  have K2 := Lib.hid (BoxAt.new w B.cells 27)
  clear hB hp
  unfold BookV.val BookV.cells
  go_enter Tryd.func38, Tryd.ntmps38
  go_wp2_with fail
  refine (eq0_1 (v' := B.val) (by unfold BookV.val BookV.cells; rfl) (refCheck_calls B _ (HB.out.below Hb))).mono ?_
  rintro e w1 ⟨rfl, hb⟩
  have H1 := Lib.hid (below_then Hb Hb.size hb)
  have K21 := Lib.hid (K2.out.below hb)
  clear hb Hb
  cases hg : goodB B with
  | false =>
    rw [cond_false]
    have Hv : Hid (knowsV B heard part = ([], 80)) := by unfold Hid knowsV; rw [hg]; rfl
    clear hg
    go_wp2
    go_ret2
    exact ⟨⟨none, 0, (by rw [Hv.out]; rfl), by rw [Hv.out]; exact ⟨by simp, .inl rfl⟩⟩, H1.out⟩
  | true =>
    rw [cond_true]
    have g := Lib.hid ((goodB_iff B).1 hg)
    have Hv : Hid (knowsV B heard part = bif knowsAsk B heard part then (bif decide (knowsTo B heard part.toNat 4 = []) then ([], 4) else (knowsTo B heard part.toNat 4, 0)) else ([], 81)) := by unfold Hid knowsV; rw [hg]; rfl
    have hpp := g.out.parts
    obtain ⟨c2, f2, l2⟩ := K21.out
    unfold BookV.cells at c2
    clear hg
    go_upto_region 4 with (fail)
    go_cut [9] (fun s wc => s = .bool (knowsHead B heard part) ∧ w1 = wc)
    case first =>
      have hkh : Hid (knowsHead B heard part = (((heard.length : Int) == B.parts - 1) && inB part 0 (B.parts - 1))) := rfl
      generalize knowsHead B heard part = kh at *
      have hw1 : IntKind.i64.wrap (B.parts - 1) = B.parts - 1 := wrap_in (by omega) (by omega)
      rcases Bool.eq_false_or_eq_true ((heard.length : Int) == B.parts - 1) with h1 | h1
      · have h1' := h1
        go_wp2_with (go_at_call 53; refine (Sits_calls _ _ _ _).mono ?_; rintro e w' ⟨rfl, rfl⟩)
        go_meet
        exact ⟨by rw [hkh.out, h1]; rfl, rfl⟩
      · have h1' := h1
        go_wp2
        go_meet
        exact ⟨by rw [hkh.out, h1]; rfl, rfl⟩
    case rest =>
      obtain ⟨rfl, rfl⟩ := hcut
      clear c2 f2 l2
      go_upto_block 0 with (fail)
      go_cut [9] (fun s wc => s = .bool (knowsAsk B heard part) ∧ w1 = wc)
      case first =>
        have hka : Hid (knowsAsk B heard part = (knowsHead B heard part && heardTo heard heard.length)) := rfl
        generalize knowsAsk B heard part = ka at *
        generalize knowsHead B heard part = kh at *
        rcases Nat.eq_zero_or_pos heard.length with h0 | h0
        · have hz : ¬ (0 : Int) < heard.length := by omega
          have hh0 : Hid (heardTo heard heard.length = true) := by unfold Hid; rw [h0]; rfl
          clear h0
          go_wp2
          refine wp_loop_rounds 1 ?_
          rw [rounds_succ]
          go_wp2
          go_meet
          exact ⟨by rw [hka.out, hh0.out, Bool.and_true], rfl⟩
        · obtain ⟨hb, ho, rfl, hhc⟩ := HP.out.2.resolve_left (by intro e; rw [e] at h0; simp at h0)
          have Hhc := Lib.hid hhc
          clear hhc h0
          go_wp2
          go_loop [10, 9] (fun i s => ∃ k : Nat, k ≤ heard.length ∧ i = .int .i64 k ∧ s = .bool (kh && heardTo heard k)) (fun i _ => heard.length - (intOf i).toNat)
          case atStart => exact ⟨0, Nat.zero_le _, rfl, by simp [heardTo]⟩
          case round =>
            obtain ⟨k, hk, rfl, rfl⟩ := hrel
            by_cases hlt : k < heard.length
            · have hck := cell_below H1.out (Hhc.out k hlt)
              have bk := World.block_lt_of_cell? _ _ hck
              have hki : (k : Int) < heard.length := by omega
              simp only at bk
              have hs : heardTo heard (k + 1) = (heardTo heard k && inB (gi heard k) (-2) 1) := range_all_succ _ _
              have Hs := Lib.hid hs
              clear hs
              generalize hx : (kh && heardTo heard k) = x at *
              have Hx := Lib.hid hx
              clear hx
              cases x with
              | false =>
                go_wp2
                go_round
                case rel => exact ⟨k + 1, by omega, by go_num, by rw [Hs.out, ← Bool.and_assoc, Hx.out]; rfl⟩
                case measure => simp [intOf]; omega
              | true =>
                go_wp2_with (go_at_call 53; refine (Sits_calls _ _ _ _).mono ?_; rintro e w' ⟨rfl, rfl⟩)
                go_round
                case rel => exact ⟨k + 1, by omega, by go_num, by rw [Hs.out, ← Bool.and_assoc, Hx.out]; rfl⟩
                case measure => simp [intOf]; omega
            · obtain rfl : k = heard.length := by omega
              go_wp2
              go_meet
              exact ⟨by rw [hka.out], rfl⟩
      case rest =>
        obtain ⟨rfl, rfl⟩ := hcut
        cases hka : knowsAsk B heard part with
        | false =>
          have Hv2 : Hid (knowsV B heard part = ([], 81)) := by unfold Hid; rw [Hv.out, hka]; rfl
          clear hka
          go_wp2
          go_ret2
          exact ⟨⟨none, 0, (by rw [Hv2.out]; rfl), by rw [Hv2.out]; exact ⟨by simp, .inl rfl⟩⟩, H1.out⟩
        | true =>
          have Hv2 : Hid (knowsV B heard part = bif decide (knowsTo B heard part.toNat 4 = []) then ([], 4) else (knowsTo B heard part.toNat 4, 0)) := by unfold Hid; rw [Hv.out, hka]; rfl
          have hpart : 0 ≤ part ∧ part ≤ B.parts - 1 := by
            have h := hka
            unfold knowsAsk knowsHead at h
            rw [Bool.and_eq_true, Bool.and_eq_true, inB_iff] at h
            exact h.1.2
          have hlen : (heard.length : Int) = B.parts - 1 := by
            have h := hka
            unfold knowsAsk knowsHead at h
            rw [Bool.and_eq_true, Bool.and_eq_true] at h
            simpa using h.1.1
          obtain ⟨pn, rfl⟩ := Int.eq_ofNat_of_zero_le hpart.1
          have Hlen := Lib.hid hlen
          have Hpart := Lib.hid hpart
          obtain ⟨c2, f2, l2⟩ := K21.out
          unfold BookV.cells at c2
          clear hka hlen hpart Hv
          go_wp2_with fail
          refine (eq0_1 (v' := B.val) (by unfold BookV.val BookV.cells; rfl) (refPlans0_calls B g.out _ (HB.out.below H1.out))).mono ?_
          rintro e w2 ⟨⟨A2, cc2, rfl, hrd⟩, hb⟩
          have H2 := Lib.hid (below_then H1.out H1.out.size hb)
          have Hrd := Lib.hid hrd
          have hll := allPlans_len g.out
          have Hps : Hid (∀ x, x ∈ allPlans B → IsPath B x) := fun x hx => (allPlans_mem g.out hx).1
          have hkn : Hid (knowsTo B heard pn 4 = memsTo (inP (metOf heard pn (allPlans B))) 4) := rfl
          rw [show ((pn : Int)).toNat = pn from rfl] at Hv2
          clear hb c2 f2 l2 hrd
          generalize hLL : allPlans B = L at *
          clear hLL
          go_upto_block 2 with (fail)
          go_cut [12] (fun s wc => s = .int .i64 (maskZ (inP (metOf heard pn L))) ∧ Below w2.heap.size w2 wc)
          case first =>
            go_wp2
            go_loopg [13, 12] L.length (fun gk i s wr => ∃ k : Nat, k ≤ L.length ∧ gk = L.length - k ∧ i = .int .i64 k ∧ s = .int .i64 (maskZ (inP (metOf heard pn (L.take k)))) ∧ Below w2.heap.size w2 wr)
            case atStart => exact ⟨0, Nat.zero_le _, rfl, rfl, rfl, Below.refl _ _⟩
            case round =>
              obtain ⟨k, hk, hgk, rfl, rfl, hbe⟩ := hrel
              have Hgk := Lib.hid hgk
              have Hbe := Lib.hid hbe
              have HW := Lib.hid (below_then H2.out H2.out.size hbe)
              clear hgk hbe
              by_cases hlt : k < L.length
              · have hki : (k : Int) < L.length := by omega
                obtain ⟨b3, o3, rfl, hrows⟩ := Hrd.out.2.resolve_left (by intro e; rw [e] at hlt; simp at hlt)
                obtain ⟨Aj, cj, hcell, hrow, hcj⟩ := hrows k hlt
                have ip := Hps.out _ (gl_mem hlt)
                have hst : metOf heard pn (L.take (k + 1)) = metStep heard pn (metOf heard pn (L.take k)) (gl L k) := by rw [← metOf_snoc, ← (show L.take (k + 1) = L.take k ++ [gl L k] from by
                  rw [List.take_add_one, List.getElem?_eq_getElem hlt]
                  unfold gl
                  rw [List.getD_eq_getElem?_getD, List.getElem?_eq_getElem hlt]; rfl)]
                have Hst := Lib.hid hst
                have Hrow := Lib.hid hrow
                have Hip := Lib.hid ip
                have q1 := cell_below Hbe.out hcell
                have bq1 := World.block_lt_of_cell? _ _ q1
                have Hcell := Lib.hid hcell
                simp only at bq1
                clear hst hrows hrow hcell hcj ip
                generalize gl L k = p at *
                generalize metOf heard pn (L.take k) = ls at *
                have hpl := Hip.out.len
                have hpl1 : p.length = heard.length + 1 := by have := Hlen.out; omega
                have Hpl1 := Lib.hid hpl1
                have hp8 : p.length ≤ 8 := by omega
                clear hpl hpl1
                go_wp2_with fail
                refine (fits_calls Aj cj p A c heard _ (Hrow.out.1.below Hbe.out) (HP.out.below HW.out) Hpl1.out hp8 (gi_path Hip.out)).mono ?_
                rintro e w3 ⟨rfl, hb3⟩
                have Hb3 := Lib.hid (below_then Hbe.out Hbe.out.size hb3)
                clear hb3 q1 bq1
                cases hfit : fitsTo p heard heard.length with
                | false =>
                  have Hs2 : Hid (metOf heard pn (L.take (k + 1)) = ls) := by unfold Hid; rw [Hst.out]; unfold metStep; rw [hfit]; rfl
                  clear hfit
                  go_wp2
                  go_roundg (L.length - (k + 1))
                  case measure => have := Hgk.out; omega
                  case rel => exact ⟨k + 1, by omega, rfl, by go_num, by rw [Hs2.out], Hb3.out⟩
                | true =>
                  have hr := gi_path Hip.out pn
                  obtain ⟨d, hd⟩ := Int.eq_ofNat_of_zero_le hr.1
                  have hd4 : d < 4 := by omega
                  have Hs2 : Hid (maskZ (inP (metOf heard pn (L.take (k + 1)))) = maskZ (fun j => inP ls j || decide (j = d))) := by
                    unfold Hid; rw [Hst.out]; unfold metStep; rw [hfit, hd]; exact maskZ_congr fun j _ => inP_add ls d j
                  obtain ⟨bj, oj, rfl⟩ := Hrow.out.1.some_ (by have := Hpl1.out; omega)
                  have q2 := cell_below Hb3.out Hcell.out
                  have hpnl : pn < p.length := by have := Hpl1.out; have := Hlen.out; have := Hpart.out; omega
                  have q3 := cell_below Hb3.out (Hrow.out.1.at_ hpnl)
                  rw [hd] at q3
                  have bq2 := World.block_lt_of_cell? _ _ q2
                  have bq3 := World.block_lt_of_cell? _ _ q3
                  simp only at bq2 bq3
                  have hpni : (pn : Int) < p.length := by omega
                  have Hor : Hid (bits BinOp.or IntKind.i64 (maskZ (inP ls)) (wrap64 (2 ^ d)) = maskZ fun k => inP ls k || decide (k = d)) := Lib.hid (or_bits (inP ls) d hd4)
                  clear hfit hd hr
                  generalize maskZ (inP ls) = m1 at *
                  go_wp2
                  go_roundg (L.length - (k + 1))
                  case measure => have := Hgk.out; omega
                  case rel => exact ⟨k + 1, by omega, rfl, by go_num, by rw [Hs2.out, ← Hor.out], Hb3.out⟩
              · obtain rfl : k = L.length := by omega
                go_wp2
                go_meet
                exact ⟨by rw [List.take_length], Hbe.out⟩
          case rest =>
            obtain ⟨rfl, hbc⟩ := hcut
            generalize wc = w5 at *
            have H5 := Lib.hid (below_then H2.out H2.out.size hbc)
            clear hbc
            rw [hkn.out] at Hv2
            have hmz := maskZ_zero (inP (metOf heard pn L))
            have Hmz : Hid (maskZ (inP (metOf heard pn L)) = 0 ↔ memsTo (inP (metOf heard pn L)) 4 = []) := hmz
            clear hmz
            generalize inP (metOf heard pn L) = pp at *
            by_cases hz : maskZ pp = 0
            · have Hv3 : Hid (knowsV B heard pn = ([], 4)) := by unfold Hid; rw [Hv2.out, decide_eq_true (Hmz.out.1 hz)]; rfl
              have hzb : (maskZ pp == 0) = true := by rw [beq_iff_eq]; exact hz
              clear hz
              generalize maskZ pp = m1 at *
              go_wp2
              go_ret2
              exact ⟨⟨none, 0, (by rw [Hv3.out]; rfl), by rw [Hv3.out]; exact ⟨by simp, .inl rfl⟩⟩, H5.out⟩
            · have Hv3 : Hid (knowsV B heard pn = (memsTo pp 4, 0)) := by unfold Hid; rw [Hv2.out, decide_eq_false (fun e => hz (Hmz.out.2 e))]; rfl
              have hzb : (maskZ pp == 0) = false := by rw [beq_eq_false_iff_ne]; exact hz
              clear hz
              obtain ⟨m1, hm1⟩ : ∃ m1, m1 = maskZ pp := ⟨_, rfl⟩
              rw [← hm1] at hzb ⊢
              have Hm1 := Lib.hid hm1
              clear hm1
              go_wp2_with fail
              rw [Hm1.out]
              refine (Members_calls pp _).mono ?_
              rintro e w6 ⟨⟨A6, c6, rfl, hi6⟩, hb6⟩
              have Hi6 := Lib.hid hi6
              have H6 := Lib.hid (below_then H5.out H5.out.size hb6)
              clear hi6 hb6
              rw [← Hm1.out]
              go_wp2
              go_ret2
              exact ⟨⟨A6, c6, (by rw [Hv3.out]; rfl), by rw [Hv3.out]; exact Hi6.out⟩, H6.out⟩
end Go.Proofs.YtljikigmfkfkiaaDoor
