import Derived.Test.YtgfbfbfajnfbjaaDoorH
namespace Go.Proofs.YtgfbfbfajnfbjaaDoor
section
set_option linter.unusedVariables false
set_option linter.unusedSimpArgs false
open Go.RowKit Go.Shelf
attribute [local go_sem] Oper.semAt_some
theorem pad4_ints {W : World} {n : Nat} {m : List Int} (h : BoxAt W n (pad4 m)) (hl : m.length ≤ 4) : IntsAt W (some ⟨n, 0, none⟩) m := by
  refine ⟨by omega, .inr ⟨n, 0, rfl, fun j hj => ?_⟩⟩
  rw [h.cell, Nat.zero_add]
  exact pad4_get m j (by omega)
set_option maxRecDepth 100000 in
set_option maxHeartbeats 2000000 in
theorem list_calls (B : ForgeV) (g : B.Good) (m : List Int) (hm : m.length = B.lots.length) (w : World) :
    Calls Tryd.prog 73 #[B.val, .agg (pad4 m)] w fun e w' => ∃ A, e = .returned (.slice A m.length m.length) ∧ IntsAt w' A m ∧ (∀ b o, A = some ⟨b, o, none⟩ → w.heap.size ≤ b) ∧ Below w.heap.size w w' := by
  have hl4 := g.many
  have hpad : pad4 m = #[.int .i64 (gi m 0), .int .i64 (gi m 1), .int .i64 (gi m 2), .int .i64 (gi m 3)] := rfl
  have H2 : Below w.heap.size w ((w.alloc (.cells B.cells 87)).alloc (.cells (pad4 m) 85)) := ((Below.refl _ _).alloc (Nat.le_refl _) _).alloc (by simp) _
  have k1 := (BoxAt.new w B.cells 87).alloc (.cells (pad4 m) 85)
  have k2 := BoxAt.new (w.alloc (.cells B.cells 87)) (pad4 m) 85
  rw [World.size_alloc] at k2
  have hq := pad4_ints k2 (by omega)
  have Hm := Lib.hid hm
  rw [hpad] at H2 k1 k2 hq ⊢
  clear hpad hm
  unfold ForgeV.val
  unfold ForgeV.cells at H2 k1 k2 hq ⊢
  go_enter Tryd.func73, Tryd.ntmps73
  go_upto_region 1 with (fail)
  generalize (w.alloc _).alloc _ = W at *
  have HH2 := Lib.hid H2
  have hsz := H2.size
  have Hsz := Lib.hid hsz
  generalize hnb : w.heap.size = nb at k1 k2 hq ⊢
  have HNB := Lib.hid hnb
  obtain ⟨c1, f1, l1⟩ := k1
  obtain ⟨c2, f2, l2⟩ := k2
  have Hq := Lib.hid hq
  have hli : (B.lots.length : Int) ≤ 4 := by omega
  clear H2 hq hsz hnb
  go_wp2_with (at_builtin; refine wpList_appN _ rfl _ _ rfl W.heap.size (.slice none 0 0) [] rfl (OwnInts.nil _ _) (nb + 1) 0 4 m (by rw [Hm.out]; rfl) Hq.out (by simp; have := Hm.out; omega) (Nat.le_refl _) ?_)
  intro v' w2 ho hb _ _
  have ho' : OwnInts w2 W.heap.size v' m := ho
  obtain ⟨A, c, rfl, hi, hc, hc2, hA, _⟩ := ho'.reads
  have hfin := below_then HH2.out HH2.out.size hb
  have Hi := Lib.hid hi
  have Hfin := Lib.hid hfin
  have hAn : ∀ b o, A = some ⟨b, o, none⟩ → w.heap.size ≤ b := fun b o e => Nat.le_trans Hsz.out (hA b o e)
  have HA := Lib.hid hAn
  have hci : (m.length : Int) ≤ c := by omega
  clear ho ho' hb hi hfin hA hAn
  go_wp2
  go_ret
  exact ⟨A, rfl, Hi.out, HA.out, Hfin.out⟩
/-- is each number of bars among those of its lot? -/
def inTo (B : ForgeV) (l : List Int) (k : Nat) : Bool := (List.range k).all fun j => inB (gi l j) 0 (gl B.lots j).bars
theorem inTo_succ (B : ForgeV) (l : List Int) (k : Nat) : inTo B l (k + 1) = (inTo B l k && inB (gi l k) 0 (gl B.lots k).bars) := range_all_succ _ _
def withinS (B : ForgeV) (l : List Int) : Bool := decide (l.length = B.lots.length) && inTo B l B.lots.length
def isMeltR (B : ForgeV) (l : List Int) : Value := bif goodF B then .tuple #[.bool (withinS B l && rightS B l), .int .i64 0] else .tuple #[.bool false, .int .i64 20]
theorem withinS_len {B : ForgeV} {l : List Int} (h : ¬ l.length = B.lots.length) : withinS B l = false := by simp [withinS, h]
theorem withinS_false {B : ForgeV} {l : List Int} (k : Nat) (hk : k < B.lots.length) (h : inB (gi l k) 0 (gl B.lots k).bars = false) : withinS B l = false := by
  rw [withinS, Bool.and_eq_false_iff]; right
  rw [Bool.eq_false_iff]; intro ha
  have := range_all_get ha k hk
  rw [h] at this; cases this
theorem withinS_bd {B : ForgeV} (g : B.Good) {l : List Int} (h : withinS B l = true) (k : Nat) : 0 ≤ gi l k ∧ gi l k ≤ 6 := by
  rw [withinS, Bool.and_eq_true, decide_eq_true_eq] at h
  by_cases hk : k < B.lots.length
  · have h1 := inB_true (range_all_get h.2 k hk)
    have h2 := (g.lot k hk).1
    omega
  · rw [gi_out (by omega)]; omega
set_option maxRecDepth 100000 in
set_option maxHeartbeats 4000000 in
theorem IsMelt_calls (B : ForgeV) (A : Option Addr) (c : Nat) (l : List Int) (w : World) (hB : B.Reads w) (hp : IntsAt w A l) (hE : EndsAt w) :
    Calls Tryd.prog 18 #[B.val, .slice A l.length c] w fun e w' => e = .returned (isMeltR B l) ∧ Below w.heap.size w w' := by
  have HB := Lib.hid hB
  have HP := Lib.hid hp
  have HE := Lib.hid hE
  clear hB hp hE
  have Hb : Below w.heap.size w (w.alloc (.cells B.cells 28)) := (Below.refl _ _).alloc (Nat.le_refl _) _
  have k2 := BoxAt.new w B.cells 28
  have hr : Hid (isMeltR B l = bif goodF B then .tuple #[.bool (withinS B l && rightS B l), .int .i64 0] else .tuple #[.bool false, .int .i64 20]) := Lib.hid rfl
  unfold ForgeV.val ForgeV.cells
  unfold ForgeV.cells at k2 Hb
  go_enter Tryd.func18, Tryd.ntmps18
  go_wp2_with fail
  generalize w.alloc _ = W at *
  refine (eq0_1 (v' := B.val) (by unfold ForgeV.val ForgeV.cells; rfl) (Check_calls B _ (HB.out.below Hb))).mono ?_
  rintro e w1 ⟨rfl, hb⟩
  have H1 := below_then Hb Hb.size hb
  have K2 := Lib.hid (k2.below hb)
  have Hle := Lib.hid (show w.heap.size < w1.heap.size from (k2.below hb).lt)
  obtain ⟨c2, f2, l2⟩ := K2.out
  clear hb k2
  cases hg : goodF B with
  | false =>
    rw [cond_false]
    rw [hg, cond_false] at hr
    go_wp2
    go_ret2
    exact ⟨hr.out.symm ▸ rfl, H1⟩
  | true =>
    rw [cond_true]
    rw [hg, cond_true] at hr
    have g := (goodF_iff B).1 hg
    have Hg := Lib.hid g
    have hl4 := g.many
    clear g hg
    by_cases hlen : l.length = B.lots.length
    · have hbn : ((l.length : Int) != (B.lots.length : Int)) = false := by rw [bne_eq_false_iff_eq]; omega
      have Hlen := Lib.hid hlen
      have Hpos := Lib.hid (show 0 < l.length by omega)
      clear hlen
      go_upto_region 7 with (fail)
      clear hbn c2 f2 l2
      have H2 : Below w.heap.size w (w1.alloc (.cells #[.int .i64 0, .int .i64 0, .int .i64 0, .int .i64 0] 85)) := H1.alloc H1.size _
      have k3 : BoxAt (w1.alloc (.cells #[.int .i64 0, .int .i64 0, .int .i64 0, .int .i64 0] 85)) w1.heap.size (pad4 (l.take 0)) := BoxAt.new _ _ _
      replace K2 := Lib.hid (K2.out.alloc (.cells #[.int .i64 0, .int .i64 0, .int .i64 0, .int .i64 0] 85))
      generalize w1.alloc _ = W1 at *
      have hn3 : w.heap.size ≤ w1.heap.size ∧ w.heap.size ≠ w1.heap.size := by have := Hle.out; omega
      generalize w1.heap.size = n3 at *
      have Hn3 := Lib.hid hn3
      have K3 := Lib.hid k3
      have HH := Lib.hid H2
      obtain ⟨b, o, rfl⟩ := HP.out.some_ Hpos.out
      clear k3 H2 hn3 H1 Hle
      obtain ⟨lb, lo, hle⟩ := HB.out.lots.some_ (by omega)
      have k2 := K2.out
      rw [hle] at k2
      have hL := HB.out.lots
      rw [hle] at hL
      have HL := Lib.hid hL
      have Hle := Lib.hid hle
      clear hle hL K2
      have K2 := Lib.hid k2
      clear k2
      go_wp2
      go_loopg [23] l.length (fun gq i wr => ∃ k : Nat, k ≤ l.length ∧ gq = l.length - k ∧ i = .int .i64 k ∧ inTo B l k = true ∧ Below w.heap.size w wr ∧ BoxAt wr w.heap.size #[.slice (some ⟨lb, lo, none⟩) B.lots.length B.lCap, .int .i64 B.tlo, .int .i64 B.thi, .int .i64 B.thick, .int .i64 B.crack, .int .i64 B.glo, .int .i64 B.ghi, .slice B.sA B.thins.length B.sCap,
    .int .i64 B.hot, .int .i64 B.least, .int .i64 B.clo, .int .i64 B.chi, .int .i64 B.coal, .slice B.kA B.looks.length B.kCap] ∧ BoxAt wr n3 (pad4 (l.take k)))
      case atStart => exact ⟨0, Nat.zero_le _, rfl, rfl, rfl, HH.out, K2.out, K3.out⟩
      case round =>
        obtain ⟨k, hk, hgk, rfl, hin, hBe, hb2, hb3⟩ := hrel
        have Hgk := Lib.hid hgk
        have Hin := Lib.hid hin
        clear hgk K2 K3 hin HH
        by_cases hlt : k < l.length
        · have hll := Hlen.out
          have hltL : k < B.lots.length := by omega
          have hlt4 : k < 4 := by omega
          have hki4 : (k : Int) < 4 := by omega
          have hki : (k : Int) < l.length := by omega
          have hkiL : (k : Int) < B.lots.length := by omega
          clear hll
          have q0 := cell_below hBe (HP.out.at_ hlt)
          have qbl := World.block_lt_of_cell? _ _ q0
          simp only at qbl
          obtain ⟨p0, p1, p2⟩ := HL.out.at_ hltL
          replace p0 := cell_below hBe p0
          have pbl := World.block_lt_of_cell? _ _ p0
          simp only at pbl
          have l3 := hb3.lt
          have c3 := hb3.cell k
          rw [pad4_get _ k hlt4] at c3
          have f3 := hb3.frozen k
          have hs3 := hb3.put k (.int .i64 (gi l k)) (by simp [pad4]; omega)
          rw [pad4_take_succ _ k hlt4] at hs3
          have hs2 := hb2.keep (Keep.setCell (M := fun k => k = n3) (Keep.refl _ _) (p := ⟨n3, k, none⟩) (.inl rfl) (.int .i64 (gi l k))) Hn3.out.2
          have hse := hBe.setCell (p := ⟨n3, k, none⟩) Hn3.out.1 (.int .i64 (gi l k))
          have HS2 := Lib.hid hs2
          have HS3 := Lib.hid hs3
          have HSE := Lib.hid hse
          have HBe := Lib.hid hBe
          obtain ⟨c2, f2, l2⟩ := hb2
          clear hs2 hs3 hse hb3 hBe p1 p2
          cases hi : inB (gi l k) 0 (gl B.lots k).bars with
          | false =>
            have hf := Lib.hid (withinS_false k hltL hi)
            go_wp2_with (go_at_call 65; refine (in_calls _ _ _ _).mono ?_; rintro e w' ⟨rfl, rfl⟩; rw [hi])
            go_ret2
            exact ⟨by rw [hr.out, hf.out]; rfl, HBe.out⟩
          | true =>
            go_wp2_with (go_at_call 65; refine (in_calls _ _ _ _).mono ?_; rintro e w' ⟨rfl, rfl⟩; rw [hi])
            go_roundg (l.length - (k + 1))
            case measure => have := Hgk.out; omega
            case rel => exact ⟨k + 1, by omega, rfl, by go_num, by rw [inTo_succ, Hin.out, hi]; rfl, HSE.out, HS2.out, HS3.out⟩
        · obtain rfl : k = l.length := by omega
          rw [List.take_length] at hb3
          have hw : Hid (withinS B l = true) := by unfold Hid withinS; rw [← Hlen.out, Hin.out]; simp
          have HBe := Lib.hid hBe
          have Hb3 := Lib.hid hb3
          obtain ⟨c2, f2, l2⟩ := hb2
          obtain ⟨c3, f3, l3⟩ := hb3
          unfold pad4 at c3
          clear hBe
          go_wp2_with fail
          refine (eq0_2 (v' := B.val) (by unfold ForgeV.val ForgeV.cells; rw [Hle.out]) (right_calls B Hg.out l (fun k => by have := withinS_bd Hg.out hw.out k; omega) _ (HB.out.below HBe.out) (HE.out.below HBe.out))).mono ?_
          rintro e w5 ⟨rfl, hb5⟩
          have hfin := below_then HBe.out HBe.out.size hb5
          clear hb5
          go_wp2
          go_ret2
          exact ⟨by rw [hr.out, hw.out]; rfl, hfin⟩
    · have hbn : ((l.length : Int) != (B.lots.length : Int)) = true := by rw [bne_iff_ne]; omega
      have hf := Lib.hid (withinS_len hlen)
      go_wp2
      go_ret2
      exact ⟨by rw [hr.out, hf.out]; rfl, H1⟩
end
end Go.Proofs.YtgfbfbfajnfbjaaDoor
