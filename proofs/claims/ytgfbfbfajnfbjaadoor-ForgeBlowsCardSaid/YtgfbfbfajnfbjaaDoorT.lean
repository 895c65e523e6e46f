import Derived.Test.YtgfbfbfajnfbjaaDoorS
import Derived.Test.YtgfbfbfajnfbjaaDoorU
namespace Go.Proofs.YtgfbfbfajnfbjaaDoor
section
open Go.RowKit Go.Shelf
attribute [local go_sem] Oper.semAt_some
set_option linter.unusedSimpArgs false
set_option linter.unusedVariables false
def askedE (B : ForgeV) (right : Bool) : Int := bif goodF B then (bif right then (bif canS B 0 then 0 else 22) else 21) else 20
def askedR (B : ForgeV) (right : Bool) : Value := .tuple #[.agg (if askedE B right = 0 then B.cells else zeroF), .int .i64 (askedE B right)]
theorem asked_end {a : Act} {W w : World} {n4 : Nat} {x0 x1 x2 x3 x4 x5 x6 x7 x8 x9 x10 x11 x12 x13 e : Value} {B : ForgeV} {r : Bool}
    (k : BoxAt W n4 #[x0, x1, x2, x3, x4, x5, x6, x7, x8, x9, x10, x11, x12, x13]) (h4 : a.tmps.getD 4 undef = .pointer (some ⟨n4, 0, none⟩)) (h5 : a.tmps.getD 5 undef = e) (hd : a.defers = [])
    (hv : askedR B r = .tuple #[.agg #[x0, x1, x2, x3, x4, x5, x6, x7, x8, x9, x10, x11, x12, x13], e]) (hb : Below w.heap.size w W) :
    bodyPost Tryd.prog Tryd.f80 (fun e w' => e = .returned (askedR B r) ∧ Below w.heap.size w w') .ret a W := by
  obtain ⟨c, f, l⟩ := k
  refine bodyPost_ret (v := .tuple #[.agg #[x0, x1, x2, x3, x4, x5, x6, x7, x8, x9, x10, x11, x12, x13], e]) ?_ hd ⟨by rw [hv], hb⟩
  rw [results_cell_tmp Tryd.results80, h4, h5]
  simp [go_sem, c]
set_option maxRecDepth 100000 in
set_option maxHeartbeats 4000000 in
theorem asked_calls (B : ForgeV) (right : Bool) (w : World) (hB : B.Reads w) :
    Calls Tryd.prog 80 #[B.val, .bool right] w fun e w' => e = .returned (askedR B right) ∧ Below w.heap.size w w' := by
  have HB := Lib.hid hB
  have k2 := (BoxAt.new w B.cells 28).alloc (.cells zeroF 87)
  have k4 := BoxAt.new (w.alloc (.cells B.cells 28)) zeroF 87
  have Hb : Below w.heap.size w ((w.alloc (.cells B.cells 28)).alloc (.cells zeroF 87)) := ((Below.refl _ _).alloc (Nat.le_refl _) _).alloc (by simp) _
  rw [World.size_alloc] at k4
  have hR : Hid (askedR B right = .tuple #[.agg (if askedE B right = 0 then B.cells else zeroF), .int .i64 (askedE B right)]) := Lib.hid rfl
  have hE : Hid (askedE B right = bif goodF B then (bif right then (bif canS B 0 then 0 else 22) else 21) else 20) := Lib.hid rfl
  clear hB
  unfold zeroF at k2 k4 Hb
  unfold ForgeV.val
  unfold ForgeV.cells at k2 k4 Hb ⊢
  go_enter Tryd.func80, Tryd.ntmps80
  go_upto_region 1 with (fail)
  generalize (w.alloc _).alloc _ = W at *
  have hn4 : w.heap.size ≠ w.heap.size + 1 ∧ w.heap.size ≤ w.heap.size + 1 := by omega
  generalize w.heap.size + 1 = n4 at *
  have H1 := Lib.hid Hb
  have K4 := Lib.hid k4
  have K2 := Lib.hid k2
  obtain ⟨c2, f2, l2⟩ := k2
  clear Hb k4
  go_wp2_with fail
  refine (eq0_1 (v' := B.val) (by unfold ForgeV.val ForgeV.cells; rfl) (Check_calls B _ (HB.out.below H1.out))).mono ?_
  rintro e w1 ⟨rfl, hb⟩
  clear c2 f2 l2
  have H2 := below_then H1.out H1.out.size hb
  replace K2 := Lib.hid (K2.out.below hb)
  replace K4 := Lib.hid (K4.out.below hb)
  obtain ⟨c2, f2, l2⟩ := K2.out
  obtain ⟨c4, f4, l4⟩ := K4.out
  clear hb
  cases hg : goodF B with
  | false =>
    rw [cond_false]
    have hz := Lib.hid (show askedR B right = .tuple #[.agg zeroF, .int .i64 20] by rw [hR.out, hE.out, hg]; simp)
    clear hg
    go_wp2
    change bodyPost _ _ _ _ _ (putAll w1 n4 0 zeroF.toList)
    have k9 := putAll_box K4.out zeroF.toList rfl
    exact asked_end k9 rfl rfl rfl hz.out (H2.trans ((putAll_keep n4 _ 0 w1).below (fun k _ e => by omega) H2.size))
  | true =>
    rw [cond_true]
    have g := (goodF_iff B).1 hg
    have Hg := Lib.hid g
    clear g
    cases right with
    | false =>
      have hz := Lib.hid (show askedR B false = .tuple #[.agg zeroF, .int .i64 21] by rw [hR.out, hE.out, hg]; simp)
      clear hg
      go_wp2
      change bodyPost _ _ _ _ _ (putAll w1 n4 0 zeroF.toList)
      have k9 := putAll_box K4.out zeroF.toList rfl
      exact asked_end k9 rfl rfl rfl hz.out (H2.trans ((putAll_keep n4 _ 0 w1).below (fun k _ e => by omega) H2.size))
    | true =>
      have Hgg := Lib.hid hg
      clear hg c4 f4 l4
      have k7 := BoxAt.new w1 B.cells 87
      have hb7 : Below w1.heap.size w1 (w1.alloc (.cells B.cells 87)) := (Below.refl _ _).alloc (Nat.le_refl _) _
      unfold ForgeV.cells at k7 hb7
      go_upto_region 7 with (fail)
      generalize w1.alloc _ = w2 at *
      have H3 := below_then H2 H2.size hb7
      have hn47 : n4 ≠ w1.heap.size := by have := K4.out.lt; omega
      replace K4 := Lib.hid (K4.out.below hb7)
      clear hb7 c2 f2 l2 H2 K2
      have K7 := Lib.hid k7
      generalize w1.heap.size = n7 at *
      obtain ⟨c7, f7, l7⟩ := k7
      go_wp2_with fail
      refine (eq0_2 (v' := B.val) (by unfold ForgeV.val ForgeV.cells; rfl) (can_calls B Hg.out 0 (by decide) _ (HB.out.below H3))).mono ?_
      rintro e w3 ⟨rfl, hb⟩
      have H4 := below_then H3 H3.size hb
      replace K4 := Lib.hid (K4.out.below hb)
      replace K7 := Lib.hid (K7.out.below hb)
      clear hb c7 f7 l7 H3
      obtain ⟨c4, f4, l4⟩ := K4.out
      cases hc : canS B 0 with
      | false =>
        have hz := Lib.hid (show askedR B true = .tuple #[.agg zeroF, .int .i64 22] by rw [hR.out, hE.out, Hgg.out, hc]; simp)
        clear hc
        go_wp2
        change bodyPost _ _ _ _ _ (putAll w3 n4 0 zeroF.toList)
        have k9 := putAll_box K4.out zeroF.toList rfl
        exact asked_end k9 rfl rfl rfl hz.out (H4.trans ((putAll_keep n4 _ 0 w3).below (fun k _ e => by omega) H4.size))
      | true =>
        have hz := Lib.hid (show askedR B true = .tuple #[.agg B.cells, .int .i64 0] by rw [hR.out, hE.out, Hgg.out, hc]; simp)
        clear hc
        obtain ⟨c7, f7, l7⟩ := K7.out
        go_wp2
        change bodyPost _ _ _ _ _ (putAll w3 n4 0 B.cells.toList)
        have k9 := putAll_box K4.out B.cells.toList rfl
        exact asked_end k9 rfl rfl rfl hz.out (H4.trans ((putAll_keep n4 _ 0 w3).below (fun k _ e => by omega) H4.size))
end
end Go.Proofs.YtgfbfbfajnfbjaaDoor
