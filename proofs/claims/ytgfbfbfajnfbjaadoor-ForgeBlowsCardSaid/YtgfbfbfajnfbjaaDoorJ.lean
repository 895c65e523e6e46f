import Derived.Test.YtgfbfbfajnfbjaaDoorI
import Derived.Test.YtgfbfbfajnfbjaaDoorB
namespace Go.Proofs.YtgfbfbfajnfbjaaDoor
section
open Go.RowKit Go.Shelf
attribute [local go_sem] Oper.semAt_some
set_option linter.unusedSimpArgs false
set_option linter.unusedVariables false
/-- the melts that begin so -/
def meltsFrom (B : ForgeV) (left : List Int) (pre : List Int) (r : Int) : List (List Int) := ((choices left r).map (pre ++ ·)).filter (rightS B)
theorem meltsFrom_nil (B : ForgeV) (pre : List Int) (r : Int) : meltsFrom B [] pre r = if 0 < r then [] else if rightS B pre then [pre] else [] := by
  unfold meltsFrom choices
  by_cases h : 0 < r
  · rw [if_pos h, if_pos h]; rfl
  · rw [if_neg h, if_neg h]; simp only [List.map_cons, List.append_nil, List.map_nil]
    cases hr : rightS B pre <;> simp [hr]
def mkid (B : ForgeV) (hv pre : List Int) (r : Int) (k : Nat) : List (List Int) := meltsFrom B (hv.drop (pre.length + 1)) (pre ++ [(k : Int)]) (r - k)
theorem drop_gi {l : List Int} {p : Nat} (h : p < l.length) : l.drop p = gi l p :: l.drop (p + 1) := by
  rw [List.drop_eq_getElem_cons h]
  unfold gi
  rw [List.getD_eq_getElem?_getD, List.getElem?_eq_getElem h]; rfl
theorem meltsFrom_succ (B : ForgeV) (hv pre : List Int) (r : Int) (h : pre.length < hv.length) :
    meltsFrom B (hv.drop pre.length) pre r = (List.range (min (gi hv pre.length) r + 1).toNat).flatMap (mkid B hv pre r) := by
  rw [drop_gi h]
  unfold meltsFrom
  rw [choices, List.map_flatMap, List.filter_flatMap]
  congr 1
  funext k
  unfold mkid meltsFrom
  rw [List.map_map]
  congr 1
  apply List.map_congr_left
  intro x _
  simp
theorem meltsS_eq (B : ForgeV) (hv : List Int) (r : Int) : meltsS B hv r = meltsFrom B hv [] r := by unfold meltsS meltsFrom; simp
theorem flat_split {α : Type} (f : Nat → List α) (k n : Nat) (h : k < n) : (List.range n).flatMap f = (List.range k).flatMap f ++ f k ++ (List.range' (k + 1) (n - k - 1)).flatMap f := by
  rw [range_split k h]; simp
theorem flat_succ {α : Type} (f : Nat → List α) (k : Nat) : (List.range (k + 1)).flatMap f = (List.range k).flatMap f ++ f k := by
  rw [List.range_succ]; simp
theorem gi_snoc_lt (p : List Int) (x : Int) (k : Nat) (h : k < p.length) : gi (p ++ [x]) k = gi p k := by
  unfold gi; rw [List.getD_eq_getElem?_getD, List.getD_eq_getElem?_getD, List.getElem?_append_left h]
theorem gi_snoc_at (p : List Int) (x : Int) : gi (p ++ [x]) p.length = x := by
  unfold gi; rw [List.getD_eq_getElem?_getD]; simp
theorem gi_snoc (p : List Int) (x : Int) (k : Nat) : gi (p ++ [x]) k = if k = p.length then x else gi p k := by
  by_cases h : k < p.length
  · rw [gi_snoc_lt _ _ _ h, if_neg (by omega)]
  · by_cases e : k = p.length
    · subst e; rw [gi_snoc_at, if_pos rfl]
    · rw [if_neg e, gi_out h, gi_out (by simp; omega)]
theorem pad4_snoc0 (p : List Int) : pad4 (p ++ [0]) = pad4 p := by
  unfold pad4
  simp only [gi_snoc]
  congr 1
  have h : ∀ k, (if k = p.length then (0 : Int) else gi p k) = gi p k := fun k => by
    by_cases e : k = p.length
    · rw [if_pos e, gi_out (by omega)]
    · rw [if_neg e]
  simp only [h]
theorem pad4_snoc_set (p : List Int) (x y : Int) (h : p.length < 4) : (pad4 (p ++ [x])).setIfInBounds p.length (.int .i64 y) = pad4 (p ++ [y]) := by
  have := pad4_set (p ++ [x]) p.length h (p ++ [y]) (fun j hj => by
    rw [gi_snoc, gi_snoc, gi_snoc]
    by_cases e : j = p.length
    · subst e; simp
    · rw [if_neg e, if_neg e, if_neg e])
  rw [gi_snoc_at] at this
  exact this
/-- what each call of 'take' finds in memory -/
structure MEnv (B : ForgeV) (hv : List Int) (w0 : World) (bB bY bH bO l : Nat) (W : World) : Prop where
  old : Below w0.heap.size w0 W
  kB : BoxAt W bB B.cells
  kY : BoxAt W bY #[.func (.yield l) #[] #[]]
  kH : BoxAt W bH (pad4 hv)
  kO : BoxAt W bO #[.func (.func 103) #[] #[.pointer (some ⟨bB, 0, none⟩), .pointer (some ⟨bY, 0, none⟩), .pointer (some ⟨bH, 0, none⟩), .pointer (some ⟨bO, 0, none⟩)]]
theorem MEnv.keep {B : ForgeV} {hv : List Int} {w0 : World} {bB bY bH bO l : Nat} {M : Nat → Prop} {W W' : World} (h : MEnv B hv w0 bB bY bH bO l W) (k : Keep M W W') (hM : ∀ x, M x → w0.heap.size ≤ x ∧ x ≠ bB ∧ x ≠ bY ∧ x ≠ bH ∧ x ≠ bO) : MEnv B hv w0 bB bY bH bO l W' :=
  ⟨h.old.trans (k.below (fun x _ hx => (hM x hx).1) h.old.size), h.kB.keep k (fun e => (hM _ e).2.1 rfl), h.kY.keep k (fun e => (hM _ e).2.2.1 rfl), h.kH.keep k (fun e => (hM _ e).2.2.2.1 rfl), h.kO.keep k (fun e => (hM _ e).2.2.2.2 rfl)⟩
theorem MEnv.below {B : ForgeV} {hv : List Int} {w0 : World} {bB bY bH bO l : Nat} {W W' : World} (h : MEnv B hv w0 bB bY bH bO l W) (k : Below W.heap.size W W') : MEnv B hv w0 bB bY bH bO l W' :=
  ⟨below_then h.old h.old.size k, h.kB.below k, h.kY.below k, h.kH.below k, h.kO.below k⟩
/-- A round's yield of a melt. -/
def EncMelt (m : List Int) (vs : Array Value) (_ : World) : Prop := vs = #[.agg (pad4 m)]
/-- what a call of 'take' comes to -/
def OnPost (xs : List (List Int)) (M : Nat → Prop) (l : Nat) (J : List (List Int) → (Nat → Prop) → World → Prop) (Jx : List (List Int) → World → Prop) (pre mine : List (List Int)) (Pv : Nat → Prop) (W : World) (e : Ending) (W' : World) : Prop :=
  (e = .returned (.bool true) ∧ J (pre ++ mine) Pv W' ∧ Keep (fun k => M k ∨ k = l) W W') ∨ (e = .returned (.bool false) ∧ ∃ pr, pr <+: xs ∧ Jx pr W')
theorem OnPost.bool {xs : List (List Int)} {M : Nat → Prop} {l : Nat} {J : List (List Int) → (Nat → Prop) → World → Prop} {Jx : List (List Int) → World → Prop} {pre mine : List (List Int)} {Pv : Nat → Prop} {W W' : World} {e : Ending} (h : OnPost xs M l J Jx pre mine Pv W e W') :
    ∃ r, e = .returned (.bool r) ∧ Hid ((r = true ∧ J (pre ++ mine) Pv W' ∧ Keep (fun k => M k ∨ k = l) W W') ∨ (r = false ∧ ∃ pr, pr <+: xs ∧ Jx pr W')) := by
  rcases h with ⟨rfl, h⟩ | ⟨rfl, h⟩
  · exact ⟨true, rfl, .inl ⟨rfl, h⟩⟩
  · exact ⟨false, rfl, .inr ⟨rfl, h⟩⟩
def TakeCall (B : ForgeV) (hv : List Int) (w0 : World) (bB bY bH bO l N : Nat) (xs : List (List Int)) (M : Nat → Prop) (J : List (List Int) → (Nat → Prop) → World → Prop) (Jx : List (List Int) → World → Prop) (n : Nat) : Prop :=
  ∀ (dn rest : List (List Int)) (pre : List Int) (r : Int) (hn : pre.length + n = B.lots.length) (hr : 0 ≤ r ∧ r ≤ 24) (hp : ∀ k, 0 ≤ gi pre k ∧ gi pre k ≤ 24) (Pv : Nat → Prop) (W : World) (hP : N ≤ W.heap.size ∧ ∀ p, Pv p → N ≤ p ∧ p < W.heap.size) (hE : MEnv B hv w0 bB bY bH bO l W)
    (hx : xs = dn ++ meltsFrom B (hv.drop pre.length) pre r ++ rest) (h0 : J dn Pv W),
    CallsIn Fence.wide 0 Tryd.prog 103 #[.int .i64 pre.length, .agg (pad4 pre), .int .i64 r, .pointer (some ⟨bB, 0, none⟩), .pointer (some ⟨bY, 0, none⟩), .pointer (some ⟨bH, 0, none⟩), .pointer (some ⟨bO, 0, none⟩)] W
      (OnPost xs M l J Jx dn (meltsFrom B (hv.drop pre.length) pre r) Pv W)
end
section
open Go.RowKit Go.Shelf
attribute [local go_sem] Oper.semAt_some
set_option linter.unusedSimpArgs false
set_option linter.unusedVariables false
theorem entersTake : ∀ args w, (callFunc 103 args).run Tryd.prog w = .ok (.enter 103 args) w := enters_of Tryd.func103 (by kernel_rfl) rfl
theorem entersMelts1 : ∀ args w, (callFunc 102 args).run Tryd.prog w = .ok (.enter 102 args) w := enters_of Tryd.func102 (by kernel_rfl) rfl
set_option maxRecDepth 100000 in
set_option maxHeartbeats 4000000 in
theorem take_zero (B : ForgeV) (g : B.Good) (hv : List Int) (hvl : hv.length = B.lots.length) (w0 : World) (hB : B.Reads w0) (hMk : EndsAt w0) (bB bY bH bO l N : Nat) (xs : List (List Int)) (M : Nat → Prop) (J : List (List Int) → (Nat → Prop) → World → Prop) (Jx : List (List Int) → World → Prop)
  (hJ : ∀ pre Pv Pv' A B, J pre Pv A → Keep Pv A B → (∀ p, Pv' p → Pv p ∨ A.heap.size ≤ p) → J pre Pv' B)
  (hY : ∀ pre Pv x rest vs W1, xs = pre ++ x :: rest → J pre Pv W1 → (∀ p, Pv p → N ≤ p ∧ p < W1.heap.size) → EncMelt x vs W1 → YieldAt Fence.wide 0 Tryd.prog l vs W1 fun e W' =>
      (e = .returned (.bool true) ∧ J (pre ++ [x]) Pv W' ∧ Keep (fun k => M k ∨ k = l) W1 W') ∨ (e = .returned (.bool false) ∧ Jx (pre ++ [x]) W')) : TakeCall B hv w0 bB bY bH bO l N xs M J Jx 0 := by
  intro dn rest pre r hn hr hp Pv W hPv hE hx h0
  have hps : meltsFrom B (hv.drop pre.length) pre r = if 0 < r then [] else if rightS B pre then [pre] else [] := by
    rw [List.drop_of_length_le (by omega), meltsFrom_nil]
  have hln : (pre.length : Int) = B.lots.length := by omega
  rw [hln]
  have hb8 : Below W.heap.size W (W.alloc (.cells (pad4 pre) 85)) := (Below.refl _ _).alloc (Nat.le_refl _) _
  have k8 := BoxAt.new W (pad4 pre) 85
  have hE8 := hE.below hb8
  have hJ8 := hJ _ _ _ _ _ h0 (Keep.of_below hb8) (fun _ h => .inl h)
  have Hg := Lib.hid g
  have HB := Lib.hid (hB.below hE8.old)
  have HM := Lib.hid (hMk.below hE8.old)
  have Hp := Lib.hid hp
  have Hx := Lib.hid hx
  have Hps := Lib.hid hps
  obtain ⟨old, kB, kY, kH, kO⟩ := hE8
  have KY := Lib.hid kY
  have K8 := Lib.hid k8
  clear hps hx hp hMk hB g hE h0 hn hvl
  unfold ForgeV.cells at kB
  refine callsIn_of_wp Tryd.func103 rfl trivial ?_ rfl
  simp only [Tryd.ntmps103, List.size_toArray, List.length_cons, List.length_nil, Nat.reduceAdd, Nat.reduceSub, Array.replicate_succ, Array.replicate_zero, List.push_toArray, List.append_toArray, List.nil_append, List.cons_append]
  gi_upto_region 1 with (fail)
  have HJ8 := Lib.hid hJ8
  have HB8 := Lib.hid hb8
  generalize W.alloc _ = W8 at *
  obtain ⟨cB, fB, lB⟩ := kB
  obtain ⟨c8, f8, l8⟩ := k8
  unfold pad4 at c8
  generalize W.heap.size = n8 at c8 f8 l8 K8 ⊢
  clear hb8 hJ8 kY kH kO old
  by_cases h0 : 0 < r
  · have hps := Hps.out
    rw [if_pos h0] at hps
    have HPS := Lib.hid hps
    clear hps Hps Hx
    gi_wp2
    refine ⟨trivial, ?_⟩
    gi_wp2
    refine ⟨(by intro f h; cases h), ?_⟩
    gi_wp2
    go_ret
    exact .inl ⟨rfl, by rw [HPS.out, List.append_nil]; exact HJ8.out, Keep.of_below HB8.out⟩
  · cases hi : rightS B pre with
    | false =>
      have hps := Hps.out
      rw [if_neg h0, hi, if_neg (by decide)] at hps
      have HPS := Lib.hid hps
      clear hps Hps Hx
      gi_wp2_with fail
      refine ⟨trivial, rfl, ?_⟩
      refine (callsIn_wide.2 (eq0_2 (v' := B.val) (by unfold ForgeV.val ForgeV.cells; rfl) (right_calls B Hg.out pre Hp.out _ HB.out HM.out))).mono ?_
      rintro e w1 ⟨rfl, hb⟩
      rw [hi]
      have hJ1 := hJ _ _ _ _ _ HJ8.out (Keep.of_below hb) (fun _ h => .inl h)
      have hK1 : Keep (fun k => M k ∨ k = l) W w1 := (Keep.of_below HB8.out).trans (Keep.of_below hb)
      clear hb
      gi_wp2
      (repeat (refine ⟨(by intro f h; cases h), ?_⟩; gi_wp2))
      go_ret
      exact .inl ⟨rfl, by rw [HPS.out, List.append_nil]; exact hJ1, hK1⟩
    | true =>
      have hps := Hps.out
      rw [if_neg h0, hi, if_pos rfl] at hps
      have hx := Hx.out
      rw [hps] at hx
      have HPS := Lib.hid hps
      clear hps Hps Hx
      gi_wp2_with fail
      refine ⟨trivial, rfl, ?_⟩
      refine (callsIn_wide.2 (eq0_2 (v' := B.val) (by unfold ForgeV.val ForgeV.cells; rfl) (right_calls B Hg.out pre Hp.out _ HB.out HM.out))).mono ?_
      rintro e w1 ⟨rfl, hb⟩
      rw [hi]
      have hJ1 := hJ _ _ _ _ _ HJ8.out (Keep.of_below hb) (fun _ h => .inl h)
      have hK1 : Keep (fun k => M k ∨ k = l) W w1 := (Keep.of_below HB8.out).trans (Keep.of_below hb)
      obtain ⟨cY1, fY1, lY1⟩ := KY.out.below hb
      obtain ⟨c81, f81, l81⟩ := K8.out.below hb
      unfold pad4 at c81
      obtain ⟨fn, tmps, assign, body, hy, hR⟩ := hY dn Pv pre rest #[.agg (pad4 pre)] _ (by rw [hx]; simp) hJ1 (fun p h => by have := hPv.2 p h; have := HB8.out.size; have := hb.size; omega) rfl
      unfold pad4 at hy
      have Hx := Lib.hid hx
      clear hb hJ1 cB fB lB hx c8 f8 l8
      gi_wp2
      refine ⟨rfl, hR.mono ?_⟩
      clear hR hy hY cY1 fY1 lY1 c81 f81 l81
      rintro e W3 (⟨rfl, hJ3, hk3⟩ | ⟨rfl, hJx3⟩)
      · have HJ3 := Lib.hid hJ3
        have HK3 := Lib.hid (hK1.trans hk3)
        clear hJ3 hk3
        gi_wp2
        go_ret
        exact .inl ⟨rfl, by rw [HPS.out]; exact HJ3.out, HK3.out⟩
      · have HJ3 := Lib.hid hJx3
        clear hJx3
        gi_wp2
        go_ret
        exact .inr ⟨rfl, dn ++ [pre], ⟨rest, by rw [Hx.out]⟩, HJ3.out⟩
set_option maxRecDepth 100000 in
set_option maxHeartbeats 4000000 in
theorem take_succ (B : ForgeV) (g : B.Good) (hv : List Int) (hvl : hv.length = B.lots.length) (hvb : ∀ k, 0 ≤ gi hv k ∧ gi hv k ≤ 24) (w0 : World) (bB bY bH bO l N : Nat) (xs : List (List Int)) (M : Nat → Prop) (J : List (List Int) → (Nat → Prop) → World → Prop) (Jx : List (List Int) → World → Prop)
  (hl : w0.heap.size ≤ l) (hM : ∀ k, M k → w0.heap.size ≤ k ∧ k ≤ l) (hlt : (bB ≠ l ∧ ¬ M bB) ∧ (bH ≠ l ∧ ¬ M bH) ∧ l < bY ∧ l < bO)
  (hJ : ∀ pre Pv Pv' A B, J pre Pv A → Keep Pv A B → (∀ p, Pv' p → Pv p ∨ A.heap.size ≤ p) → J pre Pv' B) (n : Nat) (IH : TakeCall B hv w0 bB bY bH bO l N xs M J Jx n) : TakeCall B hv w0 bB bY bH bO l N xs M J Jx (n + 1) := by
  intro dn rest pre r hn hr hp Pv W hPv hE hx h0
  have hl4 := g.many
  have hpl : pre.length < hv.length := by omega
  have hpl4 : pre.length < 4 := by omega
  have hpl4i : (pre.length : Int) < 4 := by omega
  have hne : ((pre.length : Int) == (B.lots.length : Int)) = false := by rw [beq_eq_false_iff_ne]; omega
  have hsucc := meltsFrom_succ B hv pre r hpl
  obtain ⟨m, hm⟩ : ∃ m, m = (min (gi hv pre.length) r + 1).toNat := ⟨_, rfl⟩
  rw [← hm] at hsucc
  have hhv := hvb pre.length
  have hmi : (m : Int) = min (gi hv pre.length) r + 1 := by omega
  have hb8 : Below W.heap.size W (W.alloc (.cells (pad4 pre) 85)) := (Below.refl _ _).alloc (Nat.le_refl _) _
  have k8 := BoxAt.new W (pad4 pre) 85
  have hE8 := hE.below hb8
  have hJ8 := hJ _ _ (fun p => Pv p ∨ p = W.heap.size) _ _ h0 (Keep.of_below hb8) (fun p h => h.imp id (fun e => Nat.le_of_eq e.symm))
  have hO8 := hE.kO.lt
  have HE := Lib.hid hE
  have HPv := Lib.hid hPv
  have Hg := Lib.hid g
  have Hp := Lib.hid hp
  have Hx := Lib.hid hx
  have Hsucc := Lib.hid hsucc
  have Hn := Lib.hid hn
  have Hhv := Lib.hid hhv
  obtain ⟨old, kB, kY, kH, kO⟩ := hE8
  have cHk := kH.cell pre.length
  rw [pad4_get hv _ hpl4] at cHk
  have lH := kH.lt
  clear hsucc hx hp hE h0 hn kY kO old hvb hm hhv kH
  unfold ForgeV.cells at kB
  refine callsIn_of_wp Tryd.func103 rfl trivial ?_ rfl
  simp only [Tryd.ntmps103, List.size_toArray, List.length_cons, List.length_nil, Nat.reduceAdd, Nat.reduceSub, Array.replicate_succ, Array.replicate_zero, List.push_toArray, List.append_toArray, List.nil_append, List.cons_append]
  gi_upto_region 1 with (fail)
  have HJ8 := Lib.hid hJ8
  have HB8 := Lib.hid hb8
  generalize W.alloc _ = W8 at *
  obtain ⟨cB, fB, lB⟩ := kB
  rw [← pad4_snoc0 pre] at k8
  have K8 := Lib.hid k8
  have hn8 : l < W.heap.size := by omega
  generalize hn8e : W.heap.size = n8 at K8 hn8 HJ8 ⊢
  have Hn8 := Lib.hid hn8
  have Hn8e := Lib.hid hn8e
  clear hb8 hJ8 k8 hn8e
  by_cases hle : gi hv pre.length ≤ r
  · have hw : IntKind.i64.wrap (gi hv pre.length + 1) = (m : Int) := by rw [wrap_in (by omega) (by omega)]; omega
    have Hle := Lib.hid hle
    have Hmi := Lib.hid hmi
    gi_upto_region 3 with (fail)
    clear cB fB lB hne
    gi_wp2_with fail
    gi_loopw [37] (fun i wr => ∃ k : Nat, k ≤ m ∧ i = .int .i64 k ∧ J (dn ++ (List.range k).flatMap (mkid B hv pre r)) (fun p => Pv p ∨ p = n8) wr ∧ Keep (fun k => M k ∨ k = l) W wr ∧ ∃ x : Int, BoxAt wr n8 (pad4 (pre ++ [x]))) (fun i _ => m - (intOf i).toNat)
    case atStart => exact ⟨0, Nat.zero_le _, rfl, by simpa using HJ8.out, Keep.of_below HB8.out, 0, K8.out⟩
    case round =>
      obtain ⟨k, hk, rfl, hJk, hkp, x, hb8⟩ := hrel
      have HJk := Lib.hid hJk
      clear hJk K8
      by_cases hlt4 : k < m
      · have hk4 : (k : Int) < m := by omega
        have hbM : ∀ x, M x ∨ x = l → x ≤ l := by rintro x (h | rfl); exact (hM x h).2; omega
        have hn8e := Hn8e.out
        have hn8 := Hn8.out
        have Hlts := Lib.hid (show bB < n8 ∧ bY < n8 ∧ bH < n8 ∧ bO < n8 from by rw [← hn8e]; exact ⟨HE.out.kB.lt, HE.out.kY.lt, HE.out.kH.lt, HE.out.kO.lt⟩)
        have HE2 := Lib.hid (HE.out.keep hkp (fun x hx => ⟨by rcases hx with h | rfl; exact (hM x h).1; exact hl, by rintro rfl; rcases hx with h | h; exact hlt.1.2 h; exact hlt.1.1 h, by have := hbM x hx; omega, by rintro rfl; rcases hx with h | h; exact hlt.2.1.2 h; exact hlt.2.1.1 h, by have := hbM x hx; omega⟩))
        have c8k : wr.cell? ⟨n8, pre.length, none⟩ = some (.int .i64 x) := by rw [hb8.cell, pad4_get _ _ hpl4, gi_snoc_at]
        have f8k := hb8.frozen pre.length
        have l8k := hb8.lt
        have hs := hb8.put pre.length (.int .i64 k) (by simp [pad4]; omega)
        rw [pad4_snoc_set _ _ _ hpl4] at hs
        have hks : Keep (fun q => q = n8) wr (wr.setCell ⟨n8, pre.length, none⟩ (.int .i64 k)) := Keep.setCell (M := fun q => q = n8) (Keep.refl _ _) (p := ⟨n8, pre.length, none⟩) (.inl rfl) _
        have HE5 := Lib.hid (HE2.out.keep hks (fun q e => by subst e; have := Hlts.out; exact ⟨by omega, by omega, by omega, by omega, by omega⟩))
        have HJ5 := Lib.hid (hJ _ _ (fun p => Pv p ∨ p = n8) _ _ HJk.out (hks.mono (fun q _ e => .inr e)) (fun _ h => .inl h))
        have HK5 := Lib.hid (hkp.setCell (p := ⟨n8, pre.length, none⟩) (.inr (Nat.le_of_eq hn8e)) (.int .i64 k))
        have HS := Lib.hid hs
        have hkr : (k : Int) ≤ r := by have := Hmi.out; omega
        have hw2 : IntKind.i64.wrap ((pre.length : Int) + 1) = (pre.length : Int) + 1 := wrap_in (by omega) (by omega)
        have hw3 : IntKind.i64.wrap (r - k) = r - k := wrap_in (by omega) (by omega)
        have HN5 := Lib.hid (show N ≤ (wr.setCell ⟨n8, pre.length, none⟩ (.int .i64 k)).heap.size ∧ ∀ p, (Pv p ∨ p = n8) → N ≤ p ∧ p < (wr.setCell ⟨n8, pre.length, none⟩ (.int .i64 k)).heap.size from by
          have h1 := HPv.out
          have h2 := hks.size
          have h3 := hkp.size
          refine ⟨by omega, fun p h => ?_⟩
          rcases h with h | rfl
          · have := h1.2 p h; omega
          · omega)
        clear hs hks hkp hb8 hbM hn8e hn8
        gi_upto_region 7 with (fail)
        generalize World.setCell wr ⟨n8, pre.length, none⟩ (.int .i64 k) = W5 at *
        obtain ⟨cO, fO, lO⟩ := HE5.out.kO
        obtain ⟨c5, f5, l5⟩ := HS.out
        unfold pad4 at c5
        clear c8k f8k l8k
        gi_wp2_with fail
        refine ⟨trivial, rfl, ?_⟩
        have hlen : (((pre ++ [(k : Int)]).length : Nat) : Int) = (pre.length : Int) + 1 := by simp
        have hkid : mkid B hv pre r k = meltsFrom B (hv.drop (pre ++ [(k : Int)]).length) (pre ++ [(k : Int)]) (r - k) := by unfold mkid; rw [List.length_append]; rfl
        have hih := IH (dn ++ (List.range k).flatMap (mkid B hv pre r)) ((List.range' (k + 1) (m - k - 1)).flatMap (mkid B hv pre r) ++ rest) (pre ++ [(k : Int)]) (r - k) (by have := Hn.out; simp; omega) (by omega) (fun j => by
          rw [gi_snoc]
          split
          · omega
          · exact Hp.out j) (fun p => Pv p ∨ p = n8) W5 HN5.out HE5.out (by rw [Hx.out, Hsucc.out, flat_split (mkid B hv pre r) k m hlt4, hkid]; simp only [List.append_assoc]) HJ5.out
        rw [hlen] at hih
        refine hih.mono ?_
        rintro e W6 hpost
        obtain ⟨b, rfl, hb6⟩ := hpost.bool
        have Hkid := Lib.hid hkid
        clear hpost hih IH cO fO lO c5 f5 l5 hkid hlen
        rcases hb6 with ⟨rfl, hj6, hk6⟩ | ⟨rfl, pr, hpr, hj6⟩
        · have HJ6 := Lib.hid hj6
          have HK6 := Lib.hid (HK5.out.trans hk6)
          have HS6 := Lib.hid (HS.out.keep hk6 (by have := Hn8.out; rintro (h | h); have := (hM _ h).2; omega; omega))
          clear hj6 hk6
          gi_wp2
          go_roundw
          case rel => exact ⟨k + 1, by omega, by go_num, by rw [flat_succ, ← List.append_assoc, Hkid.out]; exact HJ6.out, HK6.out, _, HS6.out⟩
          case measure => simp [intOf]; omega
        · have HJ6 := Lib.hid hj6
          clear hj6
          gi_wp2
          go_ret
          exact .inr ⟨rfl, pr, hpr, HJ6.out⟩
      · obtain rfl : k = m := by omega
        gi_wp2
        go_ret
        exact .inl ⟨rfl, by rw [Hsucc.out]; exact hJ _ _ _ _ _ HJk.out (Keep.refl _ _) (fun _ h => .inl (.inl h)), hkp⟩

  · have hle2 : r < gi hv pre.length := by omega
    have hw : IntKind.i64.wrap (r + 1) = (m : Int) := by rw [wrap_in (by omega) (by omega)]; omega
    have Hle := Lib.hid hle
    have Hmi := Lib.hid hmi
    gi_upto_region 3 with (fail)
    clear cB fB lB hne
    gi_wp2_with fail
    gi_loopw [37] (fun i wr => ∃ k : Nat, k ≤ m ∧ i = .int .i64 k ∧ J (dn ++ (List.range k).flatMap (mkid B hv pre r)) (fun p => Pv p ∨ p = n8) wr ∧ Keep (fun k => M k ∨ k = l) W wr ∧ ∃ x : Int, BoxAt wr n8 (pad4 (pre ++ [x]))) (fun i _ => m - (intOf i).toNat)
    case atStart => exact ⟨0, Nat.zero_le _, rfl, by simpa using HJ8.out, Keep.of_below HB8.out, 0, K8.out⟩
    case round =>
      obtain ⟨k, hk, rfl, hJk, hkp, x, hb8⟩ := hrel
      have HJk := Lib.hid hJk
      clear hJk K8
      by_cases hlt4 : k < m
      · have hk4 : (k : Int) < m := by omega
        have hbM : ∀ x, M x ∨ x = l → x ≤ l := by rintro x (h | rfl); exact (hM x h).2; omega
        have hn8e := Hn8e.out
        have hn8 := Hn8.out
        have Hlts := Lib.hid (show bB < n8 ∧ bY < n8 ∧ bH < n8 ∧ bO < n8 from by rw [← hn8e]; exact ⟨HE.out.kB.lt, HE.out.kY.lt, HE.out.kH.lt, HE.out.kO.lt⟩)
        have HE2 := Lib.hid (HE.out.keep hkp (fun x hx => ⟨by rcases hx with h | rfl; exact (hM x h).1; exact hl, by rintro rfl; rcases hx with h | h; exact hlt.1.2 h; exact hlt.1.1 h, by have := hbM x hx; omega, by rintro rfl; rcases hx with h | h; exact hlt.2.1.2 h; exact hlt.2.1.1 h, by have := hbM x hx; omega⟩))
        have c8k : wr.cell? ⟨n8, pre.length, none⟩ = some (.int .i64 x) := by rw [hb8.cell, pad4_get _ _ hpl4, gi_snoc_at]
        have f8k := hb8.frozen pre.length
        have l8k := hb8.lt
        have hs := hb8.put pre.length (.int .i64 k) (by simp [pad4]; omega)
        rw [pad4_snoc_set _ _ _ hpl4] at hs
        have hks : Keep (fun q => q = n8) wr (wr.setCell ⟨n8, pre.length, none⟩ (.int .i64 k)) := Keep.setCell (M := fun q => q = n8) (Keep.refl _ _) (p := ⟨n8, pre.length, none⟩) (.inl rfl) _
        have HE5 := Lib.hid (HE2.out.keep hks (fun q e => by subst e; have := Hlts.out; exact ⟨by omega, by omega, by omega, by omega, by omega⟩))
        have HJ5 := Lib.hid (hJ _ _ (fun p => Pv p ∨ p = n8) _ _ HJk.out (hks.mono (fun q _ e => .inr e)) (fun _ h => .inl h))
        have HK5 := Lib.hid (hkp.setCell (p := ⟨n8, pre.length, none⟩) (.inr (Nat.le_of_eq hn8e)) (.int .i64 k))
        have HS := Lib.hid hs
        have hkr : (k : Int) ≤ r := by have := Hmi.out; omega
        have hw2 : IntKind.i64.wrap ((pre.length : Int) + 1) = (pre.length : Int) + 1 := wrap_in (by omega) (by omega)
        have hw3 : IntKind.i64.wrap (r - k) = r - k := wrap_in (by omega) (by omega)
        have HN5 := Lib.hid (show N ≤ (wr.setCell ⟨n8, pre.length, none⟩ (.int .i64 k)).heap.size ∧ ∀ p, (Pv p ∨ p = n8) → N ≤ p ∧ p < (wr.setCell ⟨n8, pre.length, none⟩ (.int .i64 k)).heap.size from by
          have h1 := HPv.out
          have h2 := hks.size
          have h3 := hkp.size
          refine ⟨by omega, fun p h => ?_⟩
          rcases h with h | rfl
          · have := h1.2 p h; omega
          · omega)
        clear hs hks hkp hb8 hbM hn8e hn8
        gi_upto_region 7 with (fail)
        generalize World.setCell wr ⟨n8, pre.length, none⟩ (.int .i64 k) = W5 at *
        obtain ⟨cO, fO, lO⟩ := HE5.out.kO
        obtain ⟨c5, f5, l5⟩ := HS.out
        unfold pad4 at c5
        clear c8k f8k l8k
        gi_wp2_with fail
        refine ⟨trivial, rfl, ?_⟩
        have hlen : (((pre ++ [(k : Int)]).length : Nat) : Int) = (pre.length : Int) + 1 := by simp
        have hkid : mkid B hv pre r k = meltsFrom B (hv.drop (pre ++ [(k : Int)]).length) (pre ++ [(k : Int)]) (r - k) := by unfold mkid; rw [List.length_append]; rfl
        have hih := IH (dn ++ (List.range k).flatMap (mkid B hv pre r)) ((List.range' (k + 1) (m - k - 1)).flatMap (mkid B hv pre r) ++ rest) (pre ++ [(k : Int)]) (r - k) (by have := Hn.out; simp; omega) (by omega) (fun j => by
          rw [gi_snoc]
          split
          · omega
          · exact Hp.out j) (fun p => Pv p ∨ p = n8) W5 HN5.out HE5.out (by rw [Hx.out, Hsucc.out, flat_split (mkid B hv pre r) k m hlt4, hkid]; simp only [List.append_assoc]) HJ5.out
        rw [hlen] at hih
        refine hih.mono ?_
        rintro e W6 hpost
        obtain ⟨b, rfl, hb6⟩ := hpost.bool
        have Hkid := Lib.hid hkid
        clear hpost hih IH cO fO lO c5 f5 l5 hkid hlen
        rcases hb6 with ⟨rfl, hj6, hk6⟩ | ⟨rfl, pr, hpr, hj6⟩
        · have HJ6 := Lib.hid hj6
          have HK6 := Lib.hid (HK5.out.trans hk6)
          have HS6 := Lib.hid (HS.out.keep hk6 (by have := Hn8.out; rintro (h | h); have := (hM _ h).2; omega; omega))
          clear hj6 hk6
          gi_wp2
          go_roundw
          case rel => exact ⟨k + 1, by omega, by go_num, by rw [flat_succ, ← List.append_assoc, Hkid.out]; exact HJ6.out, HK6.out, _, HS6.out⟩
          case measure => simp [intOf]; omega
        · have HJ6 := Lib.hid hj6
          clear hj6
          gi_wp2
          go_ret
          exact .inr ⟨rfl, pr, hpr, HJ6.out⟩
      · obtain rfl : k = m := by omega
        gi_wp2
        go_ret
        exact .inl ⟨rfl, by rw [Hsucc.out]; exact hJ _ _ _ _ _ HJk.out (Keep.refl _ _) (fun _ h => .inl (.inl h)), hkp⟩

end
end Go.Proofs.YtgfbfbfajnfbjaaDoor
