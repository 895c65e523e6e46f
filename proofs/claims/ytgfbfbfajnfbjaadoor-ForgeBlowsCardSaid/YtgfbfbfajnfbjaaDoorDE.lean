import Derived.Test.YtgfbfbfajnfbjaaDoorBB
import Derived.Test.YtgfbfbfajnfbjaaDoorO
import Derived.Test.YtgfbfbfajnfbjaaDoorCU
import Derived.Test.YtgfbfbfajnfbjaaDoorAD
import Derived.Test.YtgfbfbfajnfbjaaDoorAG
import Derived.Test.YtgfbfbfajnfbjaaDoorQ
import Derived.Test.YtgfbfbfajnfbjaaDoorT
import Derived.Test.YtgfbfbfajnfbjaaDoorV
import Derived.Test.YtgfbfbfajnfbjaaDoorX
import Derived.WalkMore
namespace Go.Proofs.YtgfbfbfajnfbjaaDoor
section
open Go.RowKit Go.Shelf
attribute [local go_sem] Oper.semAt_some
set_option linter.unusedSimpArgs false
set_option linter.unusedVariables false
/-! The reference's words about blows: how thick the disc is after some, if the strikers do so. -/
theorem pad3_cell (m : List Int) (k : Nat) (h : k < 3) : (pad3 m)[k]? = some (.int .i64 (gi m k)) := by
  have : k = 0 ∨ k = 1 ∨ k = 2 := by omega
  rcases this with rfl | rfl | rfl <;> rfl
set_option maxRecDepth 100000 in
set_option maxHeartbeats 4000000 in
theorem refAfter_calls (B : ForgeV) (g : B.Good) (t : List Int) (ht : ∀ k, 0 ≤ gi t k ∧ gi t k ≤ 20) (n : Int) (hn : 0 ≤ n ∧ n ≤ 300) (w : World) :
    Calls Tryd.prog 108 #[B.val, .agg (pad3 t), .int .i64 n] w fun e w' => e = .returned (.int .i64 (afterS B t n)) ∧ Below w.heap.size w w' := by
  have Hg := Lib.hid g
  have Ht := Lib.hid ht
  have Hn := Lib.hid hn
  have k4 := BoxAt.new (w.alloc (.cells B.cells 28)) (pad3 t) 66
  have k3 := (BoxAt.new w B.cells 28).alloc (.cells (pad3 t) 66)
  have H1 : Below w.heap.size w ((w.alloc (.cells B.cells 28)).alloc (.cells (pad3 t) 66)) := ((Below.refl _ _).alloc (Nat.le_refl _) _).alloc (by simp) _
  rw [World.size_alloc] at k4
  have hcells : B.val = .agg B.cells := rfl
  rw [hcells]
  unfold pad3
  unfold pad3 at k3 k4 H1
  unfold ForgeV.cells at k3 k4 H1 ⊢
  clear g ht hn
  go_enter Tryd.func108, Tryd.ntmps108
  go_upto_region 1 with fail
  generalize (w.alloc _).alloc _ = W1 at *
  have HF := Lib.hid H1
  have K4w := Lib.hid k4
  obtain ⟨c3, f3, l3⟩ := k3
  obtain ⟨c4, f4, l4⟩ := k4
  clear H1
  go_upto_block 0 with (fail)
  have hp : ∀ r, r < 3 → W1.cell? ⟨w.heap.size + 1, r, none⟩ = some (.int .i64 (gi t r)) := fun r hr => by
    rw [K4w.out.cell]
    exact pad3_cell t r hr
  have Hp := Lib.hid hp
  clear c3 f3 l3 c4 hp
  go_wp2
  go_loop [8, 7] (fun i s => ∃ k : Nat, k ≤ 3 ∧ i = .int .i64 k ∧ s = .int .i64 (afterTo B t n k)) (fun i _ => 3 - (intOf i).toNat)
  case atStart => exact ⟨0, Nat.zero_le _, rfl, rfl⟩
  case round =>
    obtain ⟨k, hk, rfl, rfl⟩ := hrel
    by_cases hlt : k < 3
    · have hki : (k : Int) < 3 := by omega
      have p0 := Hp.out k hlt
      have b1 := afterTo_bd Hg.out Ht.out Hn.out k (by omega)
      have b2 := mul_bd (Ht.out k) (struckS_bd Hn.out hlt)
      have hn := Hn.out
      have Hs : Hid (afterTo B t n (k + 1) = afterTo B t n k - gi t k * struckS n k) := Lib.hid rfl
      have hw0 : IntKind.i64.wrap (n + 2) = n + 2 := wrap_in (by omega) (by omega)
      have hw1 : IntKind.i64.wrap (n + 2 - k) = n + 2 - k := wrap_in (by omega) (by omega)
      have hq : Int.tdiv (n + 2 - k) 3 = struckS n k := by unfold struckS; rw [Int.tdiv_eq_ediv_of_nonneg (by omega)]
      have hw2 : IntKind.i64.wrap (struckS n k) = struckS n k := wrap_in (by unfold struckS; omega) (by unfold struckS; omega)
      have hw3 : IntKind.i64.wrap (gi t k * struckS n k) = gi t k * struckS n k := wrap_in (by omega) (by omega)
      have hw4 : IntKind.i64.wrap (afterTo B t n k - gi t k * struckS n k) = afterTo B t n k - gi t k * struckS n k := wrap_in (by omega) (by omega)
      clear b1 b2 hn
      go_wp2
      go_round
      case rel => exact ⟨k + 1, by omega, by go_num, by rw [Hs.out]⟩
      case measure => simp [intOf]; omega
    · obtain rfl : k = 3 := by omega
      go_wp2
      go_ret
      exact ⟨rfl, HF.out⟩
end
end Go.Proofs.YtgfbfbfajnfbjaaDoor

namespace Go.Proofs.YtgfbfbfajnfbjaaDoor
section
open Go.RowKit Go.Shelf
set_option linter.unusedSimpArgs false
set_option linter.unusedVariables false
/-! The reference's truths: slices of triples that the call itself has made. -/
theorem infoTri : (Tryd.prog.info? 66).map (fun i => (i.zero, i.size, i.bytes)) = some (some (.agg #[.int .i64 0, .int .i64 0, .int .i64 0]), 3, 24) := by kernel_rfl
theorem underTri : Tryd.prog.underlying 109 = some (.slice 66) := by kernel_rfl
def OwnTri (w : World) (base : Nat) (v : Value) (l : List (List Int)) : Prop := w.ownsRow base 66 3 v l.length (thinCells l)
theorem OwnTri.nil (w : World) (base : Nat) : OwnTri w base (.slice none 0 0) [] := World.ownsRow_nil _ _ _ _
theorem OwnTri.below {w w' : World} {base : Nat} {v : Value} {l : List (List Int)} (h : OwnTri w base v l) (hb : Below w.heap.size w w') : OwnTri w' base v l := by
  refine World.ownsRow.kept h (row := none) ⟨hb.os, hb.tape, hb.output, hb.size, fun k hk _ => hb.block k hk⟩ ?_
  by_cases e : v.ownBlock = none
  · exact .inl e
  · exact .inr e
/-- truths in memory, one behind the other -/
def TrisAt (w : World) (A : Option Addr) (l : List (List Int)) : Prop := l = [] ∨ ∃ b, A = some ⟨b, 0, none⟩ ∧ ThinsAt w b l
theorem TrisAt.below {w w1 : World} {A : Option Addr} {l : List (List Int)} (h : TrisAt w A l) (hb : Below w.heap.size w w1) : TrisAt w1 A l := h.imp id fun ⟨b, e, h⟩ => ⟨b, e, h.below hb⟩
theorem OwnTri.reads {w : World} {base : Nat} {v : Value} {l : List (List Int)} (h : OwnTri w base v l) : ∃ A c, v = .slice A l.length c ∧ TrisAt w A l := by
  have hcs := fun g => World.ownsRow.cells (w := w) (g := g) h
  obtain ⟨h1, h2⟩ := h
  rcases h2 with ⟨rfl, hn⟩ | ⟨g, cap, cur, rfl, hg, hb, hn, hc, hs, ht⟩
  · have : l = [] := List.eq_nil_of_length_eq_zero hn
    subst this
    exact ⟨none, 0, rfl, .inl rfl⟩
  · refine ⟨_, cap, rfl, .inr ⟨g, rfl, fun j hj => ?_⟩⟩
    have ht := thinCells_get l j hj
    have h0 := hcs g rfl (j * 3) _ ht.1
    have h1 := hcs g rfl (j * 3 + 1) _ ht.2.1
    have h2 := hcs g rfl (j * 3 + 2) _ ht.2.2
    rw [addr_add'] at h0 h1 h2
    rw [Nat.zero_add] at h0 h1 h2
    exact ⟨h0, h1, h2⟩
theorem wpList_appTri {ops : Array Oper} {rest : List Oper} {o : Oper} {a : Act} {Q : Exit → Act → World → Prop} (w : World) (hgd : o.guard = none) (s x : Operand)
    (ho : o.op = .call { callee := .builtin .append, args := #[s, x], argTypes := #[109, 109] })
    (base : Nat) (v : Value) (l : List (List Int)) (hs : a.eval s = v) (hown : OwnTri w base v l) (g c : Nat) (t : List Int) (hx : a.eval x = .slice (some ⟨g, 0, none⟩) 1 c) (hc : BoxAt w g #[.int .i64 (gi t 0), .int .i64 (gi t 1), .int .i64 (gi t 2)]) (hlen : l.length ≤ 100000) (hbase : base ≤ w.heap.size)
    (h : ∀ v' w', OwnTri w' base v' (l ++ [t]) → Below base w w' → wpList Tryd.prog ops Q rest (a.put o.dst v') w') : wpList Tryd.prog ops Q (o :: rest) a w := by
  obtain ⟨i0, hi, hz0, hz1, hz2⟩ := info_parts infoTri
  obtain ⟨v', w', hrun, r1, r2, r3⟩ := run_app_any w base 109 o.type 66 i0 _ 3 24 underTri hi hz0 hz1 hz2 rfl (by decide) (by decide) v l.length (thinCells l) hown (some ⟨g, 0, none⟩) 1 c [.int .i64 (gi t 0), .int .i64 (gi t 1), .int .i64 (gi t 2)] rfl (.inr ⟨_, rfl, fun j u hj => by
    have h := hc.cell j
    match j, hj with
    | 0, hj => simpa [Addr.add] using h.trans (by simpa using hj)
    | 1, hj => simpa [Addr.add] using h.trans (by simpa using hj)
    | 2, hj => simpa [Addr.add] using h.trans (by simpa using hj)⟩) (fun u hu => by simp at hu; rcases hu with rfl | rfl | rfl <;> rfl) (by omega) hbase
  refine wpList_plain hgd fun K hK => ?_
  unfold Oper.wp
  simp [execOp, ho, resolve, invoke, builtin, hs, hx, hrun, Result.andThen]
  exact hK _ _ (h v' w' (by unfold OwnTri; rw [List.length_append, thinCells_snoc]; exact r1) r2)
end
section
open Go.RowKit Go.Shelf
attribute [local go_sem] Oper.semAt_some
set_option linter.unusedSimpArgs false
set_option linter.unusedVariables false
set_option maxRecDepth 100000 in
set_option maxHeartbeats 2000000 in
theorem refBit_calls (s : Int) (hs : 0 ≤ s ∧ s < 256) (k : Nat) (hk : k < 8) (w : World) : Calls Tryd.prog 96 #[.int .i64 s, .int .i64 (k : Int)] w fun e w' => e = .returned (.bool (decide (s / 2 ^ k % 2 = 1))) ∧ w = w' := by
  have hpw : (2 : Int) ^ min ((k : Int).toNat) 64 = 2 ^ k := by rw [show min ((k : Int).toNat) 64 = k by omega]
  have Hand := Lib.hid (shr_and s k hs.1 hs.2)
  have h2 : s / 2 ^ k % 2 = 0 ∨ s / 2 ^ k % 2 = 1 := by omega
  rcases h2 with hb | hb
  all_goals
    have Hb := Lib.hid hb
    have hand := Hand.out.trans hb
    clear hb hs
    go_enter Tryd.func96, Tryd.ntmps96
    go_wp2
    go_ret
    exact ⟨by rw [Hb.out]; rfl, rfl⟩
set_option maxRecDepth 100000 in
set_option maxHeartbeats 4000000 in
theorem refSeen_calls (B : ForgeV) (g : B.Good) (t : List Int) (ht : ∀ k, 0 ≤ gi t k ∧ gi t k ≤ 20) (s : Int) (hs : 0 ≤ s ∧ s < 256) (w : World) (hB : B.Reads w) :
    Calls Tryd.prog 109 #[B.val, .agg (pad3 t), .int .i64 s] w fun e w' => e = .returned (.bool (seenTo B t s B.looks.length)) ∧ Below w.heap.size w w' := by
  have Hg := Lib.hid g
  have Ht := Lib.hid ht
  have Hs := Lib.hid hs
  have hl8 := g.looksLen
  have k4 := BoxAt.new (w.alloc (.cells B.cells 28)) (pad3 t) 66
  have k3 := (BoxAt.new w B.cells 28).alloc (.cells (pad3 t) 66)
  have H1 : Below w.heap.size w ((w.alloc (.cells B.cells 28)).alloc (.cells (pad3 t) 66)) := ((Below.refl _ _).alloc (Nat.le_refl _) _).alloc (by simp) _
  rw [World.size_alloc] at k4
  have HB0 := Lib.hid hB
  have hcells : B.val = .agg B.cells := rfl
  have hpad : Hid (pad3 t = #[.int .i64 (gi t 0), .int .i64 (gi t 1), .int .i64 (gi t 2)]) := Lib.hid rfl
  rw [hcells]
  unfold pad3
  unfold pad3 at k3 k4 H1
  unfold ForgeV.cells at k3 k4 H1 ⊢
  clear g ht hs hB
  go_enter Tryd.func109, Tryd.ntmps109
  go_upto_region 1 with fail
  generalize (w.alloc _).alloc _ = W1 at *
  have hn4 : w.heap.size < w.heap.size + 1 := Nat.lt_succ_self _
  generalize w.heap.size + 1 = n4 at *
  have K3 := Lib.hid k3
  have K4 := Lib.hid k4
  have HW1 := Lib.hid H1
  clear k3 k4 H1
  go_upto_block 0 with (fail)
  go_wp2
  go_loopg [7] B.looks.length (fun gq i wr => ∃ k : Nat, k ≤ B.looks.length ∧ gq = B.looks.length - k ∧ i = .int .i64 k ∧ seenTo B t s k = true ∧ Below W1.heap.size W1 wr)
  case atStart => exact ⟨0, Nat.zero_le _, rfl, rfl, rfl, Below.refl _ _⟩
  case round =>
    obtain ⟨k, hk, hgk, rfl, hse, hbe⟩ := hrel
    have Hgk := Lib.hid hgk
    have Hse := Lib.hid hse
    have Hbe := Lib.hid hbe
    have HBr := Lib.hid (HW1.out.trans (hbe.mono HW1.out.size))
    obtain ⟨c3, f3, l3⟩ := K3.out.below hbe
    clear hgk hse hbe
    by_cases hlt : k < B.looks.length
    · have hki : (k : Int) < B.looks.length := by omega
      obtain ⟨kb, ko, hkA⟩ := HB0.out.looks.some_ (by omega)
      have hlk := HB0.out.looks
      rw [hkA] at hlk
      have HkA := Lib.hid hkA
      obtain ⟨p0, p1, p2⟩ := (hlk.below HBr.out).at_ hlt
      have pbl := World.block_lt_of_cell? _ _ p0
      simp only at pbl
      rw [hkA] at c3
      have hlg := Hg.out.look k hlt
      have b0 := afterTo_bd Hg.out Ht.out (n := (glk B.looks k).blows) (by omega) 3 (Nat.le_refl _)
      have b1 : afterTo B t (glk B.looks k).blows 3 = afterS B t (glk B.looks k).blows := rfl
      rw [b1] at b0
      have Hst := Lib.hid (seenTo_succ B t s k)
      have Hmi : Hid (missB B t s k = (decide (s / 2 ^ k % 2 = 0) && !inB (afterS B t (glk B.looks k).blows) ((glk B.looks k).thick - (glk B.looks k).err) ((glk B.looks k).thick + (glk B.looks k).err))) := Lib.hid rfl
      have Hmf := Lib.hid (fun h => seenTo_false (B := B) (x := t) (left := s) k hlt h)
      have Haf := Lib.hid (fun w => refAfter_calls B Hg.out t Ht.out (glk B.looks k).blows (by omega) w)
      generalize hA : afterS B t (glk B.looks k).blows = av at *
      generalize (glk B.looks k).blows = lb at *
      generalize (glk B.looks k).thick = lt at *
      generalize (glk B.looks k).err = le at *
      have hw1 : IntKind.i64.wrap (av - lt) = av - lt := wrap_in (by omega) (by omega)
      have hpl : plainZ (av - lt) = if av - lt < 0 then -(av - lt) else av - lt := rfl
      have Hpl := Lib.hid hpl
      have h2 : s / 2 ^ k % 2 = 0 ∨ s / 2 ^ k % 2 = 1 := by omega
      have h8 : k < 8 := by omega
      clear hlk hkA b1 hpl hA
      go_upto_region 5 with (fail)
      have hb5 : Below wr.heap.size wr (wr.alloc (.cells #[.int .i64 lb, .int .i64 lt, .int .i64 le] 75)) := (Below.refl _ _).alloc (Nat.le_refl _) _
      have k8 := BoxAt.new wr #[.int .i64 lb, .int .i64 lt, .int .i64 le] 75
      generalize World.alloc wr _ = w5 at *
      have Hb5 := Lib.hid (Hbe.out.trans (hb5.mono Hbe.out.size))
      have HB5 := Lib.hid (below_then HBr.out HBr.out.size hb5)
      clear hb5 c3 f3 l3 p0 p1 p2 pbl
      obtain ⟨c8, f8, l8⟩ := k8
      generalize wr.heap.size = n8 at *
      obtain ⟨c3, f3, l3⟩ := K3.out.below Hb5.out
      obtain ⟨c4, f4, l4⟩ := K4.out.below Hb5.out
      rcases h2 with hb | hb
      · have hd : decide (s / 2 ^ k % 2 = 1) = false := by rw [decide_eq_false_iff_not]; omega
        have Hd := Lib.hid hd
        have Hb := Lib.hid hb
        clear hb hd
        by_cases hpv : le < plainZ (av - lt)
        · have Hm : Hid (missB B t s k = true) := by
            unfold Hid
            rw [Hmi.out, Hb.out]
            have hpl := Hpl.out
            have : inB av (lt - le) (lt + le) = false := by
              rw [Bool.eq_false_iff]; intro h
              have := inB_iff.1 h
              rw [hpl] at hpv
              split at hpv <;> omega
            rw [this]; rfl
          refine region_plain (S := fun w' => Below w5.heap.size w5 w') 18 (by kernel_rfl) ?_ (fun hHeld => ?_)
          · exact (Below.refl _ _).drew
          first | (refine anyT_take 0 (some 21) (v := ?_) rfl rfl (by kernel_rfl) (by kernel_rfl) (by kernel_rfl) (by kernel_rfl) (fun _ _ _ h => h) (Or.inl ⟨by rfl, ?_⟩) hHeld ?_; rotate_left; focus (intro wq hSw; obtain ⟨hcq, hfq⟩ := bcell hSw; go_simp; (try with_reducible rfl); done))
          (try simp only [Act.put, List.setIfInBounds_toArray, List.set_cons_zero, List.set_cons_succ])
          first | (refine anyT_take 1 (some 22) (v := ?_) rfl rfl (by kernel_rfl) (by kernel_rfl) (by kernel_rfl) (by kernel_rfl) (fun _ _ _ h => h) (Or.inl ⟨by rfl, ?_⟩) hHeld ?_; rotate_left; focus (intro wq hSw; obtain ⟨hcq, hfq⟩ := bcell hSw; go_simp; (try with_reducible rfl); done))
          (try simp only [Act.put, List.setIfInBounds_toArray, List.set_cons_zero, List.set_cons_succ])
          refine anyT_one 2 (by kernel_rfl) rfl (fun K hK => ?_)
          go_simp
          refine (refBit_calls s Hs.out k h8 _).mono ?_; rintro e x1 ⟨rfl, rfl⟩; rw [Hd.out]
          refine hK.out _ _ ?_ (fun hHeld => ?_)
          · exact hHeld
          clear hK K
          (try simp only [Act.put, List.setIfInBounds_toArray, List.set_cons_zero, List.set_cons_succ])
          first | (refine anyT_take 3 (some 24) (v := ?_) rfl rfl (by kernel_rfl) (by kernel_rfl) (by kernel_rfl) (by kernel_rfl) (fun _ _ _ h => h) (Or.inl ⟨by rfl, ?_⟩) hHeld ?_; rotate_left; focus (intro wq hSw; obtain ⟨hcq, hfq⟩ := bcell hSw; go_simp; (try with_reducible rfl); done))
          (try simp only [Act.put, List.setIfInBounds_toArray, List.set_cons_zero, List.set_cons_succ])
          first | (refine anyT_take 4 (some 25) (v := ?_) rfl rfl (by kernel_rfl) (by kernel_rfl) (by kernel_rfl) (by kernel_rfl) (fun _ _ _ h => h) (Or.inl ⟨by rfl, ?_⟩) hHeld ?_; rotate_left; focus (intro wq hSw; obtain ⟨hcq, hfq⟩ := bcell hSw; go_simp; (try with_reducible rfl); done))
          (try simp only [Act.put, List.setIfInBounds_toArray, List.set_cons_zero, List.set_cons_succ])
          first | (refine anyT_take 5 (some 26) rfl rfl (by kernel_rfl) (by kernel_rfl) (by kernel_rfl) (by kernel_rfl) (fun _ _ _ h => h) (Or.inr ⟨by rfl, rfl⟩) hHeld ?_) | (refine anyT_take 5 (some 26) (v := ?_) rfl rfl (by kernel_rfl) (by kernel_rfl) (by kernel_rfl) (by kernel_rfl) (fun _ _ _ h => h) (Or.inl ⟨by rfl, ?_⟩) hHeld ?_; rotate_left; focus (intro wq hSw; obtain ⟨hcq, hfq⟩ := bcell hSw; go_simp; (try with_reducible rfl); done))
          (try simp only [Act.put, List.setIfInBounds_toArray, List.set_cons_zero, List.set_cons_succ])
          first | (refine anyT_take 6 (some 27) rfl rfl (by kernel_rfl) (by kernel_rfl) (by kernel_rfl) (by kernel_rfl) (fun _ _ _ h => h) (Or.inr ⟨by rfl, rfl⟩) hHeld ?_) | (refine anyT_take 6 (some 27) (v := ?_) rfl rfl (by kernel_rfl) (by kernel_rfl) (by kernel_rfl) (by kernel_rfl) (fun _ _ _ h => h) (Or.inl ⟨by rfl, ?_⟩) hHeld ?_; rotate_left; focus (intro wq hSw; obtain ⟨hcq, hfq⟩ := bcell hSw; go_simp; (try with_reducible rfl); done))
          (try simp only [Act.put, List.setIfInBounds_toArray, List.set_cons_zero, List.set_cons_succ])
          first | (refine anyT_take 7 (some 28) rfl rfl (by kernel_rfl) (by kernel_rfl) (by kernel_rfl) (by kernel_rfl) (fun _ _ _ h => h) (Or.inr ⟨by rfl, rfl⟩) hHeld ?_) | (refine anyT_take 7 (some 28) (v := ?_) rfl rfl (by kernel_rfl) (by kernel_rfl) (by kernel_rfl) (by kernel_rfl) (fun _ _ _ h => h) (Or.inl ⟨by rfl, ?_⟩) hHeld ?_; rotate_left; focus (intro wq hSw; obtain ⟨hcq, hfq⟩ := bcell hSw; go_simp; (try with_reducible rfl); done))
          (try simp only [Act.put, List.setIfInBounds_toArray, List.set_cons_zero, List.set_cons_succ])
          first | (refine anyT_take 8 (some 29) rfl rfl (by kernel_rfl) (by kernel_rfl) (by kernel_rfl) (by kernel_rfl) (fun _ _ _ h => h) (Or.inr ⟨by rfl, rfl⟩) hHeld ?_) | (refine anyT_take 8 (some 29) (v := ?_) rfl rfl (by kernel_rfl) (by kernel_rfl) (by kernel_rfl) (by kernel_rfl) (fun _ _ _ h => h) (Or.inl ⟨by rfl, ?_⟩) hHeld ?_; rotate_left; focus (intro wq hSw; obtain ⟨hcq, hfq⟩ := bcell hSw; go_simp; (try with_reducible rfl); done))
          (try simp only [Act.put, List.setIfInBounds_toArray, List.set_cons_zero, List.set_cons_succ])
          first | (refine anyT_take 10 (some 31) rfl rfl (by kernel_rfl) (by kernel_rfl) (by kernel_rfl) (by kernel_rfl) (fun _ _ _ h => h) (Or.inr ⟨by rfl, rfl⟩) hHeld ?_) | (refine anyT_take 10 (some 31) (v := ?_) rfl rfl (by kernel_rfl) (by kernel_rfl) (by kernel_rfl) (by kernel_rfl) (fun _ _ _ h => h) (Or.inl ⟨by rfl, ?_⟩) hHeld ?_; rotate_left; focus (intro wq hSw; obtain ⟨hcq, hfq⟩ := bcell hSw; go_simp; (try with_reducible rfl); done))
          (try simp only [Act.put, List.setIfInBounds_toArray, List.set_cons_zero, List.set_cons_succ])
          first | (refine anyT_take 11 (some 32) rfl rfl (by kernel_rfl) (by kernel_rfl) (by kernel_rfl) (by kernel_rfl) (fun _ _ _ h => h) (Or.inr ⟨by rfl, rfl⟩) hHeld ?_) | (refine anyT_take 11 (some 32) (v := ?_) rfl rfl (by kernel_rfl) (by kernel_rfl) (by kernel_rfl) (by kernel_rfl) (fun _ _ _ h => h) (Or.inl ⟨by rfl, ?_⟩) hHeld ?_; rotate_left; focus (intro wq hSw; obtain ⟨hcq, hfq⟩ := bcell hSw; go_simp; (try with_reducible rfl); done))
          (try simp only [Act.put, List.setIfInBounds_toArray, List.set_cons_zero, List.set_cons_succ])
          first | (refine anyT_take 14 (some 35) rfl rfl (by kernel_rfl) (by kernel_rfl) (by kernel_rfl) (by kernel_rfl) (fun _ _ _ h => h) (Or.inr ⟨by rfl, rfl⟩) hHeld ?_) | (refine anyT_take 14 (some 35) (v := ?_) rfl rfl (by kernel_rfl) (by kernel_rfl) (by kernel_rfl) (by kernel_rfl) (fun _ _ _ h => h) (Or.inl ⟨by rfl, ?_⟩) hHeld ?_; rotate_left; focus (intro wq hSw; obtain ⟨hcq, hfq⟩ := bcell hSw; go_simp; (try with_reducible rfl); done))
          (try simp only [Act.put, List.setIfInBounds_toArray, List.set_cons_zero, List.set_cons_succ])
          first | (refine anyT_take 15 (some 36) rfl rfl (by kernel_rfl) (by kernel_rfl) (by kernel_rfl) (by kernel_rfl) (fun _ _ _ h => h) (Or.inr ⟨by rfl, rfl⟩) hHeld ?_) | (refine anyT_take 15 (some 36) (v := ?_) rfl rfl (by kernel_rfl) (by kernel_rfl) (by kernel_rfl) (by kernel_rfl) (fun _ _ _ h => h) (Or.inl ⟨by rfl, ?_⟩) hHeld ?_; rotate_left; focus (intro wq hSw; obtain ⟨hcq, hfq⟩ := bcell hSw; go_simp; (try with_reducible rfl); done))
          (try simp only [Act.put, List.setIfInBounds_toArray, List.set_cons_zero, List.set_cons_succ])
          refine anyT_one 9 (by kernel_rfl) rfl (fun K hK => ?_)
          go_simp
          refine (eq0_3 (v' := B.val) (by unfold ForgeV.val ForgeV.cells; rfl) (Haf.out _)).mono ?_; rintro e w6 ⟨rfl, hb6⟩
          refine hK.out _ _ ?_ (fun hHeld => ?_)
          · exact below_then hHeld hHeld.size hb6
          clear hK K
          (try simp only [Act.put, List.setIfInBounds_toArray, List.set_cons_zero, List.set_cons_succ])
          first | (refine anyT_take 12 (some 33) rfl rfl (by kernel_rfl) (by kernel_rfl) (by kernel_rfl) (by kernel_rfl) (fun _ _ _ h => h) (Or.inr ⟨by rfl, rfl⟩) hHeld ?_) | (refine anyT_take 12 (some 33) (v := ?_) rfl rfl (by kernel_rfl) (by kernel_rfl) (by kernel_rfl) (by kernel_rfl) (fun _ _ _ h => h) (Or.inl ⟨by rfl, ?_⟩) hHeld ?_; rotate_left; focus (intro wq hSw; obtain ⟨hcq, hfq⟩ := bcell hSw; go_simp; (try with_reducible rfl); done))
          (try simp only [Act.put, List.setIfInBounds_toArray, List.set_cons_zero, List.set_cons_succ])
          refine anyT_one 13 (by kernel_rfl) rfl (fun K hK => ?_)
          go_simp
          refine (Plain_calls _ _ (by omega) (by omega)).mono ?_; rintro e x2 ⟨rfl, rfl⟩
          refine hK.out _ _ ?_ (fun hHeld => ?_)
          · exact hHeld
          clear hK K
          (try simp only [Act.put, List.setIfInBounds_toArray, List.set_cons_zero, List.set_cons_succ])
          first | (refine anyT_take 16 (some 37) rfl rfl (by kernel_rfl) (by kernel_rfl) (by kernel_rfl) (by kernel_rfl) (fun _ _ _ h => h) (Or.inr ⟨by rfl, rfl⟩) hHeld ?_) | (refine anyT_take 16 (some 37) (v := ?_) rfl rfl (by kernel_rfl) (by kernel_rfl) (by kernel_rfl) (by kernel_rfl) (fun _ _ _ h => h) (Or.inl ⟨by rfl, ?_⟩) hHeld ?_; rotate_left; focus (intro wq hSw; obtain ⟨hcq, hfq⟩ := bcell hSw; go_simp; (try with_reducible rfl); done))
          (try simp only [Act.put, List.setIfInBounds_toArray, List.set_cons_zero, List.set_cons_succ])
          first | (refine anyT_take 17 (some 38) (v := ?_) rfl rfl (by kernel_rfl) (by kernel_rfl) (by kernel_rfl) (by kernel_rfl) (fun _ _ _ h => h) (Or.inl ⟨by rfl, ?_⟩) hHeld ?_; rotate_left; focus (intro wq hSw; obtain ⟨hcq, hfq⟩ := bcell hSw; go_simp; (try with_reducible rfl); done))
          (try simp only [Act.put, List.setIfInBounds_toArray, List.set_cons_zero, List.set_cons_succ])
          refine anyT_done (by kernel_rfl) ?_ _
          have HF := Lib.hid (below_then HB5.out HB5.out.size hHeld)
          have Hse9 := Lib.hid (Hmf.out Hm.out)
          clear hHeld hb6
          go_wp2
          go_ret
          exact ⟨by rw [Hse9.out] <;> rfl, HF.out⟩
        · have Hm : Hid (missB B t s k = false) := by
            unfold Hid
            rw [Hmi.out]
            have hpl := Hpl.out
            have : inB av (lt - le) (lt + le) = true := by
              refine inB_iff.2 ?_
              rw [hpl] at hpv
              split at hpv <;> omega
            rw [this, Bool.not_true, Bool.and_false]
          refine region_plain (S := fun w' => Below w5.heap.size w5 w') 18 (by kernel_rfl) ?_ (fun hHeld => ?_)
          · exact (Below.refl _ _).drew
          first | (refine anyT_take 0 (some 21) (v := ?_) rfl rfl (by kernel_rfl) (by kernel_rfl) (by kernel_rfl) (by kernel_rfl) (fun _ _ _ h => h) (Or.inl ⟨by rfl, ?_⟩) hHeld ?_; rotate_left; focus (intro wq hSw; obtain ⟨hcq, hfq⟩ := bcell hSw; go_simp; (try with_reducible rfl); done))
          (try simp only [Act.put, List.setIfInBounds_toArray, List.set_cons_zero, List.set_cons_succ])
          first | (refine anyT_take 1 (some 22) (v := ?_) rfl rfl (by kernel_rfl) (by kernel_rfl) (by kernel_rfl) (by kernel_rfl) (fun _ _ _ h => h) (Or.inl ⟨by rfl, ?_⟩) hHeld ?_; rotate_left; focus (intro wq hSw; obtain ⟨hcq, hfq⟩ := bcell hSw; go_simp; (try with_reducible rfl); done))
          (try simp only [Act.put, List.setIfInBounds_toArray, List.set_cons_zero, List.set_cons_succ])
          refine anyT_one 2 (by kernel_rfl) rfl (fun K hK => ?_)
          go_simp
          refine (refBit_calls s Hs.out k h8 _).mono ?_; rintro e x1 ⟨rfl, rfl⟩; rw [Hd.out]
          refine hK.out _ _ ?_ (fun hHeld => ?_)
          · exact hHeld
          clear hK K
          (try simp only [Act.put, List.setIfInBounds_toArray, List.set_cons_zero, List.set_cons_succ])
          first | (refine anyT_take 3 (some 24) (v := ?_) rfl rfl (by kernel_rfl) (by kernel_rfl) (by kernel_rfl) (by kernel_rfl) (fun _ _ _ h => h) (Or.inl ⟨by rfl, ?_⟩) hHeld ?_; rotate_left; focus (intro wq hSw; obtain ⟨hcq, hfq⟩ := bcell hSw; go_simp; (try with_reducible rfl); done))
          (try simp only [Act.put, List.setIfInBounds_toArray, List.set_cons_zero, List.set_cons_succ])
          first | (refine anyT_take 4 (some 25) (v := ?_) rfl rfl (by kernel_rfl) (by kernel_rfl) (by kernel_rfl) (by kernel_rfl) (fun _ _ _ h => h) (Or.inl ⟨by rfl, ?_⟩) hHeld ?_; rotate_left; focus (intro wq hSw; obtain ⟨hcq, hfq⟩ := bcell hSw; go_simp; (try with_reducible rfl); done))
          (try simp only [Act.put, List.setIfInBounds_toArray, List.set_cons_zero, List.set_cons_succ])
          first | (refine anyT_take 5 (some 26) rfl rfl (by kernel_rfl) (by kernel_rfl) (by kernel_rfl) (by kernel_rfl) (fun _ _ _ h => h) (Or.inr ⟨by rfl, rfl⟩) hHeld ?_) | (refine anyT_take 5 (some 26) (v := ?_) rfl rfl (by kernel_rfl) (by kernel_rfl) (by kernel_rfl) (by kernel_rfl) (fun _ _ _ h => h) (Or.inl ⟨by rfl, ?_⟩) hHeld ?_; rotate_left; focus (intro wq hSw; obtain ⟨hcq, hfq⟩ := bcell hSw; go_simp; (try with_reducible rfl); done))
          (try simp only [Act.put, List.setIfInBounds_toArray, List.set_cons_zero, List.set_cons_succ])
          first | (refine anyT_take 6 (some 27) rfl rfl (by kernel_rfl) (by kernel_rfl) (by kernel_rfl) (by kernel_rfl) (fun _ _ _ h => h) (Or.inr ⟨by rfl, rfl⟩) hHeld ?_) | (refine anyT_take 6 (some 27) (v := ?_) rfl rfl (by kernel_rfl) (by kernel_rfl) (by kernel_rfl) (by kernel_rfl) (fun _ _ _ h => h) (Or.inl ⟨by rfl, ?_⟩) hHeld ?_; rotate_left; focus (intro wq hSw; obtain ⟨hcq, hfq⟩ := bcell hSw; go_simp; (try with_reducible rfl); done))
          (try simp only [Act.put, List.setIfInBounds_toArray, List.set_cons_zero, List.set_cons_succ])
          first | (refine anyT_take 7 (some 28) rfl rfl (by kernel_rfl) (by kernel_rfl) (by kernel_rfl) (by kernel_rfl) (fun _ _ _ h => h) (Or.inr ⟨by rfl, rfl⟩) hHeld ?_) | (refine anyT_take 7 (some 28) (v := ?_) rfl rfl (by kernel_rfl) (by kernel_rfl) (by kernel_rfl) (by kernel_rfl) (fun _ _ _ h => h) (Or.inl ⟨by rfl, ?_⟩) hHeld ?_; rotate_left; focus (intro wq hSw; obtain ⟨hcq, hfq⟩ := bcell hSw; go_simp; (try with_reducible rfl); done))
          (try simp only [Act.put, List.setIfInBounds_toArray, List.set_cons_zero, List.set_cons_succ])
          first | (refine anyT_take 8 (some 29) rfl rfl (by kernel_rfl) (by kernel_rfl) (by kernel_rfl) (by kernel_rfl) (fun _ _ _ h => h) (Or.inr ⟨by rfl, rfl⟩) hHeld ?_) | (refine anyT_take 8 (some 29) (v := ?_) rfl rfl (by kernel_rfl) (by kernel_rfl) (by kernel_rfl) (by kernel_rfl) (fun _ _ _ h => h) (Or.inl ⟨by rfl, ?_⟩) hHeld ?_; rotate_left; focus (intro wq hSw; obtain ⟨hcq, hfq⟩ := bcell hSw; go_simp; (try with_reducible rfl); done))
          (try simp only [Act.put, List.setIfInBounds_toArray, List.set_cons_zero, List.set_cons_succ])
          first | (refine anyT_take 10 (some 31) rfl rfl (by kernel_rfl) (by kernel_rfl) (by kernel_rfl) (by kernel_rfl) (fun _ _ _ h => h) (Or.inr ⟨by rfl, rfl⟩) hHeld ?_) | (refine anyT_take 10 (some 31) (v := ?_) rfl rfl (by kernel_rfl) (by kernel_rfl) (by kernel_rfl) (by kernel_rfl) (fun _ _ _ h => h) (Or.inl ⟨by rfl, ?_⟩) hHeld ?_; rotate_left; focus (intro wq hSw; obtain ⟨hcq, hfq⟩ := bcell hSw; go_simp; (try with_reducible rfl); done))
          (try simp only [Act.put, List.setIfInBounds_toArray, List.set_cons_zero, List.set_cons_succ])
          first | (refine anyT_take 11 (some 32) rfl rfl (by kernel_rfl) (by kernel_rfl) (by kernel_rfl) (by kernel_rfl) (fun _ _ _ h => h) (Or.inr ⟨by rfl, rfl⟩) hHeld ?_) | (refine anyT_take 11 (some 32) (v := ?_) rfl rfl (by kernel_rfl) (by kernel_rfl) (by kernel_rfl) (by kernel_rfl) (fun _ _ _ h => h) (Or.inl ⟨by rfl, ?_⟩) hHeld ?_; rotate_left; focus (intro wq hSw; obtain ⟨hcq, hfq⟩ := bcell hSw; go_simp; (try with_reducible rfl); done))
          (try simp only [Act.put, List.setIfInBounds_toArray, List.set_cons_zero, List.set_cons_succ])
          first | (refine anyT_take 14 (some 35) rfl rfl (by kernel_rfl) (by kernel_rfl) (by kernel_rfl) (by kernel_rfl) (fun _ _ _ h => h) (Or.inr ⟨by rfl, rfl⟩) hHeld ?_) | (refine anyT_take 14 (some 35) (v := ?_) rfl rfl (by kernel_rfl) (by kernel_rfl) (by kernel_rfl) (by kernel_rfl) (fun _ _ _ h => h) (Or.inl ⟨by rfl, ?_⟩) hHeld ?_; rotate_left; focus (intro wq hSw; obtain ⟨hcq, hfq⟩ := bcell hSw; go_simp; (try with_reducible rfl); done))
          (try simp only [Act.put, List.setIfInBounds_toArray, List.set_cons_zero, List.set_cons_succ])
          first | (refine anyT_take 15 (some 36) rfl rfl (by kernel_rfl) (by kernel_rfl) (by kernel_rfl) (by kernel_rfl) (fun _ _ _ h => h) (Or.inr ⟨by rfl, rfl⟩) hHeld ?_) | (refine anyT_take 15 (some 36) (v := ?_) rfl rfl (by kernel_rfl) (by kernel_rfl) (by kernel_rfl) (by kernel_rfl) (fun _ _ _ h => h) (Or.inl ⟨by rfl, ?_⟩) hHeld ?_; rotate_left; focus (intro wq hSw; obtain ⟨hcq, hfq⟩ := bcell hSw; go_simp; (try with_reducible rfl); done))
          (try simp only [Act.put, List.setIfInBounds_toArray, List.set_cons_zero, List.set_cons_succ])
          refine anyT_one 9 (by kernel_rfl) rfl (fun K hK => ?_)
          go_simp
          refine (eq0_3 (v' := B.val) (by unfold ForgeV.val ForgeV.cells; rfl) (Haf.out _)).mono ?_; rintro e w6 ⟨rfl, hb6⟩
          refine hK.out _ _ ?_ (fun hHeld => ?_)
          · exact below_then hHeld hHeld.size hb6
          clear hK K
          (try simp only [Act.put, List.setIfInBounds_toArray, List.set_cons_zero, List.set_cons_succ])
          first | (refine anyT_take 12 (some 33) rfl rfl (by kernel_rfl) (by kernel_rfl) (by kernel_rfl) (by kernel_rfl) (fun _ _ _ h => h) (Or.inr ⟨by rfl, rfl⟩) hHeld ?_) | (refine anyT_take 12 (some 33) (v := ?_) rfl rfl (by kernel_rfl) (by kernel_rfl) (by kernel_rfl) (by kernel_rfl) (fun _ _ _ h => h) (Or.inl ⟨by rfl, ?_⟩) hHeld ?_; rotate_left; focus (intro wq hSw; obtain ⟨hcq, hfq⟩ := bcell hSw; go_simp; (try with_reducible rfl); done))
          (try simp only [Act.put, List.setIfInBounds_toArray, List.set_cons_zero, List.set_cons_succ])
          refine anyT_one 13 (by kernel_rfl) rfl (fun K hK => ?_)
          go_simp
          refine (Plain_calls _ _ (by omega) (by omega)).mono ?_; rintro e x2 ⟨rfl, rfl⟩
          refine hK.out _ _ ?_ (fun hHeld => ?_)
          · exact hHeld
          clear hK K
          (try simp only [Act.put, List.setIfInBounds_toArray, List.set_cons_zero, List.set_cons_succ])
          first | (refine anyT_take 16 (some 37) rfl rfl (by kernel_rfl) (by kernel_rfl) (by kernel_rfl) (by kernel_rfl) (fun _ _ _ h => h) (Or.inr ⟨by rfl, rfl⟩) hHeld ?_) | (refine anyT_take 16 (some 37) (v := ?_) rfl rfl (by kernel_rfl) (by kernel_rfl) (by kernel_rfl) (by kernel_rfl) (fun _ _ _ h => h) (Or.inl ⟨by rfl, ?_⟩) hHeld ?_; rotate_left; focus (intro wq hSw; obtain ⟨hcq, hfq⟩ := bcell hSw; go_simp; (try with_reducible rfl); done))
          (try simp only [Act.put, List.setIfInBounds_toArray, List.set_cons_zero, List.set_cons_succ])
          first | (refine anyT_take 17 (some 38) (v := ?_) rfl rfl (by kernel_rfl) (by kernel_rfl) (by kernel_rfl) (by kernel_rfl) (fun _ _ _ h => h) (Or.inl ⟨by rfl, ?_⟩) hHeld ?_; rotate_left; focus (intro wq hSw; obtain ⟨hcq, hfq⟩ := bcell hSw; go_simp; (try with_reducible rfl); done))
          (try simp only [Act.put, List.setIfInBounds_toArray, List.set_cons_zero, List.set_cons_succ])
          refine anyT_done (by kernel_rfl) ?_ _
          have Hfin := Lib.hid (below_then Hb5.out Hb5.out.size hHeld)
          clear hHeld hb6 c3 f3 l3 c4 f4 l4 c8 f8 l8
          go_wp2
          go_roundg (B.looks.length - (k + 1))
          case measure => have := Hgk.out; omega
          case rel => exact ⟨k + 1, by omega, rfl, by go_num, by rw [Hst.out, Hse.out, Hm.out]; rfl, Hfin.out⟩
      · have hd : decide (s / 2 ^ k % 2 = 1) = true := decide_eq_true hb
        have Hd := Lib.hid hd
        have Hm : Hid (missB B t s k = false) := by
          unfold Hid
          rw [Hmi.out, decide_eq_false (by omega)]; rfl
        clear hb hd
        refine region_plain (S := fun w' => Below w5.heap.size w5 w') 18 (by kernel_rfl) ?_ (fun hHeld => ?_)
        · exact (Below.refl _ _).drew
        first | (refine anyT_take 0 (some 21) (v := ?_) rfl rfl (by kernel_rfl) (by kernel_rfl) (by kernel_rfl) (by kernel_rfl) (fun _ _ _ h => h) (Or.inl ⟨by rfl, ?_⟩) hHeld ?_; rotate_left; focus (intro wq hSw; obtain ⟨hcq, hfq⟩ := bcell hSw; go_simp; (try with_reducible rfl); done))
        (try simp only [Act.put, List.setIfInBounds_toArray, List.set_cons_zero, List.set_cons_succ])
        first | (refine anyT_take 1 (some 22) (v := ?_) rfl rfl (by kernel_rfl) (by kernel_rfl) (by kernel_rfl) (by kernel_rfl) (fun _ _ _ h => h) (Or.inl ⟨by rfl, ?_⟩) hHeld ?_; rotate_left; focus (intro wq hSw; obtain ⟨hcq, hfq⟩ := bcell hSw; go_simp; (try with_reducible rfl); done))
        (try simp only [Act.put, List.setIfInBounds_toArray, List.set_cons_zero, List.set_cons_succ])
        refine anyT_one 2 (by kernel_rfl) rfl (fun K hK => ?_)
        go_simp
        refine (refBit_calls s Hs.out k h8 _).mono ?_; rintro e x1 ⟨rfl, rfl⟩; rw [Hd.out]
        refine hK.out _ _ ?_ (fun hHeld => ?_)
        · exact hHeld
        clear hK K
        (try simp only [Act.put, List.setIfInBounds_toArray, List.set_cons_zero, List.set_cons_succ])
        first | (refine anyT_take 3 (some 24) (v := ?_) rfl rfl (by kernel_rfl) (by kernel_rfl) (by kernel_rfl) (by kernel_rfl) (fun _ _ _ h => h) (Or.inl ⟨by rfl, ?_⟩) hHeld ?_; rotate_left; focus (intro wq hSw; obtain ⟨hcq, hfq⟩ := bcell hSw; go_simp; (try with_reducible rfl); done))
        (try simp only [Act.put, List.setIfInBounds_toArray, List.set_cons_zero, List.set_cons_succ])
        first | (refine anyT_take 4 (some 25) (v := ?_) rfl rfl (by kernel_rfl) (by kernel_rfl) (by kernel_rfl) (by kernel_rfl) (fun _ _ _ h => h) (Or.inl ⟨by rfl, ?_⟩) hHeld ?_; rotate_left; focus (intro wq hSw; obtain ⟨hcq, hfq⟩ := bcell hSw; go_simp; (try with_reducible rfl); done))
        (try simp only [Act.put, List.setIfInBounds_toArray, List.set_cons_zero, List.set_cons_succ])
        first | (refine anyT_take 5 (some 26) rfl rfl (by kernel_rfl) (by kernel_rfl) (by kernel_rfl) (by kernel_rfl) (fun _ _ _ h => h) (Or.inr ⟨by rfl, rfl⟩) hHeld ?_) | (refine anyT_take 5 (some 26) (v := ?_) rfl rfl (by kernel_rfl) (by kernel_rfl) (by kernel_rfl) (by kernel_rfl) (fun _ _ _ h => h) (Or.inl ⟨by rfl, ?_⟩) hHeld ?_; rotate_left; focus (intro wq hSw; obtain ⟨hcq, hfq⟩ := bcell hSw; go_simp; (try with_reducible rfl); done))
        (try simp only [Act.put, List.setIfInBounds_toArray, List.set_cons_zero, List.set_cons_succ])
        first | (refine anyT_take 6 (some 27) rfl rfl (by kernel_rfl) (by kernel_rfl) (by kernel_rfl) (by kernel_rfl) (fun _ _ _ h => h) (Or.inr ⟨by rfl, rfl⟩) hHeld ?_) | (refine anyT_take 6 (some 27) (v := ?_) rfl rfl (by kernel_rfl) (by kernel_rfl) (by kernel_rfl) (by kernel_rfl) (fun _ _ _ h => h) (Or.inl ⟨by rfl, ?_⟩) hHeld ?_; rotate_left; focus (intro wq hSw; obtain ⟨hcq, hfq⟩ := bcell hSw; go_simp; (try with_reducible rfl); done))
        (try simp only [Act.put, List.setIfInBounds_toArray, List.set_cons_zero, List.set_cons_succ])
        first | (refine anyT_take 7 (some 28) rfl rfl (by kernel_rfl) (by kernel_rfl) (by kernel_rfl) (by kernel_rfl) (fun _ _ _ h => h) (Or.inr ⟨by rfl, rfl⟩) hHeld ?_) | (refine anyT_take 7 (some 28) (v := ?_) rfl rfl (by kernel_rfl) (by kernel_rfl) (by kernel_rfl) (by kernel_rfl) (fun _ _ _ h => h) (Or.inl ⟨by rfl, ?_⟩) hHeld ?_; rotate_left; focus (intro wq hSw; obtain ⟨hcq, hfq⟩ := bcell hSw; go_simp; (try with_reducible rfl); done))
        (try simp only [Act.put, List.setIfInBounds_toArray, List.set_cons_zero, List.set_cons_succ])
        first | (refine anyT_take 8 (some 29) rfl rfl (by kernel_rfl) (by kernel_rfl) (by kernel_rfl) (by kernel_rfl) (fun _ _ _ h => h) (Or.inr ⟨by rfl, rfl⟩) hHeld ?_) | (refine anyT_take 8 (some 29) (v := ?_) rfl rfl (by kernel_rfl) (by kernel_rfl) (by kernel_rfl) (by kernel_rfl) (fun _ _ _ h => h) (Or.inl ⟨by rfl, ?_⟩) hHeld ?_; rotate_left; focus (intro wq hSw; obtain ⟨hcq, hfq⟩ := bcell hSw; go_simp; (try with_reducible rfl); done))
        (try simp only [Act.put, List.setIfInBounds_toArray, List.set_cons_zero, List.set_cons_succ])
        first | (refine anyT_take 10 (some 31) rfl rfl (by kernel_rfl) (by kernel_rfl) (by kernel_rfl) (by kernel_rfl) (fun _ _ _ h => h) (Or.inr ⟨by rfl, rfl⟩) hHeld ?_) | (refine anyT_take 10 (some 31) (v := ?_) rfl rfl (by kernel_rfl) (by kernel_rfl) (by kernel_rfl) (by kernel_rfl) (fun _ _ _ h => h) (Or.inl ⟨by rfl, ?_⟩) hHeld ?_; rotate_left; focus (intro wq hSw; obtain ⟨hcq, hfq⟩ := bcell hSw; go_simp; (try with_reducible rfl); done))
        (try simp only [Act.put, List.setIfInBounds_toArray, List.set_cons_zero, List.set_cons_succ])
        first | (refine anyT_take 11 (some 32) rfl rfl (by kernel_rfl) (by kernel_rfl) (by kernel_rfl) (by kernel_rfl) (fun _ _ _ h => h) (Or.inr ⟨by rfl, rfl⟩) hHeld ?_) | (refine anyT_take 11 (some 32) (v := ?_) rfl rfl (by kernel_rfl) (by kernel_rfl) (by kernel_rfl) (by kernel_rfl) (fun _ _ _ h => h) (Or.inl ⟨by rfl, ?_⟩) hHeld ?_; rotate_left; focus (intro wq hSw; obtain ⟨hcq, hfq⟩ := bcell hSw; go_simp; (try with_reducible rfl); done))
        (try simp only [Act.put, List.setIfInBounds_toArray, List.set_cons_zero, List.set_cons_succ])
        first | (refine anyT_take 14 (some 35) rfl rfl (by kernel_rfl) (by kernel_rfl) (by kernel_rfl) (by kernel_rfl) (fun _ _ _ h => h) (Or.inr ⟨by rfl, rfl⟩) hHeld ?_) | (refine anyT_take 14 (some 35) (v := ?_) rfl rfl (by kernel_rfl) (by kernel_rfl) (by kernel_rfl) (by kernel_rfl) (fun _ _ _ h => h) (Or.inl ⟨by rfl, ?_⟩) hHeld ?_; rotate_left; focus (intro wq hSw; obtain ⟨hcq, hfq⟩ := bcell hSw; go_simp; (try with_reducible rfl); done))
        (try simp only [Act.put, List.setIfInBounds_toArray, List.set_cons_zero, List.set_cons_succ])
        first | (refine anyT_take 15 (some 36) rfl rfl (by kernel_rfl) (by kernel_rfl) (by kernel_rfl) (by kernel_rfl) (fun _ _ _ h => h) (Or.inr ⟨by rfl, rfl⟩) hHeld ?_) | (refine anyT_take 15 (some 36) (v := ?_) rfl rfl (by kernel_rfl) (by kernel_rfl) (by kernel_rfl) (by kernel_rfl) (fun _ _ _ h => h) (Or.inl ⟨by rfl, ?_⟩) hHeld ?_; rotate_left; focus (intro wq hSw; obtain ⟨hcq, hfq⟩ := bcell hSw; go_simp; (try with_reducible rfl); done))
        (try simp only [Act.put, List.setIfInBounds_toArray, List.set_cons_zero, List.set_cons_succ])
        refine anyT_one 9 (by kernel_rfl) rfl (fun K hK => ?_)
        go_simp
        refine hK.out _ _ ?_ (fun hHeld => ?_)
        · exact hHeld
        clear hK K
        (try simp only [Act.put, List.setIfInBounds_toArray, List.set_cons_zero, List.set_cons_succ])
        first | (refine anyT_take 12 (some 33) rfl rfl (by kernel_rfl) (by kernel_rfl) (by kernel_rfl) (by kernel_rfl) (fun _ _ _ h => h) (Or.inr ⟨by rfl, rfl⟩) hHeld ?_) | (refine anyT_take 12 (some 33) (v := ?_) rfl rfl (by kernel_rfl) (by kernel_rfl) (by kernel_rfl) (by kernel_rfl) (fun _ _ _ h => h) (Or.inl ⟨by rfl, ?_⟩) hHeld ?_; rotate_left; focus (intro wq hSw; obtain ⟨hcq, hfq⟩ := bcell hSw; go_simp; (try with_reducible rfl); done))
        (try simp only [Act.put, List.setIfInBounds_toArray, List.set_cons_zero, List.set_cons_succ])
        refine anyT_one 13 (by kernel_rfl) rfl (fun K hK => ?_)
        go_simp
        refine hK.out _ _ ?_ (fun hHeld => ?_)
        · exact hHeld
        clear hK K
        (try simp only [Act.put, List.setIfInBounds_toArray, List.set_cons_zero, List.set_cons_succ])
        first | (refine anyT_take 16 (some 37) rfl rfl (by kernel_rfl) (by kernel_rfl) (by kernel_rfl) (by kernel_rfl) (fun _ _ _ h => h) (Or.inr ⟨by rfl, rfl⟩) hHeld ?_) | (refine anyT_take 16 (some 37) (v := ?_) rfl rfl (by kernel_rfl) (by kernel_rfl) (by kernel_rfl) (by kernel_rfl) (fun _ _ _ h => h) (Or.inl ⟨by rfl, ?_⟩) hHeld ?_; rotate_left; focus (intro wq hSw; obtain ⟨hcq, hfq⟩ := bcell hSw; go_simp; (try with_reducible rfl); done))
        (try simp only [Act.put, List.setIfInBounds_toArray, List.set_cons_zero, List.set_cons_succ])
        first | (refine anyT_take 17 (some 38) (v := ?_) rfl rfl (by kernel_rfl) (by kernel_rfl) (by kernel_rfl) (by kernel_rfl) (fun _ _ _ h => h) (Or.inl ⟨by rfl, ?_⟩) hHeld ?_; rotate_left; focus (intro wq hSw; obtain ⟨hcq, hfq⟩ := bcell hSw; go_simp; (try with_reducible rfl); done))
        (try simp only [Act.put, List.setIfInBounds_toArray, List.set_cons_zero, List.set_cons_succ])
        refine anyT_done (by kernel_rfl) ?_ _
        have Hfin := Lib.hid (below_then Hb5.out Hb5.out.size hHeld)
        clear hHeld
        clear c3 f3 l3 c4 f4 l4 c8 f8 l8
        go_wp2
        go_roundg (B.looks.length - (k + 1))
        case measure => have := Hgk.out; omega
        case rel => exact ⟨k + 1, by omega, rfl, by go_num, by rw [Hst.out, Hse.out, Hm.out]; rfl, Hfin.out⟩
    · obtain rfl : k = B.looks.length := by omega
      have hki : ¬ (B.looks.length : Int) < B.looks.length := by omega
      go_wp2
      go_ret
      exact ⟨by rw [Hse.out] <;> rfl, HBr.out⟩
theorem thins_cells {w : World} {b o : Nat} {l : List (Int × Int)} (h : SpansAt w (some ⟨b, o, none⟩) l) (hl : l.length = 3) :
    (w.cell? ⟨b, o, none⟩ = some (.int .i64 (gs l 0).1) ∧ w.cell? ⟨b, o + 1, none⟩ = some (.int .i64 (gs l 0).2)) ∧ (w.cell? ⟨b, o + 2, none⟩ = some (.int .i64 (gs l 1).1) ∧ w.cell? ⟨b, o + 2 + 1, none⟩ = some (.int .i64 (gs l 1).2)) ∧
    (w.cell? ⟨b, o + 4, none⟩ = some (.int .i64 (gs l 2).1) ∧ w.cell? ⟨b, o + 4 + 1, none⟩ = some (.int .i64 (gs l 2).2)) :=
  ⟨h.at_ (k := 0) (by omega), h.at_ (k := 1) (by omega), h.at_ (k := 2) (by omega)⟩
theorem tkid_len {B : ForgeV} (g : B.Good) (s : Int) (n : Nat) (x : List Int) (h : x.length + 1 + n = 3) (k : Nat) (hk : k ≤ 20) : ((List.range k).flatMap (tkid B s n x)).length ≤ 20 * 20 ^ n := by
  have h1 := flatMap_len (tkid B s n x) (20 ^ n) (List.range k) (fun j _ => truthsFrom_len g s n _ (by simp; omega))
  rw [List.length_range] at h1
  exact Nat.le_trans h1 (Nat.mul_le_mul_right _ hk)
theorem tkid_end (B : ForgeV) (s x y : Int) (k : Nat) : tkid B s 0 [x, y] k = bif seenTo B [x, y, (gs B.thins 2).1 + (k : Int)] s B.looks.length then [[x, y, (gs B.thins 2).1 + (k : Int)]] else [] := by
  show (if seenTo B [x, y, (gs B.thins 2).1 + (k : Int)] s B.looks.length = true then [[x, y, (gs B.thins 2).1 + (k : Int)]] else []) = _
  cases seenTo B [x, y, (gs B.thins 2).1 + (k : Int)] s B.looks.length <;> rfl
theorem cell_num (x y z : Int) : Value.agg #[.int .i64 x, .int .i64 y, .int .i64 z] = .agg (pad3 [x, y, z]) := rfl
set_option maxRecDepth 100000 in
set_option maxHeartbeats 8000000 in
theorem refTruths_calls (B : ForgeV) (g : B.Good) (s : Int) (hs : 0 ≤ s ∧ s < 256) (w : World) (hB : B.Reads w) :
    Calls Tryd.prog 87 #[B.val, .int .i64 s] w fun e w' => (∃ A c, e = .returned (.slice A (truthsS B s).length c) ∧ TrisAt w' A (truthsS B s)) ∧ Below w.heap.size w w' := by
  have Hg := Lib.hid g
  have Hs := Lib.hid hs
  have HB0 := Lib.hid hB
  have h3 := g.thinsLen
  obtain ⟨sb, so, hsA⟩ := hB.thins.some_ (by omega)
  have hts := hB.thins
  rw [hsA] at hts
  have Hts := Lib.hid hts
  have HsA := Lib.hid hsA
  have k3 := BoxAt.new w B.cells 28
  have H1 : Below w.heap.size w (w.alloc (.cells B.cells 28)) := (Below.refl _ _).alloc (Nat.le_refl _) _
  have hcells : B.val = .agg B.cells := rfl
  rw [hcells]
  unfold ForgeV.cells at k3 H1 ⊢
  rw [hsA] at k3 H1 ⊢
  have g0 := g.thin 0 (by omega)
  have g1 := g.thin 1 (by omega)
  have g2 := g.thin 2 (by omega)
  have Hd0 : Hid (truthsS B s = (List.range ((gs B.thins 0).2 - (gs B.thins 0).1 + 1).toNat).flatMap (tkid B s 2 [])) := Lib.hid (truthsFrom_succ B s 2 [])
  have Hd1 : Hid (∀ k : Nat, tkid B s 2 [] k = (List.range ((gs B.thins 1).2 - (gs B.thins 1).1 + 1).toNat).flatMap (tkid B s 1 [(gs B.thins 0).1 + (k : Int)])) := Lib.hid (fun k => truthsFrom_succ B s 1 _)
  have Hd2 : Hid (∀ (x : Int) (k : Nat), tkid B s 1 [x] k = (List.range ((gs B.thins 2).2 - (gs B.thins 2).1 + 1).toNat).flatMap (tkid B s 0 [x, (gs B.thins 1).1 + (k : Int)])) := Lib.hid (fun x k => truthsFrom_succ B s 0 _)
  have Hd3 : Hid (∀ (x y : Int) (k : Nat), tkid B s 0 [x, y] k = bif seenTo B [x, y, (gs B.thins 2).1 + (k : Int)] s B.looks.length then [[x, y, (gs B.thins 2).1 + (k : Int)]] else []) := Lib.hid (fun x y k => tkid_end B s x y k)
  have Hl2 := Lib.hid (fun k hk => tkid_len g s 2 [] rfl k hk)
  have Hl1 := Lib.hid (fun (x : Int) k hk => tkid_len g s 1 [x] rfl k hk)
  have Hl0 := Lib.hid (fun (x y : Int) k hk => tkid_len g s 0 [x, y] rfl k hk)
  have Hfs := Lib.hid (fun (f : Nat → List (List Int)) k => flat_succ f k)
  obtain ⟨N0, hN0⟩ : ∃ N, ((gs B.thins 0).2 - (gs B.thins 0).1 + 1).toNat = N := ⟨_, rfl⟩
  obtain ⟨N1, hN1⟩ : ∃ N, ((gs B.thins 1).2 - (gs B.thins 1).1 + 1).toNat = N := ⟨_, rfl⟩
  obtain ⟨N2, hN2⟩ : ∃ N, ((gs B.thins 2).2 - (gs B.thins 2).1 + 1).toNat = N := ⟨_, rfl⟩
  rw [hN0] at Hd0
  rw [hN1] at Hd1
  rw [hN2] at Hd2
  have hb0 : (gs B.thins 0).2 = (gs B.thins 0).1 + N0 - 1 ∧ N0 ≤ 20 := by omega
  have hb1 : (gs B.thins 1).2 = (gs B.thins 1).1 + N1 - 1 ∧ N1 ≤ 20 := by omega
  have hb2 : (gs B.thins 2).2 = (gs B.thins 2).1 + N2 - 1 ∧ N2 ≤ 20 := by omega
  clear hN0 hN1 hN2 hB hts hsA g h3 hs
  generalize hz0 : gs B.thins 0 = z0 at *
  generalize hz1 : gs B.thins 1 = z1 at *
  generalize hz2 : gs B.thins 2 = z2 at *
  obtain ⟨lo0, hi0⟩ := z0
  obtain ⟨lo1, hi1⟩ := z1
  obtain ⟨lo2, hi2⟩ := z2
  have HZ := Lib.hid (And.intro hz0 (And.intro hz1 hz2))
  simp only at g0 g1 g2 hb0 hb1 hb2
  have Hb0 := Lib.hid hb0
  have Hb1 := Lib.hid hb1
  have Hb2 := Lib.hid hb2
  clear hb0 hb1 hb2
  clear hz0 hz1 hz2
  go_enter Tryd.func87, Tryd.ntmps87
  go_upto_region 1 with fail
  generalize w.alloc _ = W1 at *
  have K3 := Lib.hid k3
  have HW1 := Lib.hid H1
  have thc : ∀ W : World, Below w.heap.size w W → (W.cell? ⟨sb, so, none⟩ = some (.int .i64 lo0) ∧ W.cell? ⟨sb, so + 1, none⟩ = some (.int .i64 hi0)) ∧ (W.cell? ⟨sb, so + 2, none⟩ = some (.int .i64 lo1) ∧ W.cell? ⟨sb, so + 2 + 1, none⟩ = some (.int .i64 hi1)) ∧ (W.cell? ⟨sb, so + 4, none⟩ = some (.int .i64 lo2) ∧ W.cell? ⟨sb, so + 4 + 1, none⟩ = some (.int .i64 hi2)) := fun W h => by
    have h9 := thins_cells (Hts.out.below h) Hg.out.thinsLen
    rw [HZ.out.1, HZ.out.2.1, HZ.out.2.2] at h9
    exact h9
  have Thc := Lib.hid thc
  have t0 : 0 < B.thins.length := by have := Hg.out.thinsLen; omega
  have t1 : 1 < B.thins.length := by have := Hg.out.thinsLen; omega
  have t2 : 2 < B.thins.length := by have := Hg.out.thinsLen; omega
  obtain ⟨c3, f3, l3⟩ := k3
  obtain ⟨⟨p0, p1⟩, ⟨p2, p3⟩, p4, p5⟩ := thc W1 H1
  have pbl := World.block_lt_of_cell? _ _ p0
  simp only at pbl
  clear H1 thc
  go_upto_block 0 with (fail)
  clear c3 f3 l3 p0 p1 p2 p3 p4 p5 pbl
  go_wp2
  go_loopg [6, 5] N0 (fun gq i v wr => ∃ k : Nat, k ≤ N0 ∧ gq = N0 - k ∧ i = .int .i64 (lo0 + k) ∧ OwnTri wr W1.heap.size v ((List.range k).flatMap (tkid B s 2 [])) ∧ Below W1.heap.size W1 wr)
  case atStart => exact ⟨0, Nat.zero_le _, rfl, by go_num, OwnTri.nil _ _, Below.refl _ _⟩
  case round =>
    obtain ⟨k, hk, hgk, rfl, hown, hbe⟩ := hrel
    have Hgk := Lib.hid hgk
    have Hown := Lib.hid hown
    have Hbe := Lib.hid hbe
    have HBr := Lib.hid (HW1.out.trans (hbe.mono HW1.out.size))
    obtain ⟨c3, f3, l3⟩ := K3.out.below hbe
    obtain ⟨⟨p0, p1⟩, ⟨p2, p3⟩, p4, p5⟩ := Thc.out wr HBr.out
    have pbl := World.block_lt_of_cell? _ _ p0
    simp only at pbl
    clear hgk hown hbe
    by_cases hlt : k < N0
    · obtain ⟨x, hx⟩ : ∃ x, lo0 + (k : Int) = x := ⟨_, rfl⟩
      rw [hx]
      have hxb : x ≤ hi0 ∧ 1 ≤ x ∧ x ≤ 20 := by have := Hb0.out; omega
      have hxi := hxb.1
      have HX := Lib.hid hx
      have Hx1 : Hid (lo0 + ((k + 1 : Nat) : Int) = x + 1) := Lib.hid (by omega)
      have Hp0 := Lib.hid (Hl2.out k (by have := Hb0.out; omega))
      have Hf0 := Lib.hid (Hfs.out (tkid B s 2 []) k)
      have hd1 := Hd1.out k
      rw [hx] at hd1
      have Hd1k := Lib.hid hd1
      clear hx hd1
      generalize (List.range k).flatMap (tkid B s 2 []) = pre at *
      go_upto_block 2 with (fail)
      clear c3 f3 l3 p0 p1 p2 p3 p4 p5 pbl
      go_wp2
      go_loopg [7, 5] N1 (fun gq i v wr => ∃ k1 : Nat, k1 ≤ N1 ∧ gq = N1 - k1 ∧ i = .int .i64 (lo1 + k1) ∧ OwnTri wr W1.heap.size v (pre ++ (List.range k1).flatMap (tkid B s 1 [x])) ∧ Below W1.heap.size W1 wr)
      case atStart => exact ⟨0, Nat.zero_le _, rfl, by go_num, by simpa using Hown.out, Hbe.out⟩
      case round =>
        clear Hown Hbe HBr
        obtain ⟨k1, hk1, hgk1, rfl, hown, hbe⟩ := hrel
        have Hgk1 := Lib.hid hgk1
        have Hown := Lib.hid hown
        have Hbe := Lib.hid hbe
        have HBr := Lib.hid (HW1.out.trans (hbe.mono HW1.out.size))
        obtain ⟨c3, f3, l3⟩ := K3.out.below hbe
        obtain ⟨⟨p0, p1⟩, ⟨p2, p3⟩, p4, p5⟩ := Thc.out wr HBr.out
        have pbl := World.block_lt_of_cell? _ _ p0
        simp only at pbl
        clear hgk1 hown hbe
        by_cases hlt1 : k1 < N1
        · obtain ⟨y, hy⟩ : ∃ y, lo1 + (k1 : Int) = y := ⟨_, rfl⟩
          rw [hy]
          have hyb : y ≤ hi1 ∧ 1 ≤ y ∧ y ≤ 20 := by have := Hb1.out; omega
          have hyi := hyb.1
          have HY := Lib.hid hy
          have Hy1 : Hid (lo1 + ((k1 + 1 : Nat) : Int) = y + 1) := Lib.hid (by omega)
          have Hp1 := Lib.hid (Hl1.out x k1 (by have := Hb1.out; omega))
          have Hf1 := Lib.hid (Hfs.out (tkid B s 1 [x]) k1)
          have hd2 := Hd2.out x k1
          rw [hy] at hd2
          have Hd2k := Lib.hid hd2
          clear hy hd2
          generalize (List.range k1).flatMap (tkid B s 1 [x]) = pre1 at *
          go_upto_block 4 with (fail)
          clear c3 f3 l3 p0 p1 p2 p3 p4 p5 pbl
          go_wp2
          go_loopg [8, 5] N2 (fun gq i v wr => ∃ k2 : Nat, k2 ≤ N2 ∧ gq = N2 - k2 ∧ i = .int .i64 (lo2 + k2) ∧ OwnTri wr W1.heap.size v (pre ++ pre1 ++ (List.range k2).flatMap (tkid B s 0 [x, y])) ∧ Below W1.heap.size W1 wr)
          case atStart => exact ⟨0, Nat.zero_le _, rfl, by go_num, by simpa using Hown.out, Hbe.out⟩
          case round =>
            clear Hown Hbe HBr
            obtain ⟨k2, hk2, hgk2, rfl, hown, hbe⟩ := hrel
            have Hgk2 := Lib.hid hgk2
            have Hown := Lib.hid hown
            have Hbe := Lib.hid hbe
            have HBr := Lib.hid (HW1.out.trans (hbe.mono HW1.out.size))
            obtain ⟨c3, f3, l3⟩ := K3.out.below hbe
            obtain ⟨⟨p0, p1⟩, ⟨p2, p3⟩, p4, p5⟩ := Thc.out wr HBr.out
            have pbl := World.block_lt_of_cell? _ _ p0
            simp only at pbl
            clear hgk2 hown hbe
            by_cases hlt2 : k2 < N2
            · obtain ⟨z, hz⟩ : ∃ z, lo2 + (k2 : Int) = z := ⟨_, rfl⟩
              rw [hz]
              have hzb : z ≤ hi2 ∧ 1 ≤ z ∧ z ≤ 20 := by have := Hb2.out; omega
              have hzi := hzb.1
              have Hz1 : Hid (lo2 + ((k2 + 1 : Nat) : Int) = z + 1) := Lib.hid (by omega)
              have Hp2 := Lib.hid (Hl0.out x y k2 (by have := Hb2.out; omega))
              have Hf2 := Lib.hid (Hfs.out (tkid B s 0 [x, y]) k2)
              have hd3 := Hd3.out x y k2
              rw [hz] at hd3
              have Hd3k := Lib.hid hd3
              have Hbd : Hid (∀ k, 0 ≤ gi [x, y, z] k ∧ gi [x, y, z] k ≤ 20) := Lib.hid (fun k => by
                match k with
                | 0 => simp [gi]; omega
                | 1 => simp [gi]; omega
                | 2 => simp [gi]; omega
                | k + 3 => simp [gi])
              have HBs := Lib.hid (HB0.out.below HBr.out)
              clear hz hd3
              generalize (List.range k2).flatMap (tkid B s 0 [x, y]) = pre2 at *
              go_wp2_with fail
              refine (eq0_3 (v' := B.val) (by unfold ForgeV.val ForgeV.cells; rw [HsA.out]) (refSeen_calls B Hg.out [x, y, z] Hbd.out s Hs.out _ HBs.out)).mono ?_
              rintro e w5 ⟨rfl, hb5⟩
              have Hbe5 := Lib.hid (below_then Hbe.out Hbe.out.size hb5)
              have Hown5 := Lib.hid (Hown.out.below hb5)
              clear hb5 c3 f3 l3 p0 p1 p2 p3 p4 p5 pbl
              cases hse : seenTo B [x, y, z] s B.looks.length with
              | false =>
                have hf := Hf2.out
                rw [Hd3k.out, hse, cond_false, List.append_nil] at hf
                have Hf := Lib.hid hf
                clear hf hse
                go_wp2
                go_roundg (N2 - (k2 + 1))
                case measure => have := Hgk2.out; omega
                case rel => exact ⟨k2 + 1, by omega, rfl, by rw [Hz1.out] <;> go_num, by rw [Hf.out]; exact Hown5.out, Hbe5.out⟩
              | true =>
                have hf := Hf2.out
                rw [Hd3k.out, hse, cond_true] at hf
                have Hf := Lib.hid hf
                clear hf hse
                go_wp2_with (at_builtin; refine wpList_appTri _ rfl _ _ rfl W1.heap.size _ (pre ++ pre1 ++ pre2) rfl (Hown5.out.below ((Below.refl _ _).alloc (Nat.le_refl _) _)) _ 1 [x, y, z] rfl (BoxAt.new _ _ _) (by have := Hp0.out; have := Hp1.out; have := Hp2.out; simp only [List.length_append]; omega) (by have := Hbe5.out.size; rw [World.size_alloc]; omega) ?_)
                intro v6 w6 ho6 hb6
                have Ho6 := Lib.hid ho6
                have Hb6 := Lib.hid ((Hbe5.out.alloc Hbe5.out.size _).trans hb6)
                clear ho6 hb6
                go_wp2
                go_roundg (N2 - (k2 + 1))
                case measure => have := Hgk2.out; omega
                case rel => exact ⟨k2 + 1, by omega, rfl, by rw [Hz1.out] <;> go_num, by rw [Hf.out]; simpa only [List.append_assoc] using Ho6.out, Hb6.out⟩
            · obtain rfl : k2 = N2 := by omega
              have hzi : hi2 < lo2 + (k2 : Int) := by have := Hb2.out; omega
              have hown := Hown.out
              rw [← Hd2k.out, List.append_assoc, ← Hf1.out] at hown
              have Hown9 := Lib.hid hown
              clear hown
              go_wp2
              go_roundg (N1 - (k1 + 1))
              case measure => have := Hgk1.out; omega
              case rel => exact ⟨k1 + 1, by omega, rfl, by rw [Hy1.out] <;> go_num, Hown9.out, Hbe.out⟩
        · obtain rfl : k1 = N1 := by omega
          have hyi : hi1 < lo1 + (k1 : Int) := by have := Hb1.out; omega
          have hown := Hown.out
          rw [← Hd1k.out, ← Hf0.out] at hown
          have Hown9 := Lib.hid hown
          clear hown
          go_wp2
          go_roundg (N0 - (k + 1))
          case measure => have := Hgk.out; omega
          case rel => exact ⟨k + 1, by omega, rfl, by rw [Hx1.out] <;> go_num, Hown9.out, Hbe.out⟩
    · obtain rfl : k = N0 := by omega
      have hxi : hi0 < lo0 + (k : Int) := by have := Hb0.out; omega
      have hown := Hown.out
      rw [← Hd0.out] at hown
      obtain ⟨A', c', rfl, htr⟩ := hown.reads
      have Htr := Lib.hid htr
      clear hown htr Hown
      go_wp2
      go_ret
      exact ⟨⟨A', c', rfl, Htr.out⟩, HBr.out⟩
end
end Go.Proofs.YtgfbfbfajnfbjaaDoor

namespace Go.Proofs.YtgfbfbfajnfbjaaDoor
section
open Go.RowKit Go.Shelf
attribute [local go_sem] Oper.semAt_some
set_option linter.unusedSimpArgs false
set_option linter.unusedVariables false
/-! The reference's questions: a book's truths, and the thickness after some blows. -/
theorem eqSpan (a b x y : Int) (w : World) : (Op.equalIn 10000 24 (.agg #[.int .i64 a, .int .i64 b]) (.agg #[.int .i64 x, .int .i64 y])).run Tryd.prog w = .ok (decide (a = x) && decide (b = y)) w := by
  have hS : Tryd.prog.underlying 24 = some (.struct (Tryd.prog.fieldsOf 24)) := by kernel_rfl
  have hp : Tryd.prog.stoodInHeld 24 = false := by kernel_rfl
  rw [show (10000 : Nat) = 9999 + 1 from rfl, run_equalIn_struct w 9999 24 _ _ hS hp]
  obtain ⟨f0, f1, hf, n0, n1, t0, t1, o0, o1⟩ : ∃ f0 f1 : Field, (Tryd.prog.fieldsOf 24).toList = [f0, f1] ∧ (f0.name == "_") = false ∧ (f1.name == "_") = false ∧ f0.type = 3 ∧ f1.type = 3 ∧ f0.offset = 0 ∧ f1.offset = 1 :=
    ⟨(Tryd.prog.fieldsOf 24)[0]!, (Tryd.prog.fieldsOf 24)[1]!, by kernel_rfl, by kernel_rfl, by kernel_rfl, by kernel_rfl, by kernel_rfl, by kernel_rfl, by kernel_rfl⟩
  have p0 : ∀ (a b : Int) (w : World), (part 3 #[.int .i64 a, .int .i64 b] 0).run Tryd.prog w = .ok (.int .i64 a) w := fun a b w => by kernel_rfl
  have p1 : ∀ (a b : Int) (w : World), (part 3 #[.int .i64 a, .int .i64 b] 1).run Tryd.prog w = .ok (.int .i64 b) w := fun a b w => by kernel_rfl
  have e3 : ∀ (x y : Int) (w : World), (Op.equalIn 9999 3 (.int .i64 x) (.int .i64 y)).run Tryd.prog w = .ok (decide (x = y)) w := fun x y w => eqInt x y w 9998
  rw [hf]
  have m0 : f0.name ≠ "_" := by simpa using n0
  have m1 : f1.name ≠ "_" := by simpa using n1
  simp only [Op.eqFields, if_pos m0, if_pos m1, t0, t1, o0, o1, Sem.run_bind, p0, p1, e3, Result.andThen_ok]
  cases h1 : decide (a = x) <;> cases h2 : decide (b = y) <;> simp_all
theorem can_len {B : ForgeV} : canS B 0 = decide (0 < (truthsS B 0).length) := by
  unfold canS
  cases truthsS B 0 <;> simp
set_option maxRecDepth 100000 in
set_option maxHeartbeats 4000000 in
theorem refAsked_calls (B : ForgeV) (ok : Bool) (w : World) (hB : B.Reads w) :
    Calls Tryd.prog 82 #[B.val, .bool ok] w fun e w' => (∃ A n c, e = .returned (.tuple #[.slice A n c, .int .i64 (askedE B ok)]) ∧ (askedE B ok = 0 → n = (truthsS B 0).length ∧ TrisAt w' A (truthsS B 0))) ∧ Below w.heap.size w w' := by
  have HB0 := Lib.hid hB
  have Hr : Hid (askedE B ok = bif goodF B then (bif ok then (bif canS B 0 then 0 else 22) else 21) else 20) := Lib.hid rfl
  have k2 := BoxAt.new w B.cells 28
  have H1 : Below w.heap.size w (w.alloc (.cells B.cells 28)) := (Below.refl _ _).alloc (Nat.le_refl _) _
  have hcells : B.val = .agg B.cells := rfl
  rw [hcells]
  unfold ForgeV.cells at k2 H1 ⊢
  clear hB
  go_enter Tryd.func82, Tryd.ntmps82
  go_upto_region 1 with fail
  generalize w.alloc _ = W1 at *
  have K2 := Lib.hid k2
  have HW1 := Lib.hid H1
  obtain ⟨c2, f2, l2⟩ := k2
  clear H1
  go_wp2_with fail
  refine (eq0_1 (v' := B.val) (by unfold ForgeV.val ForgeV.cells; rfl) (refCheck_calls B _ (HB0.out.below HW1.out))).mono ?_
  rintro e w2 ⟨rfl, hb⟩
  replace HW1 := Lib.hid (below_then HW1.out HW1.out.size hb)
  replace K2 := Lib.hid (K2.out.below hb)
  clear hb c2 f2 l2
  cases hg : goodF B with
  | false =>
    have Hf : Hid (askedE B ok = 20) := by unfold Hid; rw [Hr.out, hg]; rfl
    clear hg
    go_wp2
    go_ret2
    exact ⟨⟨none, 0, 0, by rw [Hf.out] <;> rfl, fun h => by rw [Hf.out] at h; cases h⟩, HW1.out⟩
  | true =>
    have Hg := Lib.hid ((goodF_iff B).1 hg)
    cases ok with
    | false =>
      have Hf : Hid (askedE B false = 21) := by unfold Hid; rw [Hr.out, hg]; rfl
      clear hg
      go_wp2
      go_ret2
      exact ⟨⟨none, 0, 0, by rw [Hf.out] <;> rfl, fun h => by rw [Hf.out] at h; cases h⟩, HW1.out⟩
    | true =>
      have Hf : Hid (askedE B true = bif canS B 0 then 0 else 22) := by unfold Hid; rw [Hr.out, hg]; rfl
      clear hg Hr
      obtain ⟨c2, f2, l2⟩ := K2.out
      go_wp2_with fail
      refine (eq0_2 (v' := B.val) (by unfold ForgeV.val ForgeV.cells; rfl) (refTruths_calls B Hg.out 0 (by decide) _ (HB0.out.below HW1.out))).mono ?_
      rintro e w3 ⟨⟨TA, tc, rfl, htr⟩, hb⟩
      have HF := Lib.hid (below_then HW1.out HW1.out.size hb)
      have Htr := Lib.hid htr
      have hf := Hf.out
      rw [can_len] at hf
      have Hf2 := Lib.hid hf
      have hlen := truthsS_len Hg.out 0
      clear hb htr hf c2 f2 l2
      generalize hl9 : truthsS B 0 = l at *
      have HL9 := Lib.hid hl9
      clear hl9
      by_cases h0 : l.length = 0
      · have hz : ((l.length : Int) == 0) = true := by simp [h0]
        have Hf3 : Hid (askedE B true = 22) := by unfold Hid; rw [Hf2.out, h0]; rfl
        clear h0
        go_wp2
        go_ret2
        exact ⟨⟨none, 0, 0, by rw [Hf3.out] <;> rfl, fun h => by rw [Hf3.out] at h; cases h⟩, HF.out⟩
      · have hz : ((l.length : Int) == 0) = false := by rw [beq_eq_false_iff_ne]; omega
        have Hf3 : Hid (askedE B true = 0) := by unfold Hid; rw [Hf2.out, decide_eq_true (by omega)]; rfl
        clear h0
        go_wp2
        go_ret2
        exact ⟨⟨TA, l.length, tc, by rw [Hf3.out] <;> rfl, fun _ => ⟨by rw [HL9.out], by rw [HL9.out]; exact Htr.out⟩⟩, HF.out⟩
theorem ThinsAt.tri {w : World} {b : Nat} {l : List (List Int)} (h : ThinsAt w b l) {j : Nat} (hj : j < l.length) : w.cell? ⟨b, j * 3, none⟩ = some (.int .i64 (gi (gm l j) 0)) ∧ w.cell? ⟨b, j * 3 + 1, none⟩ = some (.int .i64 (gi (gm l j) 1)) ∧ w.cell? ⟨b, j * 3 + 2, none⟩ = some (.int .i64 (gi (gm l j) 2)) := h j hj
theorem span_take (B : ForgeV) (n : Int) (l : List (List Int)) (j : Nat) (h : j < l.length) : spanOf B n (l.take (j + 1)) = spanStep B n (spanOf B n (l.take j)) (gm l j) := by
  rw [take_snoc4 l j h, spanOf_snoc]
set_option maxRecDepth 100000 in
set_option maxHeartbeats 4000000 in
theorem refBetween_calls (B : ForgeV) (g : B.Good) (n : Int) (hn : 0 ≤ n ∧ n ≤ 300) (l : List (List Int)) (hl : 0 < l.length) (hl8 : l.length ≤ 8000) (hlb : ∀ t, t ∈ l → ∀ k, 0 ≤ gi t k ∧ gi t k ≤ 20) (A : Option Addr) (c : Nat) (w : World) (hA : TrisAt w A l) :
    Calls Tryd.prog 84 #[B.val, .slice A l.length c, .int .i64 n] w fun e w' => (∃ p : Int × Int, spanOf B n l = some p ∧ e = .returned (.agg #[.int .i64 p.1, .int .i64 p.2])) ∧ Below w.heap.size w w' := by
  have Hg := Lib.hid g
  have Hn := Lib.hid hn
  have hlb' := fun j (hj : j < l.length) => hlb (gm l j) (by
    unfold gm
    rw [List.getD_eq_getElem?_getD, List.getElem?_eq_getElem hj]
    exact List.getElem_mem hj)
  have Hlb := Lib.hid hlb'
  obtain ⟨tb, rfl, hta⟩ := hA.resolve_left (by intro e; rw [e] at hl; simp at hl)
  have Hta := Lib.hid hta
  have k3 := (BoxAt.new w B.cells 28).alloc (.cells #[.int .i64 0, .int .i64 0] 24)
  have k6 := BoxAt.new (w.alloc (.cells B.cells 28)) #[.int .i64 0, .int .i64 0] 24
  have H1 : Below w.heap.size w ((w.alloc (.cells B.cells 28)).alloc (.cells #[.int .i64 0, .int .i64 0] 24)) := ((Below.refl _ _).alloc (Nat.le_refl _) _).alloc (by simp) _
  rw [World.size_alloc] at k6
  have hcells : B.val = .agg B.cells := rfl
  rw [hcells]
  unfold ForgeV.cells at k3 k6 H1 ⊢
  have Hs1 := Lib.hid (fun j hj => span_take B n l j hj)
  have haf : ∀ t : List Int, (∀ k, 0 ≤ gi t k ∧ gi t k ≤ 20) → -6060 ≤ afterS B t n ∧ afterS B t n ≤ 3000 := fun t ht => by
    have := afterTo_bd g ht hn 3 (Nat.le_refl _)
    exact ⟨by have := this.1; exact this, this.2⟩
  have Haf := Lib.hid haf
  clear g hn hA hta hlb hlb' haf
  go_enter Tryd.func84, Tryd.ntmps84
  go_upto_region 1 with fail
  generalize World.alloc (World.alloc w _) _ = W1 at *
  have hn6 : w.heap.size < w.heap.size + 1 := Nat.lt_succ_self _
  generalize w.heap.size + 1 = n6 at *
  have K3 := Lib.hid k3
  have K6 := Lib.hid k6
  have HW1 := Lib.hid H1
  obtain ⟨c3, f3, l3⟩ := k3
  obtain ⟨p0, p1, p2⟩ := (Hta.out.below H1).tri hl
  rw [Nat.zero_mul] at p0 p1 p2
  have pbl := World.block_lt_of_cell? _ _ p0
  simp only at pbl
  have hb0 := Hlb.out 0 hl
  have hs0 : spanOf B n (l.take 1) = some (afterS B (gm l 0) n, afterS B (gm l 0) n) := by rw [Hs1.out 0 hl]; rfl
  have Hb0 := Lib.hid hb0
  have Hs0 := Lib.hid hs0
  generalize gm l 0 = t0 at *
  clear H1 k6 hb0 hs0
  refine region_plain (S := fun w' => Below W1.heap.size W1 w') 7 (by kernel_rfl) ?_ (fun hHeld => ?_)
  · exact (Below.refl _ _).drew
  first | (refine anyT_take 0 (some 10) (v := ?_) rfl rfl (by kernel_rfl) (by kernel_rfl) (by kernel_rfl) (by kernel_rfl) (fun _ _ _ h => h) (Or.inl ⟨by rfl, ?_⟩) hHeld ?_; rotate_left; focus (intro wq hSw; obtain ⟨hcq, hfq⟩ := bcell hSw; go_simp; (try with_reducible rfl); done))
  (try simp only [Act.put, List.setIfInBounds_toArray, List.set_cons_zero, List.set_cons_succ])
  first | (refine anyT_take 1 (some 11) (v := ?_) rfl rfl (by kernel_rfl) (by kernel_rfl) (by kernel_rfl) (by kernel_rfl) (fun _ _ _ h => h) (Or.inl ⟨by rfl, ?_⟩) hHeld ?_; rotate_left; focus (intro wq hSw; obtain ⟨hcq, hfq⟩ := bcell hSw; go_simp; (try with_reducible rfl); done))
  (try simp only [Act.put, List.setIfInBounds_toArray, List.set_cons_zero, List.set_cons_succ])
  first | (refine anyT_take 2 (some 12) (v := ?_) rfl rfl (by kernel_rfl) (by kernel_rfl) (by kernel_rfl) (by kernel_rfl) (fun _ _ _ h => h) (Or.inl ⟨by rfl, ?_⟩) hHeld ?_; rotate_left; focus (intro wq hSw; obtain ⟨hcq, hfq⟩ := bcell hSw; go_simp; (try with_reducible rfl); done))
  (try simp only [Act.put, List.setIfInBounds_toArray, List.set_cons_zero, List.set_cons_succ])
  first | (refine anyT_take 3 (some 13) (v := ?_) rfl rfl (by kernel_rfl) (by kernel_rfl) (by kernel_rfl) (by kernel_rfl) (fun _ _ _ h => h) (Or.inl ⟨by rfl, ?_⟩) hHeld ?_; rotate_left; focus (intro wq hSw; obtain ⟨hcq, hfq⟩ := bcell hSw; go_simp; (try with_reducible rfl); done))
  (try simp only [Act.put, List.setIfInBounds_toArray, List.set_cons_zero, List.set_cons_succ])
  first | (refine anyT_take 4 (some 14) (v := ?_) rfl rfl (by kernel_rfl) (by kernel_rfl) (by kernel_rfl) (by kernel_rfl) (fun _ _ _ h => h) (Or.inl ⟨by rfl, ?_⟩) hHeld ?_; rotate_left; focus (intro wq hSw; obtain ⟨hcq, hfq⟩ := bcell hSw; go_simp; (try with_reducible rfl); done))
  (try simp only [Act.put, List.setIfInBounds_toArray, List.set_cons_zero, List.set_cons_succ])
  refine anyT_one 5 (by kernel_rfl) rfl (fun K hK => ?_)
  go_simp
  refine (eq0_3 (v' := B.val) (by unfold ForgeV.val ForgeV.cells; rfl) (refAfter_calls B Hg.out t0 Hb0.out n Hn.out _)).mono ?_; rintro e w2 ⟨rfl, hb2⟩
  refine hK.out _ _ ?_ (fun hHeld => ?_)
  · exact below_then hHeld hHeld.size hb2
  clear hK K
  (try simp only [Act.put, List.setIfInBounds_toArray, List.set_cons_zero, List.set_cons_succ])
  first | (refine anyT_take 6 (some 7) (v := ?_) rfl rfl (by kernel_rfl) (by kernel_rfl) (by kernel_rfl) (by kernel_rfl) (fun _ _ _ h => h) (Or.inl ⟨by rfl, ?_⟩) hHeld ?_; rotate_left; focus (intro wq hSw; obtain ⟨hcq, hfq⟩ := bcell hSw; go_simp; (try with_reducible rfl); done))
  (try simp only [Act.put, List.setIfInBounds_toArray, List.set_cons_zero, List.set_cons_succ])
  refine anyT_done (by kernel_rfl) ?_ _
  have HW2 := Lib.hid (below_then HW1.out HW1.out.size hHeld)
  have K32 := Lib.hid (K3.out.below hHeld)
  have K62 := Lib.hid (K6.out.below hHeld)
  clear hHeld hb2 c3 f3 l3 p0 p1 p2 pbl
  generalize afterS B t0 n = a0 at *
  go_upto_block 0 with (go_at_call 52; refine (Band_calls _ _ _).mono ?_; rintro e w3 ⟨rfl, hb3⟩; have HW3 := Lib.hid (below_then HW2.out HW2.out.size hb3); have K33 := Lib.hid (K32.out.below hb3); have K63 := Lib.hid (K62.out.below hb3); clear hb3)
  have k8 := BoxAt.new w3 #[.int .i64 a0, .int .i64 a0] 24
  have hb4 : Below w3.heap.size w3 (w3.alloc (.cells #[.int .i64 a0, .int .i64 a0] 24)) := (Below.refl _ _).alloc (Nat.le_refl _) _
  generalize w3.alloc _ = w4 at *
  have hl6 := K63.out.lt
  have hl3 := K33.out.lt
  have hsz := HW3.out.size
  generalize hn8 : w3.heap.size = n8 at *
  have Hn8 := Lib.hid hn8
  have K8 := Lib.hid k8
  have Hb4 := Lib.hid hb4
  have lift : ∀ {W : World}, Below n8 w3 W → Below w3.heap.size w3 W := fun h => by rw [Hn8.out]; exact h
  have htb : tb < n8 := by
    have := World.block_lt_of_cell? _ _ (Hta.out.tri hl).1
    simp only at this
    omega
  clear k8 hb4 hn8
  go_wp2
  go_loopg [9] (l.length - 1) (fun gq i wr => ∃ k : Nat, ∃ lo hi : Int, 1 ≤ k ∧ k ≤ l.length ∧ gq = l.length - k ∧ i = .int .i64 k ∧ spanOf B n (l.take k) = some (lo, hi) ∧ BoxAt wr n8 #[.int .i64 lo, .int .i64 hi] ∧ Below n8 w3 wr)
  case atStart => exact ⟨1, a0, a0, Nat.le_refl _, hl, rfl, rfl, Hs0.out, K8.out, Hb4.out⟩
  case round =>
    obtain ⟨k, lo, hi, hk1, hk, hgk, rfl, hsp, hbx, hbe⟩ := hrel
    have Hgk := Lib.hid hgk
    have Hsp := Lib.hid hsp
    have Hbx := Lib.hid hbx
    have Hbe := Lib.hid hbe
    obtain ⟨c3, f3, l3⟩ := K33.out.below (lift hbe)
    obtain ⟨c6, f6, l6⟩ := K63.out.below (lift hbe)
    obtain ⟨c8, f8, l8⟩ := hbx
    clear hgk hsp hbe K8 Hb4
    by_cases hlt : k < l.length
    · have hki : (k : Int) < l.length := by omega
      have hst := Hs1.out k hlt
      rw [Hsp.out] at hst
      obtain ⟨p0, p1, p2⟩ := ((Hta.out.below HW3.out).below (lift Hbe.out)).tri hlt
      have pbl := World.block_lt_of_cell? _ _ p0
      simp only at pbl
      have Hbk := Lib.hid (Hlb.out k hlt)
      generalize gm l k = t at *
      have hst2 : spanOf B n (l.take (k + 1)) = some (min lo (afterS B t n), max hi (afterS B t n)) := by
        rw [hst]
        show some ((if lo ≤ afterS B t n then lo else afterS B t n), (if afterS B t n ≤ hi then hi else afterS B t n)) = _
        congr 2 <;> (split <;> omega)
      have Hst := Lib.hid hst2
      have hab := Haf.out t Hbk.out
      clear hst hst2 c6 f6 l6
      go_upto_region 6 with (fail)
      refine region_plain (S := fun w' => Below wr.heap.size wr w') 8 (by kernel_rfl) ?_ (fun hHeld => ?_)
      · exact (Below.refl _ _).drew
      first | (refine anyT_take 0 (some 25) (v := ?_) rfl rfl (by kernel_rfl) (by kernel_rfl) (by kernel_rfl) (by kernel_rfl) (fun _ _ _ h => h) (Or.inl ⟨by rfl, ?_⟩) hHeld ?_; rotate_left; focus (intro wq hSw; obtain ⟨hcq, hfq⟩ := bcell hSw; go_simp; (try with_reducible rfl); done))
      (try simp only [Act.put, List.setIfInBounds_toArray, List.set_cons_zero, List.set_cons_succ])
      first | (refine anyT_take 1 (some 26) (v := ?_) rfl rfl (by kernel_rfl) (by kernel_rfl) (by kernel_rfl) (by kernel_rfl) (fun _ _ _ h => h) (Or.inl ⟨by rfl, ?_⟩) hHeld ?_; rotate_left; focus (intro wq hSw; obtain ⟨hcq, hfq⟩ := bcell hSw; go_simp; (try with_reducible rfl); done))
      (try simp only [Act.put, List.setIfInBounds_toArray, List.set_cons_zero, List.set_cons_succ])
      first | (refine anyT_take 2 (some 27) (v := ?_) rfl rfl (by kernel_rfl) (by kernel_rfl) (by kernel_rfl) (by kernel_rfl) (fun _ _ _ h => h) (Or.inl ⟨by rfl, ?_⟩) hHeld ?_; rotate_left; focus (intro wq hSw; obtain ⟨hcq, hfq⟩ := bcell hSw; go_simp; (try with_reducible rfl); done))
      (try simp only [Act.put, List.setIfInBounds_toArray, List.set_cons_zero, List.set_cons_succ])
      first | (refine anyT_take 3 (some 28) (v := ?_) rfl rfl (by kernel_rfl) (by kernel_rfl) (by kernel_rfl) (by kernel_rfl) (fun _ _ _ h => h) (Or.inl ⟨by rfl, ?_⟩) hHeld ?_; rotate_left; focus (intro wq hSw; obtain ⟨hcq, hfq⟩ := bcell hSw; go_simp; (try with_reducible rfl); done))
      (try simp only [Act.put, List.setIfInBounds_toArray, List.set_cons_zero, List.set_cons_succ])
      first | (refine anyT_take 4 (some 29) (v := ?_) rfl rfl (by kernel_rfl) (by kernel_rfl) (by kernel_rfl) (by kernel_rfl) (fun _ _ _ h => h) (Or.inl ⟨by rfl, ?_⟩) hHeld ?_; rotate_left; focus (intro wq hSw; obtain ⟨hcq, hfq⟩ := bcell hSw; go_simp; (try with_reducible rfl); done))
      (try simp only [Act.put, List.setIfInBounds_toArray, List.set_cons_zero, List.set_cons_succ])
      first | (refine anyT_take 5 (some 30) (v := ?_) rfl rfl (by kernel_rfl) (by kernel_rfl) (by kernel_rfl) (by kernel_rfl) (fun _ _ _ h => h) (Or.inl ⟨by rfl, ?_⟩) hHeld ?_; rotate_left; focus (intro wq hSw; obtain ⟨hcq, hfq⟩ := bcell hSw; go_simp; (try with_reducible rfl); done))
      (try simp only [Act.put, List.setIfInBounds_toArray, List.set_cons_zero, List.set_cons_succ])
      refine anyT_one 6 (by kernel_rfl) rfl (fun K hK => ?_)
      go_simp
      refine (eq0_3 (v' := B.val) (by unfold ForgeV.val ForgeV.cells; rfl) (refAfter_calls B Hg.out t Hbk.out n Hn.out _)).mono ?_; rintro e w5 ⟨rfl, hb5⟩
      refine hK.out _ _ ?_ (fun hHeld => ?_)
      · exact below_then hHeld hHeld.size hb5
      clear hK K
      (try simp only [Act.put, List.setIfInBounds_toArray, List.set_cons_zero, List.set_cons_succ])
      first | (refine anyT_take 7 (some 7) (v := ?_) rfl rfl (by kernel_rfl) (by kernel_rfl) (by kernel_rfl) (by kernel_rfl) (fun _ _ _ h => h) (Or.inl ⟨by rfl, ?_⟩) hHeld ?_; rotate_left; focus (intro wq hSw; obtain ⟨hcq, hfq⟩ := bcell hSw; go_simp; (try with_reducible rfl); done))
      (try simp only [Act.put, List.setIfInBounds_toArray, List.set_cons_zero, List.set_cons_succ])
      refine anyT_done (by kernel_rfl) ?_ _
      have hbx5 := Hbx.out.below hHeld
      have Hbe5 := Lib.hid (Hbe.out.trans (hHeld.mono (by have := Hbx.out.lt; omega)))
      clear hHeld hb5 c3 f3 l3 c8 f8 l8 p0 p1 p2 pbl Hbx
      have Hbx5 := Lib.hid hbx5
      obtain ⟨c8, f8, l8⟩ := hbx5
      generalize afterS B t n = v at *
      rcases Int.lt_or_le v lo with m1 | m1 <;> rcases Int.lt_or_le hi v with m2 | m2
      all_goals
        as_aux_lemma =>
          go_upto_region 5 with (go_at_call 52; refine (Band_calls _ _ _).mono ?_; rintro e w6 ⟨rfl, hb6⟩; have Hbx6 := Lib.hid (Hbx5.out.below hb6); have Hbe6 := Lib.hid (Hbe5.out.trans (hb6.mono (by have := Hbx5.out.lt; omega))); clear hb6 c8 f8 l8; obtain ⟨c8, f8, l8⟩ := Hbx6.out)
          have hs := box_store2 Hbx6.out rfl (.int .i64 (min lo v)) (.int .i64 (max hi v))
          have e1 := hs.2 n8 (Nat.le_refl _)
          have Hbx7 := Lib.hid hs.1
          have Hbe7 := Lib.hid (Hbe6.out.trans e1)
          first
            | rw [show min lo v = v by omega] at *
            | rw [show min lo v = lo by omega] at *
          first
            | rw [show max hi v = v by omega] at *
            | rw [show max hi v = hi by omega] at *
          clear hs e1 c8 f8 l8
          generalize World.setCell (World.setCell w6 _ _) _ _ = w7 at *
          go_wp2
          go_roundg (l.length - (k + 1))
          case measure => have := Hgk.out; omega
          case rel => exact ⟨k + 1, _, _, by omega, by omega, rfl, by go_num, Hst.out, Hbx7.out, Hbe7.out⟩
    · obtain rfl : k = l.length := by omega
      have hki : ¬ (l.length : Int) < l.length := by omega
      have hsp := Hsp.out
      rw [List.take_length] at hsp
      have Hsp2 := Lib.hid hsp
      have hs := box_store2 (K63.out.below (lift Hbe.out)) rfl (.int .i64 lo) (.int .i64 hi)
      have Hs6 := Lib.hid hs.1
      have Hs7 := Lib.hid (hs.2 w.heap.size (by omega))
      have HBr := Lib.hid (HW3.out.trans (Hbe.out.mono hsz))
      clear hs hsp c3 f3 l3
      go_wp2
      obtain ⟨c6, f6, l6⟩ := Hs6.out
      exact bodyPost_ret (v := .agg #[.int .i64 lo, .int .i64 hi]) (by simp [results, Tryd.results84, go_sem, c6]) rfl ⟨by first | exact ⟨(lo, hi), Hsp2.out, rfl⟩ | exact ⟨lo, hi, Hsp2.out, rfl⟩, HBr.out.trans Hs7.out⟩
end
end Go.Proofs.YtgfbfbfajnfbjaaDoor
