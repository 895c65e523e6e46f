/- PROVED: ForgeFewest (the walk): the law returns true, whatever the book and the numbers. -/
import Derived.Test.YtgfbfbfajnfbjaaDoorCE
import Derived.Test.YtgfbfbfajnfbjaaDoorAC
namespace Go.Proofs.YtgfbfbfajnfbjaaDoor
section
open Go.RowKit Go.Shelf
set_option linter.unusedSimpArgs false
set_option linter.unusedVariables false
/-! The melt that is told: of the fewest lots, and of these the first, with no program in sight. -/
def SoonF : List Int → List Int → Prop
  | x :: a, y :: b => x < y ∨ (x = y ∧ SoonF a b)
  | _, _ => False
theorem soonF_asymm : ∀ (a b : List Int), SoonF a b → ¬ SoonF b a
  | x :: a, y :: b, h, h' => by
    rcases h with h | ⟨h, h1⟩ <;> rcases h' with h' | ⟨h', h2⟩
    · omega
    · omega
    · omega
    · exact soonF_asymm a b h1 h2
  | [], _, h, _ => h.elim
  | _ :: _, [], h, _ => h.elim
theorem choices_sorted : ∀ (l : List Int) (m : Int), (choices l m).Pairwise SoonF
  | [], m => by
    unfold choices
    split
    · exact List.Pairwise.nil
    · exact List.pairwise_singleton _ _
  | a :: t, m => by
    unfold choices
    rw [List.pairwise_flatMap]
    refine ⟨fun k _ => ?_, ?_⟩
    · rw [List.pairwise_map]
      exact (choices_sorted t (m - k)).imp fun h => .inr ⟨rfl, h⟩
    · refine List.pairwise_lt_range.imp fun {j k} hjk x hx y hy => ?_
      obtain ⟨x', _, rfl⟩ := List.mem_map.1 hx
      obtain ⟨y', _, rfl⟩ := List.mem_map.1 hy
      exact .inl (by omega)
theorem sum_nn (l : List Int) (h : ∀ k, 0 ≤ gi l k) : ∀ k : Nat, 0 ≤ sumTo l k
  | 0 => Int.le_refl _
  | k + 1 => by have h1 := sum_nn l h k; have h2 := h k; simp only [sumTo]; omega
theorem choices_all : ∀ (l x : List Int), x.length = l.length → (∀ k, 0 ≤ gi x k ∧ gi x k ≤ gi l k) → x ∈ choices l (sumTo x x.length)
  | [], x, hl, _ => by
    have hx : x = [] := List.eq_nil_of_length_eq_zero hl
    subst hx
    simp [choices, sumTo]
  | a :: t, [], hl, _ => by simp at hl
  | a :: t, x0 :: y, hl, h => by
    have h0 := h 0
    have ih := choices_all t y (by simpa using hl) (fun k => h (k + 1))
    have hs : 0 ≤ sumTo y y.length := sum_nn y (fun j => (h (j + 1)).1) y.length
    have e0 : gi (x0 :: y) 0 = x0 := rfl
    have e1 : gi (a :: t) 0 = a := rfl
    rw [e0, e1] at h0
    unfold choices
    rw [List.mem_flatMap, List.length_cons, sumTo_cons]
    refine ⟨x0.toNat, List.mem_range.2 (by omega), List.mem_map.2 ⟨y, ?_, ?_⟩⟩
    · rw [show x0 + sumTo y y.length - (x0.toNat : Int) = sumTo y y.length by omega]; exact ih
    · rw [Int.toNat_of_nonneg h0.1]
theorem best_from : ∀ (l : List (List Int)) (b : Option (List Int)) (q : List Int), l.Pairwise SoonF → l.foldl bestStep b = some q →
    (∀ p, p ∈ l → lotsS q ≤ lotsS p) ∧ (∀ r, b = some r → lotsS q ≤ lotsS r) ∧
    (b = some q ∨ ((∀ r, b = some r → lotsS q < lotsS r) ∧ ∀ p, p ∈ l → lotsS p = lotsS q → p = q ∨ SoonF q p))
  | [], b, q, _, h => ⟨fun p hp => (by cases hp), fun r hr => (by rw [show b = some q from h] at hr; cases hr; exact Nat.le_refl _), .inl h⟩
  | p :: l, b, q, hs, h => by
    rw [List.pairwise_cons] at hs
    rw [List.foldl_cons] at h
    obtain ⟨h1, h2, h3⟩ := best_from l (bestStep b p) q hs.2 h
    cases b with
    | none =>
      have e : bestStep none p = some p := rfl
      rw [e] at h2 h3
      have hp := h2 p rfl
      refine ⟨fun x hx => ?_, fun r hr => (by cases hr), .inr ⟨fun r hr => (by cases hr), fun x hx he => ?_⟩⟩
      · rcases List.mem_cons.1 hx with rfl | hx
        · exact hp
        · exact h1 x hx
      · rcases h3 with h3 | ⟨h3, h4⟩
        · cases h3
          rcases List.mem_cons.1 hx with rfl | hx
          · exact .inl rfl
          · exact .inr (hs.1 x hx)
        · rcases List.mem_cons.1 hx with rfl | hx
          · have := h3 x rfl; omega
          · exact h4 x hx he
    | some r =>
      by_cases hlt : lotsS p < lotsS r
      · have e : bestStep (some r) p = some p := by simp [bestStep, hlt]
        rw [e] at h2 h3
        have hp := h2 p rfl
        refine ⟨fun x hx => ?_, fun r' hr => (by cases hr; omega), .inr ⟨fun r' hr => (by cases hr; omega), fun x hx he => ?_⟩⟩
        · rcases List.mem_cons.1 hx with rfl | hx
          · exact hp
          · exact h1 x hx
        · rcases h3 with h3 | ⟨h3, h4⟩
          · cases h3
            rcases List.mem_cons.1 hx with rfl | hx
            · exact .inl rfl
            · exact .inr (hs.1 x hx)
          · rcases List.mem_cons.1 hx with rfl | hx
            · have := h3 x rfl; omega
            · exact h4 x hx he
      · have e : bestStep (some r) p = some r := by simp [bestStep, hlt]
        rw [e] at h2 h3
        have hr0 := h2 r rfl
        refine ⟨fun x hx => ?_, fun r' hr => (by cases hr; exact hr0), ?_⟩
        · rcases List.mem_cons.1 hx with rfl | hx
          · omega
          · exact h1 x hx
        · rcases h3 with h3 | ⟨h3, h4⟩
          · exact .inl h3
          · have h5 := h3 r rfl
            refine .inr ⟨fun r' hr => (by cases hr; exact h5), fun x hx he => ?_⟩
            rcases List.mem_cons.1 hx with rfl | hx
            · omega
            · exact h4 x hx he
theorem bestOf_some : ∀ (l : List (List Int)), l ≠ [] → ∃ q, bestOf l = some q := by
  have h : ∀ (l : List (List Int)) (s : List Int), ∃ q, l.foldl bestStep (some s) = some q := by
    intro l
    induction l with
    | nil => intro s; exact ⟨s, rfl⟩
    | cons p l ih =>
      intro s
      rw [List.foldl_cons]
      simp only [bestStep]
      split
      · exact ih _
      · exact ih _
  intro l hl
  cases l with
  | nil => exact absurd rfl hl
  | cons p l => exact h l p
theorem most_spec (B : ForgeV) : ∀ n : Nat, mostS B n ≤ n ∧ (0 < mostS B n → meltsS B (stockS B) (mostS B n : Nat) ≠ []) ∧ ∀ i : Nat, mostS B n < i → i ≤ n → meltsS B (stockS B) (i : Int) = []
  | 0 => ⟨Nat.le_refl _, fun h => absurd h (by simp [mostS]), fun i h1 h2 => by omega⟩
  | n + 1 => by
    obtain ⟨h1, h2, h3⟩ := most_spec B n
    unfold mostS
    split
    · rename_i he
      rw [List.isEmpty_iff] at he
      refine ⟨by omega, h2, fun i g1 g2 => ?_⟩
      rcases Nat.lt_or_ge n i with h | h
      · obtain rfl : i = n + 1 := by omega
        rw [Int.natCast_add]; exact he
      · exact h3 i g1 h
    · rename_i he
      refine ⟨Nat.le_refl _, fun _ => ?_, fun i g1 g2 => by omega⟩
      intro h
      rw [Int.natCast_add] at h
      exact he (List.isEmpty_iff.2 h)
/-- what the law asks, of right bars that numbers choose -/
theorem few_ok {B : ForgeV} (g : B.Good) {V : List Int} (hw : withinS B V = true) (hr : rightS B V = true) :
    (1 ≤ sumTo V V.length ∧ sumTo V V.length ≤ 24) ∧ sumTo V V.length ≤ (mostS B 24 : Nat) ∧
    ∃ q, bestOf (meltsS B (stockS B) (sumTo V V.length)) = some q ∧ lotsS q ≤ lotsS V ∧ (lotsS q = lotsS V → ¬ SoonF V q) := by
  have ha := within_at hw
  have h4 : V.length ≤ 4 := by have := g.many; omega
  have hb := withinS_bd g hw
  have hn := sumTo_nn hb V.length
  have hnz : sumTo V V.length ≠ 0 := fun h => by
    have := zero_right (B := B) (fun k => (hb k).1) ((sumTo_four h4).trans h)
    rw [hr] at this; cases this
  have hsl : (stockS B).length = B.lots.length := by simp [stockS]
  have hmem : V ∈ meltsS B (stockS B) (sumTo V V.length) := by
    unfold meltsS
    refine List.mem_filter.2 ⟨choices_all _ _ (ha.1.trans hsl.symm) fun k => ?_, hr⟩
    by_cases hk : k < B.lots.length
    · rw [gi_stock B k hk]; exact ha.2 k hk
    · rw [gi_out (l := V) (by omega), gi_out (l := stockS B) (by omega)]; omega
  have hmost : sumTo V V.length ≤ (mostS B 24 : Nat) := by
    rcases Int.lt_or_le ((mostS B 24 : Nat) : Int) (sumTo V V.length) with h | h
    · have := (most_spec B 24).2.2 (sumTo V V.length).toNat (by omega) (by omega)
      rw [Int.toNat_of_nonneg hn.1] at this
      rw [this] at hmem; cases hmem
    · exact h
  obtain ⟨q, hq⟩ := bestOf_some _ (List.ne_nil_of_mem hmem)
  have hsort : (meltsS B (stockS B) (sumTo V V.length)).Pairwise SoonF := (choices_sorted _ _).filter _
  obtain ⟨h1, _, h3⟩ := best_from _ none q hsort hq
  refine ⟨⟨by omega, by omega⟩, hmost, q, hq, h1 V hmem, fun he hs => ?_⟩
  rcases h3 with h3 | ⟨_, h3⟩
  · cases h3
  · rcases h3 V hmem he.symm with h | h
    · rw [h] at hs; exact soonF_asymm _ _ hs hs
    · exact soonF_asymm _ _ h hs
theorem most_cast {B : ForgeV} (h : 0 < mostS B 24) : ∃ q, bestOf (meltsS B (stockS B) (mostS B 24 : Nat)) = some q := bestOf_some _ ((most_spec B 24).2.1 h)
theorem castR_some {B : ForgeV} {many : Int} {e : Ending} {w' : World} {q : List Int} (hg : goodF B = true) (hm : 1 ≤ many ∧ many ≤ 24) (h : bestOf (meltsS B (stockS B) many) = some q) (hc : CastR B many e w') : ∃ A, e = .returned (.tuple #[.slice A q.length q.length, .int .i64 0]) ∧ IntsAt w' A q := by
  have hin : inB many 1 24 = true := inB_iff.2 hm
  rcases hc with ⟨h1, _⟩ | ⟨_, h1, _⟩ | ⟨_, _, h1, _⟩ | ⟨_, _, q', A, h1, h2, h3⟩
  · rw [hg] at h1; cases h1
  · rw [hin] at h1; cases h1
  · rw [h] at h1; cases h1
  · rw [h] at h1; cases h1; exact ⟨A, h2, h3⟩
end
section
open Go.RowKit Go.Shelf
attribute [local go_sem] Oper.semAt_some
set_option linter.unusedSimpArgs false
set_option linter.unusedVariables false
theorem soonF_at : ∀ (a b : List Int) (k : Nat), k < a.length → k < b.length → (∀ j, j < k → gi a j = gi b j) → gi a k < gi b k → SoonF a b
  | [], b, k, h, _, _, _ => absurd h (Nat.not_lt_zero _)
  | x :: a, [], k, _, h, _, _ => absurd h (Nat.not_lt_zero _)
  | x :: a, y :: b, 0, _, _, _, h => .inl h
  | x :: a, y :: b, k + 1, h1, h2, h3, h4 => .inr ⟨h3 0 (Nat.succ_pos _), soonF_at a b k (by simpa using h1) (by simpa using h2) (fun j hj => h3 (j + 1) (by omega)) h4⟩
set_option maxRecDepth 100000 in
set_option maxHeartbeats 2000000 in
theorem SoonerF_calls (A : Option Addr) (c : Nat) (a : List Int) (A' : Option Addr) (c' : Nat) (b : List Int) (w : World) (ha : IntsAt w A a) (hb : IntsAt w A' b) (hl : a.length = b.length) :
    Calls Tryd.prog 51 #[.slice A a.length c, .slice A' b.length c'] w fun e w' => (∃ r : Bool, e = .returned (.bool r) ∧ (r = true → SoonF a b)) ∧ Below w.heap.size w w' := by
  rcases Nat.eq_zero_or_pos a.length with h0 | h0
  · have hz : ¬ (0 : Int) < a.length := by omega
    have Hz : Hid (¬ a.length < b.length) := by unfold Hid; omega
    clear hl h0
    go_enter Tryd.func51, Tryd.ntmps51
    go_wp2
    refine wp_loop_rounds 1 ?_
    rw [rounds_succ]
    go_wp2
    go_ret
    exact ⟨⟨_, rfl, fun h => by have := Hz.out; simp at h; omega⟩, Below.refl _ _⟩
  · obtain ⟨xb, xo, rfl, hxc⟩ := ha.2.resolve_left (by intro e; rw [e] at h0; simp at h0)
    obtain ⟨yb, yo, rfl, hyc⟩ := hb.2.resolve_left (by intro e; rw [e] at hl; rw [hl] at h0; simp at h0)
    have hle := ha.1
    have hlb := hb.1
    have Hxc := Lib.hid hxc
    have Hyc := Lib.hid hyc
    have Hl := Lib.hid hl
    have Hz : Hid (¬ a.length < b.length) := by unfold Hid; omega
    clear hl h0 ha hb hxc hyc
    go_enter Tryd.func51, Tryd.ntmps51
    go_wp2
    go_loopg [5] a.length (fun gk i wr => ∃ k : Nat, k ≤ a.length ∧ gk = a.length - k ∧ i = .int .i64 k ∧ (∀ j, j < k → gi a j = gi b j) ∧ Below w.heap.size w wr)
    case atStart => exact ⟨0, Nat.zero_le _, rfl, rfl, fun j hj => absurd hj (by omega), Below.refl _ _⟩
    case round =>
      obtain ⟨k, hk, hgk, rfl, hall, hB⟩ := hrel
      have Hgk := Lib.hid hgk
      have Hall := Lib.hid hall
      have HB := Lib.hid hB
      clear hgk hall
      by_cases hlt : k < a.length
      · have ck := cell_below hB (Hxc.out k hlt)
        have dk := cell_below hB (Hyc.out k (by have := Hl.out; omega))
        have b1 := World.block_lt_of_cell? _ _ ck
        have b2 := World.block_lt_of_cell? _ _ dk
        have hki : (k : Int) < a.length := by omega
        have hkj : (k : Int) < b.length := by have := Hl.out; omega
        simp only at b1 b2
        by_cases hd : gi a k = gi b k
        · have hbe : (gi a k != gi b k) = false := by rw [bne_eq_false_iff_eq]; exact hd
          have Hd := Lib.hid hd
          clear hd
          go_wp2
          go_quiet (fail)
          go_wp2
          go_roundg (a.length - (k + 1))
          case measure => have := Hgk.out; omega
          case rel => exact ⟨k + 1, by omega, rfl, by go_num, fun j hj => (by rcases Nat.lt_or_eq_of_le (Nat.le_of_lt_succ hj) with h | h; exact Hall.out j h; rw [h]; exact Hd.out), below_drewN HB.out _⟩
        · have hbe : (gi a k != gi b k) = true := by rw [bne_iff_ne]; exact hd
          have Hso : Hid (gi a k < gi b k → SoonF a b) := by unfold Hid; exact soonF_at a b k hlt (by have := Hl.out; omega) Hall.out
          clear hd
          go_wp2
          go_quiet (fail)
          go_wp2
          go_quiet (fail)
          go_wp2
          go_ret
          exact ⟨⟨_, rfl, fun h => Hso.out (by simpa using h)⟩, below_drewN (below_drewN HB.out _) _⟩
      · obtain rfl : k = a.length := by omega
        go_wp2
        go_ret
        exact ⟨⟨_, rfl, fun h => by have := Hz.out; simp at h; omega⟩, HB.out⟩
theorem lotsTo_out (l : List Int) : ∀ d : Nat, lotsTo l (l.length + d) = lotsTo l l.length
  | 0 => rfl
  | d + 1 => by
    have h := lotsTo_out l d
    rw [show l.length + (d + 1) = (l.length + d) + 1 by omega, lotsTo, h, gi_out (by omega)]
    simp
theorem lotsTo_four {l : List Int} (h : l.length ≤ 4) : lotsS l = lotsTo l l.length := by
  have := lotsTo_out l (4 - l.length)
  rwa [show l.length + (4 - l.length) = 4 by omega] at this
set_option maxRecDepth 100000 in
set_option maxHeartbeats 2000000 in
theorem lawLots_calls (A : Option Addr) (c : Nat) (l : List Int) (w : World) (hp : IntsAt w A l) (h4 : l.length ≤ 4) :
    Calls Tryd.prog 50 #[.slice A l.length c] w fun e w' => e = .returned (.int .i64 (lotsS l : Nat)) ∧ w = w' := by
  have Hf := Lib.hid (lotsTo_four h4)
  rcases Nat.eq_zero_or_pos l.length with h0 | h0
  · have hz : ¬ (0 : Int) < l.length := by omega
    have Hs : Hid (lotsS l = 0) := by unfold Hid; rw [Hf.out, h0]; rfl
    clear hp h0 h4
    go_enter Tryd.func50, Tryd.ntmps50
    go_wp2
    refine wp_loop_rounds 1 ?_
    rw [rounds_succ]
    go_wp2
    go_ret
    exact ⟨by rw [Hs.out]; rfl, rfl⟩
  · obtain ⟨b, o, rfl, hc⟩ := hp.2.resolve_left (by intro e; rw [e] at h0; simp at h0)
    have Hc := Lib.hid hc
    clear hc hp h0
    go_enter Tryd.func50, Tryd.ntmps50
    go_wp2
    go_loop [4, 3] (fun i s => ∃ k : Nat, k ≤ l.length ∧ i = .int .i64 k ∧ s = .int .i64 (lotsTo l k : Nat)) (fun i _ => l.length - (intOf i).toNat)
    case atStart => exact ⟨0, Nat.zero_le _, rfl, rfl⟩
    case round =>
      obtain ⟨k, hk, rfl, rfl⟩ := hrel
      by_cases hlt : k < l.length
      · have hck := Hc.out k hlt
        have bk := World.block_lt_of_cell? _ _ hck
        have hki : (k : Int) < l.length := by omega
        simp only at bk
        have hle := lotsTo_le l k
        have Hs : Hid (lotsTo l (k + 1) = lotsTo l k + if 0 < gi l k then 1 else 0) := Lib.hid rfl
        have hw1 : IntKind.i64.wrap ((lotsTo l k : Nat) + 1 : Int) = (lotsTo l k : Nat) + 1 := wrap_in (by omega) (by omega)
        by_cases hp : 0 < gi l k
        · have Hp := Lib.hid hp
          go_wp2
          go_round
          case rel => exact ⟨k + 1, by omega, by go_num, by rw [Hs.out, if_pos Hp.out]; go_num⟩
          case measure => simp [intOf]; omega
        · have Hp := Lib.hid hp
          go_wp2
          go_round
          case rel => exact ⟨k + 1, by omega, by go_num, by rw [Hs.out, if_neg Hp.out]; rfl⟩
          case measure => simp [intOf]; omega
      · obtain rfl : k = l.length := by omega
        go_wp2
        go_ret
        exact ⟨by rw [Hf.out]; rfl, rfl⟩
end
section
open Go.RowKit Go.Shelf
attribute [local go_sem] Oper.semAt_some
set_option linter.unusedSimpArgs false
set_option linter.unusedVariables false
set_option maxRecDepth 100000 in
set_option maxHeartbeats 8000000 in
theorem ForgeFewest_calls (B : ForgeV) (A' : Option Addr) (c' : Nat) (bits : List Int) (w : World) (hB : B.Reads w) (hp : IntsAt w A' bits) (hM : EndsAt w) :
    Calls Tryd.prog 8 #[B.val, .slice A' bits.length c'] w fun e w' => e = .returned (.bool true) ∧ Below w.heap.size w w' := by
  have HB0 := Lib.hid hB
  have HM0 := Lib.hid hM
  have Hp0 := Lib.hid hp
  clear hB hM hp
  have hcells : B.val = .agg B.cells := rfl
  rw [hcells]
  unfold ForgeV.cells
  go_enter Tryd.func8, Tryd.ntmps8
  go_upto_region 1 with fail
  have k2 := BoxAt.new w B.cells 28
  have H1 : Below w.heap.size w (w.alloc (.cells B.cells 28)) := (Below.refl _ _).alloc (Nat.le_refl _) _
  unfold ForgeV.cells at k2 H1
  generalize w.alloc _ = w1 at *
  have H2 := Lib.hid H1
  have K2 := Lib.hid k2
  obtain ⟨c2, f2, l2⟩ := k2
  clear H1
  go_wp2_with fail
  refine (eq0_1 (v' := B.val) (by unfold ForgeV.val ForgeV.cells; rfl) (Most_calls B _ (HB0.out.below H2.out) (HM0.out.below H2.out))).mono ?_
  rintro e w2 ⟨rfl, hb⟩
  clear c2 f2 l2
  replace K2 := Lib.hid (K2.out.below hb)
  replace H2 := Lib.hid (below_then H2.out H2.out.size hb)
  clear hb
  cases hg : goodF B with
  | false =>
    have hmr : mostR B = .tuple #[.int .i64 0, .int .i64 20] := by unfold mostR; rw [hg]; rfl
    rw [hmr]
    clear hmr
    obtain ⟨c2, f2, l2⟩ := K2.out
    go_wp2_with fail
    refine (eq0_1 (v' := B.val) (by unfold ForgeV.val ForgeV.cells; rfl) (sound_calls B _ (HB0.out.below H2.out))).mono ?_
    rintro e w3 ⟨rfl, hb⟩
    rw [hg]
    replace H2 := Lib.hid (below_then H2.out H2.out.size hb)
    clear hb c2 f2 l2
    go_wp2_with fail
    refine (works_calls _ (HM0.out.below H2.out)).mono ?_
    rintro e w4 ⟨rfl, hb⟩
    go_wp2
    go_ret
    exact ⟨rfl, below_then H2.out H2.out.size hb⟩
  | true =>
    have Hg := Lib.hid ((goodF_iff B).1 hg)
    have hmr : mostR B = if mostS B 24 = 0 then .tuple #[.int .i64 0, .int .i64 4] else .tuple #[.int .i64 (mostS B 24 : Nat), .int .i64 0] := by unfold mostR; rw [hg]; rfl
    have hms := most_spec B 24
    have hmc := fun h => most_cast (B := B) h
    have hfw : ∀ V, withinS B V = true → rightS B V = true → (1 ≤ sumTo V V.length ∧ sumTo V V.length ≤ 24) ∧ sumTo V V.length ≤ (mostS B 24 : Nat) ∧ ∃ q, bestOf (meltsS B (stockS B) (sumTo V V.length)) = some q ∧ lotsS q ≤ lotsS V ∧ (lotsS q = lotsS V → ¬ SoonF V q) := fun V h1 h2 => few_ok Hg.out h1 h2
    rw [hmr]
    have Hfw := Lib.hid hfw
    have hml := hms.1
    clear hmr hfw hms
    generalize mostS B 24 = M at *
    have Hmc := Lib.hid hmc
    clear hmc
    by_cases hM0 : M = 0
    · as_aux_lemma =>
        rw [if_pos hM0]
        obtain ⟨c2, f2, l2⟩ := K2.out
        go_wp2_with fail
        refine (eq0_1 (v' := B.val) (by unfold ForgeV.val ForgeV.cells; rfl) (sound_calls B _ (HB0.out.below H2.out))).mono ?_
        rintro e w3 ⟨rfl, hb⟩
        rw [hg]
        replace K2 := Lib.hid (K2.out.below hb)
        replace H2 := Lib.hid (below_then H2.out H2.out.size hb)
        clear hb c2 f2 l2 hg
        obtain ⟨c2, f2, l2⟩ := K2.out
        go_wp2_with fail
        refine (eq0_2 (v' := B.val) (by unfold ForgeV.val ForgeV.cells; rfl) (taken_calls B Hg.out A' c' bits _ (HB0.out.below H2.out) (Hp0.out.below H2.out))).mono ?_
        rintro e w5 ⟨⟨A7, c7, rfl, hl7⟩, hb⟩
        have HW := Lib.hid (taken_within Hg.out bits)
        generalize takenTo B bits B.lots.length = V at *
        replace K2 := Lib.hid (K2.out.below hb)
        replace H2 := Lib.hid (below_then H2.out H2.out.size hb)
        have Hl7 := Lib.hid hl7
        clear hb hl7 c2 f2 l2
        obtain ⟨c2, f2, l2⟩ := K2.out
        go_wp2_with fail
        refine (eq0_2 (v' := B.val) (by unfold ForgeV.val ForgeV.cells; rfl) (IsMelt_calls B A7 c7 V _ (HB0.out.below H2.out) Hl7.out (HM0.out.below H2.out))).mono ?_
        rintro e w6 ⟨rfl, hb⟩
        have hrf : rightS B V = false := by
          cases hr : rightS B V with
          | false => rfl
          | true => have := Hfw.out V HW.out hr; omega
        rw [isMelt_good Hg.out, HW.out, hrf]
        replace H2 := Lib.hid (below_then H2.out H2.out.size hb)
        clear hb c2 f2 l2 hrf hM0
        go_wp2_with fail
        refine (works_calls _ (HM0.out.below H2.out)).mono ?_
        rintro e w7 ⟨rfl, hb⟩
        go_wp2
        go_ret
        exact ⟨rfl, below_then H2.out H2.out.size hb⟩
    · as_aux_lemma =>
        rw [if_neg hM0]
        have hMp : 0 < M := Nat.pos_of_ne_zero hM0
        have HMc := Lib.hid (Hmc.out hMp)
        clear hM0 Hmc
        obtain ⟨c2, f2, l2⟩ := K2.out
        go_wp2_with fail
        refine (eq0_1 (v' := B.val) (by unfold ForgeV.val ForgeV.cells; rfl) (sound_calls B _ (HB0.out.below H2.out))).mono ?_
        rintro e w3 ⟨rfl, hb⟩
        rw [hg]
        replace K2 := Lib.hid (K2.out.below hb)
        replace H2 := Lib.hid (below_then H2.out H2.out.size hb)
        have Hgf := Lib.hid hg
        clear hb c2 f2 l2 hg
        obtain ⟨c2, f2, l2⟩ := K2.out
        go_wp2_with fail
        refine (eq0_2 (v' := B.val) (by unfold ForgeV.val ForgeV.cells; rfl) (taken_calls B Hg.out A' c' bits _ (HB0.out.below H2.out) (Hp0.out.below H2.out))).mono ?_
        rintro e w5 ⟨⟨A7, c7, rfl, hl7⟩, hb⟩
        have HW := Lib.hid (taken_within Hg.out bits)
        generalize takenTo B bits B.lots.length = V at *
        replace K2 := Lib.hid (K2.out.below hb)
        replace H2 := Lib.hid (below_then H2.out H2.out.size hb)
        have Hl7 := Lib.hid hl7
        clear hb hl7 c2 f2 l2
        obtain ⟨c2, f2, l2⟩ := K2.out
        go_wp2_with fail
        refine (eq0_2 (v' := B.val) (by unfold ForgeV.val ForgeV.cells; rfl) (IsMelt_calls B A7 c7 V _ (HB0.out.below H2.out) Hl7.out (HM0.out.below H2.out))).mono ?_
        rintro e w6 ⟨rfl, hb⟩
        rw [isMelt_good Hg.out, HW.out, Bool.true_and]
        replace K2 := Lib.hid (K2.out.below hb)
        replace H2 := Lib.hid (below_then H2.out H2.out.size hb)
        replace Hl7 := Lib.hid (Hl7.out.below hb)
        clear hb c2 f2 l2
        have r1 : inB (M : Int) 1 24 = true := inB_iff.2 (by omega)
        obtain ⟨q0, hq0⟩ := HMc.out
        have hco := cast_ok Hg.out (many := (M : Int)) (by omega) hq0
        have hwq := within_at hco.1
        have h4q : q0.length ≤ 4 := by have := Hg.out.many; omega
        have Hbq := Lib.hid (within_bd Hg.out hco.1)
        have Hq0 := Lib.hid hq0
        have Hco := Lib.hid hco
        clear hwq hq0 hco
        obtain ⟨c2, f2, l2⟩ := K2.out
        go_upto_region 9 with (go_at_call 48; refine (Sits_calls _ _ _ _).mono ?_; rintro e w' ⟨rfl, rfl⟩; rw [r1])
        clear r1
        go_wp2_with fail
        refine (eq0_2 (v' := B.val) (by unfold ForgeV.val ForgeV.cells; rfl) (Cast_calls B (M : Int) _ (HB0.out.below H2.out) (HM0.out.below H2.out))).mono ?_
        rintro e w7 ⟨hc, hb⟩
        obtain ⟨A10, rfl, hl10⟩ := castR_some Hgf.out (by omega) Hq0.out hc
        have Hl10 := Lib.hid hl10
        replace K2 := Lib.hid (K2.out.below hb)
        replace H2 := Lib.hid (below_then H2.out H2.out.size hb)
        replace Hl7 := Lib.hid (Hl7.out.below hb)
        clear hb hc hl10 c2 f2 l2
        have Hsq := Lib.hid (Sum_calls A10 q0.length q0 · · h4q Hbq.out)
        have hsm := Hco.out.2.2
        have Hpos := Lib.hid (show 0 < sumTo q0 q0.length by rw [hsm]; omega)
        rw [hsm] at Hsq
        clear hsm
        obtain ⟨c2, f2, l2⟩ := K2.out
        have Hz : Below w7.heap.size w7 w7 := Below.refl _ _
        go_upto_region 12 with (first
          | (go_at_call 46; refine (eq0_2 (v' := B.val) (by unfold ForgeV.val ForgeV.cells; rfl) (within_calls B Hg.out A10 q0.length q0 _ (HB0.out.below H2.out) Hl10.out Hco.out.1 Hpos.out)).mono ?_; rintro e w8 ⟨rfl, hb⟩; obtain ⟨c2, f2, l2⟩ := BoxAt.below ⟨c2, f2, l2⟩ hb; have Hz := below_then Hz Hz.size hb; have Hl10 := Lib.hid (Hl10.out.below hb); clear hb)
          | (go_at_call 47; refine (Hsq.out _ Hl10.out).mono ?_; rintro e w' ⟨rfl, rfl⟩))
        replace K2 := Lib.hid (K2.out.below Hz)
        replace H2 := Lib.hid (below_then H2.out H2.out.size Hz)
        replace Hl7 := Lib.hid (Hl7.out.below Hz)
        clear Hz c2 f2 l2 Hl10 Hsq Hpos Hco
        cases hr : rightS B V with
        | false =>
          go_wp2_with fail
          refine (works_calls _ (HM0.out.below H2.out)).mono ?_
          rintro e w9 ⟨rfl, hb⟩
          go_wp2
          go_ret
          exact ⟨rfl, below_then H2.out H2.out.size hb⟩
        | true =>
          obtain ⟨hn, hnm, q, hq, hlo, hso⟩ := Hfw.out V HW.out hr
          have h4v : V.length ≤ 4 := by have := Hg.out.many; have := (within_at HW.out).1; omega
          have hcq := cast_ok Hg.out (many := sumTo V V.length) (by omega) hq
          have h4k : q.length ≤ 4 := by have := Hg.out.many; have := (within_at hcq.1).1; omega
          have hlen : V.length = q.length := (within_at HW.out).1.trans (within_at hcq.1).1.symm
          have Hlen := Lib.hid hlen
          have Hbv := Lib.hid (within_bd Hg.out HW.out)
          have Hsv := Lib.hid (Sum_calls A7 c7 V · · h4v Hbv.out)
          have Hq := Lib.hid hq
          have Hcq := Lib.hid hcq
          have Hso := Lib.hid hso
          have Hpos := Lib.hid (show 0 < sumTo q q.length by rw [hcq.2.2]; omega)
          have Hlv := Lib.hid (lawLots_calls A7 c7 V · · h4v)
          clear hr hq hcq hso hlen
          generalize sumTo V V.length = n at *
          obtain ⟨c2, f2, l2⟩ := K2.out
          go_upto_region 14 with (fail)
          generalize w8 = w9 at *
          refine region_plain (S := fun w' => Below w9.heap.size w9 w') 9 (by kernel_rfl) ?_ (fun hHeld => ?_)
          · exact (Below.refl _ _).drew
          first | (refine anyT_take 0 (some 84) (v := ?_) rfl rfl (by kernel_rfl) (by kernel_rfl) (by kernel_rfl) (by kernel_rfl) (fun _ _ _ h => h) (Or.inl ⟨by rfl, ?_⟩) hHeld ?_; rotate_left; focus (intro wq hSw; obtain ⟨hcq, hfq⟩ := bcell hSw; go_simp; (try with_reducible rfl); done))
          (try simp only [Act.put, List.setIfInBounds_toArray, List.set_cons_zero, List.set_cons_succ])
          first | (refine anyT_take 1 (some 85) (v := ?_) rfl rfl (by kernel_rfl) (by kernel_rfl) (by kernel_rfl) (by kernel_rfl) (fun _ _ _ h => h) (Or.inl ⟨by rfl, ?_⟩) hHeld ?_; rotate_left; focus (intro wq hSw; obtain ⟨hcq, hfq⟩ := bcell hSw; go_simp; (try with_reducible rfl); done))
          (try simp only [Act.put, List.setIfInBounds_toArray, List.set_cons_zero, List.set_cons_succ])
          refine anyT_one 2 (by kernel_rfl) rfl (fun K hK => ?_)
          go_simp
          refine (Hsv.out _ (Hl7.out.below hHeld)).mono ?_; rintro e x1 ⟨rfl, rfl⟩
          refine hK.out _ _ ?_ (fun hHeld => ?_)
          · exact hHeld
          clear hK K
          (try simp only [Act.put, List.setIfInBounds_toArray, List.set_cons_zero, List.set_cons_succ])
          refine anyT_one 3 (by kernel_rfl) rfl (fun K hK => ?_)
          go_simp
          refine (eq0_2 (v' := B.val) (by unfold ForgeV.val ForgeV.cells; rfl) (Cast_calls B n _ (HB0.out.below (below_then H2.out H2.out.size hHeld)) (HM0.out.below (below_then H2.out H2.out.size hHeld)))).mono ?_; rintro e x2 ⟨hc, hb1⟩; obtain ⟨A12, rfl, hl12⟩ := castR_some Hgf.out hn Hq.out hc; clear hc
          refine hK.out _ _ ?_ (fun hHeld => ?_)
          · exact below_then hHeld hHeld.size hb1
          clear hK K
          (try simp only [Act.put, List.setIfInBounds_toArray, List.set_cons_zero, List.set_cons_succ])
          first | (refine anyT_take 4 (some 83) (v := ?_) rfl rfl (by kernel_rfl) (by kernel_rfl) (by kernel_rfl) (by kernel_rfl) (fun _ _ _ h => h) (Or.inl ⟨by rfl, ?_⟩) hHeld ?_; rotate_left; focus (intro wq hSw; obtain ⟨hcq, hfq⟩ := bcell hSw; go_simp; (try with_reducible rfl); done))
          (try simp only [Act.put, List.setIfInBounds_toArray, List.set_cons_zero, List.set_cons_succ])
          first | (refine anyT_take 5 (some 88) (v := ?_) rfl rfl (by kernel_rfl) (by kernel_rfl) (by kernel_rfl) (by kernel_rfl) (fun _ _ _ h => h) (Or.inl ⟨by rfl, ?_⟩) hHeld ?_; rotate_left; focus (intro wq hSw; obtain ⟨hcq, hfq⟩ := bcell hSw; go_simp; (try with_reducible rfl); done))
          (try simp only [Act.put, List.setIfInBounds_toArray, List.set_cons_zero, List.set_cons_succ])
          first | (refine anyT_take 6 (some 89) (v := ?_) rfl rfl (by kernel_rfl) (by kernel_rfl) (by kernel_rfl) (by kernel_rfl) (fun _ _ _ h => h) (Or.inl ⟨by rfl, ?_⟩) hHeld ?_; rotate_left; focus (intro wq hSw; obtain ⟨hcq, hfq⟩ := bcell hSw; go_simp; (try with_reducible rfl); done))
          (try simp only [Act.put, List.setIfInBounds_toArray, List.set_cons_zero, List.set_cons_succ])
          first | (refine anyT_take 7 (some 12) (v := ?_) rfl rfl (by kernel_rfl) (by kernel_rfl) (by kernel_rfl) (by kernel_rfl) (fun _ _ _ h => h) (Or.inl ⟨by rfl, ?_⟩) hHeld ?_; rotate_left; focus (intro wq hSw; obtain ⟨hcq, hfq⟩ := bcell hSw; go_simp; (try with_reducible rfl); done))
          (try simp only [Act.put, List.setIfInBounds_toArray, List.set_cons_zero, List.set_cons_succ])
          first | (refine anyT_take 8 (some 9) (v := ?_) rfl rfl (by kernel_rfl) (by kernel_rfl) (by kernel_rfl) (by kernel_rfl) (fun _ _ _ h => h) (Or.inl ⟨by rfl, ?_⟩) hHeld ?_; rotate_left; focus (intro wq hSw; obtain ⟨hcq, hfq⟩ := bcell hSw; go_simp; (try with_reducible rfl); done))
          (try simp only [Act.put, List.setIfInBounds_toArray, List.set_cons_zero, List.set_cons_succ])
          refine anyT_done (by kernel_rfl) ?_ _
          have Hl12 := Lib.hid hl12
          replace K2 := Lib.hid (K2.out.below hHeld)
          replace H2 := Lib.hid (below_then H2.out H2.out.size hHeld)
          replace Hl7 := Lib.hid (Hl7.out.below hHeld)
          clear hHeld hb1 hl12 c2 f2 l2
          have Hlq := Lib.hid (lawLots_calls A12 q.length q · · h4k)
          generalize hlq : lotsS q = a at *
          generalize hlv : lotsS V = b at *
          have Hab := Lib.hid hlq
          clear hlq hlv
          obtain ⟨c2, f2, l2⟩ := K2.out
          have Hz : Below x2.heap.size x2 x2 := Below.refl _ _
          rcases Nat.lt_or_ge a b with h5 | h5
          · have h6 : (a : Int) < b := by omega
            go_wp2_with (first
              | (go_at_call 47; refine (Hsv.out _ Hl7.out).mono ?_; rintro e w' ⟨rfl, rfl⟩)
              | (go_at_call 46; refine (eq0_2 (v' := B.val) (by unfold ForgeV.val ForgeV.cells; rfl) (within_calls B Hg.out A12 q.length q _ (HB0.out.below (below_then H2.out H2.out.size Hz)) (Hl12.out.below Hz) Hcq.out.1 Hpos.out)).mono ?_; rintro e w8 ⟨rfl, hb⟩; have Hz := below_then Hz Hz.size hb; clear hb))
            refine (Hlq.out _ (Hl12.out.below Hz)).mono ?_
            rintro e w' ⟨rfl, rfl⟩
            go_wp2_with fail
            refine (Hlv.out _ (Hl7.out.below Hz)).mono ?_
            rintro e w' ⟨rfl, rfl⟩
            go_wp2_with (first
              | (go_at_call 27; refine (works_calls _ (HM0.out.below (below_then H2.out H2.out.size Hz))).mono ?_; rintro e w13 ⟨rfl, hb⟩; have Hz := below_then Hz Hz.size hb; clear hb))
            go_ret
            exact ⟨rfl, below_then H2.out H2.out.size Hz⟩
          · obtain rfl : a = b := by omega
            have Hsn := Lib.hid (Hso.out rfl)
            go_wp2_with (first
              | (go_at_call 47; refine (Hsv.out _ Hl7.out).mono ?_; rintro e w' ⟨rfl, rfl⟩)
              | (go_at_call 46; refine (eq0_2 (v' := B.val) (by unfold ForgeV.val ForgeV.cells; rfl) (within_calls B Hg.out A12 q.length q _ (HB0.out.below (below_then H2.out H2.out.size Hz)) (Hl12.out.below Hz) Hcq.out.1 Hpos.out)).mono ?_; rintro e w8 ⟨rfl, hb⟩; have Hz := below_then Hz Hz.size hb; clear hb))
            refine (Hlq.out _ (Hl12.out.below Hz)).mono ?_
            rintro e w' ⟨rfl, rfl⟩
            go_wp2_with fail
            refine (Hlv.out _ (Hl7.out.below Hz)).mono ?_
            rintro e w' ⟨rfl, rfl⟩
            go_wp2_with fail
            refine (Hlq.out _ (Hl12.out.below Hz)).mono ?_
            rintro e w' ⟨rfl, rfl⟩
            go_wp2_with fail
            refine (Hlv.out _ (Hl7.out.below Hz)).mono ?_
            rintro e w' ⟨rfl, rfl⟩
            go_wp2_with (first
              | (go_at_call 51; refine (SoonerF_calls _ _ _ _ _ _ _ (Hl7.out.below Hz) (Hl12.out.below Hz) Hlen.out).mono ?_; rintro e w8 ⟨⟨r, rfl, hr⟩, hb⟩; obtain rfl : r = false := (by cases r with | false => rfl | true => exact absurd (hr rfl) Hsn.out); have Hz := below_then Hz Hz.size hb; clear hb hr)
              | (go_at_call 27; refine (works_calls _ (HM0.out.below (below_then H2.out H2.out.size Hz))).mono ?_; rintro e w13 ⟨rfl, hb⟩; have Hz := below_then Hz Hz.size hb; clear hb))
            go_ret
            exact ⟨rfl, below_then H2.out H2.out.size Hz⟩
end
end Go.Proofs.YtgfbfbfajnfbjaaDoor
