import Derived.Test.YtgfbfbfajnfbjaaDoorAK
namespace Go.Proofs.YtgfbfbfajnfbjaaDoor
section
open Go.RowKit
set_option linter.unusedSimpArgs false
set_option linter.unusedVariables false
/-! Small questions of the specification's package. -/
theorem Sits_calls (n lo hi : Int) (w : World) : Calls Tryd.prog 48 #[.int .i64 n, .int .i64 lo, .int .i64 hi] w fun e w' => e = .returned (.bool (inB n lo hi)) ∧ w = w' := by
  by_cases h1 : lo ≤ n <;> by_cases h2 : n ≤ hi
  all_goals
    go_enter Tryd.func48, Tryd.ntmps48
    go_wp2
    go_ret
    exact ⟨by simp [inB, h1, h2], rfl⟩
def plainZ (n : Int) : Int := if n < 0 then -n else n
theorem Plain_calls (n : Int) (w : World) (h1 : -9223372036854775807 ≤ n) (h2 : n ≤ 9223372036854775807) : Calls Tryd.prog 113 #[.int .i64 n] w fun e w' => e = .returned (.int .i64 (plainZ n)) ∧ w = w' := by
  have hw : IntKind.i64.wrap (-n) = -n := wrap_in (by omega) (by omega)
  by_cases h : n < 0
  all_goals
    go_enter Tryd.func113, Tryd.ntmps113
    go_wp2
    go_ret
    exact ⟨(by unfold plainZ; first | (rw [if_pos (by omega)]; rfl) | (rw [if_neg (by omega)]; rfl)), rfl⟩
theorem Band_calls (a b : Int) (w : World) : Calls Tryd.prog 52 #[.int .i64 a, .int .i64 b] w fun e w' => e = .returned (.agg #[.int .i64 a, .int .i64 b]) ∧ Below w.heap.size w w' := by
  go_enter Tryd.func52, Tryd.ntmps52
  go_wp2
  have c0 := (BoxAt.new w #[.int .i64 a, .int .i64 b] 24).cell
  exact bodyPost_ret (v := .agg #[.int .i64 a, .int .i64 b]) (by simp [results, Tryd.results52, go_sem, c0]) rfl ⟨rfl, (Below.refl _ _).alloc (Nat.le_refl _) _⟩
theorem Good_calls (a b lo hi : Int) (w : World) : Calls Tryd.prog 63 #[.agg #[.int .i64 a, .int .i64 b], .int .i64 lo, .int .i64 hi] w fun e w' => e = .returned (.bool (spanB a b lo hi)) ∧ Below w.heap.size w w' := by
  by_cases h1 : lo ≤ a <;> by_cases h2 : a ≤ b <;> by_cases h3 : b ≤ hi
  all_goals
    go_enter Tryd.func63, Tryd.ntmps63
    go_wp2
    go_ret
    exact ⟨by simp [spanB, h1, h2, h3], (Below.refl _ _).alloc (Nat.le_refl _) _⟩
theorem Bears_calls (a b n : Int) (w : World) : Calls Tryd.prog 54 #[.agg #[.int .i64 a, .int .i64 b], .int .i64 n] w fun e w' => e = .returned (.bool (inB n a b)) ∧ Below w.heap.size w w' := by
  go_enter Tryd.func54, Tryd.ntmps54
  go_wp2_with (go_at_call 48; refine (Sits_calls _ _ _ _).mono ?_; rintro e w' ⟨rfl, rfl⟩)
  go_ret
  exact ⟨rfl, (Below.refl _ _).alloc (Nat.le_refl _) _⟩
/-- the first k places are alike -/
def eqTo (xs ys : List Int) (k : Nat) : Bool := (List.range k).all fun j => gi xs j == gi ys j
def eqL (xs ys : List Int) : Bool := decide (xs.length = ys.length) && eqTo xs ys xs.length
theorem eqTo_succ (xs ys : List Int) (k : Nat) : eqTo xs ys (k + 1) = (eqTo xs ys k && (gi xs k == gi ys k)) := range_all_succ _ _
theorem eqTo_false {xs ys : List Int} {k n : Nat} (hk : k ≤ n) (h : eqTo xs ys k = false) : eqTo xs ys n = false := by
  rw [Bool.eq_false_iff]; intro h2
  rw [show eqTo xs ys k = true from range_all_le h2 hk] at h; cases h
theorem eqL_iff {xs ys : List Int} : eqL xs ys = true ↔ xs = ys := by
  unfold eqL eqTo
  rw [Bool.and_eq_true, decide_eq_true_eq, List.all_eq_true]
  constructor
  · rintro ⟨h1, h2⟩
    refine List.ext_getElem h1 fun i hi hj => ?_
    have := h2 i (List.mem_range.2 hi)
    simpa [gi, hi, hj] using this
  · rintro rfl; simp
theorem eqL_self (xs : List Int) : eqL xs xs = true := eqL_iff.2 rfl
set_option maxRecDepth 100000 in
set_option maxHeartbeats 1000000 in
theorem Equal_calls (A : Option Addr) (c : Nat) (xs : List Int) (A' : Option Addr) (c' : Nat) (ys : List Int) (w : World) (ha : IntsAt w A xs) (hb : IntsAt w A' ys) :
    Calls Tryd.prog 24 #[.slice A xs.length c, .slice A' ys.length c'] w fun e w' => e = .returned (.bool (eqL xs ys)) ∧ Below w.heap.size w w' := by
  by_cases hl : xs.length = ys.length
  · rcases Nat.eq_zero_or_pos xs.length with h0 | h0
    · have hr : eqL xs ys = true := by
        rw [List.eq_nil_of_length_eq_zero h0, List.eq_nil_of_length_eq_zero (hl.symm.trans h0)]; rfl
      have hli : ((xs.length : Int) == ys.length) = true := by simp [hl]
      have hz : ¬ (0 : Int) < xs.length := by omega
      rw [hr]
      clear hl h0 hr
      go_enter Tryd.func24, Tryd.ntmps24
      go_wp2
      refine wp_loop_rounds 1 ?_
      rw [rounds_succ]
      go_wp2
      go_ret
      exact ⟨rfl, Below.refl _ _⟩
    · have hr : eqL xs ys = eqTo xs ys xs.length := by unfold eqL; simp [hl]
      have hli : ((xs.length : Int) == ys.length) = true := by simp [hl]
      obtain ⟨xb, xo, rfl, hxc⟩ := ha.2.resolve_left (by intro e; rw [e] at h0; simp at h0)
      obtain ⟨yb, yo, rfl, hyc⟩ := hb.2.resolve_left (by intro e; rw [e] at hl; rw [hl] at h0; simp at h0)
      have hle := ha.1
      rw [hr]
      have Hxc := Lib.hid hxc
      have Hyc := Lib.hid hyc
      have Hl := Lib.hid hl
      clear hl h0 hr ha hb hxc hyc
      go_enter Tryd.func24, Tryd.ntmps24
      go_wp2
      go_loopg [6, 5] xs.length (fun gk i s wr => ∃ k : Nat, k ≤ xs.length ∧ gk = xs.length - k ∧ i = .int .i64 k ∧ s = .bool (eqTo xs ys k) ∧ Below w.heap.size w wr)
      case atStart => exact ⟨0, Nat.zero_le _, rfl, rfl, rfl, Below.refl _ _⟩
      case round =>
        obtain ⟨k, hk, hgk, rfl, rfl, hB⟩ := hrel
        have Hgk := Lib.hid hgk
        have Hs := Lib.hid (eqTo_succ xs ys k)
        clear hgk
        generalize hx : eqTo xs ys k = x at *
        have Hx := Lib.hid hx
        clear hx
        cases x with
        | false =>
          have Hf := Lib.hid (eqTo_false hk Hx.out)
          go_wp2
          go_ret
          exact ⟨(by rw [Hf.out]; rfl), hB⟩
        | true =>
          by_cases hlt : k < xs.length
          · have ck := cell_below hB (Hxc.out k hlt)
            have dk := cell_below hB (Hyc.out k (by have := Hl.out; omega))
            have b1 := World.block_lt_of_cell? _ _ ck
            have b2 := World.block_lt_of_cell? _ _ dk
            have hki : (k : Int) < xs.length := by omega
            have hkj : (k : Int) < ys.length := by have := Hl.out; omega
            simp only at b1 b2
            go_wp2
            go_quiet (fail)
            go_wp2
            go_roundg (xs.length - (k + 1))
            case measure => have := Hgk.out; omega
            case rel => exact ⟨k + 1, by omega, rfl, by go_num, by rw [Hs.out]; rfl, below_drewN hB _⟩
          · obtain rfl : k = xs.length := by omega
            go_wp2
            go_ret
            exact ⟨(by rw [Hx.out]; rfl), hB⟩
  · have hr : eqL xs ys = false := by unfold eqL; simp [hl]
    have hli : ((xs.length : Int) == ys.length) = false := by rw [beq_eq_false_iff_ne]; omega
    rw [hr]
    clear hl hr
    go_enter Tryd.func24, Tryd.ntmps24
    go_wp2
    refine wp_loop_rounds 1 ?_
    rw [rounds_succ]
    go_wp2
    go_ret
    exact ⟨rfl, Below.refl _ _⟩
end
section
open Go.RowKit Go.Shelf
attribute [local go_sem] Oper.semAt_some
set_option linter.unusedSimpArgs false
set_option linter.unusedVariables false
def turnZ (n b : Int) : Int := if b < 1 then 0 else n % b
theorem turnZ_bd {n b : Int} (h : 1 ≤ b) : 0 ≤ turnZ n b ∧ turnZ n b < b := by
  unfold turnZ; rw [if_neg (by omega)]; exact ⟨Int.emod_nonneg _ (by omega), Int.emod_lt_of_pos _ (by omega)⟩
theorem tmod_cases (n b : Int) (hb : 1 ≤ b) : (n.tmod b = n % b) ∨ (n.tmod b = n % b - b ∧ n < 0 ∧ 0 < n % b) := by
  have h := Int.tmod_eq_emod (a := n) (b := b)
  have hm0 := Int.emod_nonneg n (show b ≠ 0 by omega)
  by_cases h1 : 0 ≤ n ∨ b ∣ n
  · rw [if_pos h1] at h; exact .inl (by omega)
  · rw [if_neg h1] at h
    have h2 : ¬ n % b = 0 := fun e => h1 (.inr (Int.dvd_of_emod_eq_zero e))
    have h3 : ¬ 0 ≤ n := fun e => h1 (.inl e)
    exact .inr ⟨by omega, by omega, by omega⟩
set_option maxRecDepth 100000 in
theorem Turn_calls (n b : Int) (w : World) (hb : b ≤ 9223372036854775807) : Calls Tryd.prog 44 #[.int .i64 n, .int .i64 b] w fun e w' => e = .returned (.int .i64 (turnZ n b)) ∧ w = w' := by
  by_cases h1 : b < 1
  · have Hr : Hid (turnZ n b = 0) := by unfold Hid turnZ; rw [if_pos h1]
    go_enter Tryd.func44, Tryd.ntmps44
    go_wp2
    go_ret
    exact ⟨(by rw [Hr.out]; rfl), rfl⟩
  · have Hr : Hid (turnZ n b = n % b) := by unfold Hid turnZ; rw [if_neg h1]
    have hb0 : ¬ b = 0 := by omega
    have hm0 := Int.emod_nonneg n (show b ≠ 0 by omega)
    have hm1 := Int.emod_lt_of_pos n (show 0 < b by omega)
    have hc := Lib.hid (tmod_cases n b (by omega))
    have Hw : Hid (n.tmod b < 0 → IntKind.i64.wrap (n.tmod b + b) = n.tmod b + b) := fun h0 => wrap_in (by rcases hc.out with h | ⟨h, _, _⟩ <;> omega) (by omega)
    have Hm0 := Lib.hid hm0
    have Hm1 := Lib.hid hm1
    clear hm0 hm1
    go_enter Tryd.func44, Tryd.ntmps44
    go_wp2
    · go_ret
      have e : n.tmod b + b = n % b := by have := Hm0.out; have := Hm1.out; rcases hc.out with h | ⟨h, _, _⟩ <;> omega
      have hw : wrap64 (n.tmod b + b) = n.tmod b + b := (by have h := Hw.out (by assumption); rw [IntKind.wrap_i64] at h; unfold wrap64; exact h)
      exact ⟨by rw [Hr.out, ← e]; exact congrArg (fun x => Ending.returned (Value.int .i64 x)) hw, rfl⟩
    · go_ret
      have e : n.tmod b = n % b := by have := Hm0.out; have := Hm1.out; rcases hc.out with h | ⟨h, _, _⟩ <;> omega
      exact ⟨(by rw [Hr.out, ← e]; rfl), rfl⟩
/-- the number of a list that any number chooses -/
def nthZ (l : List Int) (n : Int) : Int := gi l (turnZ n l.length).toNat
set_option maxRecDepth 100000 in
theorem Nth_calls (A : Option Addr) (c : Nat) (l : List Int) (n : Int) (w : World) (hp : IntsAt w A l) :
    Calls Tryd.prog 95 #[.slice A l.length c, .int .i64 n] w fun e w' => e = .returned (.int .i64 (nthZ l n)) ∧ w = w' := by
  have hl := hp.1
  rcases Nat.eq_zero_or_pos l.length with h0 | h0
  · have hz : (l.length : Int) = 0 := by omega
    have Hr : Hid (nthZ l n = 0) := by unfold Hid nthZ; rw [List.eq_nil_of_length_eq_zero h0]; rfl
    clear h0 hp hl
    go_enter Tryd.func95, Tryd.ntmps95
    go_wp2
    go_ret
    exact ⟨(by rw [Hr.out]; rfl), rfl⟩
  · obtain ⟨b, o, rfl, hc⟩ := hp.2.resolve_left (by intro e; rw [e] at h0; simp at h0)
    have hz : ((l.length : Int) == 0) = false := by rw [beq_eq_false_iff_ne]; omega
    have hbd := turnZ_bd (n := n) (b := l.length) (by omega)
    obtain ⟨m, hm⟩ := Int.eq_ofNat_of_zero_le hbd.1
    have hml : m < l.length := by omega
    have hck := hc m hml
    have Hr : Hid (nthZ l n = gi l m) := by unfold Hid nthZ; rw [hm]; rfl
    have hmi : (m : Int) < l.length := by omega
    have bk := World.block_lt_of_cell? _ _ hck
    simp only at bk
    have Hm := Lib.hid hm
    clear hm hbd hc hp h0
    go_enter Tryd.func95, Tryd.ntmps95
    go_wp2_with (go_at_call 44; refine (Turn_calls _ _ _ (by omega)).mono ?_; rintro e w' ⟨rfl, rfl⟩; rw [Hm.out])
    go_ret
    exact ⟨(by rw [Hr.out]; rfl), rfl⟩
/-- a number of a span that any number chooses -/
def drawZ (lo hi n : Int) : Int := if hi ≤ lo then lo else lo + turnZ n (hi - lo + 1)
theorem drawZ_in {lo hi n : Int} (h : lo ≤ hi) : lo ≤ drawZ lo hi n ∧ drawZ lo hi n ≤ hi := by
  unfold drawZ; split
  · omega
  · have := turnZ_bd (n := n) (b := hi - lo + 1) (by omega); omega
set_option maxRecDepth 100000 in
theorem Draw_calls (lo hi n : Int) (w : World) (h1 : -1000000 ≤ lo) (h2 : lo ≤ 1000000) (h3 : -1000000 ≤ hi) (h4 : hi ≤ 1000000) :
    Calls Tryd.prog 94 #[.agg #[.int .i64 lo, .int .i64 hi], .int .i64 n] w fun e w' => e = .returned (.int .i64 (drawZ lo hi n)) ∧ Below w.heap.size w w' := by
  by_cases h : hi ≤ lo
  · have Hr : Hid (drawZ lo hi n = lo) := by unfold Hid drawZ; rw [if_pos h]
    go_enter Tryd.func94, Tryd.ntmps94
    go_wp2
    go_ret
    exact ⟨(by rw [Hr.out]; rfl), (Below.refl _ _).alloc (Nat.le_refl _) _⟩
  · have Hr : Hid (drawZ lo hi n = lo + turnZ n (hi - lo + 1)) := by unfold Hid drawZ; rw [if_neg h]
    have hbd := turnZ_bd (n := n) (b := hi - lo + 1) (by omega)
    have hw1 : IntKind.i64.wrap (hi - lo) = hi - lo := wrap_in (by omega) (by omega)
    have hw2 : IntKind.i64.wrap (hi - lo + 1) = hi - lo + 1 := wrap_in (by omega) (by omega)
    have hlt : ¬ hi - lo + 1 < 1 := by omega
    have k2 := BoxAt.new w #[.int .i64 lo, .int .i64 hi] 24
    have Hb : Below w.heap.size w (w.alloc (.cells #[.int .i64 lo, .int .i64 hi] 24)) := (Below.refl _ _).alloc (Nat.le_refl _) _
    go_enter Tryd.func94, Tryd.ntmps94
    go_upto_region 1 with (fail)
    generalize w.alloc _ = w1 at *
    have K2 := Lib.hid k2
    obtain ⟨c2, f2, l2⟩ := k2
    go_upto_region 6 with (fail)
    refine region_plain (S := fun w' => Below w1.heap.size w1 w') 7 (by kernel_rfl) ?_ (fun hHeld => ?_)
    · exact (Below.refl _ _).drew
    first | (refine anyT_take 0 (some 28) (v := ?_) rfl rfl (by kernel_rfl) (by kernel_rfl) (by kernel_rfl) (by kernel_rfl) (fun _ _ _ h => h) (Or.inl ⟨by rfl, ?_⟩) hHeld ?_; rotate_left; focus (intro wq hSw; obtain ⟨hcq, hfq⟩ := bcell hSw; go_simp; (try with_reducible rfl); done))
    (try simp only [Act.put, List.setIfInBounds_toArray, List.set_cons_zero, List.set_cons_succ])
    first | (refine anyT_take 1 (some 29) (v := ?_) rfl rfl (by kernel_rfl) (by kernel_rfl) (by kernel_rfl) (by kernel_rfl) (fun _ _ _ h => h) (Or.inl ⟨by rfl, ?_⟩) hHeld ?_; rotate_left; focus (intro wq hSw; obtain ⟨hcq, hfq⟩ := bcell hSw; go_simp; (try with_reducible rfl); done))
    (try simp only [Act.put, List.setIfInBounds_toArray, List.set_cons_zero, List.set_cons_succ])
    first | (refine anyT_take 2 (some 30) (v := ?_) rfl rfl (by kernel_rfl) (by kernel_rfl) (by kernel_rfl) (by kernel_rfl) (fun _ _ _ h => h) (Or.inl ⟨by rfl, ?_⟩) hHeld ?_; rotate_left; focus (intro wq hSw; obtain ⟨hcq, hfq⟩ := bcell hSw; go_simp; (try with_reducible rfl); done))
    (try simp only [Act.put, List.setIfInBounds_toArray, List.set_cons_zero, List.set_cons_succ])
    first | (refine anyT_take 3 (some 31) (v := ?_) rfl rfl (by kernel_rfl) (by kernel_rfl) (by kernel_rfl) (by kernel_rfl) (fun _ _ _ h => h) (Or.inl ⟨by rfl, ?_⟩) hHeld ?_; rotate_left; focus (intro wq hSw; obtain ⟨hcq, hfq⟩ := bcell hSw; go_simp; (try with_reducible rfl); done))
    (try simp only [Act.put, List.setIfInBounds_toArray, List.set_cons_zero, List.set_cons_succ])
    refine anyT_one 4 (by kernel_rfl) rfl (fun K hK => ?_)
    go_simp
    refine (Turn_calls _ _ _ (by omega)).mono ?_; rintro e w5 ⟨rfl, rfl⟩; generalize hT : turnZ n (hi - lo + 1) = T at *; have hw3 : IntKind.i64.wrap (lo + T) = lo + T := wrap_in (by omega) (by omega)
    refine hK.out _ _ ?_ (fun hHeld => ?_)
    · exact hHeld
    clear hK K
    (try simp only [Act.put, List.setIfInBounds_toArray, List.set_cons_zero, List.set_cons_succ])
    first | (refine anyT_take 5 (some 33) (v := ?_) rfl rfl (by kernel_rfl) (by kernel_rfl) (by kernel_rfl) (by kernel_rfl) (fun _ _ _ h => h) (Or.inl ⟨by rfl, ?_⟩) hHeld ?_; rotate_left; focus (intro wq hSw; obtain ⟨hcq, hfq⟩ := bcell hSw; go_simp; (try with_reducible rfl); done))
    (try simp only [Act.put, List.setIfInBounds_toArray, List.set_cons_zero, List.set_cons_succ])
    first | (refine anyT_take 6 (some 4) (v := ?_) rfl rfl (by kernel_rfl) (by kernel_rfl) (by kernel_rfl) (by kernel_rfl) (fun _ _ _ h => h) (Or.inl ⟨by rfl, ?_⟩) hHeld ?_; rotate_left; focus (intro wq hSw; obtain ⟨hcq, hfq⟩ := bcell hSw; go_simp; (try with_reducible rfl); done))
    (try simp only [Act.put, List.setIfInBounds_toArray, List.set_cons_zero, List.set_cons_succ])
    refine anyT_done (by kernel_rfl) ?_ _
    have hfin := below_then Hb Hb.size hHeld
    go_wp2
    go_ret
    exact ⟨(by rw [Hr.out, ← hT]; rfl), hfin⟩
/-- are two lists of rows alike? -/
def eqRTo (xs ys : List (List Int)) (k : Nat) : Bool := (List.range k).all fun j => eqL (gm xs j) (gm ys j)
def eqR (xs ys : List (List Int)) : Bool := decide (xs.length = ys.length) && eqRTo xs ys xs.length
theorem eqRTo_succ (xs ys : List (List Int)) (k : Nat) : eqRTo xs ys (k + 1) = (eqRTo xs ys k && eqL (gm xs k) (gm ys k)) := range_all_succ _ _
theorem eqRTo_false {xs ys : List (List Int)} {k n : Nat} (hk : k ≤ n) (h : eqRTo xs ys k = false) : eqRTo xs ys n = false := by
  rw [Bool.eq_false_iff]; intro h2
  rw [show eqRTo xs ys k = true from range_all_le h2 hk] at h; cases h
theorem RowsAt.some_ {w : World} {A : Option Addr} {ms : List (List Int)} (h : RowsAt w A ms) (hn : 0 < ms.length) : ∃ b o, A = some ⟨b, o, none⟩ := by
  rcases h.2 with rfl | ⟨b, o, e, _⟩
  · simp at hn
  · exact ⟨b, o, e⟩
theorem RowsAt.at_ {w : World} {b o : Nat} {ms : List (List Int)} (h : RowsAt w (some ⟨b, o, none⟩) ms) {k : Nat} (hk : k < ms.length) : ∃ Aj c, w.cell? ⟨b, o + k, none⟩ = some (.slice Aj (gm ms k).length c) ∧ (gm ms k).length ≤ c ∧ IntsAt w Aj (gm ms k) := by
  rcases h.2 with h | ⟨b', o', e, h⟩
  · rw [h] at hk; simp at hk
  · cases e; exact h k hk
set_option maxRecDepth 100000 in
set_option maxHeartbeats 1000000 in
theorem EqualRows_calls (A : Option Addr) (c : Nat) (xs : List (List Int)) (A' : Option Addr) (c' : Nat) (ys : List (List Int)) (w : World) (ha : RowsAt w A xs) (hb : RowsAt w A' ys) :
    Calls Tryd.prog 77 #[.slice A xs.length c, .slice A' ys.length c'] w fun e w' => e = .returned (.bool (eqR xs ys)) ∧ Below w.heap.size w w' := by
  have HA := Lib.hid ha
  have HB := Lib.hid hb
  have hle := ha.1
  clear ha hb
  by_cases hl : xs.length = ys.length
  · have hr : eqR xs ys = eqRTo xs ys xs.length := by unfold eqR; simp [hl]
    have hli : ((xs.length : Int) == ys.length) = true := by simp [hl]
    rw [hr]
    have Hl := Lib.hid hl
    clear hl hr
    go_enter Tryd.func77, Tryd.ntmps77
    go_wp2
    go_loopg [6, 5] xs.length (fun gk i s wr => ∃ k : Nat, k ≤ xs.length ∧ gk = xs.length - k ∧ i = .int .i64 k ∧ s = .bool (eqRTo xs ys k) ∧ Below w.heap.size w wr)
    case atStart => exact ⟨0, Nat.zero_le _, rfl, rfl, rfl, Below.refl _ _⟩
    case round =>
      obtain ⟨k, hk, hgk, rfl, rfl, hB⟩ := hrel
      have Hgk := Lib.hid hgk
      have HBe := Lib.hid hB
      have Hs := Lib.hid (eqRTo_succ xs ys k)
      clear hgk
      generalize hx : eqRTo xs ys k = x at *
      have Hx := Lib.hid hx
      clear hx
      cases x with
      | false =>
        have Hf := Lib.hid (eqRTo_false hk Hx.out)
        go_wp2
        go_ret
        exact ⟨(by rw [Hf.out]; rfl), hB⟩
      | true =>
        by_cases hlt : k < xs.length
        · obtain ⟨xb, xo, rfl⟩ := HA.out.some_ (by omega)
          obtain ⟨yb, yo, rfl⟩ := HB.out.some_ (by have := Hl.out; omega)
          obtain ⟨A1, c1, ck, _, hi1⟩ := HA.out.at_ hlt
          obtain ⟨A2, c2, dk, _, hi2⟩ := HB.out.at_ (show k < ys.length by have := Hl.out; omega)
          have Hi1 := Lib.hid hi1
          have Hi2 := Lib.hid hi2
          replace ck := cell_below hB ck
          replace dk := cell_below hB dk
          have b1 := World.block_lt_of_cell? _ _ ck
          have b2 := World.block_lt_of_cell? _ _ dk
          have hki : (k : Int) < xs.length := by omega
          have hkj : (k : Int) < ys.length := by have := Hl.out; omega
          simp only at b1 b2
          clear hi1 hi2 hB
          go_upto_region 5 with (fail)
          refine region_plain (S := fun w' => Below wr.heap.size wr w') 10 (by kernel_rfl) ?_ (fun hHeld => ?_)
          · exact (Below.refl _ _).drew
          first | (refine anyT_take 0 (some 21) (v := ?_) rfl rfl (by kernel_rfl) (by kernel_rfl) (by kernel_rfl) (by kernel_rfl) (fun _ _ _ h => h) (Or.inl ⟨by rfl, ?_⟩) hHeld ?_; rotate_left; focus (intro wq hSw; obtain ⟨hcq, hfq⟩ := bcell hSw; go_simp; (try with_reducible rfl); done))
          (try simp only [Act.put, List.setIfInBounds_toArray, List.set_cons_zero, List.set_cons_succ])
          first | (refine anyT_take 1 (some 22) (v := ?_) rfl rfl (by kernel_rfl) (by kernel_rfl) (by kernel_rfl) (by kernel_rfl) (fun _ _ _ h => h) (Or.inl ⟨by rfl, ?_⟩) hHeld ?_; rotate_left; focus (intro wq hSw; obtain ⟨hcq, hfq⟩ := bcell hSw; go_simp; (try with_reducible rfl); done))
          (try simp only [Act.put, List.setIfInBounds_toArray, List.set_cons_zero, List.set_cons_succ])
          first | (refine anyT_take 2 (some 23) (v := ?_) rfl rfl (by kernel_rfl) (by kernel_rfl) (by kernel_rfl) (by kernel_rfl) (fun _ _ _ h => h) (Or.inl ⟨by rfl, ?_⟩) hHeld ?_; rotate_left; focus (intro wq hSw; obtain ⟨hcq, hfq⟩ := bcell hSw; go_simp; (try with_reducible rfl); done))
          (try simp only [Act.put, List.setIfInBounds_toArray, List.set_cons_zero, List.set_cons_succ])
          first | (refine anyT_take 3 (some 24) (v := ?_) rfl rfl (by kernel_rfl) (by kernel_rfl) (by kernel_rfl) (by kernel_rfl) (fun _ _ _ h => h) (Or.inl ⟨by rfl, ?_⟩) hHeld ?_; rotate_left; focus (intro wq hSw; obtain ⟨hcq, hfq⟩ := bcell hSw; go_simp; (try with_reducible rfl); done))
          (try simp only [Act.put, List.setIfInBounds_toArray, List.set_cons_zero, List.set_cons_succ])
          first | (refine anyT_take 4 (some 25) (v := ?_) rfl rfl (by kernel_rfl) (by kernel_rfl) (by kernel_rfl) (by kernel_rfl) (fun _ _ _ h => h) (Or.inl ⟨by rfl, ?_⟩) hHeld ?_; rotate_left; focus (intro wq hSw; obtain ⟨hcq, hfq⟩ := bcell hSw; go_simp; (try with_reducible rfl); done))
          (try simp only [Act.put, List.setIfInBounds_toArray, List.set_cons_zero, List.set_cons_succ])
          first | (refine anyT_take 5 (some 26) (v := ?_) rfl rfl (by kernel_rfl) (by kernel_rfl) (by kernel_rfl) (by kernel_rfl) (fun _ _ _ h => h) (Or.inl ⟨by rfl, ?_⟩) hHeld ?_; rotate_left; focus (intro wq hSw; obtain ⟨hcq, hfq⟩ := bcell hSw; go_simp; (try with_reducible rfl); done))
          (try simp only [Act.put, List.setIfInBounds_toArray, List.set_cons_zero, List.set_cons_succ])
          first | (refine anyT_take 6 (some 27) (v := ?_) rfl rfl (by kernel_rfl) (by kernel_rfl) (by kernel_rfl) (by kernel_rfl) (fun _ _ _ h => h) (Or.inl ⟨by rfl, ?_⟩) hHeld ?_; rotate_left; focus (intro wq hSw; obtain ⟨hcq, hfq⟩ := bcell hSw; go_simp; (try with_reducible rfl); done))
          (try simp only [Act.put, List.setIfInBounds_toArray, List.set_cons_zero, List.set_cons_succ])
          first | (refine anyT_take 7 (some 28) (v := ?_) rfl rfl (by kernel_rfl) (by kernel_rfl) (by kernel_rfl) (by kernel_rfl) (fun _ _ _ h => h) (Or.inl ⟨by rfl, ?_⟩) hHeld ?_; rotate_left; focus (intro wq hSw; obtain ⟨hcq, hfq⟩ := bcell hSw; go_simp; (try with_reducible rfl); done))
          (try simp only [Act.put, List.setIfInBounds_toArray, List.set_cons_zero, List.set_cons_succ])
          refine anyT_one 8 (by kernel_rfl) rfl (fun K hK => ?_)
          go_simp
          refine (Equal_calls A1 c1 (gm xs k) A2 c2 (gm ys k) _ (Hi1.out.below (below_then HBe.out HBe.out.size hHeld)) (Hi2.out.below (below_then HBe.out HBe.out.size hHeld))).mono ?_; rintro e w5 ⟨rfl, hb5⟩
          refine hK.out _ _ ?_ (fun hHeld => ?_)
          · exact below_then hHeld hHeld.size hb5
          clear hK K
          (try simp only [Act.put, List.setIfInBounds_toArray, List.set_cons_zero, List.set_cons_succ])
          first | (refine anyT_take 9 (some 5) (v := ?_) rfl rfl (by kernel_rfl) (by kernel_rfl) (by kernel_rfl) (by kernel_rfl) (fun _ _ _ h => h) (Or.inl ⟨by rfl, ?_⟩) hHeld ?_; rotate_left; focus (intro wq hSw; obtain ⟨hcq, hfq⟩ := bcell hSw; go_simp; (try with_reducible rfl); done))
          (try simp only [Act.put, List.setIfInBounds_toArray, List.set_cons_zero, List.set_cons_succ])
          refine anyT_done (by kernel_rfl) ?_ _
          have HH := Lib.hid (below_then HBe.out HBe.out.size hHeld)
          clear hHeld ck dk b1 b2
          go_wp2
          go_roundg (xs.length - (k + 1))
          case measure => have := Hgk.out; omega
          case rel => exact ⟨k + 1, by omega, rfl, by go_num, by rw [Hs.out]; rfl, HH.out⟩
        · obtain rfl : k = xs.length := by omega
          go_wp2
          go_ret
          exact ⟨(by rw [Hx.out]; rfl), hB⟩
  · have hr : eqR xs ys = false := by unfold eqR; simp [hl]
    have hli : ((xs.length : Int) == ys.length) = false := by rw [beq_eq_false_iff_ne]; omega
    rw [hr]
    clear hl hr
    go_enter Tryd.func77, Tryd.ntmps77
    go_wp2
    refine wp_loop_rounds 1 ?_
    rw [rounds_succ]
    go_wp2
    go_ret
    exact ⟨rfl, Below.refl _ _⟩
end
end Go.Proofs.YtgfbfbfajnfbjaaDoor
