import Derived.Test.YtgfbfbfajnfbjaaDoorBR
import Derived.Test.YtgfbfbfajnfbjaaDoorBP
import Derived.Test.YtgfbfbfajnfbjaaDoorBF
namespace Go.Proofs.YtgfbfbfajnfbjaaDoor
section
open Go.RowKit Go.Shelf
attribute [local go_sem] Oper.semAt_some
set_option linter.unusedSimpArgs false
set_option linter.unusedVariables false
/-! The law's words about lists of looks: sets as bits, increasing lists, which comes before; a book without some looks. -/
def Rising (l : List Int) (below : Int) : Prop := (∀ i, i < l.length → 0 ≤ gi l i ∧ gi l i < below) ∧ ∀ i, i + 1 < l.length → gi l i < gi l (i + 1)
theorem asc_rising {n : Nat} : ∀ (e : List Int) (frm : Nat), Asc n frm e → (∀ i, i < e.length → (frm : Int) ≤ gi e i ∧ gi e i < n) ∧ ∀ i, i + 1 < e.length → gi e i < gi e (i + 1)
  | [], frm, _ => ⟨fun i h => absurd h (Nat.not_lt_zero _), fun i h => absurd h (Nat.not_lt_zero _)⟩
  | x :: e, frm, ⟨k, hx, h1, h2, h3⟩ => by
    obtain ⟨g1, g2⟩ := asc_rising e (k + 1) h3
    subst hx
    have e0 : gi ((k : Int) :: e) 0 = k := rfl
    have eS : ∀ i, gi ((k : Int) :: e) (i + 1) = gi e i := fun i => rfl
    constructor
    · intro i hi
      cases i with
      | zero => rw [e0]; omega
      | succ i => rw [eS]; have := g1 i (by simpa using hi); omega
    · intro i hi
      cases i with
      | zero => rw [e0, eS]; have := g1 0 (by simpa using hi); omega
      | succ i => rw [eS, eS]; exact g2 i (by simpa using hi)
theorem asc_is_rising {n : Nat} {e : List Int} (h : Asc n 0 e) : Rising e n := by
  obtain ⟨h1, h2⟩ := asc_rising e 0 h
  exact ⟨fun i hi => by have := h1 i hi; omega, h2⟩
set_option maxRecDepth 100000 in
set_option maxHeartbeats 2000000 in
theorem Grows_true (A : Option Addr) (c : Nat) (l : List Int) (n : Int) (w : World) (hp : IntsAt w A l) (hr : Rising l n) :
    Calls Tryd.prog 61 #[.slice A l.length c, .int .i64 n] w fun e w' => e = .returned (.bool true) ∧ w = w' := by
  rcases Nat.eq_zero_or_pos l.length with h0 | h0
  · have hz : ¬ (0 : Int) < l.length := by omega
    clear hr hp h0
    go_enter Tryd.func61, Tryd.ntmps61
    go_wp2
    refine wp_loop_rounds 1 ?_
    rw [rounds_succ]
    go_wp2
    go_ret
    exact ⟨rfl, rfl⟩
  · obtain ⟨b, o, rfl, hc⟩ := hp.2.resolve_left (by intro e; rw [e] at h0; simp at h0)
    have hle := hp.1
    have Hc := Lib.hid hc
    have Hr := Lib.hid hr
    clear hc hr hp h0
    go_enter Tryd.func61, Tryd.ntmps61
    go_wp2
    go_loop [6, 5] (fun i s => ∃ k : Nat, k ≤ l.length ∧ i = .int .i64 k ∧ ∃ x : Int, s = .int .i64 x ∧ (k < l.length → x < gi l k)) (fun i _ => l.length - (intOf i).toNat)
    case atStart => exact ⟨0, Nat.zero_le _, rfl, -1, rfl, fun h => by have := Hr.out.1 0 h; omega⟩
    case round =>
      obtain ⟨k, hk, rfl, x, rfl, hx⟩ := hrel
      have Hx := Lib.hid hx
      clear hx
      by_cases hlt : k < l.length
      · have hck := Hc.out k hlt
        have bk := World.block_lt_of_cell? _ _ hck
        have hki : (k : Int) < l.length := by omega
        simp only at bk
        have h1 : x < gi l k := Hx.out hlt
        have h2 := Hr.out.1 k hlt
        obtain ⟨h20, h21⟩ := h2
        have h3 : decide (gi l k ≤ x) = false := by rw [decide_eq_false_iff_not]; omega
        have h4 : decide (n ≤ gi l k) = false := by rw [decide_eq_false_iff_not]; omega
        go_wp2
        go_round
        case rel => exact ⟨k + 1, by omega, by go_num, _, rfl, fun h => Hr.out.2 k h⟩
        case measure => simp [intOf]; omega
      · obtain rfl : k = l.length := by omega
        go_wp2
        go_ret
        exact ⟨rfl, rfl⟩
/-- the members of a set below a number -/
def memsTo (s : Int) (k : Nat) : List Int := ((List.range k).filter fun i : Nat => decide (s / 2 ^ i % 2 = 1)).map Int.ofNat
theorem memsTo_succ (s : Int) (k : Nat) : memsTo s (k + 1) = memsTo s k ++ bif decide (s / 2 ^ k % 2 = 1) then [(k : Int)] else [] := by
  unfold memsTo
  rw [List.range_succ, List.filter_append, List.map_append]
  cases h : decide (s / 2 ^ k % 2 = 1) <;> simp_all
theorem memsTo_le (s : Int) (k : Nat) : (memsTo s k).length ≤ k := by
  unfold memsTo
  rw [List.length_map]
  exact Nat.le_trans (List.length_filter_le _ _) (by simp)
theorem asc_mems (p : Nat → Bool) (n : Nat) : ∀ (m frm : Nat), frm + m = n → Asc n frm (((List.range' frm m).filter p).map Int.ofNat)
  | 0, frm, _ => trivial
  | m + 1, frm, h => by
    rw [List.range'_succ, List.filter_cons]
    have ih := asc_mems p n m (frm + 1) (by omega)
    split
    · rw [List.map_cons]
      exact ⟨frm, rfl, Nat.le_refl _, by omega, ih⟩
    · exact ih.weaken (Nat.le_succ _)
theorem memsTo_asc (s : Int) (n : Nat) : Asc n 0 (memsTo s n) := by
  unfold memsTo
  rw [List.range_eq_range']
  exact asc_mems _ n n 0 (Nat.zero_add _)
set_option maxRecDepth 100000 in
set_option maxHeartbeats 2000000 in
theorem Bit_calls (s : Int) (hs : 0 ≤ s ∧ s < 256) (k : Nat) (hk : k < 8) (w : World) : Calls Tryd.prog 96 #[.int .i64 s, .int .i64 (k : Int)] w fun e w' => e = .returned (.bool (decide (s / 2 ^ k % 2 = 1))) ∧ w = w' := by
  have hpw : (2 : Int) ^ min ((k : Int).toNat) 64 = 2 ^ k := by rw [show min ((k : Int).toNat) 64 = k by omega]
  have Hand := Lib.hid (shr_and s k hs.1 hs.2)
  have h2 : s / 2 ^ k % 2 = 0 ∨ s / 2 ^ k % 2 = 1 := by omega
  rcases h2 with hb | hb
  all_goals
    have Hb := Lib.hid hb
    have hand := Hand.out.trans hb
    clear hb hs
    go_enter Tryd.func96, Tryd.ntmps96
    go_wp2
    go_ret
    exact ⟨by rw [Hb.out]; rfl, rfl⟩
set_option maxRecDepth 100000 in
set_option maxHeartbeats 4000000 in
theorem Members_calls (s : Int) (hs : 0 ≤ s ∧ s < 256) (n : Nat) (hn : n ≤ 8) (w : World) : Calls Tryd.prog 62 #[.int .i64 s, .int .i64 (n : Int)] w fun e w' => (∃ A c, e = .returned (.slice A (memsTo s n).length c) ∧ IntsAt w' A (memsTo s n)) ∧ Below w.heap.size w w' := by
  have Hs := Lib.hid hs
  clear hs
  go_enter Tryd.func62, Tryd.ntmps62
  go_wp2
  go_loopg [6, 5] n (fun gk i v wr => ∃ k : Nat, k ≤ n ∧ gk = n - k ∧ i = .int .i64 k ∧ OwnInts wr w.heap.size v (memsTo s k) ∧ Below w.heap.size w wr)
  case atStart => exact ⟨0, Nat.zero_le _, rfl, rfl, OwnInts.nil _ _, Below.refl _ _⟩
  case round =>
    obtain ⟨k, hk, hgk, rfl, hown, hbe⟩ := hrel
    have Hgk := Lib.hid hgk
    have Hown := Lib.hid hown
    have Hbe := Lib.hid hbe
    clear hgk hown hbe
    by_cases hlt : k < n
    · have hlt' : (k : Int) < n := by omega
      have hs := memsTo_succ s k
      go_wp2_with fail
      refine (Bit_calls s Hs.out k (by omega) _).mono ?_
      rintro e w3 ⟨rfl, rfl⟩
      cases hp : decide (s / 2 ^ k % 2 = 1) with
      | true =>
        rw [hp, cond_true] at hs
        have Hms := Lib.hid hs
        clear hs
        go_wp2_with (at_builtin; refine wpList_app1 _ rfl _ _ rfl w.heap.size _ _ rfl (Hown.out.alloc _) _ _ _ rfl (cell_new1 _ _ _) (by have := memsTo_le s k; omega) (by have := Hbe.out.size; simp; omega) ?_)
        intro v' w5 ho hb5 hsz _
        have Hho := Lib.hid ho
        have Hb5 := Lib.hid hb5
        clear ho hb5 hsz
        go_wp2
        go_roundg (n - (k + 1))
        case measure => have := Hgk.out; omega
        case rel => exact ⟨k + 1, by omega, rfl, by go_num, by rw [Hms.out]; exact Hho.out, (Hbe.out.alloc Hbe.out.size _).trans Hb5.out⟩
      | false =>
        rw [hp, cond_false, List.append_nil] at hs
        have Hms := Lib.hid hs
        clear hs
        go_wp2
        go_roundg (n - (k + 1))
        case measure => have := Hgk.out; omega
        case rel => exact ⟨k + 1, by omega, rfl, by go_num, by rw [Hms.out]; exact Hown.out, Hbe.out⟩
    · obtain rfl : k = n := by omega
      obtain ⟨A', c', rfl, hi', hc', hm', h0⟩ := Hown.out.reads
      have Hi' := Lib.hid hi'
      clear hi'
      go_wp2
      go_ret
      exact ⟨⟨A', c', rfl, Hi'.out⟩, Hbe.out⟩
theorem soonL_at : ∀ (a b : List Int) (k : Nat), k < a.length → k < b.length → (∀ j, j < k → gi a j = gi b j) → gi a k < gi b k → SoonL a b
  | [], b, k, h, _, _, _ => absurd h (Nat.not_lt_zero _)
  | x :: a, [], k, _, h, _, _ => absurd h (Nat.not_lt_zero _)
  | x :: a, y :: b, 0, _, _, _, h => .inl h
  | x :: a, y :: b, k + 1, h1, h2, h3, h4 => .inr ⟨h3 0 (Nat.succ_pos _), soonL_at a b k (by simpa using h1) (by simpa using h2) (fun j hj => h3 (j + 1) (by omega)) h4⟩
set_option maxRecDepth 100000 in
set_option maxHeartbeats 2000000 in
theorem Sooner_calls (A : Option Addr) (c : Nat) (a : List Int) (A' : Option Addr) (c' : Nat) (b : List Int) (w : World) (ha : IntsAt w A a) (hb : IntsAt w A' b) (hl : a.length = b.length) :
    Calls Tryd.prog 51 #[.slice A a.length c, .slice A' b.length c'] w fun e w' => (∃ r : Bool, e = .returned (.bool r) ∧ (r = true → SoonL a b)) ∧ Below w.heap.size w w' := by
  rcases Nat.eq_zero_or_pos a.length with h0 | h0
  · have hz : ¬ (0 : Int) < a.length := by omega
    have Hz : Hid (¬ a.length < b.length) := by unfold Hid; omega
    clear hl h0
    go_enter Tryd.func51, Tryd.ntmps51
    go_wp2
    refine wp_loop_rounds 1 ?_
    rw [rounds_succ]
    go_wp2
    go_ret
    exact ⟨⟨_, rfl, fun h => by have := Hz.out; simp at h; omega⟩, Below.refl _ _⟩
  · obtain ⟨xb, xo, rfl, hxc⟩ := ha.2.resolve_left (by intro e; rw [e] at h0; simp at h0)
    obtain ⟨yb, yo, rfl, hyc⟩ := hb.2.resolve_left (by intro e; rw [e] at hl; rw [hl] at h0; simp at h0)
    have hle := ha.1
    have hlb := hb.1
    have Hxc := Lib.hid hxc
    have Hyc := Lib.hid hyc
    have Hl := Lib.hid hl
    have Hz : Hid (¬ a.length < b.length) := by unfold Hid; omega
    clear hl h0 ha hb hxc hyc
    go_enter Tryd.func51, Tryd.ntmps51
    go_wp2
    go_loopg [5] a.length (fun gk i wr => ∃ k : Nat, k ≤ a.length ∧ gk = a.length - k ∧ i = .int .i64 k ∧ (∀ j, j < k → gi a j = gi b j) ∧ Below w.heap.size w wr)
    case atStart => exact ⟨0, Nat.zero_le _, rfl, rfl, fun j hj => absurd hj (by omega), Below.refl _ _⟩
    case round =>
      obtain ⟨k, hk, hgk, rfl, hall, hB⟩ := hrel
      have Hgk := Lib.hid hgk
      have Hall := Lib.hid hall
      have HB := Lib.hid hB
      clear hgk hall
      by_cases hlt : k < a.length
      · have ck := cell_below hB (Hxc.out k hlt)
        have dk := cell_below hB (Hyc.out k (by have := Hl.out; omega))
        have b1 := World.block_lt_of_cell? _ _ ck
        have b2 := World.block_lt_of_cell? _ _ dk
        have hki : (k : Int) < a.length := by omega
        have hkj : (k : Int) < b.length := by have := Hl.out; omega
        simp only at b1 b2
        by_cases hd : gi a k = gi b k
        · have hbe : (gi a k != gi b k) = false := by rw [bne_eq_false_iff_eq]; exact hd
          have Hd := Lib.hid hd
          clear hd
          go_wp2
          go_quiet (fail)
          go_wp2
          go_roundg (a.length - (k + 1))
          case measure => have := Hgk.out; omega
          case rel => exact ⟨k + 1, by omega, rfl, by go_num, fun j hj => (by rcases Nat.lt_or_eq_of_le (Nat.le_of_lt_succ hj) with h | h; exact Hall.out j h; rw [h]; exact Hd.out), below_drewN HB.out _⟩
        · have hbe : (gi a k != gi b k) = true := by rw [bne_iff_ne]; exact hd
          have Hso : Hid (gi a k < gi b k → SoonL a b) := by unfold Hid; exact soonL_at a b k hlt (by have := Hl.out; omega) Hall.out
          clear hd
          go_wp2
          go_quiet (fail)
          go_wp2
          go_quiet (fail)
          go_wp2
          go_ret
          exact ⟨⟨_, rfl, fun h => Hso.out (by simpa using h)⟩, below_drewN (below_drewN HB.out _) _⟩
      · obtain rfl : k = a.length := by omega
        go_wp2
        go_ret
        exact ⟨⟨_, rfl, fun h => by have := Hz.out; simp at h; omega⟩, HB.out⟩
end
end Go.Proofs.YtgfbfbfajnfbjaaDoor
