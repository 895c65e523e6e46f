import Derived.Test.YtljikigmfkfkiaaDoorF
namespace Go.Proofs.YtljikigmfkfkiaaDoor
open Go.RowKit Go.Shelf
attribute [local go_sem] Oper.semAt_some
set_option linter.unusedSimpArgs false
set_option linter.unusedVariables false

def turnZ (n b : Int) : Int := if b < 1 then 0 else n % b
theorem turnZ_bd {n b : Int} (h : 1 ≤ b) : 0 ≤ turnZ n b ∧ turnZ n b < b := by
  unfold turnZ; rw [if_neg (by omega)]; exact ⟨Int.emod_nonneg _ (by omega), Int.emod_lt_of_pos _ (by omega)⟩
theorem tmod_cases (n b : Int) (hb : 1 ≤ b) : (n.tmod b = n % b) ∨ (n.tmod b = n % b - b ∧ n < 0 ∧ 0 < n % b) := by
  have h := Int.tmod_eq_emod (a := n) (b := b)
  have hm0 := Int.emod_nonneg n (show b ≠ 0 by omega)
  by_cases h1 : 0 ≤ n ∨ b ∣ n
  · rw [if_pos h1] at h; exact .inl (by omega)
  · rw [if_neg h1] at h
    have h2 : ¬ n % b = 0 := fun e => h1 (.inr (Int.dvd_of_emod_eq_zero e))
    have h3 : ¬ 0 ≤ n := fun e => h1 (.inl e)
    exact .inr ⟨by omega, by omega, by omega⟩
set_option maxRecDepth 100000 in
theorem Turn_calls (n b : Int) (w : World) (hb : b ≤ 9223372036854775807) : Calls Tryd.prog 47 #[.int .i64 n, .int .i64 b] w fun e w' => e = .returned (.int .i64 (turnZ n b)) ∧ w = w' := by
  by_cases h1 : b < 1
  · have Hr : Hid (turnZ n b = 0) := by unfold Hid turnZ; rw [if_pos h1]
    go_enter Tryd.func47, Tryd.ntmps47
    go_wp2
    go_ret
    exact ⟨(by rw [Hr.out]; rfl), rfl⟩
  · have Hr : Hid (turnZ n b = n % b) := by unfold Hid turnZ; rw [if_neg h1]
    have hb0 : ¬ b = 0 := by omega
    have hm0 := Int.emod_nonneg n (show b ≠ 0 by omega)
    have hm1 := Int.emod_lt_of_pos n (show 0 < b by omega)
    have hc := Lib.hid (tmod_cases n b (by omega))
    have Hw : Hid (n.tmod b < 0 → IntKind.i64.wrap (n.tmod b + b) = n.tmod b + b) := fun h0 => wrap_in (by rcases hc.out with h | ⟨h, _, _⟩ <;> omega) (by omega)
    have Hm0 := Lib.hid hm0
    have Hm1 := Lib.hid hm1
    clear hm0 hm1
    go_enter Tryd.func47, Tryd.ntmps47
    go_wp2
    · go_ret
      have e : n.tmod b + b = n % b := by have := Hm0.out; have := Hm1.out; rcases hc.out with h | ⟨h, _, _⟩ <;> omega
      have hw : wrap64 (n.tmod b + b) = n.tmod b + b := (by have h := Hw.out (by assumption); rw [IntKind.wrap_i64] at h; unfold wrap64; exact h)
      exact ⟨by rw [Hr.out, ← e]; exact congrArg (fun x => Ending.returned (Value.int .i64 x)) hw, rfl⟩
    · go_ret
      have e : n.tmod b = n % b := by have := Hm0.out; have := Hm1.out; rcases hc.out with h | ⟨h, _, _⟩ <;> omega
      exact ⟨(by rw [Hr.out, ← e]; rfl), rfl⟩
/-- the number of a list that any number chooses -/
def nthZ (l : List Int) (n : Int) : Int := gi l (turnZ n l.length).toNat
set_option maxRecDepth 100000 in
theorem Nth_calls (A : Option Addr) (c : Nat) (l : List Int) (n : Int) (w : World) (hp : IntsAt w A l) :
    Calls Tryd.prog 54 #[.slice A l.length c, .int .i64 n] w fun e w' => e = .returned (.int .i64 (nthZ l n)) ∧ w = w' := by
  have hl := hp.1
  rcases Nat.eq_zero_or_pos l.length with h0 | h0
  · have hz : (l.length : Int) = 0 := by omega
    have Hr : Hid (nthZ l n = 0) := by unfold Hid nthZ; rw [List.eq_nil_of_length_eq_zero h0]; rfl
    clear h0 hp hl
    go_enter Tryd.func54, Tryd.ntmps54
    go_wp2
    go_ret
    exact ⟨(by rw [Hr.out]; rfl), rfl⟩
  · obtain ⟨b, o, rfl, hc⟩ := hp.2.resolve_left (by intro e; rw [e] at h0; simp at h0)
    have hz : ((l.length : Int) == 0) = false := by rw [beq_eq_false_iff_ne]; omega
    have hbd := turnZ_bd (n := n) (b := l.length) (by omega)
    obtain ⟨m, hm⟩ := Int.eq_ofNat_of_zero_le hbd.1
    have hml : m < l.length := by omega
    have hck := hc m hml
    have Hr : Hid (nthZ l n = gi l m) := by unfold Hid nthZ; rw [hm]; rfl
    have hmi : (m : Int) < l.length := by omega
    have bk := World.block_lt_of_cell? _ _ hck
    simp only at bk
    have Hm := Lib.hid hm
    clear hm hbd hc hp h0
    go_enter Tryd.func54, Tryd.ntmps54
    go_wp2_with (go_at_call 47; refine (Turn_calls _ _ _ (by omega)).mono ?_; rintro e w' ⟨rfl, rfl⟩; rw [Hm.out])
    go_ret
    exact ⟨(by rw [Hr.out]; rfl), rfl⟩
/-- a number of a span that any number chooses -/
def drawZ (lo hi n : Int) : Int := if hi ≤ lo then lo else lo + turnZ n (hi - lo + 1)
theorem drawZ_in {lo hi n : Int} (h : lo ≤ hi) : lo ≤ drawZ lo hi n ∧ drawZ lo hi n ≤ hi := by
  unfold drawZ; split
  · omega
  · have := turnZ_bd (n := n) (b := hi - lo + 1) (by omega); omega
set_option maxRecDepth 100000 in
theorem Draw_calls (lo hi n : Int) (w : World) (h1 : -1000000 ≤ lo) (h2 : lo ≤ 1000000) (h3 : -1000000 ≤ hi) (h4 : hi ≤ 1000000) :
    Calls Tryd.prog 87 #[.agg #[.int .i64 lo, .int .i64 hi], .int .i64 n] w fun e w' => e = .returned (.int .i64 (drawZ lo hi n)) ∧ Below w.heap.size w w' := by
  by_cases h : hi ≤ lo
  · have Hr : Hid (drawZ lo hi n = lo) := by unfold Hid drawZ; rw [if_pos h]
    go_enter Tryd.func87, Tryd.ntmps87
    go_wp2
    go_ret
    exact ⟨(by rw [Hr.out]; rfl), (Below.refl _ _).alloc (Nat.le_refl _) _⟩
  · have Hr : Hid (drawZ lo hi n = lo + turnZ n (hi - lo + 1)) := by unfold Hid drawZ; rw [if_neg h]
    have hbd := turnZ_bd (n := n) (b := hi - lo + 1) (by omega)
    have hw1 : IntKind.i64.wrap (hi - lo) = hi - lo := wrap_in (by omega) (by omega)
    have hw2 : IntKind.i64.wrap (hi - lo + 1) = hi - lo + 1 := wrap_in (by omega) (by omega)
    have hlt : ¬ hi - lo + 1 < 1 := by omega
    have k2 := BoxAt.new w #[.int .i64 lo, .int .i64 hi] 24
    have Hb : Below w.heap.size w (w.alloc (.cells #[.int .i64 lo, .int .i64 hi] 24)) := (Below.refl _ _).alloc (Nat.le_refl _) _
    go_enter Tryd.func87, Tryd.ntmps87
    go_upto_region 1 with (fail)
    generalize w.alloc _ = w1 at *
    have K2 := Lib.hid k2
    obtain ⟨c2, f2, l2⟩ := k2
    go_upto_region 6 with (fail)
    refine region_plain (S := fun w' => Below w1.heap.size w1 w') 7 (by kernel_rfl) ?_ (fun hHeld => ?_)
    · exact (Below.refl _ _).drew
    first | (refine anyT_take 0 (some 28) (v := ?_) rfl rfl (by kernel_rfl) (by kernel_rfl) (by kernel_rfl) (by kernel_rfl) (fun _ _ _ h => h) (Or.inl ⟨by rfl, ?_⟩) hHeld ?_; rotate_left; focus (intro wq hSw; obtain ⟨hcq, hfq⟩ := bcell hSw; go_simp; (try with_reducible rfl); done))
    (try simp only [Act.put, List.setIfInBounds_toArray, List.set_cons_zero, List.set_cons_succ])
    first | (refine anyT_take 1 (some 29) (v := ?_) rfl rfl (by kernel_rfl) (by kernel_rfl) (by kernel_rfl) (by kernel_rfl) (fun _ _ _ h => h) (Or.inl ⟨by rfl, ?_⟩) hHeld ?_; rotate_left; focus (intro wq hSw; obtain ⟨hcq, hfq⟩ := bcell hSw; go_simp; (try with_reducible rfl); done))
    (try simp only [Act.put, List.setIfInBounds_toArray, List.set_cons_zero, List.set_cons_succ])
    first | (refine anyT_take 2 (some 30) (v := ?_) rfl rfl (by kernel_rfl) (by kernel_rfl) (by kernel_rfl) (by kernel_rfl) (fun _ _ _ h => h) (Or.inl ⟨by rfl, ?_⟩) hHeld ?_; rotate_left; focus (intro wq hSw; obtain ⟨hcq, hfq⟩ := bcell hSw; go_simp; (try with_reducible rfl); done))
    (try simp only [Act.put, List.setIfInBounds_toArray, List.set_cons_zero, List.set_cons_succ])
    first | (refine anyT_take 3 (some 31) (v := ?_) rfl rfl (by kernel_rfl) (by kernel_rfl) (by kernel_rfl) (by kernel_rfl) (fun _ _ _ h => h) (Or.inl ⟨by rfl, ?_⟩) hHeld ?_; rotate_left; focus (intro wq hSw; obtain ⟨hcq, hfq⟩ := bcell hSw; go_simp; (try with_reducible rfl); done))
    (try simp only [Act.put, List.setIfInBounds_toArray, List.set_cons_zero, List.set_cons_succ])
    refine anyT_one 4 (by kernel_rfl) rfl (fun K hK => ?_)
    go_simp
    refine (Turn_calls _ _ _ (by omega)).mono ?_; rintro e w5 ⟨rfl, rfl⟩; generalize hT : turnZ n (hi - lo + 1) = T at *; have hw3 : IntKind.i64.wrap (lo + T) = lo + T := wrap_in (by omega) (by omega)
    refine hK.out _ _ ?_ (fun hHeld => ?_)
    · exact hHeld
    clear hK K
    (try simp only [Act.put, List.setIfInBounds_toArray, List.set_cons_zero, List.set_cons_succ])
    first | (refine anyT_take 5 (some 33) (v := ?_) rfl rfl (by kernel_rfl) (by kernel_rfl) (by kernel_rfl) (by kernel_rfl) (fun _ _ _ h => h) (Or.inl ⟨by rfl, ?_⟩) hHeld ?_; rotate_left; focus (intro wq hSw; obtain ⟨hcq, hfq⟩ := bcell hSw; go_simp; (try with_reducible rfl); done))
    (try simp only [Act.put, List.setIfInBounds_toArray, List.set_cons_zero, List.set_cons_succ])
    first | (refine anyT_take 6 (some 4) (v := ?_) rfl rfl (by kernel_rfl) (by kernel_rfl) (by kernel_rfl) (by kernel_rfl) (fun _ _ _ h => h) (Or.inl ⟨by rfl, ?_⟩) hHeld ?_; rotate_left; focus (intro wq hSw; obtain ⟨hcq, hfq⟩ := bcell hSw; go_simp; (try with_reducible rfl); done))
    (try simp only [Act.put, List.setIfInBounds_toArray, List.set_cons_zero, List.set_cons_succ])
    refine anyT_done (by kernel_rfl) ?_ _
    have hfin := below_then Hb Hb.size hHeld
    go_wp2
    go_ret
    exact ⟨(by rw [Hr.out, ← hT]; rfl), hfin⟩
end Go.Proofs.YtljikigmfkfkiaaDoor
