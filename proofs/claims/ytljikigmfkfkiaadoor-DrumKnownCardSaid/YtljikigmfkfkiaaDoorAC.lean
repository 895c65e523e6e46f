import Derived.Test.YtljikigmfkfkiaaDoorT
import Derived.ArgAppend
import Derived.Test.YtljikigmfkfkiaaDoorF
import Derived.WalkMore
namespace Go.Proofs.YtljikigmfkfkiaaDoor
section
open Go.RowKit
set_option linter.unusedSimpArgs false
set_option linter.unusedVariables false

def isPlanR (B : BookV) (path : List Int) : Value := bif goodB B then .tuple #[.bool (isPathS B.parts B.start path && isPlanS B path), .int .i64 0] else .tuple #[.bool false, .int .i64 80]
set_option maxRecDepth 100000 in
set_option maxHeartbeats 2000000 in
theorem IsPlan_calls (B : BookV) (A : Option Addr) (c : Nat) (path : List Int) (w : World) (hB : B.Reads w) (hpa : IntsAt w A path) (hM : MarksAt w) :
    Calls Tryd.prog 26 #[B.val, .slice A path.length c] w fun e w' => e = .returned (isPlanR B path) ∧ Below w.heap.size w w' := by
  have HB := Lib.hid hB
  have HP := Lib.hid hpa
  have HM := Lib.hid hM
  clear hB hpa hM
  have Hb : Below w.heap.size w (w.alloc (.cells B.cells 27)) := (Below.refl _ _).alloc (Nat.le_refl _) _
  have k2 := BoxAt.new w B.cells 27
  have hr : Hid (isPlanR B path = bif goodB B then .tuple #[.bool (isPathS B.parts B.start path && isPlanS B path), .int .i64 0] else .tuple #[.bool false, .int .i64 80]) := Lib.hid rfl
  have hcase := chain2 (goodB B) (isPathS B.parts B.start path)
  unfold BookV.val BookV.cells
  unfold BookV.cells at k2 Hb
  go_enter Tryd.func26, Tryd.ntmps26
  go_wp2_with fail
  generalize w.alloc _ = W at *
  refine (eq0_1 (v' := B.val) (by unfold BookV.val BookV.cells; rfl) (Check_calls B _ (HB.out.below Hb))).mono ?_
  rintro e w1 ⟨rfl, hb⟩
  have H1 := below_then Hb Hb.size hb
  obtain ⟨c2, f2, l2⟩ := k2.below hb
  clear hb k2
  rcases hcase with hg | ⟨hg, hi⟩ | ⟨hg, hi⟩
  · rw [hg, cond_false]
    go_wp2
    go_ret2
    exact ⟨by rw [hr.out]; simp [*], H1⟩
  · rw [hg, cond_true]
    have g := (goodB_iff B).1 hg
    have Hg := Lib.hid g
    clear g
    go_wp2_with fail
    have H2 : Below w.heap.size w (w1.alloc (.cells B.cells 78)) := H1.alloc H1.size _
    refine (eq0_2 (v' := B.val) (by unfold BookV.val BookV.cells; rfl) (isPath_all B Hg.out.parts.1 A c path _ (HP.out.below H2))).mono ?_
    rintro e w2 ⟨rfl, hb⟩
    have H3 := below_then H2 H2.size hb
    rw [hi]
    clear hb
    go_wp2
    go_ret2
    exact ⟨by rw [hr.out]; simp [*], H3⟩
  · rw [hg, cond_true]
    have g := (goodB_iff B).1 hg
    have ip := (isPathS_iff g path).1 hi
    have Hg := Lib.hid g
    have Hi := Lib.hid ip
    clear g ip
    go_wp2_with fail
    have H2 : Below w.heap.size w (w1.alloc (.cells B.cells 78)) := H1.alloc H1.size _
    have k4 := BoxAt.new w1 B.cells 78
    unfold BookV.cells at k4 H2
    generalize w1.alloc _ = W1 at *
    refine (eq0_2 (v' := B.val) (by unfold BookV.val BookV.cells; rfl) (isPath_all B Hg.out.parts.1 A c path _ (HP.out.below H2))).mono ?_
    rintro e w2 ⟨rfl, hb⟩
    have H3 := below_then H2 H2.size hb
    obtain ⟨c4, f4, l4⟩ := k4.below hb
    rw [hi]
    clear hb
    go_wp2_with fail
    refine (eq0_2 (v' := B.val) (by unfold BookV.val BookV.cells; rfl) (isPlan_calls B Hg.out A c path Hi.out _ (HB.out.below H3) (HP.out.below H3) (HM.out.below H3))).mono ?_
    rintro e w3 ⟨rfl, hb⟩
    have H4 := below_then H3 H3.size hb
    clear hb
    go_wp2
    go_ret2
    exact ⟨by rw [hr.out]; simp [*], H4⟩
/-- at how many of the first k marks the density changes -/
def changesTo (path : List Int) : Nat → Nat
  | 0 => 0
  | k + 1 => changesTo path k + if gi path k = gi path (k + 1) then 0 else 1
theorem changesTo_le (path : List Int) : ∀ k, changesTo path k ≤ k
  | 0 => by simp [changesTo]
  | k + 1 => by have := changesTo_le path k; simp only [changesTo]; split <;> omega
set_option maxRecDepth 100000 in
set_option maxHeartbeats 2000000 in
theorem changes_calls (A : Option Addr) (c : Nat) (path : List Int) (hl : 1 ≤ path.length ∧ path.length ≤ 1000000) (w : World) (hpa : IntsAt w A path) :
    Calls Tryd.prog 75 #[.slice A path.length c] w fun e w' => e = .returned (.int .i64 (changesTo path (path.length - 1))) ∧ Below w.heap.size w w' := by
  obtain ⟨b, o, rfl⟩ := hpa.some_ (by omega)
  have HP := Lib.hid hpa
  clear hpa
  obtain ⟨m, hm⟩ : ∃ m, path.length = m + 1 := ⟨path.length - 1, by omega⟩
  have hsub : IntKind.i64.wrap ((path.length : Int) - 1) = (m : Int) := by rw [wrap_in (by omega) (by omega)]; omega
  have hmi : (path.length : Int) = m + 1 := by omega
  have hpm : path.length - 1 = m := by omega
  have Hpm := Lib.hid hpm
  have Hm := Lib.hid hm
  clear hpm
  go_enter Tryd.func75, Tryd.ntmps75
  go_upto_block 0 with (fail)
  clear hm hmi
  go_wp2
  go_loopg [8, 3] m (fun gk i n wr => ∃ k : Nat, k ≤ m ∧ gk = m - k ∧ i = .int .i64 k ∧ n = .int .i64 (changesTo path k : Nat) ∧ Below w.heap.size w wr)
  case atStart => exact ⟨0, Nat.zero_le _, rfl, rfl, rfl, Below.refl _ _⟩
  case round =>
    obtain ⟨k, hk, hgk, rfl, rfl, hB⟩ := hrel
    have Hgk := Lib.hid hgk
    have hle := changesTo_le path k
    have hm' := Hm.out
    clear hgk
    have HB := Lib.hid hB
    clear hB
    by_cases hlt : k < m
    · have c1 := cell_below HB.out (HP.out.at_ (show k < path.length by omega))
      have c2 := cell_below HB.out (HP.out.at_ (show k + 1 < path.length by omega))
      have b1 := World.block_lt_of_cell? _ _ c1
      simp only at b1
      have hki : (k : Int) < path.length := by omega
      have hki2 : (k : Int) + 1 < path.length := by omega
      have hkm : (k : Int) < m := by omega
      clear hm'
      have Hch : Hid (changesTo path (k + 1) = changesTo path k + if gi path k = gi path (k + 1) then 0 else 1) := Lib.hid rfl
      by_cases he : gi path k = gi path (k + 1)
      · go_wp2
        go_quiet (fail)
        go_wp2
        go_roundg (m - (k + 1))
        case measure => have := Hgk.out; omega
        case rel => exact ⟨k + 1, by omega, rfl, by go_num, by rw [Hch.out, if_pos he, Nat.add_zero], below_drewN HB.out _⟩
      · go_wp2
        go_quiet (fail)
        go_wp2
        go_roundg (m - (k + 1))
        case measure => have := Hgk.out; omega
        case rel => exact ⟨k + 1, by omega, rfl, by go_num, by rw [Hch.out, if_neg he]; go_num, below_drewN HB.out _⟩
    · obtain rfl : k = m := by omega
      clear hm'
      go_wp2
      go_ret
      exact ⟨by rw [Hpm.out]; rfl, HB.out⟩
end
end Go.Proofs.YtljikigmfkfkiaaDoor
namespace Go.Proofs.YtljikigmfkfkiaaDoor
section
open Go.RowKit Go.Shelf
attribute [local go_sem] Oper.semAt_some
set_option linter.unusedSimpArgs false
set_option linter.unusedVariables false

/-- append of one number to a slice without room: a new row -/
theorem wp_app_full {o : Oper} {a : Act} {K : Act → World → Prop} {Q : Exit → Act → World → Prop} (w : World) (s x : Operand)
    (ho : o.op = .call { callee := .builtin .append, args := #[s, x], argTypes := #[22, 22] })
    (b og : Nat) (xs : List Int) (hs : a.eval s = .slice (some ⟨b, og, none⟩) xs.length xs.length) (hxs : IntsAt w (some ⟨b, og, none⟩) xs) (hl : xs.length ≤ 1000000)
    (g c : Nat) (m : Int) (hx : a.eval x = .slice (some ⟨g, 0, none⟩) 1 c) (hc : w.cell? ⟨g, 0, none⟩ = some (.int .i64 m))
    (h : ∀ A' c' w', xs.length + 1 ≤ c' → IntsAt w' A' (xs ++ [m]) → (∀ b o, A' = some ⟨b, o, none⟩ → w.heap.size ≤ b) → Below w.heap.size w w' → K (a.put o.dst (.slice A' (xs.length + 1) c')) w') : o.wp Tryd.prog a w K Q := by
  obtain ⟨i0, hi, hz0, hz1, hz2⟩ := info_parts info3
  have hcs : ∀ j u, (xs.map (Value.int .i64))[j]? = some u → w.cell? ((⟨b, og, none⟩ : Addr).add j) = some u := by
    intro j u hu
    rw [List.getElem?_map] at hu
    obtain ⟨y, hy, rfl⟩ := Option.map_eq_some_iff.1 hu
    have hj : j < xs.length := (List.getElem?_eq_some_iff.1 hy).1
    have h1 := hxs.at_ hj
    have h2 : gi xs j = y := by unfold gi; rw [List.getD_eq_getElem?_getD, hy]; rfl
    rw [h2] at h1
    by_cases hj0 : j = 0
    · subst hj0; simpa [Addr.add] using h1
    · simpa [Addr.add, hj0] using h1
  have hns : ∀ j u, [Value.int .i64 m][j]? = some u → w.cell? ((⟨g, 0, none⟩ : Addr).add j) = some u := by
    intro j u hj
    match j, hj with
    | 0, hj => simp at hj; subst hj; simpa [Addr.add] using hc
  obtain ⟨v', w', hrun, r1, r2⟩ := run_append_arg_grows (P := Tryd.prog) w 22 o.type 3 i0 (.int .i64 0) 1 8 under22 hi hz0 hz1 hz2 rfl (by decide) ⟨b, og, none⟩ xs.length xs.length (xs.map (Value.int .i64)) (by simp) hcs ⟨g, 0, none⟩ 1 c [.int .i64 m] rfl hns (by omega) (by unfold maxLen; omega) (by omega)
  have hown : OwnInts w' w.heap.size v' (xs ++ [m]) := by unfold OwnInts; rw [List.length_append, List.map_append]; exact r1
  obtain ⟨A', c', rfl, h1, h2, _, h4, _⟩ := hown.reads
  rw [List.length_append] at h2
  unfold Oper.wp
  simp [execOp, ho, resolve, invoke, builtin, hs, hx, hrun, Result.andThen]
  have := h A' c' w' h2 h1 h4 ⟨r2.os, r2.tape, r2.output, r2.size, fun k hk => r2.block k hk (by simp)⟩
  exact this

/-- how a path begins -/
structure IsPre (B : BookV) (path : List Int) : Prop where
  pos : 0 < path.length
  start : gi path 0 = B.start
  range : ∀ k, k < path.length → 0 ≤ gi path k ∧ gi path k ≤ 3
  step : ∀ k, 0 < k → k < path.length → -1 ≤ gi path k - gi path (k - 1) ∧ gi path k - gi path (k - 1) ≤ 1
theorem IsPre.path {B : BookV} {path : List Int} (h : IsPre B path) (hl : (path.length : Int) = B.parts) : IsPath B path := ⟨hl, h.start, h.range, h.step⟩
theorem gi_snoc_lt (p : List Int) (x : Int) (k : Nat) (h : k < p.length) : gi (p ++ [x]) k = gi p k := by
  unfold gi; rw [List.getD_eq_getElem?_getD, List.getD_eq_getElem?_getD, List.getElem?_append_left h]
theorem gi_snoc_at (p : List Int) (x : Int) : gi (p ++ [x]) p.length = x := by
  unfold gi; rw [List.getD_eq_getElem?_getD]; simp
theorem IsPre.snoc {B : BookV} {path : List Int} (h : IsPre B path) (x : Int) (h1 : 0 ≤ x ∧ x ≤ 3) (h2 : -1 ≤ x - gi path (path.length - 1) ∧ x - gi path (path.length - 1) ≤ 1) : IsPre B (path ++ [x]) := by
  have hp := h.pos
  refine ⟨by simp, by rw [gi_snoc_lt _ _ _ hp]; exact h.start, fun k hk => ?_, fun k h0 hk => ?_⟩
  · simp at hk
    by_cases hk' : k < path.length
    · rw [gi_snoc_lt _ _ _ hk']; exact h.range k hk'
    · obtain rfl : k = path.length := by omega
      rw [gi_snoc_at]; exact h1
  · simp at hk
    by_cases hk' : k < path.length
    · rw [gi_snoc_lt _ _ _ hk', gi_snoc_lt _ _ _ (by omega)]; exact h.step k h0 hk'
    · obtain rfl : k = path.length := by omega
      rw [gi_snoc_at, gi_snoc_lt _ _ _ (by omega)]; exact h2
/-- all ways on from how a path begins, n parts more -/
def pathsFrom : Nat → List Int → List (List Int)
  | 0, p => [p]
  | n + 1, p => (List.range 4).flatMap fun k : Nat => bif inB ((k : Int) - gi p (p.length - 1)) (-1) 1 then pathsFrom n (p ++ [(k : Int)]) else []
def plansFrom (B : BookV) (n : Nat) (p : List Int) : List (List Int) := (pathsFrom n p).filter (isPlanS B)
def kids (B : BookV) (n : Nat) (p : List Int) (k : Nat) : List (List Int) := bif inB ((k : Int) - gi p (p.length - 1)) (-1) 1 then plansFrom B n (p ++ [(k : Int)]) else []
theorem plansFrom_succ (B : BookV) (n : Nat) (p : List Int) : plansFrom B (n + 1) p = (List.range 4).flatMap (kids B n p) := by
  unfold plansFrom pathsFrom
  rw [List.filter_flatMap]
  congr 1
  funext k
  unfold kids plansFrom
  cases inB ((k : Int) - gi p (p.length - 1)) (-1) 1 <;> simp
def allPlans (B : BookV) : List (List Int) := plansFrom B (B.parts.toNat - 1) [B.start]
theorem flat_split {α : Type} (f : Nat → List α) (k n : Nat) (h : k < n) : (List.range n).flatMap f = (List.range k).flatMap f ++ f k ++ (List.range' (k + 1) (n - k - 1)).flatMap f := by
  rw [range_split k h]; simp
theorem flat_succ {α : Type} (f : Nat → List α) (k : Nat) : (List.range (k + 1)).flatMap f = (List.range k).flatMap f ++ f k := by
  rw [List.range_succ]; simp

/-- what each call of 'on' finds in memory -/
structure Env (B : BookV) (w0 : World) (bB bI bY bO l : Nat) (W : World) : Prop where
  old : Below w0.heap.size w0 W
  kB : BoxAt W bB B.cells
  kI : BoxAt W bI #[.func (.func 72) #[B.val] #[]]
  kY : BoxAt W bY #[.func (.yield l) #[] #[]]
  kO : BoxAt W bO #[.func (.func 95) #[] #[.pointer (some ⟨bB, 0, none⟩), .pointer (some ⟨bI, 0, none⟩), .pointer (some ⟨bY, 0, none⟩), .pointer (some ⟨bO, 0, none⟩)]]
theorem Env.keep {B : BookV} {w0 : World} {bB bI bY bO l : Nat} {M : Nat → Prop} {W W' : World} (h : Env B w0 bB bI bY bO l W) (k : Keep M W W') (hM : ∀ x, M x → w0.heap.size ≤ x ∧ x ≠ bB ∧ x ≠ bI ∧ x ≠ bY ∧ x ≠ bO) : Env B w0 bB bI bY bO l W' :=
  ⟨h.old.trans (k.below (fun x _ hx => (hM x hx).1) h.old.size), h.kB.keep k (fun e => (hM _ e).2.1 rfl), h.kI.keep k (fun e => (hM _ e).2.2.1 rfl), h.kY.keep k (fun e => (hM _ e).2.2.2.1 rfl), h.kO.keep k (fun e => (hM _ e).2.2.2.2 rfl)⟩
theorem Env.below {B : BookV} {w0 : World} {bB bI bY bO l : Nat} {W W' : World} (h : Env B w0 bB bI bY bO l W) (k : Below W.heap.size W W') : Env B w0 bB bI bY bO l W' :=
  ⟨below_then h.old h.old.size k, h.kB.below k, h.kI.below k, h.kY.below k, h.kO.below k⟩
/-- A round's yield of a path. -/
def EncPath (path : List Int) (vs : Array Value) (W : World) : Prop := ∃ A c, vs = #[.slice A path.length c] ∧ path.length ≤ c ∧ IntsAt W A path
end
end Go.Proofs.YtljikigmfkfkiaaDoor
namespace Go.Proofs.YtljikigmfkfkiaaDoor
section
open Go.RowKit Go.Shelf
attribute [local go_sem] Oper.semAt_some
set_option linter.unusedSimpArgs false
set_option linter.unusedVariables false

theorem enters72 : ∀ args w, (callFunc 72 args).run Tryd.prog w = .ok (.enter 72 args) w := enters_of Tryd.func72 (by kernel_rfl) rfl
theorem enters95 : ∀ args w, (callFunc 95 args).run Tryd.prog w = .ok (.enter 95 args) w := enters_of Tryd.func95 (by kernel_rfl) rfl

theorem wpIn_scope_w {P : Program} {c : Code} {n : Nat} {Q : Exit → Act → World → Prop} {a : Act} {w : World} (h : c.wpIn Fence.wide n P (Exit.noGoto Q) a w) : (Code.scope c).wpIn Fence.wide n P Q a w := wpIn_wide.2 (wp_scope_straight (wpIn_wide.1 h))
theorem wpIn_label_w {P : Program} {l : Nat} {n : Nat} {Q : Exit → Act → World → Prop} {a : Act} {w : World} (h : Q .normal a w) : (Code.label l).wpIn Fence.wide n P Q a w := wpIn_wide.2 (wp_label h)
/-- what a call of 'on' at a path's beginning comes to -/
def OnPost (xs : List (List Int)) (M : Nat → Prop) (l : Nat) (J Jx : List (List Int) → World → Prop) (pre mine : List (List Int)) (W : World) (e : Ending) (W' : World) : Prop :=
  (e = .returned (.bool true) ∧ J (pre ++ mine) W' ∧ Keep (fun k => M k ∨ k = l) W W') ∨ (e = .returned (.bool false) ∧ ∃ pr, pr <+: xs ∧ Jx pr W')
set_option maxRecDepth 100000 in
set_option maxHeartbeats 2000000 in
theorem on_zero (B : BookV) (g : B.Good) (w0 : World) (hB : B.Reads w0) (hMk : MarksAt w0) (bB bI bY bO l : Nat) (xs : List (List Int)) (M : Nat → Prop) (J Jx : List (List Int) → World → Prop)
  (hl : w0.heap.size ≤ l) (hM : ∀ k, M k → w0.heap.size ≤ k ∧ k ≤ l) (hlt : (bB ≠ l ∧ ¬ M bB) ∧ l < bI ∧ l < bY ∧ l < bO)
  (hJ : ∀ pre A B, J pre A → Below A.heap.size A B → J pre B)
  (hY : ∀ pre x rest vs W1, xs = pre ++ x :: rest → J pre W1 → EncPath x vs W1 → YieldAt Fence.wide 0 Tryd.prog l vs W1 fun e W' =>
      (e = .returned (.bool true) ∧ J (pre ++ [x]) W' ∧ Keep (fun k => M k ∨ k = l) W1 W') ∨ (e = .returned (.bool false) ∧ Jx (pre ++ [x]) W')) (pre rest : List (List Int)) (A : Option Addr) (c : Nat) (path : List Int) (hp : IsPre B path) (hn : (path.length : Int) = B.parts) (W : World) (hE : Env B w0 bB bI bY bO l W) (hA : IntsAt W A path) (hc : path.length ≤ c)
    (hx : xs = pre ++ plansFrom B 0 path ++ rest) (h0 : J pre W) :
    CallsIn Fence.wide 0 Tryd.prog 95 #[.slice A path.length c, .pointer (some ⟨bB, 0, none⟩), .pointer (some ⟨bI, 0, none⟩), .pointer (some ⟨bY, 0, none⟩), .pointer (some ⟨bO, 0, none⟩)] W
      (OnPost xs M l J Jx pre (plansFrom B 0 path) W) := by
  have ip := hp.path hn
  have Hg := Lib.hid g
  have Hi := Lib.hid ip
  have HB := Lib.hid (hB.below hE.old)
  have HM := Lib.hid (hMk.below hE.old)
  have HA := Lib.hid hA
  obtain ⟨old, kB, kI, kY, kO⟩ := hE
  have KY := Lib.hid kY
  obtain ⟨cB, fB, lB⟩ := kB
  obtain ⟨cI, fI, lI⟩ := kI
  obtain ⟨cY, fY, lY⟩ := kY
  unfold BookV.cells at cB
  have hps : plansFrom B 0 path = bif isPlanS B path then [path] else [] := by
    unfold plansFrom pathsFrom; cases h : isPlanS B path <;> simp [h]
  refine callsIn_of_wp Tryd.func95 rfl trivial ?_ rfl
  simp only [Tryd.ntmps95, List.size_toArray, List.length_cons, List.length_nil, Nat.reduceAdd, Nat.reduceSub, Array.replicate_succ, Array.replicate_zero, List.push_toArray, List.append_toArray, List.nil_append, List.cons_append]
  clear hA ip g hB hMk
  cases hi : isPlanS B path with
  | false =>
    rw [hi, cond_false] at hps
    rw [hps] at hx ⊢
    gi_wp2_with fail
    refine wpIn_scope_w ?_
    gi_wp2_with fail
    refine ⟨trivial, rfl, ?_⟩
    refine (callsIn_wide.2 (isPlan_calls B Hg.out A c path Hi.out _ HB.out HA.out HM.out)).mono ?_
    rintro e w1 ⟨rfl, hb⟩
    rw [hi]
    have hJ1 := hJ _ _ _ h0 hb
    have hK1 : Keep (fun k => M k ∨ k = l) W w1 := Keep.of_below hb
    clear hb
    gi_wp2
    refine ⟨(by intro f h; cases h), ?_⟩
    gi_wp2
    go_ret
    exact .inl ⟨rfl, by rw [List.append_nil]; exact hJ1, hK1⟩
  | true =>
    rw [hi, cond_true] at hps
    rw [hps] at hx ⊢
    gi_wp2_with fail
    refine wpIn_scope_w ?_
    gi_wp2_with fail
    refine ⟨trivial, rfl, ?_⟩
    refine (callsIn_wide.2 (isPlan_calls B Hg.out A c path Hi.out _ HB.out HA.out HM.out)).mono ?_
    rintro e w1 ⟨rfl, hb⟩
    rw [hi]
    have hJ1 := hJ _ _ _ h0 hb
    have hK1 : Keep (fun k => M k ∨ k = l) W w1 := Keep.of_below hb
    obtain ⟨cY1, fY1, lY1⟩ := KY.out.below hb
    obtain ⟨fn, tmps, assign, body, hy, hR⟩ := hY pre path rest _ _ (by rw [hx]; simp) hJ1 ⟨A, c, rfl, hc, HA.out.below hb⟩
    have Hx := Lib.hid hx
    clear hb hJ1 cY fY lY cI fI lI cB fB lB hx hps
    gi_wp2
    refine ⟨rfl, hR.mono ?_⟩
    clear hR hy hY cY1 fY1 lY1
    rintro e W3 (⟨rfl, hJ3, hk3⟩ | ⟨rfl, hJx3⟩)
    · have HJ3 := Lib.hid hJ3
      have HK3 := Lib.hid (hK1.trans hk3)
      clear hJ3 hk3
      gi_wp2
      go_ret
      exact .inl ⟨rfl, HJ3.out, HK3.out⟩
    · have HJ3 := Lib.hid hJx3
      clear hJx3
      gi_wp2
      go_ret
      exact .inr ⟨rfl, pre ++ [path], ⟨rest, by rw [Hx.out]⟩, HJ3.out⟩
end
end Go.Proofs.YtljikigmfkfkiaaDoor
namespace Go.Proofs.YtljikigmfkfkiaaDoor
section
open Go.RowKit Go.Shelf
attribute [local go_sem] Oper.semAt_some
set_option linter.unusedSimpArgs false
set_option linter.unusedVariables false

/-- what a call of 'on' needs of the slice that it is handed -/
def OnCall (B : BookV) (w0 : World) (bB bI bY bO l : Nat) (xs : List (List Int)) (M : Nat → Prop) (J Jx : List (List Int) → World → Prop) (n : Nat) : Prop :=
  ∀ (pre rest : List (List Int)) (A : Option Addr) (c : Nat) (path : List Int) (hp : IsPre B path) (hn : ((path.length + n : Nat) : Int) = B.parts) (W : World) (hE : Env B w0 bB bI bY bO l W) (hA : IntsAt W A path) (hc : path.length ≤ c) (hAl : ∀ b o, A = some ⟨b, o, none⟩ → l < b)
    (hx : xs = pre ++ plansFrom B n path ++ rest) (h0 : J pre W),
    CallsIn Fence.wide 0 Tryd.prog 95 #[.slice A path.length c, .pointer (some ⟨bB, 0, none⟩), .pointer (some ⟨bI, 0, none⟩), .pointer (some ⟨bY, 0, none⟩), .pointer (some ⟨bO, 0, none⟩)] W
      (OnPost xs M l J Jx pre (plansFrom B n path) W)
theorem OnPost.bool {xs : List (List Int)} {M : Nat → Prop} {l : Nat} {J Jx : List (List Int) → World → Prop} {pre mine : List (List Int)} {W W' : World} {e : Ending} (h : OnPost xs M l J Jx pre mine W e W') :
    ∃ r, e = .returned (.bool r) ∧ Hid ((r = true ∧ J (pre ++ mine) W' ∧ Keep (fun k => M k ∨ k = l) W W') ∨ (r = false ∧ ∃ pr, pr <+: xs ∧ Jx pr W')) := by
  rcases h with ⟨rfl, h⟩ | ⟨rfl, h⟩
  · exact ⟨true, rfl, .inl ⟨rfl, h⟩⟩
  · exact ⟨false, rfl, .inr ⟨rfl, h⟩⟩
set_option maxRecDepth 100000 in
set_option maxHeartbeats 4000000 in
theorem on_succ (B : BookV) (g : B.Good) (w0 : World) (hB : B.Reads w0) (hMk : MarksAt w0) (bB bI bY bO l : Nat) (xs : List (List Int)) (M : Nat → Prop) (J Jx : List (List Int) → World → Prop)
  (hl : w0.heap.size ≤ l) (hM : ∀ k, M k → w0.heap.size ≤ k ∧ k ≤ l) (hlt : (bB ≠ l ∧ ¬ M bB) ∧ l < bI ∧ l < bY ∧ l < bO)
  (hJ : ∀ pre A B, J pre A → Below A.heap.size A B → J pre B) (n : Nat) (IH : OnCall B w0 bB bI bY bO l xs M J Jx n) : OnCall B w0 bB bI bY bO l xs M J Jx (n + 1) := by
  intro pre rest A c path hp hn W hE hA hc hAl hx h0
  obtain ⟨b, o, rfl⟩ := hA.some_ hp.pos
  have hbl := hAl b o rfl
  have hpos := hp.pos
  have hparts := g.parts
  have hl8 : path.length ≤ 8 := by omega
  have Hg := Lib.hid g
  have Hp := Lib.hid hp
  have HE := Lib.hid hE
  have HA := Lib.hid hA
  obtain ⟨cB, fB, lB⟩ := hE.kB
  unfold BookV.cells at cB
  have hne : ((path.length : Int) == B.parts) = false := by rw [beq_eq_false_iff_ne]; omega
  obtain ⟨q, hqq⟩ : ∃ q, q = path.length - 1 := ⟨_, rfl⟩
  have hsub : IntKind.i64.wrap ((path.length : Int) - 1) = (q : Int) := by rw [wrap_in (by omega) (by omega)]; omega
  have hql : q < path.length := by omega
  have hqli : (q : Int) < path.length := by omega
  have Hqq := Lib.hid hqq
  have Hx := Lib.hid hx
  have Hn := Lib.hid hn
  have HlT := Lib.hid hlt
  clear hA g hB hMk hp hE hx hqq hAl hn hparts hlt
  refine callsIn_of_wp Tryd.func95 rfl trivial ?_ rfl
  simp only [Tryd.ntmps95, List.size_toArray, List.length_cons, List.length_nil, Nat.reduceAdd, Nat.reduceSub, Array.replicate_succ, Array.replicate_zero, List.push_toArray, List.append_toArray, List.nil_append, List.cons_append]
  gi_wp2_with fail
  refine wpIn_scope_w ?_
  gi_wp2_with fail
  refine wpIn_label_w ?_
  clear cB fB lB hne
  gi_wp2_with fail
  gi_loopw [23] (fun i wr => ∃ k : Nat, k ≤ 4 ∧ i = .int .i64 k ∧ J (pre ++ (List.range k).flatMap (kids B n path)) wr ∧ Keep (fun k => M k ∨ k = l) W wr) (fun i _ => 4 - (intOf i).toNat)
  case atStart => exact ⟨0, Nat.zero_le _, rfl, by simpa using h0, Keep.refl _ _⟩
  case round =>
    obtain ⟨k, hk, rfl, hJk, hkp⟩ := hrel
    have HJk := Lib.hid hJk
    clear hJk
    have hbM : ∀ x, M x ∨ x = l → x ≤ l := by rintro x (h | rfl); exact (hM x h).2; omega
    have HE2 := Lib.hid (HE.out.keep hkp (fun x hx => ⟨by rcases hx with h | rfl; exact (hM x h).1; exact hl, by rintro rfl; rcases hx with h | h; exact HlT.out.1.2 h; exact HlT.out.1.1 h, by have := hbM x hx; have := HlT.out.2; omega⟩))
    have HA2 := Lib.hid (HA.out.keep hkp (by rintro b' o' ⟨⟩ h; have := hbM _ h; omega))
    by_cases hlt4 : k < 4
    · have hk4 : (k : Int) < 4 := by omega
      have cq := HA2.out.at_ hql
      have hrg := Hp.out.range q hql
      have hw : IntKind.i64.wrap ((k : Int) - gi path q) = (k : Int) - gi path q := wrap_in (by omega) (by omega)
      obtain ⟨cO, fO, lO⟩ := HE2.out.kO
      have bq := World.block_lt_of_cell? wr _ cq
      simp only at bq
      cases hi : inB ((k : Int) - gi path q) (-1) 1 with
      | false =>
        have hkid : kids B n path k = [] := by unfold kids; rw [← Hqq.out, hi]; rfl
        have Hkid := Lib.hid hkid
        clear hkid
        gi_wp2_with fail
        refine ⟨trivial, rfl, ?_⟩
        refine (callsIn_wide.2 (in_calls _ _ _ _)).mono ?_
        rintro e w1 ⟨rfl, rfl⟩
        rw [hi]
        gi_wp2
        go_roundw
        case rel => exact ⟨k + 1, by omega, by go_num, by rw [flat_succ, Hkid.out, List.append_nil]; exact HJk.out, hkp⟩
        case measure => simp [intOf]; omega
      | true =>
        have hkid : kids B n path k = plansFrom B n (path ++ [(k : Int)]) := by unfold kids; rw [← Hqq.out, hi]; rfl
        have Hkid := Lib.hid hkid
        clear hkid
        have hii := inB_iff.1 hi
        gi_wp2_with fail
        refine ⟨trivial, rfl, ?_⟩
        refine (callsIn_wide.2 (in_calls _ _ _ _)).mono ?_
        rintro e w1 ⟨rfl, rfl⟩
        rw [hi]
        gi_upto_region 7 with (fail)
        refine regionU_wide (S := fun w' => Below wr.heap.size wr w') 10 (by kernel_rfl) ?_ (fun hHeld => ?_)
        · exact (Below.refl _ _).drew
        first | (refine anyU_take 0 (some 36) (v := ?_) rfl rfl (by rfl) (by kernel_rfl) (by kernel_rfl) (by kernel_rfl) (by kernel_rfl) (by kernel_rfl) (fun _ _ _ h => h) (Or.inl ⟨by rfl, ?_⟩) hHeld ?_; rotate_left; focus (intro wq hSw; obtain ⟨hcq, hfq⟩ := bcell hSw; go_simp; (try with_reducible rfl); done)) | (refine anyU_take 0 (some 36) (v := ?_) rfl rfl (by rfl) (by kernel_rfl) (by kernel_rfl) (by kernel_rfl) (by kernel_rfl) (by kernel_rfl) (fun _ _ _ h => h) (Or.inl ⟨by rfl, ?_⟩) hHeld ?_; rotate_left; focus (intro wq hSw; obtain ⟨hcq, hfq⟩ := bcell hSw; go_simp; (try with_reducible rfl); done))
        (try simp only [Act.put, List.setIfInBounds_toArray, List.set_cons_zero, List.set_cons_succ])
        first | (refine anyU_free 1 (some 37) (v := ?_) rfl rfl (by rfl) (by kernel_rfl) (by kernel_rfl) (by kernel_rfl) (fun _ _ _ h => h) (Or.inl ⟨by rfl, ?_⟩) (fun _ => hHeld) ?_; rotate_left; focus (intro wq hSw; go_simp; (try with_reducible rfl); done)) | (refine anyU_take 1 (some 37) (v := ?_) rfl rfl (by rfl) (by kernel_rfl) (by kernel_rfl) (by kernel_rfl) (by kernel_rfl) (by kernel_rfl) (fun _ _ _ h => h) (Or.inl ⟨by rfl, ?_⟩) hHeld ?_; rotate_left; focus (intro wq hSw; obtain ⟨hcq, hfq⟩ := bcell hSw; go_simp; (try with_reducible rfl); done))
        (try simp only [Act.put, List.setIfInBounds_toArray, List.set_cons_zero, List.set_cons_succ])
        first | (refine anyU_free 2 (some 38) (v := ?_) rfl rfl (by rfl) (by kernel_rfl) (by kernel_rfl) (by kernel_rfl) (fun _ _ _ h => h) (Or.inl ⟨by rfl, ?_⟩) (fun _ => hHeld) ?_; rotate_left; focus (intro wq hSw; go_simp; (try with_reducible rfl); done)) | (refine anyU_take 2 (some 38) (v := ?_) rfl rfl (by rfl) (by kernel_rfl) (by kernel_rfl) (by kernel_rfl) (by kernel_rfl) (by kernel_rfl) (fun _ _ _ h => h) (Or.inl ⟨by rfl, ?_⟩) hHeld ?_; rotate_left; focus (intro wq hSw; obtain ⟨hcq, hfq⟩ := bcell hSw; go_simp; (try with_reducible rfl); done))
        (try simp only [Act.put, List.setIfInBounds_toArray, List.set_cons_zero, List.set_cons_succ])
        first | (refine anyU_free 3 (some 39) (v := ?_) rfl rfl (by rfl) (by kernel_rfl) (by kernel_rfl) (by kernel_rfl) (fun _ _ _ h => h) (Or.inl ⟨by rfl, ?_⟩) (fun _ => hHeld) ?_; rotate_left; focus (intro wq hSw; go_simp; (try with_reducible rfl); done)) | (refine anyU_take 3 (some 39) (v := ?_) rfl rfl (by rfl) (by kernel_rfl) (by kernel_rfl) (by kernel_rfl) (by kernel_rfl) (by kernel_rfl) (fun _ _ _ h => h) (Or.inl ⟨by rfl, ?_⟩) hHeld ?_; rotate_left; focus (intro wq hSw; obtain ⟨hcq, hfq⟩ := bcell hSw; go_simp; (try with_reducible rfl); done))
        (try simp only [Act.put, List.setIfInBounds_toArray, List.set_cons_zero, List.set_cons_succ])
        first | (refine anyU_free 4 (some 40) (v := ?_) rfl rfl (by rfl) (by kernel_rfl) (by kernel_rfl) (by kernel_rfl) (fun _ _ _ h => h) (Or.inl ⟨by rfl, ?_⟩) (fun _ => hHeld) ?_; rotate_left; focus (intro wq hSw; go_simp; (try with_reducible rfl); done)) | (refine anyU_take 4 (some 40) (v := ?_) rfl rfl (by rfl) (by kernel_rfl) (by kernel_rfl) (by kernel_rfl) (by kernel_rfl) (by kernel_rfl) (fun _ _ _ h => h) (Or.inl ⟨by rfl, ?_⟩) hHeld ?_; rotate_left; focus (intro wq hSw; obtain ⟨hcq, hfq⟩ := bcell hSw; go_simp; (try with_reducible rfl); done))
        (try simp only [Act.put, List.setIfInBounds_toArray, List.set_cons_zero, List.set_cons_succ])
        first | (refine anyU_free 5 (some 41) (v := ?_) rfl rfl (by rfl) (by kernel_rfl) (by kernel_rfl) (by kernel_rfl) (fun _ _ _ h => h) (Or.inl ⟨by rfl, ?_⟩) (fun _ => hHeld) ?_; rotate_left; focus (intro wq hSw; go_simp; (try with_reducible rfl); done)) | (refine anyU_take 5 (some 41) (v := ?_) rfl rfl (by rfl) (by kernel_rfl) (by kernel_rfl) (by kernel_rfl) (by kernel_rfl) (by kernel_rfl) (fun _ _ _ h => h) (Or.inl ⟨by rfl, ?_⟩) hHeld ?_; rotate_left; focus (intro wq hSw; obtain ⟨hcq, hfq⟩ := bcell hSw; go_simp; (try with_reducible rfl); done))
        (try simp only [Act.put, List.setIfInBounds_toArray, List.set_cons_zero, List.set_cons_succ])
        first | (refine anyU_free 6 (some 42) (v := ?_) rfl rfl (by rfl) (by kernel_rfl) (by kernel_rfl) (by kernel_rfl) (fun _ _ _ h => h) (Or.inl ⟨by rfl, ?_⟩) (fun _ => hHeld) ?_; rotate_left; focus (intro wq hSw; go_simp; (try with_reducible rfl); done)) | (refine anyU_take 6 (some 42) (v := ?_) rfl rfl (by rfl) (by kernel_rfl) (by kernel_rfl) (by kernel_rfl) (by kernel_rfl) (by kernel_rfl) (fun _ _ _ h => h) (Or.inl ⟨by rfl, ?_⟩) hHeld ?_; rotate_left; focus (intro wq hSw; obtain ⟨hcq, hfq⟩ := bcell hSw; go_simp; (try with_reducible rfl); done))
        (try simp only [Act.put, List.setIfInBounds_toArray, List.set_cons_zero, List.set_cons_succ])
        first | (refine anyU_free 7 (some 43) (v := ?_) rfl rfl (by rfl) (by kernel_rfl) (by kernel_rfl) (by kernel_rfl) (fun _ _ _ h => h) (Or.inl ⟨by rfl, ?_⟩) (fun _ => hHeld) ?_; rotate_left; focus (intro wq hSw; go_simp; (try with_reducible rfl); done)) | (refine anyU_take 7 (some 43) (v := ?_) rfl rfl (by rfl) (by kernel_rfl) (by kernel_rfl) (by kernel_rfl) (by kernel_rfl) (by kernel_rfl) (fun _ _ _ h => h) (Or.inl ⟨by rfl, ?_⟩) hHeld ?_; rotate_left; focus (intro wq hSw; obtain ⟨hcq, hfq⟩ := bcell hSw; go_simp; (try with_reducible rfl); done))
        (try simp only [Act.put, List.setIfInBounds_toArray, List.set_cons_zero, List.set_cons_succ])
        refine anyU_one 8 (by kernel_rfl) rfl (fun K hK => ?_)
        go_simp
        refine hK.out _ _ ?_ (fun hHeld => ?_)
        · exact hHeld.alloc hHeld.size _
        clear hK K
        (try simp only [Act.put, List.setIfInBounds_toArray, List.set_cons_zero, List.set_cons_succ])
        refine anyU_one 9 (by kernel_rfl) rfl (fun K hK => ?_)
        rw [if_pos (by rfl)]; refine wp_app_full _ _ _ rfl b o path rfl (HA2.out.below hHeld) (by omega) _ 1 (k : Int) rfl (cell_new1 _ _ _) ?_; rintro A5 c5 w5 hc5 hA5 hn5 hb5
        refine hK.out _ _ ?_ (fun hHeld => ?_)
        · exact below_then hHeld hHeld.size hb5
        clear hK K
        (try simp only [Act.put, List.setIfInBounds_toArray, List.set_cons_zero, List.set_cons_succ])
        refine anyU_last 10 (by kernel_rfl) rfl (by kernel_rfl) (fun K hK => ?_)
        rw [if_pos (by rfl)]
        go_simp
        refine ((callsIn_wide (n := 0)).1 (by have hthis := IH (pre ++ (List.range k).flatMap (kids B n path)) ((List.range' (k + 1) (4 - k - 1)).flatMap (kids B n path) ++ rest) A5 c5 (path ++ [(k : Int)]) (Hp.out.snoc _ (by omega) (by rw [← Hqq.out]; exact hii)) (by have := Hn.out; rw [List.length_append]; simp only [List.length_cons, List.length_nil]; omega) w5 (HE2.out.below hHeld) hA5 (by rw [List.length_append]; exact hc5) (fun b' o' e' => by have h1 := hn5 b' o' e'; have h2 := HlT.out.2; simp at h1; omega) (by rw [Hx.out, plansFrom_succ, flat_split (kids B n path) k 4 hlt4, Hkid.out]; simp only [List.append_assoc]) (hJ _ _ _ HJk.out hHeld); rw [List.length_append] at hthis; exact hthis)).mono ?_; rintro e w6 hpost; obtain ⟨r, rfl, hr⟩ := hpost.bool
        refine hK.out _ _ ?_
        clear hK K
        (try simp only [Act.put, List.setIfInBounds_toArray, List.set_cons_zero, List.set_cons_succ])
        (refine anyU_free 11 (some 47) (v := ?_) rfl rfl (by rfl) (by kernel_rfl) (by kernel_rfl) (by kernel_rfl) (fun _ _ _ h => h) (Or.inl ⟨by rfl, ?_⟩) (fun h => absurd (h.symm.trans (by kernel_rfl)) Bool.false_ne_true) ?_; rotate_left; focus (intro wq hSw; go_simp; (try with_reducible rfl); done))
        (try simp only [Act.put, List.setIfInBounds_toArray, List.set_cons_zero, List.set_cons_succ])
        refine anyU_done (by kernel_rfl) ?_ _
        clear IH
        rcases hr with ⟨rfl, hj6, hk6⟩ | ⟨rfl, pr, hpr, hj6⟩
        · have HJ6 := Lib.hid hj6
          have HK6 := Lib.hid (hkp.trans ((Keep.of_below hHeld).trans hk6))
          clear hj6 hk6
          gi_wp2
          go_roundw
          case rel => exact ⟨k + 1, by omega, by go_num, by rw [flat_succ, Hkid.out, ← List.append_assoc]; exact HJ6.out, HK6.out⟩
          case measure => simp [intOf]; omega
        · have HJ6 := Lib.hid hj6
          clear hj6
          gi_wp2
          go_ret
          exact .inr ⟨rfl, pr, hpr, HJ6.out⟩
    · obtain rfl : k = 4 := by omega
      gi_wp2
      go_ret
      exact .inl ⟨rfl, by rw [plansFrom_succ]; exact HJk.out, hkp⟩
end
end Go.Proofs.YtljikigmfkfkiaaDoor
namespace Go.Proofs.YtljikigmfkfkiaaDoor
section
open Go.RowKit Go.Shelf
attribute [local go_sem] Oper.semAt_some
set_option linter.unusedSimpArgs false
set_option linter.unusedVariables false
theorem BookV.Good.one {B : BookV} (g : B.Good) : IsPre B [B.start] :=
  ⟨by simp, rfl, fun k hk => by simp at hk; subst hk; exact g.start, fun k h0 hk => by simp at hk; omega⟩
set_option maxRecDepth 100000 in
set_option maxHeartbeats 4000000 in
theorem plans_seq (B : BookV) (g : B.Good) (w0 : World) (hB : B.Reads w0) (hMk : MarksAt w0) (bB : Nat) (M : Nat → Prop) (w : World) (hw : Below w0.heap.size w0 w) (kB : BoxAt w bB B.cells) (hM : ∀ k, M k → w0.heap.size ≤ k ∧ k < w.heap.size ∧ k ≠ bB) :
    SeqX Tryd.prog 94 #[.pointer (some ⟨bB, 0, none⟩)] EncPath (allPlans B) M w := by
  intro l J Jx W hl hl2 hb hJ hJx hY h0
  have hon : ∀ (bI bY bO : Nat), l < bI → l < bY → l < bO → ∀ n, OnCall B w0 bB bI bY bO l (allPlans B) M J Jx n := by
    intro bI bY bO h1 h2 h3 n
    have hlt : (bB ≠ l ∧ ¬ M bB) ∧ l < bI ∧ l < bY ∧ l < bO := ⟨⟨by have := kB.lt; omega, fun h => (hM _ h).2.2 rfl⟩, h1, h2, h3⟩
    have hM' : ∀ k, M k → w0.heap.size ≤ k ∧ k ≤ l := fun k h => ⟨(hM k h).1, by have := (hM k h).2.1; omega⟩
    have hl' : w0.heap.size ≤ l := Nat.le_trans hw.size hl
    induction n with
    | zero =>
      intro pre rest A c path hp hn V hE hA hc hAl hx hj
      exact on_zero B g w0 hB hMk bB bI bY bO l (allPlans B) M J Jx hl' hM' hlt hJ hY pre rest A c path hp (by simpa using hn) V hE hA hc hx hj
    | succ n ih => exact on_succ B g w0 hB hMk bB bI bY bO l (allPlans B) M J Jx hl' hM' hlt hJ n ih
  have kB2 := kB.below hb
  have Hon := Lib.hid hon
  have Hg := Lib.hid g
  have HW := Lib.hid (hw.trans (hb.mono hw.size))
  have HJ := Lib.hid hJ
  have H0 := Lib.hid h0
  have hw0 := hw.size
  have Hpar := Lib.hid g.parts
  clear hon hY hJx hB hMk hw hM hb hJ h0 g kB
  refine callsIn_of_wp Tryd.func94 rfl trivial ?_ rfl
  simp only [Tryd.ntmps94, List.size_toArray, List.length_cons, List.length_nil, Nat.reduceAdd, Nat.reduceSub, Array.replicate_succ, Array.replicate_zero, List.push_toArray, List.append_toArray, List.nil_append, List.cons_append]
  have KB := Lib.hid kB2
  obtain ⟨cB, fB, lB⟩ := kB2
  unfold BookV.cells at cB
  gi_upto_region 4 with (fail)
  have hE : Env B w0 bB (W.heap.size + 1) W.heap.size (W.heap.size + 1 + 1) l (((W.alloc (.cells #[.func (.yield l) #[] #[]] 81)).alloc (.cells #[.func (.func 72) #[B.val] #[]] 81)).alloc
      (.cells #[.func (.func 95) #[] #[.pointer (some ⟨bB, 0, none⟩), .pointer (some ⟨W.heap.size + 1, 0, none⟩), .pointer (some ⟨W.heap.size, 0, none⟩), .pointer (some ⟨W.heap.size + 1 + 1, 0, none⟩)]] 81)) :=
    ⟨((HW.out.alloc (by omega) _).alloc (by simp; omega) _).alloc (by simp; omega) _, ((KB.out.alloc _).alloc _).alloc _, by have := (BoxAt.new (W.alloc (.cells #[.func (.yield l) #[] #[]] 81)) #[.func (.func 72) #[B.val] #[]] 81).alloc (.cells #[.func (.func 95) #[] #[.pointer (some ⟨bB, 0, none⟩), .pointer (some ⟨W.heap.size + 1, 0, none⟩), .pointer (some ⟨W.heap.size, 0, none⟩), .pointer (some ⟨W.heap.size + 1 + 1, 0, none⟩)]] 81); rwa [World.size_alloc] at this,
     ((BoxAt.new W _ _).alloc _).alloc _, by have := BoxAt.new ((W.alloc (.cells #[.func (.yield l) #[] #[]] 81)).alloc (.cells #[.func (.func 72) #[B.val] #[]] 81)) #[.func (.func 95) #[] #[.pointer (some ⟨bB, 0, none⟩), .pointer (some ⟨W.heap.size + 1, 0, none⟩), .pointer (some ⟨W.heap.size, 0, none⟩), .pointer (some ⟨W.heap.size + 1 + 1, 0, none⟩)]] 81; rwa [World.size_alloc, World.size_alloc] at this⟩
  have hb4 : Below W.heap.size W (((W.alloc (.cells #[.func (.yield l) #[] #[]] 81)).alloc (.cells #[.func (.func 72) #[B.val] #[]] 81)).alloc
      (.cells #[.func (.func 95) #[] #[.pointer (some ⟨bB, 0, none⟩), .pointer (some ⟨W.heap.size + 1, 0, none⟩), .pointer (some ⟨W.heap.size, 0, none⟩), .pointer (some ⟨W.heap.size + 1 + 1, 0, none⟩)]] 81)) :=
    (((Below.refl _ _).alloc (Nat.le_refl _) _).alloc (by simp) _).alloc (by simp; omega) _
  unfold BookV.val BookV.cells at hE hb4
  generalize ((W.alloc _).alloc _).alloc _ = W4 at *
  have HE := Lib.hid hE
  have hJ4 := HJ.out _ _ _ H0.out hb4
  have HJ4 := Lib.hid hJ4
  have hs4 := hb4.size
  obtain ⟨hon, ⟨cB4, fB4, lB4⟩, ⟨cI, fI, lI⟩, ⟨cY, fY, lY⟩, ⟨cO, fO, lO⟩⟩ := hE
  unfold BookV.cells at cB4
  clear hb4 cB fB lB hJ4 hon
  gi_wp2_with fail
  refine ⟨trivial, rfl, ?_⟩
  have hb5 : Below W4.heap.size W4 (W4.alloc (.cells #[.int .i64 B.start] 3)) := (Below.refl _ _).alloc (Nat.le_refl _) _
  have hi5 : IntsAt (W4.alloc (.cells #[.int .i64 B.start] 3)) (some ⟨W4.heap.size, 0, none⟩) [B.start] := ⟨by simp, .inr ⟨_, _, rfl, fun j hj => by
    simp at hj; subst hj
    simp [gi]⟩⟩
  refine (Hon.out (W.heap.size + 1) W.heap.size (W.heap.size + 1 + 1) (by omega) (by omega) (by omega) (B.parts.toNat - 1) [] [] (some ⟨W4.heap.size, 0, none⟩) 1 [B.start] Hg.out.one (by have := Hpar.out; simp; omega) _ (HE.out.below hb5) hi5 (by simp) (by rintro b' o' ⟨⟩; omega) (by simp [allPlans]) (HJ.out _ _ _ HJ4.out hb5)).mono ?_
  rintro e W6 hpost
  obtain ⟨r, rfl, hr⟩ := hpost.bool
  clear hpost cB4 fB4 lB4 cI fI lI cY fY lY cO fO lO
  gi_wp2
  go_end0
  refine ⟨⟨_, rfl⟩, ?_⟩
  rcases hr with ⟨_, hj6, _⟩ | ⟨_, pr, hpr, hj6⟩
  · exact .inl (by simpa [allPlans] using hj6)
  · exact .inr ⟨pr, hpr, hj6⟩
set_option maxRecDepth 100000 in
/-- what plans returns: its closure, over a box with the book -/
theorem plans_calls (B : BookV) (w : World) :
    Calls Tryd.prog 74 #[B.val] w fun e w' => ∃ bB, e = .returned (.func (.func 94) #[] #[.pointer (some ⟨bB, 0, none⟩)]) ∧ BoxAt w' bB B.cells ∧ w.heap.size ≤ bB ∧ Below w.heap.size w w' := by
  unfold BookV.val BookV.cells
  go_enter Tryd.func74, Tryd.ntmps74
  go_wp2
  go_ret
  exact ⟨_, rfl, BoxAt.new _ _ _, Nat.le_refl _, (Below.refl _ _).alloc (Nat.le_refl _) _⟩
end
end Go.Proofs.YtljikigmfkfkiaaDoor
namespace Go.Proofs.YtljikigmfkfkiaaDoor
section
open Go.RowKit Go.Shelf
attribute [local go_sem] Oper.semAt_some
set_option linter.unusedSimpArgs false
set_option linter.unusedVariables false
theorem flatMap_len {α β : Type} (f : α → List β) (n : Nat) : ∀ (l : List α), (∀ x, (f x).length ≤ n) → (l.flatMap f).length ≤ l.length * n
  | [], _ => by simp
  | x :: l, h => by
    have h1 := flatMap_len f n l h
    have h2 := h x
    simp only [List.flatMap_cons, List.length_append, List.length_cons, Nat.add_mul, Nat.one_mul]
    omega
theorem pathsFrom_len : ∀ (n : Nat) (p : List Int), (pathsFrom n p).length ≤ 4 ^ n
  | 0, p => by simp [pathsFrom]
  | n + 1, p => by
    unfold pathsFrom
    refine Nat.le_trans (flatMap_len _ (4 ^ n) _ fun k => ?_) (by simp [Nat.pow_succ, Nat.mul_comm])
    cases inB ((k : Int) - gi p (p.length - 1)) (-1) 1
    · simp
    · exact pathsFrom_len n _
theorem allPlans_len {B : BookV} (g : B.Good) : (allPlans B).length ≤ 16384 := by
  unfold allPlans plansFrom
  refine Nat.le_trans (List.length_filter_le _ _) (Nat.le_trans (pathsFrom_len _ _) ?_)
  have := g.parts
  exact Nat.le_trans (Nat.pow_le_pow_right (by omega) (show B.parts.toNat - 1 ≤ 7 by omega)) (by decide)
def plansR (B : BookV) : Value := bif goodB B then .tuple #[.int .i64 (allPlans B).length, .int .i64 0] else .tuple #[.int .i64 0, .int .i64 80]
theorem enters94 : ∀ args w, (callFunc 94 args).run Tryd.prog w = .ok (.enter 94 args) w := enters_of Tryd.func94 (by kernel_rfl) rfl
set_option maxRecDepth 100000 in
set_option maxHeartbeats 4000000 in
theorem Plans_calls (B : BookV) (w : World) (hB : B.Reads w) (hM : MarksAt w) :
    Calls Tryd.prog 30 #[B.val] w fun e w' => e = .returned (plansR B) ∧ Below w.heap.size w w' := by
  have HB := Lib.hid hB
  have HM := Lib.hid hM
  clear hB hM
  have Hb : Below w.heap.size w (w.alloc (.cells B.cells 27)) := (Below.refl _ _).alloc (Nat.le_refl _) _
  have k1 := BoxAt.new w B.cells 27
  have hr : Hid (plansR B = bif goodB B then .tuple #[.int .i64 (allPlans B).length, .int .i64 0] else .tuple #[.int .i64 0, .int .i64 80]) := Lib.hid rfl
  cases hg : goodB B with
  | false =>
    rw [hg, cond_false] at hr
    unfold BookV.val BookV.cells
    unfold BookV.cells at k1 Hb
    go_enter Tryd.func30, Tryd.ntmps30
    go_wp2_with fail
    generalize w.alloc _ = W at *
    refine (eq0_1 (v' := B.val) (by unfold BookV.val BookV.cells; rfl) (Check_calls B _ (HB.out.below Hb))).mono ?_
    rintro e w1 ⟨rfl, hb⟩
    have H1 := below_then Hb Hb.size hb
    clear hb k1
    rw [hg, cond_false]
    go_wp2
    go_ret2
    exact ⟨by rw [hr.out]; rfl, H1⟩
  | true =>
    have g := (goodB_iff B).1 hg
    have Hg := Lib.hid g
    clear g
    rw [hg, cond_true] at hr
    unfold BookV.val BookV.cells
    unfold BookV.cells at k1 Hb
    refine (callsIn_wide (n := 0)).1 ?_
    refine callsIn_of_wp_marks Tryd.func30 rfl trivial ?_ rfl
    simp only [Tryd.ntmps30, List.size_toArray, List.length_cons, List.length_nil, Nat.reduceAdd, Nat.reduceSub, Array.replicate_succ, Array.replicate_zero, List.push_toArray, List.append_toArray, List.nil_append, List.cons_append]
    gi_wp2_with fail
    generalize w.alloc _ = W at *
    refine ⟨trivial, rfl, ?_⟩
    refine (callsIn_wide.2 (eq0_1 (v' := B.val) (by unfold BookV.val BookV.cells; rfl) (Check_calls B _ (HB.out.below Hb)))).mono ?_
    rintro e w1 ⟨rfl, hb⟩
    have H1 := below_then Hb Hb.size hb
    obtain ⟨c1, f1, l1⟩ := k1.below hb
    clear hb k1
    rw [hg, cond_true]
    gi_wp2_with fail
    refine ⟨trivial, rfl, ?_⟩
    refine (callsIn_wide.2 (eq0_1 (v' := B.val) (by unfold BookV.val BookV.cells; rfl) (plans_calls B _))).mono ?_
    rintro e w2 ⟨bB, rfl, kB, hle, hb⟩
    have k5 := (BoxAt.new w1 #[.int .i64 0] 3).below hb
    have H2 : Below w.heap.size w w2 := below_then (H1.alloc H1.size _) (by simp; have := H1.size; omega) hb
    have hlt : w1.heap.size < bB := by simp at hle; omega
    have hs1 := H1.size
    generalize w1.heap.size = nb at *
    clear hb hle c1 f1 l1 H1
    have hal := allPlans_len Hg.out
    gi_wp2_with fail
    refine wpIn_range_x (gf := 94) (lb := #[.pointer (some ⟨bB, 0, none⟩)]) rfl enters94
      (plans_seq B Hg.out w HB.out HM.out bB (fun k => k = nb) w2 H2 kB (by rintro k rfl; exact ⟨hs1, k5.lt, by omega⟩)) (fun _ => False) (by rintro k rfl; exact k5.lt) (fun _ h => h.elim) (fun x vs W hE => by obtain ⟨A, c, rfl, _⟩ := hE; rfl)
      (fun pre W => BoxAt W nb #[.int .i64 pre.length] ∧ Keep (fun k => k = nb ∨ w2.heap.size ≤ k) w2 W) (fun _ _ _ => False)
      (fun l s X Y r hl hr hk hI => ⟨hI.1.keep hk (by have := k5.lt; omega), hI.2.trans (hk.mono fun k _ e => .inr (by omega))⟩)
      (fun s X Y hI hb => ⟨hI.1.below hb, hI.2.trans (Keep.of_below hb)⟩)
      (fun _ _ _ _ _ _ _ _ _ h => h) (fun _ _ _ _ h _ => h)
      ⟨k5, Keep.refl _ _⟩ ?round ?done ?stop
    case stop => rintro D c pre W _ _ _ h; exact h.elim
    case done =>
      rintro D W2 hD hK ⟨hN, _⟩ hd
      obtain ⟨c5, f5, l5⟩ := hN
      have Hb : Below w.heap.size w W2 := H2.trans (hK.below (fun k _ h => by have := H2.size; omega) H2.size)
      have Hd := Lib.hid hd
      clear hd hK
      gi_wp2
      refine ⟨by simp, .inl ⟨_, _, rfl, run_takeDeferred Hd.out, ?_⟩⟩
      refine ⟨_, results_tmp2 rfl _ _ _, by rw [hr.out]; rfl, ?_⟩
      exact Hb.trans ((Keep.putObj _ _ _).below (fun k _ e => by have := H2.size; omega) Hb.size)
    case round =>
      rintro l pre x rest vs W2 hxs hl hle ⟨hN, hK⟩ hE
      obtain ⟨A, c, rfl, _⟩ := hE
      have hpl : pre.length < 16384 := by have := congrArg List.length hxs; simp at this; omega
      gi_wp2
      refine ⟨Keep.refl _ _, ?_⟩
      rintro W3 r hlr hk2
      have hN3 := hN.keep hk2 (by have := k5.lt; omega)
      have hK3 : Keep (fun k => k = nb ∨ w2.heap.size ≤ k) w2 W3 := hK.trans (hk2.mono fun k _ e => .inr (by omega))
      have hset := BoxAt.set1 hN3 (.int .i64 ((pre.length : Int) + 1))
      obtain ⟨c5, f5, l5⟩ := hN3
      clear hN hK hlr hk2 hxs
      gi_wp2
      refine ⟨Keep.setCell (M := fun k => k = nb) (Keep.refl _ _) (p := ⟨nb, 0, none⟩) (.inl rfl) _, ?_, hK3.setCell (p := ⟨nb, 0, none⟩) (.inl (.inl rfl)) _⟩
      rw [List.length_append]
      exact hset
end
end Go.Proofs.YtljikigmfkfkiaaDoor
namespace Go.Proofs.YtljikigmfkfkiaaDoor
section
open Go.RowKit Go.Shelf
attribute [local go_sem] Oper.semAt_some
set_option linter.unusedSimpArgs false
set_option linter.unusedVariables false
theorem pathsFrom_mem {B : BookV} : ∀ (n : Nat) (p : List Int), IsPre B p → ((p.length + n : Nat) : Int) = B.parts → ∀ x ∈ pathsFrom n p, IsPath B x
  | 0, p, h, hl, x, hx => by
    simp only [pathsFrom, List.mem_singleton] at hx
    subst hx; exact h.path (by simpa using hl)
  | n + 1, p, h, hl, x, hx => by
    simp only [pathsFrom, List.mem_flatMap, List.mem_range] at hx
    obtain ⟨k, hk, hx⟩ := hx
    cases hi : inB ((k : Int) - gi p (p.length - 1)) (-1) 1 with
    | false => rw [hi] at hx; simp at hx
    | true =>
      rw [hi, cond_true] at hx
      exact pathsFrom_mem n _ (h.snoc _ (by omega) (inB_iff.1 hi)) (by simp; omega) x hx
theorem allPlans_mem {B : BookV} (g : B.Good) {x : List Int} (h : x ∈ allPlans B) : IsPath B x ∧ isPlanS B x = true := by
  unfold allPlans plansFrom at h
  rw [List.mem_filter] at h
  exact ⟨pathsFrom_mem _ _ g.one (by have := g.parts; simp; omega) x h.1, h.2⟩
/-- the plan that is told, after some -/
def bestStep (b : Option (List Int)) (p : List Int) : Option (List Int) := match b with
  | none => some p
  | some q => if changesTo p (p.length - 1) < changesTo q (q.length - 1) then some p else some q
def bestOf (l : List (List Int)) : Option (List Int) := l.foldl bestStep none
theorem bestOf_snoc (l : List (List Int)) (p : List Int) : bestOf (l ++ [p]) = bestStep (bestOf l) p := by unfold bestOf; rw [List.foldl_append]; rfl
theorem bestOf_mem : ∀ (l : List (List Int)) (b : Option (List Int)) (q : List Int), l.foldl bestStep b = some q → q ∈ l ∨ b = some q
  | [], b, q, h => .inr h
  | p :: l, b, q, h => by
    rcases bestOf_mem l (bestStep b p) q h with h1 | h1
    · exact .inl (List.mem_cons_of_mem _ h1)
    · cases b with
      | none => simp [bestStep] at h1; exact .inl (by simp [h1])
      | some r =>
        simp only [bestStep] at h1
        split at h1
        · injection h1 with h1; exact .inl (by simp [h1])
        · exact .inr h1
/-- what the variable of the best plan holds -/
def BestAt (W : World) (nb : Nat) : Option (List Int) → Prop
  | none => BoxAt W nb #[.slice none 0 0]
  | some q => ∃ A c, BoxAt W nb #[.slice A q.length c] ∧ q.length ≤ c ∧ 0 < q.length ∧ q.length ≤ 8 ∧ IntsAt W A q
theorem IntsAt.ne_box {W : World} {b o nb : Nat} {xs : List Int} {A : Option Addr} {n c : Nat} (h : IntsAt W (some ⟨b, o, none⟩) xs) (hp : 0 < xs.length) (k : BoxAt W nb #[.slice A n c]) : b ≠ nb := by
  rintro rfl
  have h1 := h.at_ hp
  rw [k.cell] at h1
  cases o with
  | zero => simp at h1
  | succ o => simp at h1
theorem IntsAt.keep_l {W W' : World} {A : Option Addr} {xs : List Int} {l : Nat} {r : Loop} (h : IntsAt W A xs) (hl : W.heap[l]? = some (.loop r)) (k : Keep (fun k => k = l) W W') : IntsAt W' A xs :=
  ⟨h.1, h.2.imp id fun ⟨b, o, e, hc⟩ => ⟨b, o, e, fun j hj => k.cell_l hl (hc j hj)⟩⟩
theorem BestAt.keep_l {W W' : World} {nb : Nat} {q : Option (List Int)} {l : Nat} {r : Loop} (h : BestAt W nb q) (hl : W.heap[l]? = some (.loop r)) (hn : nb ≠ l) (k : Keep (fun k => k = l) W W') : BestAt W' nb q := by
  cases q with
  | none => exact BoxAt.keep h k hn
  | some q => obtain ⟨A, c, h1, h2, h3, h4, h5⟩ := h; exact ⟨A, c, h1.keep k hn, h2, h3, h4, h5.keep_l hl k⟩
theorem BestAt.below {W W' : World} {nb : Nat} {q : Option (List Int)} (h : BestAt W nb q) (k : Below W.heap.size W W') : BestAt W' nb q := by
  cases q with
  | none => exact BoxAt.below h k
  | some q => obtain ⟨A, c, h1, h2, h3, h4, h5⟩ := h; exact ⟨A, c, h1.below k, h2, h3, h4, h5.below k⟩
theorem BestAt.lt {W : World} {nb : Nat} {q : Option (List Int)} (h : BestAt W nb q) : nb < W.heap.size := by
  cases q with
  | none => exact BoxAt.lt h
  | some q => obtain ⟨A, c, h1, _⟩ := h; exact h1.lt
theorem BestAt.set {W : World} {nb : Nat} {v : Value} (h : BoxAt W nb #[v]) {A : Option Addr} {c : Nat} {p : List Int} (hc : p.length ≤ c) (h0 : 0 < p.length) (h8 : p.length ≤ 8) (hi : IntsAt W A p) (hn : ∀ b o, A = some ⟨b, o, none⟩ → b ≠ nb) : BestAt (W.setCell ⟨nb, 0, none⟩ (.slice A p.length c)) nb (some p) :=
  ⟨A, c, h.set1 _, hc, h0, h8, hi.keep (M := fun k => k = nb) (Keep.setCell (M := fun k => k = nb) (Keep.refl _ _) (p := ⟨nb, 0, none⟩) (.inl rfl) _) hn⟩
/-- what Plan returns, but for where the list lies -/
def PlanR (B : BookV) (e : Ending) (w' : World) : Prop :=
  (goodB B = false ∧ e = .returned (.tuple #[.slice none 0 0, .int .i64 80])) ∨ (goodB B = true ∧ bestOf (allPlans B) = none ∧ e = .returned (.tuple #[.slice none 0 0, .int .i64 4])) ∨
  (goodB B = true ∧ ∃ q A, bestOf (allPlans B) = some q ∧ e = .returned (.tuple #[.slice A q.length q.length, .int .i64 0]) ∧ IntsAt w' A q)
end
end Go.Proofs.YtljikigmfkfkiaaDoor
namespace Go.Proofs.YtljikigmfkfkiaaDoor
section
open Go.RowKit Go.Shelf
attribute [local go_sem] Oper.semAt_some
set_option linter.unusedSimpArgs false
set_option linter.unusedVariables false
@[local go_sem] theorem nil22 (w : World) : Sem.run Tryd.prog (binOp BinOp.eql 22 (.slice none 0 0) (.slice none 0 0)) w = .ok (.bool true) w := by kernel_rfl
@[local go_sem] theorem nonnil22 (a : Addr) (n c : Nat) (w : World) : Sem.run Tryd.prog (binOp BinOp.eql 22 (.slice (some a) n c) (.slice none 0 0)) w = .ok (.bool false) w := by kernel_rfl
set_option maxRecDepth 100000 in
set_option maxHeartbeats 4000000 in
theorem Plan_calls (B : BookV) (w : World) (hB : B.Reads w) (hM : MarksAt w) :
    Calls Tryd.prog 28 #[B.val] w fun e w' => PlanR B e w' ∧ Below w.heap.size w w' := by
  have HB := Lib.hid hB
  have HM := Lib.hid hM
  clear hB hM
  have Hb : Below w.heap.size w (w.alloc (.cells B.cells 27)) := (Below.refl _ _).alloc (Nat.le_refl _) _
  have k1 := BoxAt.new w B.cells 27
  cases hg : goodB B with
  | false =>
    unfold BookV.val BookV.cells
    unfold BookV.cells at k1 Hb
    go_enter Tryd.func28, Tryd.ntmps28
    go_wp2_with fail
    generalize w.alloc _ = W at *
    refine (eq0_1 (v' := B.val) (by unfold BookV.val BookV.cells; rfl) (Check_calls B _ (HB.out.below Hb))).mono ?_
    rintro e w1 ⟨rfl, hb⟩
    have H1 := below_then Hb Hb.size hb
    clear hb k1
    rw [hg, cond_false]
    go_wp2
    go_ret2
    exact ⟨.inl ⟨hg, rfl⟩, H1⟩
  | true =>
    have g := (goodB_iff B).1 hg
    have Hg := Lib.hid g
    clear g
    unfold BookV.val BookV.cells
    unfold BookV.cells at k1 Hb
    refine (callsIn_wide (n := 0)).1 ?_
    refine callsIn_of_wp_marks Tryd.func28 rfl trivial ?_ rfl
    simp only [Tryd.ntmps28, List.size_toArray, List.length_cons, List.length_nil, Nat.reduceAdd, Nat.reduceSub, Array.replicate_succ, Array.replicate_zero, List.push_toArray, List.append_toArray, List.nil_append, List.cons_append]
    gi_wp2_with fail
    generalize w.alloc _ = W at *
    refine ⟨trivial, rfl, ?_⟩
    refine (callsIn_wide.2 (eq0_1 (v' := B.val) (by unfold BookV.val BookV.cells; rfl) (Check_calls B _ (HB.out.below Hb)))).mono ?_
    rintro e w1 ⟨rfl, hb⟩
    have H1 := below_then Hb Hb.size hb
    obtain ⟨c1, f1, l1⟩ := k1.below hb
    clear hb k1
    rw [hg, cond_true]
    gi_wp2_with fail
    refine ⟨trivial, rfl, ?_⟩
    refine (callsIn_wide.2 (eq0_1 (v' := B.val) (by unfold BookV.val BookV.cells; rfl) (plans_calls B _))).mono ?_
    rintro e w2 ⟨bB, rfl, kB, hle, hb⟩
    have k5 := (BoxAt.new w1 #[.slice none 0 0] 22).below hb
    have H2 : Below w.heap.size w w2 := below_then (H1.alloc H1.size _) (by simp; have := H1.size; omega) hb
    have hlt : w1.heap.size < bB := by simp at hle; omega
    have hs1 := H1.size
    generalize w1.heap.size = nb at *
    clear hb hle c1 f1 l1 H1
    have Hgg := Lib.hid hg
    clear hg
    gi_wp2_with fail
    refine wpIn_range_x (gf := 94) (lb := #[.pointer (some ⟨bB, 0, none⟩)]) rfl enters94
      (plans_seq B Hg.out w HB.out HM.out bB (fun k => k = nb) w2 H2 kB (by rintro k rfl; exact ⟨hs1, k5.lt, by omega⟩)) (fun _ => False) (by rintro k rfl; exact k5.lt) (fun _ h => h.elim) (fun x vs W hE => by obtain ⟨A, c, rfl, _⟩ := hE; rfl)
      (fun pre W => BestAt W nb (bestOf pre) ∧ Keep (fun k => k = nb ∨ w2.heap.size ≤ k) w2 W) (fun _ _ _ => False)
      (fun l s X Y r hl hr hk hI => ⟨hI.1.keep_l hr (by have := k5.lt; omega) hk, hI.2.trans (hk.mono fun k _ e => .inr (by omega))⟩)
      (fun s X Y hI hb => ⟨hI.1.below hb, hI.2.trans (Keep.of_below hb)⟩)
      (fun _ _ _ _ _ _ _ _ _ h => h) (fun _ _ _ _ h _ => h)
      ⟨k5, Keep.refl _ _⟩ ?round ?done ?stop
    case stop => rintro D c pre W _ _ _ h; exact h.elim
    case done =>
      rintro D W2 hD hK ⟨hN, _⟩ hd
      have Hb : Below w.heap.size w W2 := H2.trans (hK.below (fun k _ h => by have := H2.size; omega) H2.size)
      have Hd := Lib.hid hd
      clear hd hK
      cases hbest : bestOf (allPlans B) with
      | none =>
        rw [hbest] at hN
        obtain ⟨c5, f5, l5⟩ := hN
        have Hbest := Lib.hid hbest
        clear hbest
        gi_wp2
        refine ⟨by simp, .inl ⟨_, _, rfl, run_takeDeferred Hd.out, ?_⟩⟩
        refine ⟨_, results_tmp2 rfl _ _ _, .inr (.inl ⟨Hgg.out, Hbest.out, rfl⟩), ?_⟩
        exact Hb.trans ((Keep.putObj _ _ _).below (fun k _ e => by have := H2.size; omega) Hb.size)
      | some q =>
        rw [hbest] at hN
        obtain ⟨A, c, ⟨c5, f5, l5⟩, hqc, hq0, hq8, hiq⟩ := hN
        obtain ⟨ab, ao, rfl⟩ := hiq.some_ hq0
        have Hbest := Lib.hid hbest
        have Hiq := Lib.hid hiq
        clear hbest hiq
        gi_wp2
        refine ⟨by simp, .inl ⟨_, _, rfl, run_takeDeferred Hd.out, ?_⟩⟩
        refine ⟨_, results_tmp2 rfl _ _ _, .inr (.inr ⟨Hgg.out, q, _, Hbest.out, rfl, ?_⟩), ?_⟩
        · exact Hiq.out.keep (Keep.putObj _ _ _) (by
            rintro b' o' ⟨⟩ rfl
            have := Hiq.out.at_ hq0
            have hd := Hd.out
            simp [World.cell?, hd] at this)
        · exact Hb.trans ((Keep.putObj _ _ _).below (fun k _ e => by have := H2.size; omega) Hb.size)
    case round =>
      rintro l pre x rest vs W2 hxs hl hle ⟨hN, hK⟩ hE
      obtain ⟨A, c, rfl, hpc, hpi⟩ := hE
      have ip := (allPlans_mem Hg.out (show x ∈ allPlans B by rw [hxs]; simp)).1
      have hp0 := ip.pos Hg.out
      have hp8 : x.length ≤ 8 := by have := ip.len; have := Hg.out.parts; omega
      obtain ⟨xb, xo, rfl⟩ := hpi.some_ hp0
      have Hpi := Lib.hid hpi
      have Hxs := Lib.hid hxs
      have HN := Lib.hid hN
      clear hxs hpi ip hN
      gi_wp2
      refine ⟨Keep.refl _ _, ?_⟩
      rintro W3 r hlr hk2
      have hN3 := HN.out.keep_l hlr (by have := k5.lt; omega) hk2
      have hK3 : Keep (fun k => k = nb ∨ w2.heap.size ≤ k) w2 W3 := hK.trans (hk2.mono fun k _ e => .inr (by omega))
      have HK3 := Lib.hid hK3
      have Hpi3 := Lib.hid (Hpi.out.keep_l hlr hk2)
      clear hK hK3 hlr hk2
      cases hbest : bestOf pre with
      | none =>
        rw [hbest] at hN3
        have hsn : bestOf (pre ++ [x]) = some x := by rw [bestOf_snoc, hbest]; rfl
        have Hsn := Lib.hid hsn
        have HN3 := Lib.hid hN3
        obtain ⟨c5, f5, l5⟩ := hN3
        clear hbest hsn
        gi_upto_region 7 with (fail)
        refine region_round (S := fun w' => Below W3.heap.size W3 w') 9 (by kernel_rfl) (by kernel_rfl) (fun _ _ h => h) ?_ (fun hHeld => ?_)
        · exact (Below.refl _ _).drew
        first | (refine anyT_take 0 (some 16) (v := ?_) rfl rfl (by kernel_rfl) (by kernel_rfl) (by kernel_rfl) (by kernel_rfl) (fun _ _ _ h => h) (Or.inl ⟨by rfl, ?_⟩) hHeld ?_; rotate_left; focus (intro wq hSw; obtain ⟨hcq, hfq⟩ := bcell hSw; go_simp; (try with_reducible rfl); done))
        (try simp only [Act.put, List.setIfInBounds_toArray, List.set_cons_zero, List.set_cons_succ])
        first | (refine anyT_take 1 (some 17) (v := ?_) rfl rfl (by kernel_rfl) (by kernel_rfl) (by kernel_rfl) (by kernel_rfl) (fun _ _ _ h => h) (Or.inl ⟨by rfl, ?_⟩) hHeld ?_; rotate_left; focus (intro wq hSw; obtain ⟨hcq, hfq⟩ := bcell hSw; go_simp; (try with_reducible rfl); done))
        (try simp only [Act.put, List.setIfInBounds_toArray, List.set_cons_zero, List.set_cons_succ])
        first | (refine anyT_take 2 (some 18) (v := ?_) rfl rfl (by kernel_rfl) (by kernel_rfl) (by kernel_rfl) (by kernel_rfl) (fun _ _ _ h => h) (Or.inl ⟨by rfl, ?_⟩) hHeld ?_; rotate_left; focus (intro wq hSw; obtain ⟨hcq, hfq⟩ := bcell hSw; go_simp; (try with_reducible rfl); done))
        (try simp only [Act.put, List.setIfInBounds_toArray, List.set_cons_zero, List.set_cons_succ])
        first | (refine anyT_take 3 (some 19) rfl rfl (by kernel_rfl) (by kernel_rfl) (by kernel_rfl) (by kernel_rfl) (fun _ _ _ h => h) (Or.inr ⟨by rfl, rfl⟩) hHeld ?_) | (refine anyT_take 3 (some 19) (v := ?_) rfl rfl (by kernel_rfl) (by kernel_rfl) (by kernel_rfl) (by kernel_rfl) (fun _ _ _ h => h) (Or.inl ⟨by rfl, ?_⟩) hHeld ?_; rotate_left; focus (intro wq hSw; obtain ⟨hcq, hfq⟩ := bcell hSw; go_simp; (try with_reducible rfl); done))
        (try simp only [Act.put, List.setIfInBounds_toArray, List.set_cons_zero, List.set_cons_succ])
        first | (refine anyT_take 5 (some 21) rfl rfl (by kernel_rfl) (by kernel_rfl) (by kernel_rfl) (by kernel_rfl) (fun _ _ _ h => h) (Or.inr ⟨by rfl, rfl⟩) hHeld ?_) | (refine anyT_take 5 (some 21) (v := ?_) rfl rfl (by kernel_rfl) (by kernel_rfl) (by kernel_rfl) (by kernel_rfl) (fun _ _ _ h => h) (Or.inl ⟨by rfl, ?_⟩) hHeld ?_; rotate_left; focus (intro wq hSw; obtain ⟨hcq, hfq⟩ := bcell hSw; go_simp; (try with_reducible rfl); done))
        (try simp only [Act.put, List.setIfInBounds_toArray, List.set_cons_zero, List.set_cons_succ])
        refine anyT_one 4 (by kernel_rfl) rfl (fun K hK => ?_)
        go_simp
        refine hK.out _ _ ?_ (fun hHeld => ?_)
        · exact hHeld
        clear hK K
        (try simp only [Act.put, List.setIfInBounds_toArray, List.set_cons_zero, List.set_cons_succ])
        refine anyT_one 6 (by kernel_rfl) rfl (fun K hK => ?_)
        go_simp
        refine hK.out _ _ ?_ (fun hHeld => ?_)
        · exact hHeld
        clear hK K
        (try simp only [Act.put, List.setIfInBounds_toArray, List.set_cons_zero, List.set_cons_succ])
        first | (refine anyT_take 7 (some 23) rfl rfl (by kernel_rfl) (by kernel_rfl) (by kernel_rfl) (by kernel_rfl) (fun _ _ _ h => h) (Or.inr ⟨by rfl, rfl⟩) hHeld ?_) | (refine anyT_take 7 (some 23) (v := ?_) rfl rfl (by kernel_rfl) (by kernel_rfl) (by kernel_rfl) (by kernel_rfl) (fun _ _ _ h => h) (Or.inl ⟨by rfl, ?_⟩) hHeld ?_; rotate_left; focus (intro wq hSw; obtain ⟨hcq, hfq⟩ := bcell hSw; go_simp; (try with_reducible rfl); done))
        (try simp only [Act.put, List.setIfInBounds_toArray, List.set_cons_zero, List.set_cons_succ])
        first | (refine anyT_take 8 (some 24) (v := ?_) rfl rfl (by kernel_rfl) (by kernel_rfl) (by kernel_rfl) (by kernel_rfl) (fun _ _ _ h => h) (Or.inl ⟨by rfl, ?_⟩) hHeld ?_; rotate_left; focus (intro wq hSw; obtain ⟨hcq, hfq⟩ := bcell hSw; go_simp; (try with_reducible rfl); done))
        (try simp only [Act.put, List.setIfInBounds_toArray, List.set_cons_zero, List.set_cons_succ])
        refine anyT_done (by kernel_rfl) ?_ _
        have Hh := Lib.hid hHeld
        obtain ⟨c6, f6, l6⟩ := HN3.out.below hHeld
        clear hHeld c5 f5 l5
        gi_wp2
        refine ⟨((Keep.of_below (M := fun k => k = nb) Hh.out).setCell (p := ⟨nb, 0, none⟩) (.inl rfl) _), ?_, (HK3.out.trans (Keep.of_below Hh.out)).setCell (p := ⟨nb, 0, none⟩) (.inl (.inl rfl)) _⟩
        rw [Hsn.out]
        exact BestAt.set ((BoxAt.below HN3.out Hh.out)) hpc hp0 hp8 (Hpi3.out.below Hh.out) (by rintro b' o' ⟨⟩; exact (Hpi3.out.ne_box hp0 HN3.out))
      | some q =>
        rw [hbest] at hN3
        obtain ⟨A4, c4, hN4, hqc, hq0, hq8, hiq⟩ := hN3
        obtain ⟨qb, qo, rfl⟩ := hiq.some_ hq0
        have HN4 := Lib.hid hN4
        have Hiq := Lib.hid hiq
        have Hbest := Lib.hid hbest
        obtain ⟨c5, f5, l5⟩ := hN4
        clear hiq hbest
        by_cases hch : changesTo x (x.length - 1) < changesTo q (q.length - 1)
        · have hsn : bestOf (pre ++ [x]) = some x := by rw [bestOf_snoc, Hbest.out]; simp [bestStep, hch]
          have Hsn := Lib.hid hsn
          clear hsn
          have hchi : (changesTo x (x.length - 1) : Int) < changesTo q (q.length - 1) := by omega
          gi_upto_region 7 with (fail)
          refine region_round (S := fun w' => Below W3.heap.size W3 w') 9 (by kernel_rfl) (by kernel_rfl) (fun _ _ h => h) ?_ (fun hHeld => ?_)
          · exact (Below.refl _ _).drew
          first | (refine anyT_take 0 (some 16) (v := ?_) rfl rfl (by kernel_rfl) (by kernel_rfl) (by kernel_rfl) (by kernel_rfl) (fun _ _ _ h => h) (Or.inl ⟨by rfl, ?_⟩) hHeld ?_; rotate_left; focus (intro wq hSw; obtain ⟨hcq, hfq⟩ := bcell hSw; go_simp; (try with_reducible rfl); done))
          (try simp only [Act.put, List.setIfInBounds_toArray, List.set_cons_zero, List.set_cons_succ])
          first | (refine anyT_take 1 (some 17) (v := ?_) rfl rfl (by kernel_rfl) (by kernel_rfl) (by kernel_rfl) (by kernel_rfl) (fun _ _ _ h => h) (Or.inl ⟨by rfl, ?_⟩) hHeld ?_; rotate_left; focus (intro wq hSw; obtain ⟨hcq, hfq⟩ := bcell hSw; go_simp; (try with_reducible rfl); done))
          (try simp only [Act.put, List.setIfInBounds_toArray, List.set_cons_zero, List.set_cons_succ])
          first | (refine anyT_take 2 (some 18) (v := ?_) rfl rfl (by kernel_rfl) (by kernel_rfl) (by kernel_rfl) (by kernel_rfl) (fun _ _ _ h => h) (Or.inl ⟨by rfl, ?_⟩) hHeld ?_; rotate_left; focus (intro wq hSw; obtain ⟨hcq, hfq⟩ := bcell hSw; go_simp; (try with_reducible rfl); done))
          (try simp only [Act.put, List.setIfInBounds_toArray, List.set_cons_zero, List.set_cons_succ])
          first | (refine anyT_take 3 (some 19) rfl rfl (by kernel_rfl) (by kernel_rfl) (by kernel_rfl) (by kernel_rfl) (fun _ _ _ h => h) (Or.inr ⟨by rfl, rfl⟩) hHeld ?_) | (refine anyT_take 3 (some 19) (v := ?_) rfl rfl (by kernel_rfl) (by kernel_rfl) (by kernel_rfl) (by kernel_rfl) (fun _ _ _ h => h) (Or.inl ⟨by rfl, ?_⟩) hHeld ?_; rotate_left; focus (intro wq hSw; obtain ⟨hcq, hfq⟩ := bcell hSw; go_simp; (try with_reducible rfl); done))
          (try simp only [Act.put, List.setIfInBounds_toArray, List.set_cons_zero, List.set_cons_succ])
          first | (refine anyT_take 5 (some 21) rfl rfl (by kernel_rfl) (by kernel_rfl) (by kernel_rfl) (by kernel_rfl) (fun _ _ _ h => h) (Or.inr ⟨by rfl, rfl⟩) hHeld ?_) | (refine anyT_take 5 (some 21) (v := ?_) rfl rfl (by kernel_rfl) (by kernel_rfl) (by kernel_rfl) (by kernel_rfl) (fun _ _ _ h => h) (Or.inl ⟨by rfl, ?_⟩) hHeld ?_; rotate_left; focus (intro wq hSw; obtain ⟨hcq, hfq⟩ := bcell hSw; go_simp; (try with_reducible rfl); done))
          (try simp only [Act.put, List.setIfInBounds_toArray, List.set_cons_zero, List.set_cons_succ])
          refine anyT_one 4 (by kernel_rfl) rfl (fun K hK => ?_)
          go_simp
          refine (changes_calls _ _ x (by omega) _ (Hpi3.out.below hHeld)).mono ?_; rintro e w5 ⟨rfl, hb5⟩
          refine hK.out _ _ ?_ (fun hHeld => ?_)
          · exact below_then hHeld hHeld.size hb5
          clear hK K
          (try simp only [Act.put, List.setIfInBounds_toArray, List.set_cons_zero, List.set_cons_succ])
          refine anyT_one 6 (by kernel_rfl) rfl (fun K hK => ?_)
          go_simp
          refine (changes_calls _ _ q (by omega) _ (Hiq.out.below hHeld)).mono ?_; rintro e w6 ⟨rfl, hb6⟩
          refine hK.out _ _ ?_ (fun hHeld => ?_)
          · exact below_then hHeld hHeld.size hb6
          clear hK K
          (try simp only [Act.put, List.setIfInBounds_toArray, List.set_cons_zero, List.set_cons_succ])
          first | (refine anyT_take 7 (some 23) rfl rfl (by kernel_rfl) (by kernel_rfl) (by kernel_rfl) (by kernel_rfl) (fun _ _ _ h => h) (Or.inr ⟨by rfl, rfl⟩) hHeld ?_) | (refine anyT_take 7 (some 23) (v := ?_) rfl rfl (by kernel_rfl) (by kernel_rfl) (by kernel_rfl) (by kernel_rfl) (fun _ _ _ h => h) (Or.inl ⟨by rfl, ?_⟩) hHeld ?_; rotate_left; focus (intro wq hSw; obtain ⟨hcq, hfq⟩ := bcell hSw; go_simp; (try with_reducible rfl); done))
          (try simp only [Act.put, List.setIfInBounds_toArray, List.set_cons_zero, List.set_cons_succ])
          first | (refine anyT_take 8 (some 24) (v := ?_) rfl rfl (by kernel_rfl) (by kernel_rfl) (by kernel_rfl) (by kernel_rfl) (fun _ _ _ h => h) (Or.inl ⟨by rfl, ?_⟩) hHeld ?_; rotate_left; focus (intro wq hSw; obtain ⟨hcq, hfq⟩ := bcell hSw; go_simp; (try with_reducible rfl); done))
          (try simp only [Act.put, List.setIfInBounds_toArray, List.set_cons_zero, List.set_cons_succ])
          refine anyT_done (by kernel_rfl) ?_ _
          have Hh := Lib.hid hHeld
          obtain ⟨c6, f6, l6⟩ := HN4.out.below hHeld
          clear hHeld c5 f5 l5
          gi_wp2
          refine ⟨((Keep.of_below (M := fun k => k = nb) Hh.out).setCell (p := ⟨nb, 0, none⟩) (.inl rfl) _), ?_, (HK3.out.trans (Keep.of_below Hh.out)).setCell (p := ⟨nb, 0, none⟩) (.inl (.inl rfl)) _⟩
          rw [Hsn.out]
          exact BestAt.set (HN4.out.below Hh.out) hpc hp0 hp8 (Hpi3.out.below Hh.out) (by rintro b' o' ⟨⟩; exact (Hpi3.out.ne_box hp0 HN4.out))
        · have hsn : bestOf (pre ++ [x]) = some q := by rw [bestOf_snoc, Hbest.out]; simp [bestStep, hch]
          have Hsn := Lib.hid hsn
          clear hsn
          have hchi : ¬ (changesTo x (x.length - 1) : Int) < changesTo q (q.length - 1) := by omega
          gi_upto_region 7 with (fail)
          refine region_round (S := fun w' => Below W3.heap.size W3 w') 9 (by kernel_rfl) (by kernel_rfl) (fun _ _ h => h) ?_ (fun hHeld => ?_)
          · exact (Below.refl _ _).drew
          first | (refine anyT_take 0 (some 16) (v := ?_) rfl rfl (by kernel_rfl) (by kernel_rfl) (by kernel_rfl) (by kernel_rfl) (fun _ _ _ h => h) (Or.inl ⟨by rfl, ?_⟩) hHeld ?_; rotate_left; focus (intro wq hSw; obtain ⟨hcq, hfq⟩ := bcell hSw; go_simp; (try with_reducible rfl); done))
          (try simp only [Act.put, List.setIfInBounds_toArray, List.set_cons_zero, List.set_cons_succ])
          first | (refine anyT_take 1 (some 17) (v := ?_) rfl rfl (by kernel_rfl) (by kernel_rfl) (by kernel_rfl) (by kernel_rfl) (fun _ _ _ h => h) (Or.inl ⟨by rfl, ?_⟩) hHeld ?_; rotate_left; focus (intro wq hSw; obtain ⟨hcq, hfq⟩ := bcell hSw; go_simp; (try with_reducible rfl); done))
          (try simp only [Act.put, List.setIfInBounds_toArray, List.set_cons_zero, List.set_cons_succ])
          first | (refine anyT_take 2 (some 18) (v := ?_) rfl rfl (by kernel_rfl) (by kernel_rfl) (by kernel_rfl) (by kernel_rfl) (fun _ _ _ h => h) (Or.inl ⟨by rfl, ?_⟩) hHeld ?_; rotate_left; focus (intro wq hSw; obtain ⟨hcq, hfq⟩ := bcell hSw; go_simp; (try with_reducible rfl); done))
          (try simp only [Act.put, List.setIfInBounds_toArray, List.set_cons_zero, List.set_cons_succ])
          first | (refine anyT_take 3 (some 19) rfl rfl (by kernel_rfl) (by kernel_rfl) (by kernel_rfl) (by kernel_rfl) (fun _ _ _ h => h) (Or.inr ⟨by rfl, rfl⟩) hHeld ?_) | (refine anyT_take 3 (some 19) (v := ?_) rfl rfl (by kernel_rfl) (by kernel_rfl) (by kernel_rfl) (by kernel_rfl) (fun _ _ _ h => h) (Or.inl ⟨by rfl, ?_⟩) hHeld ?_; rotate_left; focus (intro wq hSw; obtain ⟨hcq, hfq⟩ := bcell hSw; go_simp; (try with_reducible rfl); done))
          (try simp only [Act.put, List.setIfInBounds_toArray, List.set_cons_zero, List.set_cons_succ])
          first | (refine anyT_take 5 (some 21) rfl rfl (by kernel_rfl) (by kernel_rfl) (by kernel_rfl) (by kernel_rfl) (fun _ _ _ h => h) (Or.inr ⟨by rfl, rfl⟩) hHeld ?_) | (refine anyT_take 5 (some 21) (v := ?_) rfl rfl (by kernel_rfl) (by kernel_rfl) (by kernel_rfl) (by kernel_rfl) (fun _ _ _ h => h) (Or.inl ⟨by rfl, ?_⟩) hHeld ?_; rotate_left; focus (intro wq hSw; obtain ⟨hcq, hfq⟩ := bcell hSw; go_simp; (try with_reducible rfl); done))
          (try simp only [Act.put, List.setIfInBounds_toArray, List.set_cons_zero, List.set_cons_succ])
          refine anyT_one 4 (by kernel_rfl) rfl (fun K hK => ?_)
          go_simp
          refine (changes_calls _ _ x (by omega) _ (Hpi3.out.below hHeld)).mono ?_; rintro e w5 ⟨rfl, hb5⟩
          refine hK.out _ _ ?_ (fun hHeld => ?_)
          · exact below_then hHeld hHeld.size hb5
          clear hK K
          (try simp only [Act.put, List.setIfInBounds_toArray, List.set_cons_zero, List.set_cons_succ])
          refine anyT_one 6 (by kernel_rfl) rfl (fun K hK => ?_)
          go_simp
          refine (changes_calls _ _ q (by omega) _ (Hiq.out.below hHeld)).mono ?_; rintro e w6 ⟨rfl, hb6⟩
          refine hK.out _ _ ?_ (fun hHeld => ?_)
          · exact below_then hHeld hHeld.size hb6
          clear hK K
          (try simp only [Act.put, List.setIfInBounds_toArray, List.set_cons_zero, List.set_cons_succ])
          first | (refine anyT_take 7 (some 23) rfl rfl (by kernel_rfl) (by kernel_rfl) (by kernel_rfl) (by kernel_rfl) (fun _ _ _ h => h) (Or.inr ⟨by rfl, rfl⟩) hHeld ?_) | (refine anyT_take 7 (some 23) (v := ?_) rfl rfl (by kernel_rfl) (by kernel_rfl) (by kernel_rfl) (by kernel_rfl) (fun _ _ _ h => h) (Or.inl ⟨by rfl, ?_⟩) hHeld ?_; rotate_left; focus (intro wq hSw; obtain ⟨hcq, hfq⟩ := bcell hSw; go_simp; (try with_reducible rfl); done))
          (try simp only [Act.put, List.setIfInBounds_toArray, List.set_cons_zero, List.set_cons_succ])
          first | (refine anyT_take 8 (some 24) (v := ?_) rfl rfl (by kernel_rfl) (by kernel_rfl) (by kernel_rfl) (by kernel_rfl) (fun _ _ _ h => h) (Or.inl ⟨by rfl, ?_⟩) hHeld ?_; rotate_left; focus (intro wq hSw; obtain ⟨hcq, hfq⟩ := bcell hSw; go_simp; (try with_reducible rfl); done))
          (try simp only [Act.put, List.setIfInBounds_toArray, List.set_cons_zero, List.set_cons_succ])
          refine anyT_done (by kernel_rfl) ?_ _
          have Hh := Lib.hid hHeld
          clear hHeld c5 f5 l5
          gi_wp2
          refine ⟨Keep.of_below Hh.out, ?_, HK3.out.trans (Keep.of_below Hh.out)⟩
          rw [Hsn.out]
          exact BestAt.below (show BestAt W3 nb (some q) from ⟨_, _, HN4.out, hqc, hq0, hq8, Hiq.out⟩) Hh.out
end
end Go.Proofs.YtljikigmfkfkiaaDoor
