import Derived.Test.YtgfbfbfajnfbjaaDoorJ
import Derived.Test.YtgfbfbfajnfbjaaDoorO
import Derived.Test.YtgfbfbfajnfbjaaDoorBA
namespace Go.Proofs.YtgfbfbfajnfbjaaDoor
section
open Go.RowKit Go.Shelf
attribute [local go_sem] Oper.semAt_some
set_option linter.unusedSimpArgs false
set_option linter.unusedVariables false
theorem arr3' {cs : Array Value} (h : cs.size = 3) : ∃ x0 x1 x2, cs = #[x0, x1, x2] := arr3 h
theorem pad3_get (m : List Int) (k : Nat) (h : k < 3) : (pad3 m)[k]? = some (.int .i64 (gi m k)) := by
  have : k = 0 ∨ k = 1 ∨ k = 2 := by omega
  rcases this with rfl | rfl | rfl <;> rfl
theorem pad3_set (m : List Int) (k : Nat) (h : k < 3) (m' : List Int) (hm : ∀ j, j < 3 → gi m' j = if j = k then gi m' k else gi m j) : (pad3 m).setIfInBounds k (.int .i64 (gi m' k)) = pad3 m' := by
  have h0 := hm 0 (by omega)
  have h1 := hm 1 (by omega)
  have h2 := hm 2 (by omega)
  clear hm
  have : k = 0 ∨ k = 1 ∨ k = 2 := by omega
  rcases this with rfl | rfl | rfl
  · rw [if_neg (by decide)] at h1 h2; simp [pad3, h1, h2]
  · rw [if_neg (by decide)] at h0 h2; simp [pad3, h0, h2]
  · rw [if_neg (by decide)] at h0 h1; simp [pad3, h0, h1]
theorem pad3_snoc0 (p : List Int) : pad3 (p ++ [0]) = pad3 p := by
  unfold pad3
  simp only [gi_snoc]
  have h : ∀ k, (if k = p.length then (0 : Int) else gi p k) = gi p k := fun k => by
    by_cases e : k = p.length
    · rw [if_pos e, gi_out (by omega)]
    · rw [if_neg e]
  simp only [h]
theorem pad3_snoc_set (p : List Int) (x y : Int) (h : p.length < 3) : (pad3 (p ++ [x])).setIfInBounds p.length (.int .i64 y) = pad3 (p ++ [y]) := by
  have := pad3_set (p ++ [x]) p.length h (p ++ [y]) (fun j hj => by
    rw [gi_snoc, gi_snoc, gi_snoc]
    by_cases e : j = p.length
    · subst e; simp
    · rw [if_neg e, if_neg e, if_neg e])
  rw [gi_snoc_at] at this
  exact this
/-- the truths of one number more -/
def tkid (B : ForgeV) (left : Int) (n : Nat) (x : List Int) (k : Nat) : List (List Int) := truthsFrom B left n (x ++ [(gs B.thins x.length).1 + (k : Int)])
theorem truthsFrom_succ (B : ForgeV) (left : Int) (n : Nat) (x : List Int) : truthsFrom B left (n + 1) x = (List.range ((gs B.thins x.length).2 - (gs B.thins x.length).1 + 1).toNat).flatMap (tkid B left n x) := by
  rw [truthsFrom, between, List.flatMap_map]
  rfl
/-- what each call of 'set' finds in memory -/
structure TEnv (B : ForgeV) (left : Int) (w0 : World) (bB bO bL bY l : Nat) (W : World) : Prop where
  old : Below w0.heap.size w0 W
  kB : BoxAt W bB B.cells
  kO : BoxAt W bO #[.func (.func 106) #[] #[.pointer (some ⟨bB, 0, none⟩), .pointer (some ⟨bO, 0, none⟩), .pointer (some ⟨bL, 0, none⟩), .pointer (some ⟨bY, 0, none⟩)]]
  kL : BoxAt W bL #[.int .i64 left]
  kY : BoxAt W bY #[.func (.yield l) #[] #[]]
theorem TEnv.keep {B : ForgeV} {left : Int} {w0 : World} {bB bO bL bY l : Nat} {M : Nat → Prop} {W W' : World} (h : TEnv B left w0 bB bO bL bY l W) (k : Keep M W W') (hM : ∀ x, M x → w0.heap.size ≤ x ∧ x ≠ bB ∧ x ≠ bO ∧ x ≠ bL ∧ x ≠ bY) : TEnv B left w0 bB bO bL bY l W' :=
  ⟨h.old.trans (k.below (fun x _ hx => (hM x hx).1) h.old.size), h.kB.keep k (fun e => (hM _ e).2.1 rfl), h.kO.keep k (fun e => (hM _ e).2.2.1 rfl), h.kL.keep k (fun e => (hM _ e).2.2.2.1 rfl), h.kY.keep k (fun e => (hM _ e).2.2.2.2 rfl)⟩
theorem TEnv.below {B : ForgeV} {left : Int} {w0 : World} {bB bO bL bY l : Nat} {W W' : World} (h : TEnv B left w0 bB bO bL bY l W) (k : Below W.heap.size W W') : TEnv B left w0 bB bO bL bY l W' :=
  ⟨below_then h.old h.old.size k, h.kB.below k, h.kO.below k, h.kL.below k, h.kY.below k⟩
/-- A round's yield of a truth. -/
def EncThins (m : List Int) (vs : Array Value) (_ : World) : Prop := vs = #[.agg (pad3 m)]
/-- what a call of 'set' comes to -/
def OnPostC (xs : List (List Int)) (M : Nat → Prop) (l : Nat) (J : List (List Int) → (Nat → Prop) → (Nat → Prop) → World → Prop) (Jx : List (List Int) → World → Prop) (pre mine : List (List Int)) (Pv C : Nat → Prop) (W : World) (e : Ending) (W' : World) : Prop :=
  (e = .returned (.bool true) ∧ (∃ C', J (pre ++ mine) Pv C' W' ∧ (∀ p, C' p → C p ∨ W.heap.size ≤ p) ∧ ∀ p, C' p → p < W'.heap.size) ∧ Keep (fun k => M k ∨ k = l ∨ C k) W W') ∨ (e = .returned (.bool false) ∧ ∃ pr, pr <+: xs ∧ Jx pr W')
theorem OnPostC.bool {xs : List (List Int)} {M : Nat → Prop} {l : Nat} {J : List (List Int) → (Nat → Prop) → (Nat → Prop) → World → Prop} {Jx : List (List Int) → World → Prop} {pre mine : List (List Int)} {Pv C : Nat → Prop} {W W' : World} {e : Ending} (h : OnPostC xs M l J Jx pre mine Pv C W e W') :
    ∃ r, e = .returned (.bool r) ∧ Hid ((r = true ∧ (∃ C', J (pre ++ mine) Pv C' W' ∧ (∀ p, C' p → C p ∨ W.heap.size ≤ p) ∧ ∀ p, C' p → p < W'.heap.size) ∧ Keep (fun k => M k ∨ k = l ∨ C k) W W') ∨ (r = false ∧ ∃ pr, pr <+: xs ∧ Jx pr W')) := by
  rcases h with ⟨rfl, h⟩ | ⟨rfl, h⟩
  · exact ⟨true, rfl, .inl ⟨rfl, h⟩⟩
  · exact ⟨false, rfl, .inr ⟨rfl, h⟩⟩
def SetCall (B : ForgeV) (left : Int) (w0 : World) (bB bO bL bY l N : Nat) (xs : List (List Int)) (M : Nat → Prop) (J : List (List Int) → (Nat → Prop) → (Nat → Prop) → World → Prop) (Jx : List (List Int) → World → Prop) (n : Nat) : Prop :=
  ∀ (dn rest : List (List Int)) (x : List Int) (hn : x.length + n = 3) (hp : ∀ k, 0 ≤ gi x k ∧ gi x k ≤ 20) (Pv C : Nat → Prop) (W : World) (hP : N ≤ W.heap.size ∧ (∀ p, Pv p → N ≤ p ∧ p < W.heap.size) ∧ ∀ p, C p → ¬ Pv p ∧ (bY < p ∧ bO < p ∧ N ≤ p) ∧ p < W.heap.size) (hE : TEnv B left w0 bB bO bL bY l W)
    (hx : xs = dn ++ truthsFrom B left n x ++ rest) (h0 : J dn Pv C W),
    CallsIn Fence.wide 0 Tryd.prog 106 #[.int .i64 x.length, .agg (pad3 x), .pointer (some ⟨bB, 0, none⟩), .pointer (some ⟨bO, 0, none⟩), .pointer (some ⟨bL, 0, none⟩), .pointer (some ⟨bY, 0, none⟩)] W
      (OnPostC xs M l J Jx dn (truthsFrom B left n x) Pv C W)
set_option maxRecDepth 100000 in
set_option maxHeartbeats 4000000 in
theorem set_succ (B : ForgeV) (g : B.Good) (left : Int) (w0 : World) (hB : B.Reads w0) (bB bO bL bY l N : Nat) (xs : List (List Int)) (M : Nat → Prop) (J : List (List Int) → (Nat → Prop) → (Nat → Prop) → World → Prop) (Jx : List (List Int) → World → Prop)
  (hl : w0.heap.size ≤ l) (hM : ∀ k, M k → w0.heap.size ≤ k ∧ k ≤ l) (hlt : (bB ≠ l ∧ ¬ M bB) ∧ (bL ≠ l ∧ ¬ M bL) ∧ l < bY ∧ l < bO) (hN0 : w0.heap.size ≤ N ∧ bB < N ∧ bL < N ∧ l < N)
  (hJ : ∀ pre Pv Pv' C A B, J pre Pv C A → Keep Pv A B → (∀ p, C p → ¬ Pv p ∧ p < A.heap.size) → (∀ p, Pv' p → Pv p ∨ A.heap.size ≤ p) → J pre Pv' C B) (n : Nat) (IH : SetCall B left w0 bB bO bL bY l N xs M J Jx n) : SetCall B left w0 bB bO bL bY l N xs M J Jx (n + 1) := by
  intro dn rest x hn hp Pv C W hPv hE hx h0
  have hx3 : x.length < 3 := by omega
  have hx3i : (x.length : Int) < 3 := by omega
  have hsp := g.thin x.length hx3
  have hsucc := truthsFrom_succ B left n x
  obtain ⟨sb, so, e⟩ := hB.thins.some_ (by rw [g.thinsLen]; decide)
  have hT := hB.thins
  rw [e] at hT
  have hTk := hT.at_ (show x.length < B.thins.length by rw [g.thinsLen]; omega)
  have hx3t : (x.length : Int) < (B.thins.length : Int) := by rw [g.thinsLen]; exact hx3i
  have hkid0 : ∀ k, tkid B left n x k = truthsFrom B left n (x ++ [(gs B.thins x.length).1 + (k : Int)]) := fun k => rfl
  generalize (gs B.thins x.length).1 = lo at *
  generalize (gs B.thins x.length).2 = hi at *
  obtain ⟨m, hm⟩ : ∃ m, m = (hi - lo + 1).toNat := ⟨_, rfl⟩
  rw [← hm] at hsucc
  have hmi : (m : Int) = hi - lo + 1 := by omega
  have hb7 : Below W.heap.size W (W.alloc (.cells (pad3 x) 108)) := (Below.refl _ _).alloc (Nat.le_refl _) _
  have k7 := BoxAt.new W (pad3 x) 108
  have hE7 := hE.below hb7
  have hJ7 := hJ _ _ (fun p => Pv p ∨ p = W.heap.size) _ _ _ h0 (Keep.of_below hb7) (fun p h => ⟨(hPv.2.2 p h).1, (hPv.2.2 p h).2.2⟩) (fun p h => h.imp id (fun e => Nat.le_of_eq e.symm))
  have hO7 := hE.kO.lt
  have HE := Lib.hid hE
  have HPv := Lib.hid hPv
  have Hp := Lib.hid hp
  have Hx := Lib.hid hx
  have Hsucc := Lib.hid hsucc
  have Hn := Lib.hid hn
  have HTk := Lib.hid hTk
  have He := Lib.hid e
  have Hkid0 := Lib.hid hkid0
  obtain ⟨t0, t1⟩ := hTk
  replace t0 := cell_below hE7.old t0
  have tbl := World.block_lt_of_cell? _ _ t0
  simp only at tbl
  obtain ⟨old, kB, kO, kL, kY⟩ := hE7
  unfold ForgeV.cells at kB
  rw [e] at kB
  clear hsucc hx hp hE h0 hn kY kO old hm hPv kL hT hB t1 hkid0 e
  refine callsIn_of_wp Tryd.func106 rfl trivial ?_ rfl
  simp only [Tryd.ntmps106, List.size_toArray, List.length_cons, List.length_nil, Nat.reduceAdd, Nat.reduceSub, Array.replicate_succ, Array.replicate_zero, List.push_toArray, List.append_toArray, List.nil_append, List.cons_append]
  gi_upto_region 1 with (fail)
  have HJ7 := Lib.hid hJ7
  have HB7 := Lib.hid hb7
  generalize W.alloc _ = W7 at *
  obtain ⟨cB, fB, lB⟩ := kB
  rw [← pad3_snoc0 x] at k7
  have K7 := Lib.hid k7
  have hn7 : l < W.heap.size := by omega
  generalize hn7e : W.heap.size = n7 at K7 hn7 HJ7 ⊢
  have Hn7 := Lib.hid hn7
  have Hn7e := Lib.hid hn7e
  clear hb7 hJ7 k7 hn7e
  have Hmi := Lib.hid hmi
  have Hsp := Lib.hid hsp
  gi_wp2_with fail
  gi_loopw [9] (fun i wr => ∃ k : Nat, k ≤ m ∧ i = .int .i64 (lo + k) ∧ (∃ C', J (dn ++ (List.range k).flatMap (tkid B left n x)) (fun p => Pv p ∨ p = n7) C' wr ∧ (∀ p, C' p → C p ∨ n7 < p) ∧ ∀ p, C' p → p < wr.heap.size) ∧ Keep (fun k => M k ∨ k = l ∨ C k) W wr ∧ ∃ y : Int, BoxAt wr n7 (pad3 (x ++ [y]))) (fun i _ => m - (intOf i - lo).toNat)
  case atStart => exact ⟨0, Nat.zero_le _, by simp, ⟨C, by simpa using HJ7.out, fun _ h => .inl h, fun p h => Nat.lt_of_lt_of_le (HPv.out.2.2 p h).2.2 HB7.out.size⟩, Keep.of_below HB7.out, 0, K7.out⟩
  case round =>
    obtain ⟨k, hk, rfl, ⟨C', hJk, hC1, hC2⟩, hkp, y, hb8⟩ := hrel
    have HJk := Lib.hid hJk
    have HC1 := Lib.hid hC1
    have HC2 := Lib.hid hC2
    clear hJk K7 cB fB lB t0 tbl hC1 hC2
    have hbM : ∀ x, M x ∨ x = l → x ≤ l := by rintro x (h | rfl); exact (hM x h).2; omega
    have hn7e := Hn7e.out
    have hn7 := Hn7.out
    have Hlts := Lib.hid (show bB < n7 ∧ bY < n7 ∧ bL < n7 ∧ bO < n7 from by rw [← hn7e]; exact ⟨HE.out.kB.lt, HE.out.kY.lt, HE.out.kL.lt, HE.out.kO.lt⟩)
    have HCn := Lib.hid (show ∀ p, C' p → ¬ (Pv p ∨ p = n7) ∧ (bY < p ∧ bO < p ∧ N ≤ p) ∧ p < wr.heap.size from fun p h => by
      have h2 := HC2.out p h
      have hP := HPv.out
      rcases HC1.out p h with h1 | h1
      · have h3 := hP.2.2 p h1
        exact ⟨by rintro (e | e); exact h3.1 e; omega, h3.2.1, h2⟩
      · have := Hlts.out
        exact ⟨by rintro (e | e); have := hP.2.1 p e; omega; omega, by omega, h2⟩)
    have HE2 := Lib.hid (HE.out.keep hkp (fun x hx => by
      rcases hx with h | h | h
      · have h1 := hM x h
        exact ⟨h1.1, by rintro rfl; exact hlt.1.2 h, by omega, by rintro rfl; exact hlt.2.1.2 h, by omega⟩
      · subst h
        exact ⟨hl, by rintro rfl; exact hlt.1.1 rfl, by omega, by rintro rfl; exact hlt.2.1.1 rfl, by omega⟩
      · have h1 := (HPv.out.2.2 x h).2.1
        exact ⟨by omega, by omega, by omega, by omega, by omega⟩))
    have kB2 := HE2.out.kB
    unfold ForgeV.cells at kB2
    rw [He.out] at kB2
    obtain ⟨cB, fB, lB⟩ := kB2
    have t0 := cell_below HE2.out.old HTk.out.1
    have t1 := cell_below HE2.out.old HTk.out.2
    have tbl := World.block_lt_of_cell? _ _ t0
    simp only at tbl
    by_cases hltk : k < m
    · have hle : lo + (k : Int) ≤ hi := by have := Hmi.out; omega
      have hsp := Hsp.out
      have c8k : wr.cell? ⟨n7, x.length, none⟩ = some (.int .i64 y) := by rw [hb8.cell, pad3_get _ _ hx3, gi_snoc_at]
      have f8k := hb8.frozen x.length
      have l8k := hb8.lt
      have hs := hb8.put x.length (.int .i64 (lo + k)) (by simp [pad3]; omega)
      rw [pad3_snoc_set _ _ _ hx3] at hs
      have hks : Keep (fun q => q = n7) wr (wr.setCell ⟨n7, x.length, none⟩ (.int .i64 (lo + k))) := Keep.setCell (M := fun q => q = n7) (Keep.refl _ _) (p := ⟨n7, x.length, none⟩) (.inl rfl) _
      have HE5 := Lib.hid (HE2.out.keep hks (fun q e => by subst e; have := Hlts.out; exact ⟨by omega, by omega, by omega, by omega, by omega⟩))
      have HJ5 := Lib.hid (hJ _ _ (fun p => Pv p ∨ p = n7) _ _ _ HJk.out (hks.mono (fun q _ e => .inr e)) (fun p h => ⟨(HCn.out p h).1, (HCn.out p h).2.2⟩) (fun _ h => .inl h))
      have HK5 := Lib.hid (hkp.setCell (p := ⟨n7, x.length, none⟩) (.inr (Nat.le_of_eq hn7e)) (.int .i64 (lo + k)))
      have HS := Lib.hid hs
      have hw2 : IntKind.i64.wrap ((x.length : Int) + 1) = (x.length : Int) + 1 := wrap_in (by omega) (by omega)
      have hw3 : IntKind.i64.wrap (lo + k + 1) = lo + k + 1 := wrap_in (by omega) (by omega)
      have HN5 := Lib.hid (show N ≤ (wr.setCell ⟨n7, x.length, none⟩ (.int .i64 (lo + k))).heap.size ∧ (∀ p, (Pv p ∨ p = n7) → N ≤ p ∧ p < (wr.setCell ⟨n7, x.length, none⟩ (.int .i64 (lo + k))).heap.size) ∧ ∀ p, C' p → ¬ (Pv p ∨ p = n7) ∧ (bY < p ∧ bO < p ∧ N ≤ p) ∧ p < (wr.setCell ⟨n7, x.length, none⟩ (.int .i64 (lo + k))).heap.size from by
        have h1 := HPv.out
        have h2 := hks.size
        have h3 := hkp.size
        refine ⟨by omega, fun p h => ?_, fun p h => ⟨(HCn.out p h).1, (HCn.out p h).2.1, Nat.lt_of_lt_of_le (HCn.out p h).2.2 h2⟩⟩
        rcases h with h | rfl
        · have := h1.2.1 p h; omega
        · omega)
      clear hs hks hkp hb8 hbM hn7e hn7
      gi_upto_region 6 with (fail)
      generalize World.setCell wr ⟨n7, x.length, none⟩ (.int .i64 (lo + k)) = W5 at *
      obtain ⟨cO, fO, lO⟩ := HE5.out.kO
      obtain ⟨c5, f5, l5⟩ := HS.out
      unfold pad3 at c5
      clear c8k f8k l8k cB fB lB t0 t1 tbl hle
      gi_wp2_with fail
      refine ⟨trivial, rfl, ?_⟩
      have hlen : (((x ++ [lo + (k : Int)]).length : Nat) : Int) = (x.length : Int) + 1 := by simp
      have hih := IH (dn ++ (List.range k).flatMap (tkid B left n x)) ((List.range' (k + 1) (m - k - 1)).flatMap (tkid B left n x) ++ rest) (x ++ [lo + (k : Int)]) (by have := Hn.out; simp; omega) (fun j => by
        rw [gi_snoc]
        split
        · have := Hmi.out; omega
        · exact Hp.out j) (fun p => Pv p ∨ p = n7) C' W5 HN5.out HE5.out (by rw [Hx.out, Hsucc.out, flat_split (tkid B left n x) k m hltk, Hkid0.out]; simp only [List.append_assoc]) HJ5.out
      rw [hlen] at hih
      refine hih.mono ?_
      rintro e W6 hpost
      obtain ⟨b, rfl, hb6⟩ := hpost.bool
      clear hpost hih IH cO fO lO c5 f5 l5 hlen
      rcases hb6 with ⟨rfl, ⟨C6, hj6, hc6, hd6⟩, hk6⟩ | ⟨rfl, pr, hpr, hj6⟩
      · have hn5 : n7 < W5.heap.size := HS.out.lt
        have HJ6 := Lib.hid (show ∃ C', J (dn ++ (List.range k).flatMap (tkid B left n x) ++ truthsFrom B left n (x ++ [lo + (k : Int)])) (fun p => Pv p ∨ p = n7) C' W6 ∧ (∀ p, C' p → C p ∨ n7 < p) ∧ ∀ p, C' p → p < W6.heap.size from
          ⟨C6, hj6, fun p h => (hc6 p h).elim (HC1.out p) (fun h => .inr (by omega)), hd6⟩)
        have HK6 := Lib.hid (HK5.out.trans' hk6 (fun q hq e => by
          rcases e with e | e | e
          · exact .inl e
          · exact .inr (.inl e)
          · exact .inr (.inr ((HC1.out q e).elim id (fun h => by have := Hn7e.out; omega)))))
        have HS6 := Lib.hid (HS.out.keep hk6 (by have := Hn7.out; rintro (h | h | h); have := (hM _ h).2; omega; omega; exact (HCn.out _ h).1 (.inr rfl)))
        clear hj6 hk6 hc6 hd6
        gi_wp2
        go_roundw
        case rel => exact ⟨k + 1, by omega, by go_num, by rw [flat_succ, ← List.append_assoc, Hkid0.out]; exact HJ6.out, HK6.out, _, HS6.out⟩
        case measure => simp [intOf]; omega
      · have HJ6 := Lib.hid hj6
        clear hj6
        gi_wp2
        go_ret
        exact .inr ⟨rfl, pr, hpr, HJ6.out⟩
    · obtain rfl : k = m := by omega
      have hno : ¬ lo + (k : Int) ≤ hi := by have := Hmi.out; omega
      gi_wp2
      go_ret
      exact .inl ⟨rfl, ⟨C', by rw [Hsucc.out]; exact hJ _ _ _ _ _ _ HJk.out (Keep.refl _ _) (fun p h => ⟨(HCn.out p h).1, (HCn.out p h).2.2⟩) (fun _ h => .inl (.inl h)), fun p h => (HC1.out p h).imp id (fun h => by have := Hn7e.out; omega), HC2.out⟩, hkp⟩
end
end Go.Proofs.YtgfbfbfajnfbjaaDoor
