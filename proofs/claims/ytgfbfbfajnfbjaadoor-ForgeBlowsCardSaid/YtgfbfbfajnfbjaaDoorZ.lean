import Derived.Test.YtgfbfbfajnfbjaaDoorY
namespace Go.Proofs.YtgfbfbfajnfbjaaDoor
section
open Go.RowKit Go.Shelf
set_option linter.unusedSimpArgs false
set_option linter.unusedVariables false
/-- append of one number to a slice without room: a new row -/
theorem wp_app_full {o : Oper} {a : Act} {K : Act → World → Prop} {Q : Exit → Act → World → Prop} (w : World) (s x : Operand)
    (ho : o.op = .call { callee := .builtin .append, args := #[s, x], argTypes := #[29, 29] })
    (b og : Nat) (xs : List Int) (hs : a.eval s = .slice (some ⟨b, og, none⟩) xs.length xs.length) (hxs : IntsAt w (some ⟨b, og, none⟩) xs) (hl : xs.length ≤ 1000000)
    (g c : Nat) (m : Int) (hx : a.eval x = .slice (some ⟨g, 0, none⟩) 1 c) (hc : w.cell? ⟨g, 0, none⟩ = some (.int .i64 m))
    (h : ∀ A' c' w', xs.length + 1 ≤ c' → IntsAt w' A' (xs ++ [m]) → (∀ b o, A' = some ⟨b, o, none⟩ → w.heap.size ≤ b) → Below w.heap.size w w' → K (a.put o.dst (.slice A' (xs.length + 1) c')) w') : o.wp Tryd.prog a w K Q := by
  obtain ⟨i0, hi, hz0, hz1, hz2⟩ := info_parts info3
  have hcs : ∀ j u, (xs.map (Value.int .i64))[j]? = some u → w.cell? ((⟨b, og, none⟩ : Addr).add j) = some u := by
    intro j u hu
    rw [List.getElem?_map] at hu
    obtain ⟨y, hy, rfl⟩ := Option.map_eq_some_iff.1 hu
    have hj : j < xs.length := (List.getElem?_eq_some_iff.1 hy).1
    have h1 := hxs.at_ hj
    have h2 : gi xs j = y := by unfold gi; rw [List.getD_eq_getElem?_getD, hy]; rfl
    rw [h2] at h1
    by_cases hj0 : j = 0
    · subst hj0; simpa [Addr.add] using h1
    · simpa [Addr.add, hj0] using h1
  have hns : ∀ j u, [Value.int .i64 m][j]? = some u → w.cell? ((⟨g, 0, none⟩ : Addr).add j) = some u := by
    intro j u hj
    match j, hj with
    | 0, hj => simp at hj; subst hj; simpa [Addr.add] using hc
  obtain ⟨v', w', hrun, r1, r2⟩ := run_append_arg_grows (P := Tryd.prog) w 29 o.type 3 i0 (.int .i64 0) 1 8 under22 hi hz0 hz1 hz2 rfl (by decide) ⟨b, og, none⟩ xs.length xs.length (xs.map (Value.int .i64)) (by simp) hcs ⟨g, 0, none⟩ 1 c [.int .i64 m] rfl hns (by omega) (by unfold maxLen; omega) (by omega)
  have hown : OwnInts w' w.heap.size v' (xs ++ [m]) := by unfold OwnInts; rw [List.length_append, List.map_append]; exact r1
  obtain ⟨A', c', rfl, h1, h2, _, h4, _⟩ := hown.reads
  rw [List.length_append] at h2
  unfold Oper.wp
  simp [execOp, ho, resolve, invoke, builtin, hs, hx, hrun, Result.andThen]
  have := h A' c' w' h2 h1 h4 ⟨r2.os, r2.tape, r2.output, r2.size, fun k hk => r2.block k hk (by simp)⟩
  exact this
/-- append of one number to no slice -/
theorem wp_app_nil {o : Oper} {a : Act} {K : Act → World → Prop} {Q : Exit → Act → World → Prop} (w : World) (s x : Operand)
    (ho : o.op = .call { callee := .builtin .append, args := #[s, x], argTypes := #[29, 29] }) (hs : a.eval s = .slice none 0 0)
    (g c : Nat) (m : Int) (hx : a.eval x = .slice (some ⟨g, 0, none⟩) 1 c) (hc : w.cell? ⟨g, 0, none⟩ = some (.int .i64 m))
    (h : ∀ A' c' w', 0 + 1 ≤ c' → IntsAt w' A' ([] ++ [m]) → (∀ b o, A' = some ⟨b, o, none⟩ → w.heap.size ≤ b) → Below w.heap.size w w' → K (a.put o.dst (.slice A' (0 + 1) c')) w') : o.wp Tryd.prog a w K Q := by
  obtain ⟨i0, hi, hz0, hz1, hz2⟩ := info_parts info3
  refine wp_append_own w s x 29 ho w.heap.size 3 i0 (.int .i64 0) 1 8 under22 hi hz0 hz1 hz2 rfl (by decide) (.slice none 0 0) 0 [] hs (OwnInts.nil _ _) ⟨g, 0, none⟩ 1 c [.int .i64 m] hx rfl ?_ ?_ (by unfold maxLen; omega) (by omega) (Nat.le_refl _) ?_
  · intro j u hj
    match j, hj with
    | 0, hj => simp at hj; subst hj; simpa [Addr.add] using hc
  · intro u hu; simp at hu; subst hu; rfl
  · intro v' w' h1 h2 _
    have hown : OwnInts w' w.heap.size v' ([] ++ [m]) := h1
    obtain ⟨A', c', rfl, g1, g2, _, g4, _⟩ := hown.reads
    exact h A' c' w' g2 g1 g4 ⟨h2.os, h2.tape, h2.output, h2.size, fun k hk => h2.block k hk (by simp [Value.ownBlock])⟩
end
section
open Go.RowKit Go.Shelf
set_option linter.unusedSimpArgs false
set_option linter.unusedVariables false
/-- the first choice of so many looks more, without which the book can be true -/
def pick (B : ForgeV) : Nat → Nat → List Int → Int → Option (List Int)
  | 0, _, l, set => if canS B set then some l else none
  | r + 1, frm, l, set => (List.range' frm (B.looks.length - frm)).findSome? fun k => pick B r (k + 1) (l ++ [(k : Int)]) (set + 2 ^ k)
def pkid (B : ForgeV) (r : Nat) (l : List Int) (set : Int) (k : Nat) : Option (List Int) := pick B r (k + 1) (l ++ [(k : Int)]) (set + 2 ^ k)
theorem pick_succ (B : ForgeV) (r frm : Nat) (l : List Int) (set : Int) : pick B (r + 1) frm l set = (List.range' frm (B.looks.length - frm)).findSome? (pkid B r l set) := rfl
def fromS (l : List Int) : Int := if l = [] then 0 else gi l (l.length - 1) + 1
theorem fromS_snoc (l : List Int) (x : Int) : fromS (l ++ [x]) = x + 1 := by
  unfold fromS
  rw [if_neg (by simp), List.length_append]
  simp only [List.length_cons, List.length_nil, Nat.zero_add, Nat.add_sub_cancel]
  rw [gi_snoc_at]
theorem pow_mono {a b : Nat} (h : a ≤ b) : (2 : Int) ^ a ≤ 2 ^ b := by
  have := Nat.pow_le_pow_right (n := 2) (by decide) h
  exact_mod_cast this
theorem pow_next (set : Int) (k : Nat) (h0 : 0 ≤ set) (h : set < 2 ^ k) : 0 ≤ set + 2 ^ k ∧ set + 2 ^ k < 2 ^ (k + 1) := by
  have h1 : (0 : Int) < 2 ^ k := Int.pow_pos (by decide)
  rw [Int.pow_succ]
  omega
theorem or_pow (set : Int) (k : Nat) (h0 : 0 ≤ set) (h : set < 2 ^ k) (hk : k < 8) : bits BinOp.or IntKind.i64 set (2 ^ k) = set + 2 ^ k := by
  obtain ⟨n, rfl⟩ := Int.eq_ofNat_of_zero_le h0
  have h2 : (2 : Int) ^ k ≤ 2 ^ 7 := pow_mono (by omega)
  have hn : n < 128 := by have : (2 : Int) ^ 7 = 128 := by decide
                          omega
  have : ∀ k : Fin 8, ∀ n : Fin 128, (n.val : Int) < 2 ^ k.val → bits BinOp.or IntKind.i64 (n.val : Int) (2 ^ k.val) = (n.val : Int) + 2 ^ k.val := by decide +kernel
  exact this ⟨k, hk⟩ ⟨n, hn⟩ h
theorem wrap_pow (k : Nat) (hk : k < 8) : IntKind.i64.wrap (2 ^ k) = 2 ^ k := by
  have h2 : (2 : Int) ^ k ≤ 2 ^ 7 := pow_mono (by omega)
  have h1 : (0 : Int) < 2 ^ k := Int.pow_pos (by decide)
  have : (2 : Int) ^ 7 = 128 := by decide
  exact wrap_in (by omega) (by omega)
theorem findSome_at {α : Type} (f : Nat → Option α) (frm n k : Nat) (h1 : frm ≤ k) (h2 : k < n) (hno : (List.range' frm (k - frm)).findSome? f = none) {x : α} (hx : f k = some x) : (List.range' frm (n - frm)).findSome? f = some x := by
  have e : n - frm = (k - frm) + (1 + (n - k - 1)) := by omega
  rw [e, ← List.range'_append_1, ← List.range'_append_1, List.findSome?_append, hno, Option.none_or, List.findSome?_append, show frm + (k - frm) = k by omega]
  simp [List.range', hx]
theorem findSome_next {α : Type} (f : Nat → Option α) (frm k : Nat) (h1 : frm ≤ k) (hno : (List.range' frm (k - frm)).findSome? f = none) (hx : f k = none) : (List.range' frm (k + 1 - frm)).findSome? f = none := by
  rw [show k + 1 - frm = (k - frm) + 1 by omega, ← List.range'_append_1, List.findSome?_append, hno, Option.none_or, show frm + (k - frm) = k by omega]
  simp [List.range', hx]
/-- what each call of 'choose' finds in memory -/
structure CEnv (B : ForgeV) (w0 : World) (nc n1 nO : Nat) (W : World) : Prop where
  old : Below w0.heap.size w0 W
  kc : BoxAt W nc #[.func (.func 85) #[.agg B.cells] #[]]
  k1 : BoxAt W n1 B.cells
  kO : BoxAt W nO #[.func (.func 86) #[] #[.pointer (some ⟨nc, 0, none⟩), .pointer (some ⟨n1, 0, none⟩), .pointer (some ⟨nO, 0, none⟩)]]
theorem CEnv.below {B : ForgeV} {w0 : World} {nc n1 nO : Nat} {W W' : World} (h : CEnv B w0 nc n1 nO W) (k : Below W.heap.size W W') : CEnv B w0 nc n1 nO W' := ⟨below_then h.old h.old.size k, h.kc.below k, h.k1.below k, h.kO.below k⟩
def ChooseP (p : Option (List Int)) (e : Ending) (W' : World) : Prop :=
  (∃ x A c, p = some x ∧ e = .returned (.tuple #[.slice A x.length c, .bool true]) ∧ IntsAt W' A x ∧ x.length ≤ c ∧ (x = [] → A = none ∧ c = 0)) ∨ (p = none ∧ ∃ v, e = .returned (.tuple #[v, .bool false]))
theorem ChooseP.split {p : Option (List Int)} {e : Ending} {W' : World} (h : ChooseP p e W') : ∃ v b, e = .returned (.tuple #[v, .bool b]) ∧
    Hid ((b = true ∧ ∃ x A c, p = some x ∧ v = .slice A x.length c ∧ IntsAt W' A x ∧ x.length ≤ c ∧ (x = [] → A = none ∧ c = 0)) ∨ (b = false ∧ p = none)) := by
  rcases h with ⟨x, A, c, h1, rfl, h2⟩ | ⟨h1, v, rfl⟩
  · exact ⟨_, _, rfl, Lib.hid (.inl ⟨rfl, x, A, c, h1, rfl, h2⟩)⟩
  · exact ⟨_, _, rfl, Lib.hid (.inr ⟨rfl, h1⟩)⟩
def ChooseCall (B : ForgeV) (w0 : World) (nc n1 nO many r : Nat) : Prop :=
  ∀ (l : List Int) (A : Option Addr) (c : Nat) (set : Int) (frm : Nat) (W : World), l.length + r = many → fromS l = frm → (0 ≤ set ∧ set < 2 ^ frm) → frm ≤ B.looks.length → IntsAt W A l → l.length ≤ c → (l = [] → A = none ∧ c = 0) → CEnv B w0 nc n1 nO W →
    Calls Tryd.prog 86 #[.slice A l.length c, .int .i64 set, .int .i64 many, .pointer (some ⟨nc, 0, none⟩), .pointer (some ⟨n1, 0, none⟩), .pointer (some ⟨nO, 0, none⟩)] W fun e W' => ChooseP (pick B r frm l set) e W' ∧ Below W.heap.size W W'
end
section
open Go.RowKit Go.Shelf
attribute [local go_sem] Oper.semAt_some
set_option linter.unusedSimpArgs false
set_option linter.unusedVariables false
set_option maxRecDepth 100000 in
set_option maxHeartbeats 4000000 in
theorem choose_zero (B : ForgeV) (g : B.Good) (w0 : World) (hB : B.Reads w0) (nc n1 nO many : Nat) : ChooseCall B w0 nc n1 nO many 0 := by
  intro l A c set frm W hn hf hset hfl hA hc hnil hE
  have HB := Lib.hid (hB.below hE.old)
  have hp8 : (2 : Int) ^ frm ≤ 2 ^ 8 := pow_mono (by have := g.looksLen; omega)
  have h256 : (2 : Int) ^ 8 = 256 := by decide
  have Hset := Lib.hid (show 0 ≤ set ∧ set < 256 by omega)
  have HA := Lib.hid hA
  have Hc := Lib.hid hc
  have Hnil := Lib.hid hnil
  have Hg := Lib.hid g
  have Hp : Hid (pick B 0 frm l set = if canS B set then some l else none) := Lib.hid rfl
  have hnm : (l.length : Int) = many := by omega
  have hkc := hE.kc
  clear hB hset hA hc hnil g hE hfl hf hp8 h256
  unfold ForgeV.cells at hkc
  obtain ⟨cc, fc, lc⟩ := hkc
  rw [← hnm]
  clear hnm hn
  go_enter Tryd.func86, Tryd.ntmps86
  go_wp2_with fail
  refine (eq0_2 (v' := B.val) (by unfold ForgeV.val ForgeV.cells; rfl) (can_calls B Hg.out set Hset.out _ HB.out)).mono ?_
  rintro e w1 ⟨rfl, hb⟩
  have Hb := Lib.hid hb
  clear hb cc fc lc
  cases hcn : canS B set with
  | true =>
    have HP := Lib.hid (Hp.out.trans (by rw [hcn, if_pos rfl]))
    clear hcn
    go_wp2
    go_ret2
    exact ⟨.inl ⟨l, A, c, HP.out, rfl, HA.out.below Hb.out, Hc.out, Hnil.out⟩, Hb.out⟩
  | false =>
    have HP := Lib.hid (Hp.out.trans (by rw [hcn, if_neg (by decide)]))
    clear hcn
    go_wp2
    go_ret2
    exact ⟨.inr ⟨HP.out, _, rfl⟩, Hb.out⟩
set_option maxRecDepth 100000 in
set_option maxHeartbeats 4000000 in
theorem choose_succ (B : ForgeV) (g : B.Good) (w0 : World) (nc n1 nO many r : Nat) (hm8 : many ≤ 8) (IH : ChooseCall B w0 nc n1 nO many r) : ChooseCall B w0 nc n1 nO many (r + 1) := by
  intro l A c set frm W hn hf hset hfl hA hc hnil hE
  have Hp := Lib.hid (pick_succ B r frm l set)
  have hnm : ((l.length : Int) == (many : Int)) = false := by rw [beq_eq_false_iff_ne]; omega
  have Hset := Lib.hid hset
  have Hc := Lib.hid hc
  have Hg := Lib.hid g
  have Hn := Lib.hid hn
  have Hfrm := Lib.hid hfl
  have HE := Lib.hid hE
  rcases Nat.eq_zero_or_pos l.length with h0 | h0
  · have hl0 := List.eq_nil_of_length_eq_zero h0
    obtain ⟨rfl, rfl⟩ := hnil hl0
    subst hl0
    have Hf := Lib.hid (show frm = 0 by unfold fromS at hf; simp at hf; omega)
    have hE1 := hE.k1
    unfold ForgeV.cells at hE1
    have hnm0 : ((0 : Int) == (many : Int)) = false := hnm
    clear hn hset hfl hA hc hnil hE hf g h0 hE1 hnm
    go_enter Tryd.func86, Tryd.ntmps86
    go_upto_block 0 with (fail)
    go_wp2
    go_loopg [12] (B.looks.length - frm) (fun gk i wr => ∃ k : Nat, frm ≤ k ∧ k ≤ B.looks.length ∧ gk = B.looks.length - k ∧ i = .int .i64 k ∧ Below W.heap.size W wr ∧ (List.range' frm (k - frm)).findSome? (pkid B r ([]: List Int) set) = none)
    case atStart => exact ⟨frm, Nat.le_refl _, Hfrm.out, rfl, by first | rfl | (rw [Hf.out]; rfl), Below.refl _ _, by simp⟩
    case round =>
      obtain ⟨k, hkf, hk, hgk, rfl, hBe, hno⟩ := hrel
      have Hgk := Lib.hid hgk
      have HBe := Lib.hid hBe
      have Hno := Lib.hid hno
      have HE2 := Lib.hid (HE.out.below hBe)
      obtain ⟨cB, fB, lB⟩ := HE2.out.k1
      unfold ForgeV.cells at cB
      clear hgk hBe hno
      by_cases hlt : k < B.looks.length
      · have hki : (k : Int) < B.looks.length := by omega
        have hk8 : k < 8 := by have := Hg.out.looksLen; omega
        have hset := Hset.out
        have hpw : (2 : Int) ^ min ((k : Int).toNat) 64 = 2 ^ k := by rw [show min ((k : Int).toNat) 64 = k by omega]
        have hpk : set < 2 ^ k := Int.lt_of_lt_of_le hset.2 (pow_mono hkf)
        have hor := or_pow set k hset.1 hpk hk8
        have hwp := wrap_pow k hk8
        have Hpk1 := Lib.hid (pow_next set k hset.1 hpk)
        obtain ⟨cO, fO, lO⟩ := HE2.out.kO
        clear hset hpk
        go_upto_region 9 with (fail)
        refine region_plain (S := fun w' => Below wr.heap.size wr w') 21 (by kernel_rfl) ?_ (fun hHeld => ?_)
        · exact (Below.refl _ _).drew
        first | (refine anyT_take 0 (some 42) (v := ?_) rfl rfl (by kernel_rfl) (by kernel_rfl) (by kernel_rfl) (by kernel_rfl) (fun _ _ _ h => h) (Or.inl ⟨by rfl, ?_⟩) hHeld ?_; rotate_left; focus (intro wq hSw; obtain ⟨hcq, hfq⟩ := bcell hSw; go_simp; (try with_reducible rfl); done))
        (try simp only [Act.put, List.setIfInBounds_toArray, List.set_cons_zero, List.set_cons_succ])
        first | (refine anyT_take 1 (some 43) (v := ?_) rfl rfl (by kernel_rfl) (by kernel_rfl) (by kernel_rfl) (by kernel_rfl) (fun _ _ _ h => h) (Or.inl ⟨by rfl, ?_⟩) hHeld ?_; rotate_left; focus (intro wq hSw; obtain ⟨hcq, hfq⟩ := bcell hSw; go_simp; (try with_reducible rfl); done))
        (try simp only [Act.put, List.setIfInBounds_toArray, List.set_cons_zero, List.set_cons_succ])
        first | (refine anyT_take 2 (some 44) (v := ?_) rfl rfl (by kernel_rfl) (by kernel_rfl) (by kernel_rfl) (by kernel_rfl) (fun _ _ _ h => h) (Or.inl ⟨by rfl, ?_⟩) hHeld ?_; rotate_left; focus (intro wq hSw; obtain ⟨hcq, hfq⟩ := bcell hSw; go_simp; (try with_reducible rfl); done))
        (try simp only [Act.put, List.setIfInBounds_toArray, List.set_cons_zero, List.set_cons_succ])
        first | (refine anyT_take 3 (some 45) (v := ?_) rfl rfl (by kernel_rfl) (by kernel_rfl) (by kernel_rfl) (by kernel_rfl) (fun _ _ _ h => h) (Or.inl ⟨by rfl, ?_⟩) hHeld ?_; rotate_left; focus (intro wq hSw; obtain ⟨hcq, hfq⟩ := bcell hSw; go_simp; (try with_reducible rfl); done))
        (try simp only [Act.put, List.setIfInBounds_toArray, List.set_cons_zero, List.set_cons_succ])
        first | (refine anyT_take 4 (some 46) (v := ?_) rfl rfl (by kernel_rfl) (by kernel_rfl) (by kernel_rfl) (by kernel_rfl) (fun _ _ _ h => h) (Or.inl ⟨by rfl, ?_⟩) hHeld ?_; rotate_left; focus (intro wq hSw; obtain ⟨hcq, hfq⟩ := bcell hSw; go_simp; (try with_reducible rfl); done))
        (try simp only [Act.put, List.setIfInBounds_toArray, List.set_cons_zero, List.set_cons_succ])
        first | (refine anyT_take 5 (some 47) (v := ?_) rfl rfl (by kernel_rfl) (by kernel_rfl) (by kernel_rfl) (by kernel_rfl) (fun _ _ _ h => h) (Or.inl ⟨by rfl, ?_⟩) hHeld ?_; rotate_left; focus (intro wq hSw; obtain ⟨hcq, hfq⟩ := bcell hSw; go_simp; (try with_reducible rfl); done))
        (try simp only [Act.put, List.setIfInBounds_toArray, List.set_cons_zero, List.set_cons_succ])
        first | (refine anyT_take 6 (some 48) (v := ?_) rfl rfl (by kernel_rfl) (by kernel_rfl) (by kernel_rfl) (by kernel_rfl) (fun _ _ _ h => h) (Or.inl ⟨by rfl, ?_⟩) hHeld ?_; rotate_left; focus (intro wq hSw; obtain ⟨hcq, hfq⟩ := bcell hSw; go_simp; (try with_reducible rfl); done))
        (try simp only [Act.put, List.setIfInBounds_toArray, List.set_cons_zero, List.set_cons_succ])
        first | (refine anyT_take 7 (some 49) (v := ?_) rfl rfl (by kernel_rfl) (by kernel_rfl) (by kernel_rfl) (by kernel_rfl) (fun _ _ _ h => h) (Or.inl ⟨by rfl, ?_⟩) hHeld ?_; rotate_left; focus (intro wq hSw; obtain ⟨hcq, hfq⟩ := bcell hSw; go_simp; (try with_reducible rfl); done))
        (try simp only [Act.put, List.setIfInBounds_toArray, List.set_cons_zero, List.set_cons_succ])
        first | (refine anyT_take 10 (some 52) (v := ?_) rfl rfl (by kernel_rfl) (by kernel_rfl) (by kernel_rfl) (by kernel_rfl) (fun _ _ _ h => h) (Or.inl ⟨by rfl, ?_⟩) hHeld ?_; rotate_left; focus (intro wq hSw; obtain ⟨hcq, hfq⟩ := bcell hSw; go_simp; (try with_reducible rfl); done))
        (try simp only [Act.put, List.setIfInBounds_toArray, List.set_cons_zero, List.set_cons_succ])
        first | (refine anyT_take 11 (some 53) (v := ?_) rfl rfl (by kernel_rfl) (by kernel_rfl) (by kernel_rfl) (by kernel_rfl) (fun _ _ _ h => h) (Or.inl ⟨by rfl, ?_⟩) hHeld ?_; rotate_left; focus (intro wq hSw; obtain ⟨hcq, hfq⟩ := bcell hSw; go_simp; (try with_reducible rfl); done))
        (try simp only [Act.put, List.setIfInBounds_toArray, List.set_cons_zero, List.set_cons_succ])
        first | (refine anyT_take 12 (some 54) (v := ?_) rfl rfl (by kernel_rfl) (by kernel_rfl) (by kernel_rfl) (by kernel_rfl) (fun _ _ _ h => h) (Or.inl ⟨by rfl, ?_⟩) hHeld ?_; rotate_left; focus (intro wq hSw; obtain ⟨hcq, hfq⟩ := bcell hSw; go_simp; (try with_reducible rfl); done))
        (try simp only [Act.put, List.setIfInBounds_toArray, List.set_cons_zero, List.set_cons_succ])
        first | (refine anyT_take 13 (some 55) (v := ?_) rfl rfl (by kernel_rfl) (by kernel_rfl) (by kernel_rfl) (by kernel_rfl) (fun _ _ _ h => h) (Or.inl ⟨by rfl, ?_⟩) hHeld ?_; rotate_left; focus (intro wq hSw; obtain ⟨hcq, hfq⟩ := bcell hSw; go_simp; (try with_reducible rfl); done))
        (try simp only [Act.put, List.setIfInBounds_toArray, List.set_cons_zero, List.set_cons_succ])
        first | (refine anyT_take 14 (some 56) (v := ?_) rfl rfl (by kernel_rfl) (by kernel_rfl) (by kernel_rfl) (by kernel_rfl) (fun _ _ _ h => h) (Or.inl ⟨by rfl, ?_⟩) hHeld ?_; rotate_left; focus (intro wq hSw; obtain ⟨hcq, hfq⟩ := bcell hSw; go_simp; (try with_reducible rfl); done))
        (try simp only [Act.put, List.setIfInBounds_toArray, List.set_cons_zero, List.set_cons_succ])
        refine anyT_one 8 (by kernel_rfl) rfl (fun K hK => ?_)
        go_simp
        refine hK.out _ _ ?_ (fun hHeld => ?_)
        · exact hHeld.alloc hHeld.size _
        clear hK K
        (try simp only [Act.put, List.setIfInBounds_toArray, List.set_cons_zero, List.set_cons_succ])
        refine anyT_one 9 (by kernel_rfl) rfl (fun K hK => ?_)
        rw [if_pos (by rfl)]; refine wp_app_nil _ _ _ rfl rfl _ 1 (k : Int) rfl (cell_new1 _ _ _) ?_; rintro A5 c5 w5 hc5 hA5 hn5 hb5
        go_simp
        refine hK.out _ _ ?_ (fun hHeld => ?_)
        · exact below_then hHeld hHeld.size hb5
        clear hK K
        (try simp only [Act.put, List.setIfInBounds_toArray, List.set_cons_zero, List.set_cons_succ])
        refine anyT_one 15 (by kernel_rfl) rfl (fun K hK => ?_)
        go_simp
        have hthis := IH (([]: List Int) ++ [(k : Int)]) A5 c5 (set + 2 ^ k) (k + 1) w5 (by have := Hn.out; simp at this ⊢; omega) (by rw [fromS_snoc]; go_num) Hpk1.out (by omega) hA5 (by simpa using hc5) (fun h => absurd h (by simp)) (HE2.out.below hHeld); simp only [List.length_append, List.length_cons, List.length_nil, Nat.zero_add] at hthis; refine hthis.mono ?_; clear hthis; rintro e w6 ⟨hp6, hb6⟩; obtain ⟨v6, b6, rfl, hq6⟩ := hp6.split; clear hp6
        refine hK.out _ _ ?_ (fun hHeld => ?_)
        · exact below_then hHeld hHeld.size hb6
        clear hK K
        (try simp only [Act.put, List.setIfInBounds_toArray, List.set_cons_zero, List.set_cons_succ])
        first | (refine anyT_take 16 (some 41) (v := ?_) rfl rfl (by kernel_rfl) (by kernel_rfl) (by kernel_rfl) (by kernel_rfl) (fun _ _ _ h => h) (Or.inl ⟨by rfl, ?_⟩) hHeld ?_; rotate_left; focus (intro wq hSw; obtain ⟨hcq, hfq⟩ := bcell hSw; go_simp; (try with_reducible rfl); done))
        (try simp only [Act.put, List.setIfInBounds_toArray, List.set_cons_zero, List.set_cons_succ])
        first | (refine anyT_take 17 (some 58) (v := ?_) rfl rfl (by kernel_rfl) (by kernel_rfl) (by kernel_rfl) (by kernel_rfl) (fun _ _ _ h => h) (Or.inl ⟨by rfl, ?_⟩) hHeld ?_; rotate_left; focus (intro wq hSw; obtain ⟨hcq, hfq⟩ := bcell hSw; go_simp; (try with_reducible rfl); done))
        (try simp only [Act.put, List.setIfInBounds_toArray, List.set_cons_zero, List.set_cons_succ])
        first | (refine anyT_take 18 (some 59) (v := ?_) rfl rfl (by kernel_rfl) (by kernel_rfl) (by kernel_rfl) (by kernel_rfl) (fun _ _ _ h => h) (Or.inl ⟨by rfl, ?_⟩) hHeld ?_; rotate_left; focus (intro wq hSw; obtain ⟨hcq, hfq⟩ := bcell hSw; go_simp; (try with_reducible rfl); done))
        (try simp only [Act.put, List.setIfInBounds_toArray, List.set_cons_zero, List.set_cons_succ])
        first | (refine anyT_take 19 (some 13) (v := ?_) rfl rfl (by kernel_rfl) (by kernel_rfl) (by kernel_rfl) (by kernel_rfl) (fun _ _ _ h => h) (Or.inl ⟨by rfl, ?_⟩) hHeld ?_; rotate_left; focus (intro wq hSw; obtain ⟨hcq, hfq⟩ := bcell hSw; go_simp; (try with_reducible rfl); done))
        (try simp only [Act.put, List.setIfInBounds_toArray, List.set_cons_zero, List.set_cons_succ])
        first | (refine anyT_take 20 (some 14) (v := ?_) rfl rfl (by kernel_rfl) (by kernel_rfl) (by kernel_rfl) (by kernel_rfl) (fun _ _ _ h => h) (Or.inl ⟨by rfl, ?_⟩) hHeld ?_; rotate_left; focus (intro wq hSw; obtain ⟨hcq, hfq⟩ := bcell hSw; go_simp; (try with_reducible rfl); done))
        (try simp only [Act.put, List.setIfInBounds_toArray, List.set_cons_zero, List.set_cons_succ])
        refine anyT_done (by kernel_rfl) ?_ _
        have Hfin := Lib.hid (below_then HBe.out HBe.out.size hHeld)
        clear hHeld hb5 hb6 hA5 hn5 hc5 cB fB lB cO fO lO
        rcases hq6 with ⟨rfl, x, A6, c6, hp, rfl, hi6, hc6, hn6⟩ | ⟨rfl, hp⟩
        · have Hq := Lib.hid (Hp.out.trans (findSome_at (pkid B r ([]: List Int) set) frm B.looks.length k hkf hlt Hno.out hp))
          have Hi6 := Lib.hid hi6
          have Hc6 := Lib.hid hc6
          have Hn6 := Lib.hid hn6
          clear hi6 hc6 hn6 hp
          go_wp2
          go_ret2
          exact ⟨.inl ⟨x, A6, c6, Hq.out, rfl, Hi6.out, Hc6.out, Hn6.out⟩, Hfin.out⟩
        · have Hq := Lib.hid (findSome_next (pkid B r ([]: List Int) set) frm k hkf Hno.out hp)
          clear hp
          go_wp2
          go_roundg (B.looks.length - (k + 1))
          case measure => have := Hgk.out; omega
          case rel => exact ⟨k + 1, by omega, by omega, rfl, by go_num, Hfin.out, Hq.out⟩
      · obtain rfl : k = B.looks.length := by omega
        have Hq := Lib.hid (Hp.out.trans Hno.out)
        go_wp2
        go_ret2
        exact ⟨.inr ⟨Hq.out, _, rfl⟩, HBe.out⟩

  · obtain ⟨b, o, rfl⟩ := hA.some_ h0
    have hl0 : l ≠ [] := fun e => by rw [e] at h0; simp at h0
    have hfr : gi l (l.length - 1) + 1 = (frm : Int) := by rw [← hf]; unfold fromS; rw [if_neg hl0]
    have HA := Lib.hid hA
    have cl := hA.at_ (show l.length - 1 < l.length by omega)
    have bl := World.block_lt_of_cell? _ _ cl
    simp only at bl
    have hl8 : l.length ≤ 1000000 := by omega
    have hlp : (0 : Int) < l.length := by omega
    have hw1 : IntKind.i64.wrap ((l.length : Int) - 1) = ((l.length - 1 : Nat) : Int) := by rw [wrap_in (by omega) (by omega)]; omega
    have hw2 : IntKind.i64.wrap (gi l (l.length - 1) + 1) = frm := by rw [hfr]; exact wrap_in (by omega) (by have := g.looksLen; omega)
    have hlc : l.length ≤ c := hc
    have Hl8 := Lib.hid hl8
    clear hn hset hfl hA hc hnil hE hf g hl0 hfr hl8
    go_enter Tryd.func86, Tryd.ntmps86
    go_upto_block 0 with (fail)
    go_wp2
    go_loopg [12] (B.looks.length - frm) (fun gk i wr => ∃ k : Nat, frm ≤ k ∧ k ≤ B.looks.length ∧ gk = B.looks.length - k ∧ i = .int .i64 k ∧ Below W.heap.size W wr ∧ (List.range' frm (k - frm)).findSome? (pkid B r l set) = none)
    case atStart => exact ⟨frm, Nat.le_refl _, Hfrm.out, rfl, by first | rfl | (rw [Hf.out]; rfl), Below.refl _ _, by simp⟩
    case round =>
      obtain ⟨k, hkf, hk, hgk, rfl, hBe, hno⟩ := hrel
      have Hgk := Lib.hid hgk
      have HBe := Lib.hid hBe
      have Hno := Lib.hid hno
      have HE2 := Lib.hid (HE.out.below hBe)
      obtain ⟨cB, fB, lB⟩ := HE2.out.k1
      unfold ForgeV.cells at cB
      clear hgk hBe hno
      by_cases hlt : k < B.looks.length
      · have hki : (k : Int) < B.looks.length := by omega
        have hk8 : k < 8 := by have := Hg.out.looksLen; omega
        have hset := Hset.out
        have hpw : (2 : Int) ^ min ((k : Int).toNat) 64 = 2 ^ k := by rw [show min ((k : Int).toNat) 64 = k by omega]
        have hpk : set < 2 ^ k := Int.lt_of_lt_of_le hset.2 (pow_mono hkf)
        have hor := or_pow set k hset.1 hpk hk8
        have hwp := wrap_pow k hk8
        have Hpk1 := Lib.hid (pow_next set k hset.1 hpk)
        obtain ⟨cO, fO, lO⟩ := HE2.out.kO
        clear hset hpk
        go_upto_region 9 with (fail)
        refine region_plain (S := fun w' => Below wr.heap.size wr w') 21 (by kernel_rfl) ?_ (fun hHeld => ?_)
        · exact (Below.refl _ _).drew
        first | (refine anyT_take 0 (some 42) (v := ?_) rfl rfl (by kernel_rfl) (by kernel_rfl) (by kernel_rfl) (by kernel_rfl) (fun _ _ _ h => h) (Or.inl ⟨by rfl, ?_⟩) hHeld ?_; rotate_left; focus (intro wq hSw; obtain ⟨hcq, hfq⟩ := bcell hSw; go_simp; (try with_reducible rfl); done))
        (try simp only [Act.put, List.setIfInBounds_toArray, List.set_cons_zero, List.set_cons_succ])
        first | (refine anyT_take 1 (some 43) (v := ?_) rfl rfl (by kernel_rfl) (by kernel_rfl) (by kernel_rfl) (by kernel_rfl) (fun _ _ _ h => h) (Or.inl ⟨by rfl, ?_⟩) hHeld ?_; rotate_left; focus (intro wq hSw; obtain ⟨hcq, hfq⟩ := bcell hSw; go_simp; (try with_reducible rfl); done))
        (try simp only [Act.put, List.setIfInBounds_toArray, List.set_cons_zero, List.set_cons_succ])
        first | (refine anyT_take 2 (some 44) (v := ?_) rfl rfl (by kernel_rfl) (by kernel_rfl) (by kernel_rfl) (by kernel_rfl) (fun _ _ _ h => h) (Or.inl ⟨by rfl, ?_⟩) hHeld ?_; rotate_left; focus (intro wq hSw; obtain ⟨hcq, hfq⟩ := bcell hSw; go_simp; (try with_reducible rfl); done))
        (try simp only [Act.put, List.setIfInBounds_toArray, List.set_cons_zero, List.set_cons_succ])
        first | (refine anyT_take 3 (some 45) (v := ?_) rfl rfl (by kernel_rfl) (by kernel_rfl) (by kernel_rfl) (by kernel_rfl) (fun _ _ _ h => h) (Or.inl ⟨by rfl, ?_⟩) hHeld ?_; rotate_left; focus (intro wq hSw; obtain ⟨hcq, hfq⟩ := bcell hSw; go_simp; (try with_reducible rfl); done))
        (try simp only [Act.put, List.setIfInBounds_toArray, List.set_cons_zero, List.set_cons_succ])
        first | (refine anyT_take 4 (some 46) (v := ?_) rfl rfl (by kernel_rfl) (by kernel_rfl) (by kernel_rfl) (by kernel_rfl) (fun _ _ _ h => h) (Or.inl ⟨by rfl, ?_⟩) hHeld ?_; rotate_left; focus (intro wq hSw; obtain ⟨hcq, hfq⟩ := bcell hSw; go_simp; (try with_reducible rfl); done))
        (try simp only [Act.put, List.setIfInBounds_toArray, List.set_cons_zero, List.set_cons_succ])
        first | (refine anyT_take 5 (some 47) (v := ?_) rfl rfl (by kernel_rfl) (by kernel_rfl) (by kernel_rfl) (by kernel_rfl) (fun _ _ _ h => h) (Or.inl ⟨by rfl, ?_⟩) hHeld ?_; rotate_left; focus (intro wq hSw; obtain ⟨hcq, hfq⟩ := bcell hSw; go_simp; (try with_reducible rfl); done))
        (try simp only [Act.put, List.setIfInBounds_toArray, List.set_cons_zero, List.set_cons_succ])
        first | (refine anyT_take 6 (some 48) (v := ?_) rfl rfl (by kernel_rfl) (by kernel_rfl) (by kernel_rfl) (by kernel_rfl) (fun _ _ _ h => h) (Or.inl ⟨by rfl, ?_⟩) hHeld ?_; rotate_left; focus (intro wq hSw; obtain ⟨hcq, hfq⟩ := bcell hSw; go_simp; (try with_reducible rfl); done))
        (try simp only [Act.put, List.setIfInBounds_toArray, List.set_cons_zero, List.set_cons_succ])
        first | (refine anyT_take 7 (some 49) (v := ?_) rfl rfl (by kernel_rfl) (by kernel_rfl) (by kernel_rfl) (by kernel_rfl) (fun _ _ _ h => h) (Or.inl ⟨by rfl, ?_⟩) hHeld ?_; rotate_left; focus (intro wq hSw; obtain ⟨hcq, hfq⟩ := bcell hSw; go_simp; (try with_reducible rfl); done))
        (try simp only [Act.put, List.setIfInBounds_toArray, List.set_cons_zero, List.set_cons_succ])
        first | (refine anyT_take 10 (some 52) (v := ?_) rfl rfl (by kernel_rfl) (by kernel_rfl) (by kernel_rfl) (by kernel_rfl) (fun _ _ _ h => h) (Or.inl ⟨by rfl, ?_⟩) hHeld ?_; rotate_left; focus (intro wq hSw; obtain ⟨hcq, hfq⟩ := bcell hSw; go_simp; (try with_reducible rfl); done))
        (try simp only [Act.put, List.setIfInBounds_toArray, List.set_cons_zero, List.set_cons_succ])
        first | (refine anyT_take 11 (some 53) (v := ?_) rfl rfl (by kernel_rfl) (by kernel_rfl) (by kernel_rfl) (by kernel_rfl) (fun _ _ _ h => h) (Or.inl ⟨by rfl, ?_⟩) hHeld ?_; rotate_left; focus (intro wq hSw; obtain ⟨hcq, hfq⟩ := bcell hSw; go_simp; (try with_reducible rfl); done))
        (try simp only [Act.put, List.setIfInBounds_toArray, List.set_cons_zero, List.set_cons_succ])
        first | (refine anyT_take 12 (some 54) (v := ?_) rfl rfl (by kernel_rfl) (by kernel_rfl) (by kernel_rfl) (by kernel_rfl) (fun _ _ _ h => h) (Or.inl ⟨by rfl, ?_⟩) hHeld ?_; rotate_left; focus (intro wq hSw; obtain ⟨hcq, hfq⟩ := bcell hSw; go_simp; (try with_reducible rfl); done))
        (try simp only [Act.put, List.setIfInBounds_toArray, List.set_cons_zero, List.set_cons_succ])
        first | (refine anyT_take 13 (some 55) (v := ?_) rfl rfl (by kernel_rfl) (by kernel_rfl) (by kernel_rfl) (by kernel_rfl) (fun _ _ _ h => h) (Or.inl ⟨by rfl, ?_⟩) hHeld ?_; rotate_left; focus (intro wq hSw; obtain ⟨hcq, hfq⟩ := bcell hSw; go_simp; (try with_reducible rfl); done))
        (try simp only [Act.put, List.setIfInBounds_toArray, List.set_cons_zero, List.set_cons_succ])
        first | (refine anyT_take 14 (some 56) (v := ?_) rfl rfl (by kernel_rfl) (by kernel_rfl) (by kernel_rfl) (by kernel_rfl) (fun _ _ _ h => h) (Or.inl ⟨by rfl, ?_⟩) hHeld ?_; rotate_left; focus (intro wq hSw; obtain ⟨hcq, hfq⟩ := bcell hSw; go_simp; (try with_reducible rfl); done))
        (try simp only [Act.put, List.setIfInBounds_toArray, List.set_cons_zero, List.set_cons_succ])
        refine anyT_one 8 (by kernel_rfl) rfl (fun K hK => ?_)
        go_simp
        refine hK.out _ _ ?_ (fun hHeld => ?_)
        · exact hHeld.alloc hHeld.size _
        clear hK K
        (try simp only [Act.put, List.setIfInBounds_toArray, List.set_cons_zero, List.set_cons_succ])
        refine anyT_one 9 (by kernel_rfl) rfl (fun K hK => ?_)
        rw [if_pos (by rfl)]; refine wp_app_full _ _ _ rfl b o l rfl (HA.out.below (below_then HBe.out HBe.out.size hHeld)) Hl8.out _ 1 (k : Int) rfl (cell_new1 _ _ _) ?_; rintro A5 c5 w5 hc5 hA5 hn5 hb5
        go_simp
        refine hK.out _ _ ?_ (fun hHeld => ?_)
        · exact below_then hHeld hHeld.size hb5
        clear hK K
        (try simp only [Act.put, List.setIfInBounds_toArray, List.set_cons_zero, List.set_cons_succ])
        refine anyT_one 15 (by kernel_rfl) rfl (fun K hK => ?_)
        go_simp
        have hthis := IH (l ++ [(k : Int)]) A5 c5 (set + 2 ^ k) (k + 1) w5 (by have := Hn.out; simp at this ⊢; omega) (by rw [fromS_snoc]; go_num) Hpk1.out (by omega) hA5 (by simpa using hc5) (fun h => absurd h (by simp)) (HE2.out.below hHeld); simp only [List.length_append, List.length_cons, List.length_nil, Nat.zero_add] at hthis; refine hthis.mono ?_; clear hthis; rintro e w6 ⟨hp6, hb6⟩; obtain ⟨v6, b6, rfl, hq6⟩ := hp6.split; clear hp6
        refine hK.out _ _ ?_ (fun hHeld => ?_)
        · exact below_then hHeld hHeld.size hb6
        clear hK K
        (try simp only [Act.put, List.setIfInBounds_toArray, List.set_cons_zero, List.set_cons_succ])
        first | (refine anyT_take 16 (some 41) (v := ?_) rfl rfl (by kernel_rfl) (by kernel_rfl) (by kernel_rfl) (by kernel_rfl) (fun _ _ _ h => h) (Or.inl ⟨by rfl, ?_⟩) hHeld ?_; rotate_left; focus (intro wq hSw; obtain ⟨hcq, hfq⟩ := bcell hSw; go_simp; (try with_reducible rfl); done))
        (try simp only [Act.put, List.setIfInBounds_toArray, List.set_cons_zero, List.set_cons_succ])
        first | (refine anyT_take 17 (some 58) (v := ?_) rfl rfl (by kernel_rfl) (by kernel_rfl) (by kernel_rfl) (by kernel_rfl) (fun _ _ _ h => h) (Or.inl ⟨by rfl, ?_⟩) hHeld ?_; rotate_left; focus (intro wq hSw; obtain ⟨hcq, hfq⟩ := bcell hSw; go_simp; (try with_reducible rfl); done))
        (try simp only [Act.put, List.setIfInBounds_toArray, List.set_cons_zero, List.set_cons_succ])
        first | (refine anyT_take 18 (some 59) (v := ?_) rfl rfl (by kernel_rfl) (by kernel_rfl) (by kernel_rfl) (by kernel_rfl) (fun _ _ _ h => h) (Or.inl ⟨by rfl, ?_⟩) hHeld ?_; rotate_left; focus (intro wq hSw; obtain ⟨hcq, hfq⟩ := bcell hSw; go_simp; (try with_reducible rfl); done))
        (try simp only [Act.put, List.setIfInBounds_toArray, List.set_cons_zero, List.set_cons_succ])
        first | (refine anyT_take 19 (some 13) (v := ?_) rfl rfl (by kernel_rfl) (by kernel_rfl) (by kernel_rfl) (by kernel_rfl) (fun _ _ _ h => h) (Or.inl ⟨by rfl, ?_⟩) hHeld ?_; rotate_left; focus (intro wq hSw; obtain ⟨hcq, hfq⟩ := bcell hSw; go_simp; (try with_reducible rfl); done))
        (try simp only [Act.put, List.setIfInBounds_toArray, List.set_cons_zero, List.set_cons_succ])
        first | (refine anyT_take 20 (some 14) (v := ?_) rfl rfl (by kernel_rfl) (by kernel_rfl) (by kernel_rfl) (by kernel_rfl) (fun _ _ _ h => h) (Or.inl ⟨by rfl, ?_⟩) hHeld ?_; rotate_left; focus (intro wq hSw; obtain ⟨hcq, hfq⟩ := bcell hSw; go_simp; (try with_reducible rfl); done))
        (try simp only [Act.put, List.setIfInBounds_toArray, List.set_cons_zero, List.set_cons_succ])
        refine anyT_done (by kernel_rfl) ?_ _
        have Hfin := Lib.hid (below_then HBe.out HBe.out.size hHeld)
        clear hHeld hb5 hb6 hA5 hn5 hc5 cB fB lB cO fO lO
        rcases hq6 with ⟨rfl, x, A6, c6, hp, rfl, hi6, hc6, hn6⟩ | ⟨rfl, hp⟩
        · have Hq := Lib.hid (Hp.out.trans (findSome_at (pkid B r l set) frm B.looks.length k hkf hlt Hno.out hp))
          have Hi6 := Lib.hid hi6
          have Hc6 := Lib.hid hc6
          have Hn6 := Lib.hid hn6
          clear hi6 hc6 hn6 hp
          go_wp2
          go_ret2
          exact ⟨.inl ⟨x, A6, c6, Hq.out, rfl, Hi6.out, Hc6.out, Hn6.out⟩, Hfin.out⟩
        · have Hq := Lib.hid (findSome_next (pkid B r l set) frm k hkf Hno.out hp)
          clear hp
          go_wp2
          go_roundg (B.looks.length - (k + 1))
          case measure => have := Hgk.out; omega
          case rel => exact ⟨k + 1, by omega, by omega, rfl, by go_num, Hfin.out, Hq.out⟩
      · obtain rfl : k = B.looks.length := by omega
        have Hq := Lib.hid (Hp.out.trans Hno.out)
        go_wp2
        go_ret2
        exact ⟨.inr ⟨Hq.out, _, rfl⟩, HBe.out⟩

end
end Go.Proofs.YtgfbfbfajnfbjaaDoor
