import Derived.Test.YtgfbfbfajnfbjaaDoorZ
namespace Go.Proofs.YtgfbfbfajnfbjaaDoor
section
open Go.RowKit Go.Shelf
attribute [local go_sem] Oper.semAt_some
set_option linter.unusedSimpArgs false
set_option linter.unusedVariables false
theorem choose_calls (B : ForgeV) (g : B.Good) (w0 : World) (hB : B.Reads w0) (nc n1 nO many : Nat) (hm : many ≤ 8) : ∀ r, ChooseCall B w0 nc n1 nO many r
  | 0 => choose_zero B g w0 hB nc n1 nO many
  | r + 1 => choose_succ B g w0 nc n1 nO many r hm (choose_calls B g w0 hB nc n1 nO many hm r)
def wkid (B : ForgeV) (m : Nat) : Option (List Int) := pick B m 0 [] 0
def wrongS (B : ForgeV) : List Int := ((List.range (B.looks.length + 1)).findSome? (wkid B)).getD []
def WrongR (B : ForgeV) (e : Ending) (w' : World) : Prop :=
  (goodF B = false ∧ e = .returned (.tuple #[.slice none 0 0, .int .i64 20])) ∨ (goodF B = true ∧ ∃ A, e = .returned (.tuple #[.slice A (wrongS B).length (wrongS B).length, .int .i64 0]) ∧ IntsAt w' A (wrongS B))
theorem rangeSome_next {α : Type} (f : Nat → Option α) (k : Nat) (hno : (List.range k).findSome? f = none) (hx : f k = none) : (List.range (k + 1)).findSome? f = none := by
  rw [List.range_succ, List.findSome?_append, hno, Option.none_or]; simp [hx]
theorem rangeSome_at {α : Type} (f : Nat → Option α) (n k : Nat) (h : k < n) (hno : (List.range k).findSome? f = none) {x : α} (hx : f k = some x) : (List.range n).findSome? f = some x := by
  rw [range_split k h, List.findSome?_append, hno, Option.none_or, List.findSome?_cons, hx]
set_option maxRecDepth 100000 in
set_option maxHeartbeats 4000000 in
theorem Wrong_calls (B : ForgeV) (w : World) (hB : B.Reads w) :
    Calls Tryd.prog 35 #[B.val] w fun e w' => WrongR B e w' ∧ Below w.heap.size w w' := by
  have HB := Lib.hid hB
  have k1 := BoxAt.new w B.cells 28
  have Hb : Below w.heap.size w (w.alloc (.cells B.cells 28)) := (Below.refl _ _).alloc (Nat.le_refl _) _
  clear hB
  unfold ForgeV.val
  unfold ForgeV.cells at k1 Hb ⊢
  go_enter Tryd.func35, Tryd.ntmps35
  go_wp2_with fail
  generalize w.alloc _ = W at *
  refine (eq0_1 (v' := B.val) (by unfold ForgeV.val ForgeV.cells; rfl) (Check_calls B _ (HB.out.below Hb))).mono ?_
  rintro e w1 ⟨rfl, hb⟩
  have H1 := below_then Hb Hb.size hb
  have K1 := k1.below hb
  clear hb k1 Hb
  cases hg : goodF B with
  | false =>
    rw [cond_false]
    have Hg := Lib.hid hg
    clear hg
    go_wp2
    go_ret2
    exact ⟨.inl ⟨Hg.out, rfl⟩, H1⟩
  | true =>
    rw [cond_true]
    have Hgg := Lib.hid hg
    have Hg := Lib.hid ((goodF_iff B).1 hg)
    clear hg
    have kk1 := (K1.alloc (.cells #[.func (.func 85) #[.agg B.cells] #[]] 114)).alloc (.cells #[.nilFunc] 115)
    have kc := (BoxAt.new w1 #[.func (.func 85) #[.agg B.cells] #[]] 114).alloc (.cells #[.nilFunc] 115)
    have kO := BoxAt.new (w1.alloc (.cells #[.func (.func 85) #[.agg B.cells] #[]] 114)) #[.nilFunc] 115
    have hb6 : Below w1.heap.size w1 ((w1.alloc (.cells #[.func (.func 85) #[.agg B.cells] #[]] 114)).alloc (.cells #[.nilFunc] 115)) := ((Below.refl _ _).alloc (Nat.le_refl _) _).alloc (by simp) _
    rw [World.size_alloc] at kO
    unfold ForgeV.cells at kk1 kc kO hb6
    obtain ⟨c1, f1, l1⟩ := K1
    go_upto_region 6 with (fail)
    clear c1 f1
    generalize (w1.alloc _).alloc _ = W6 at *
    have H6 := below_then H1 H1.size hb6
    have hns : w.heap.size < w1.heap.size ∧ w1.heap.size < w1.heap.size + 1 := by omega
    clear hb6 l1 H1
    generalize w1.heap.size + 1 = nO at *
    generalize w1.heap.size = nc at *
    generalize hn1 : w.heap.size = n1 at kk1 hns ⊢
    have Hn1 := Lib.hid hn1
    clear hn1
    have hs := kO.set1 (.func (.func 86) #[] #[.pointer (some ⟨nc, 0, none⟩), .pointer (some ⟨n1, 0, none⟩), .pointer (some ⟨nO, 0, none⟩)])
    have hks : Keep (fun q => q = nO) W6 (W6.setCell ⟨nO, 0, none⟩ (.func (.func 86) #[] #[.pointer (some ⟨nc, 0, none⟩), .pointer (some ⟨n1, 0, none⟩), .pointer (some ⟨nO, 0, none⟩)])) := Keep.setCell (M := fun q => q = nO) (Keep.refl _ _) (p := ⟨nO, 0, none⟩) (.inl rfl) _
    have HE := Lib.hid (show CEnv B w nc n1 nO (W6.setCell ⟨nO, 0, none⟩ (.func (.func 86) #[] #[.pointer (some ⟨nc, 0, none⟩), .pointer (some ⟨n1, 0, none⟩), .pointer (some ⟨nO, 0, none⟩)])) from
      ⟨H6.trans (hks.below (fun k _ e => by have := Hn1.out; omega) H6.size), kc.keep hks (by omega), kk1.keep hks (by omega), hs⟩)
    obtain ⟨cO, fO, lO⟩ := kO
    go_upto_region 7 with (fail)
    clear cO fO lO hs hks kc kk1 H6
    generalize W6.setCell _ _ = W7 at *
    obtain ⟨c1, f1, l1⟩ := HE.out.k1
    unfold ForgeV.cells at c1
    have hl8 := Hg.out.looksLen
    have hw1 : IntKind.i64.wrap ((B.looks.length : Int) + 1) = (B.looks.length : Int) + 1 := wrap_in (by omega) (by omega)
    go_upto_block 0 with (fail)
    clear c1 f1 l1
    go_wp2
    go_loopg [23] (B.looks.length + 1) (fun gk i wr => ∃ k : Nat, k ≤ B.looks.length + 1 ∧ gk = B.looks.length + 1 - k ∧ i = .int .i64 k ∧ Below W7.heap.size W7 wr ∧ (List.range k).findSome? (wkid B) = none)
    case atStart => exact ⟨0, Nat.zero_le _, rfl, rfl, Below.refl _ _, by simp⟩
    case round =>
      obtain ⟨k, hk, hgk, rfl, hBe, hno⟩ := hrel
      have Hgk := Lib.hid hgk
      have HBe := Lib.hid hBe
      have Hno := Lib.hid hno
      have HE2 := Lib.hid (HE.out.below hBe)
      clear hgk hBe hno
      by_cases hlt : k < B.looks.length + 1
      · have hki : (k : Int) < (B.looks.length : Int) + 1 := by omega
        obtain ⟨cO, fO, lO⟩ := HE2.out.kO
        have Hkid : Hid (wkid B k = pick B k 0 [] 0) := Lib.hid rfl
        go_wp2_with fail
        have hthis := choose_calls B Hg.out w HB.out nc n1 nO k (by omega) k [] none 0 0 0 wr (by simp) rfl (by decide) (by omega) ⟨by simp, .inl rfl⟩ (by simp) (fun _ => ⟨rfl, rfl⟩) HE2.out
        refine hthis.mono ?_
        clear hthis cO fO lO
        rintro e w6 ⟨hp6, hb6⟩
        obtain ⟨v6, b6, rfl, hq6⟩ := hp6.split
        have Hfin := Lib.hid (below_then HBe.out HBe.out.size hb6)
        clear hp6 hb6
        rcases hq6 with ⟨rfl, x, A6, c6, hp, rfl, hi6, hc6, hn6⟩ | ⟨rfl, hp⟩
        · have Hq := Lib.hid (show wrongS B = x by unfold wrongS; rw [rangeSome_at (wkid B) (B.looks.length + 1) k hlt Hno.out (Hkid.out.trans hp)]; rfl)
          have Hi6 := Lib.hid hi6
          have HF := Lib.hid (below_then HE.out.old HE.out.old.size Hfin.out)
          rcases Nat.eq_zero_or_pos x.length with hz | hz
          · have hx0 := List.eq_nil_of_length_eq_zero hz
            obtain ⟨rfl, rfl⟩ := hn6 hx0
            subst hx0
            clear hi6 hc6 hn6 hp hz
            go_wp2
            go_ret2
            exact ⟨.inr ⟨Hgg.out, none, by rw [Hq.out]; rfl, by rw [Hq.out]; exact Hi6.out⟩, HF.out⟩
          · obtain ⟨ab, ao, rfl⟩ := hi6.some_ hz
            clear hi6 hn6 hp
            have hxc : (x.length : Int) ≤ c6 := by omega
            go_wp2
            go_ret2
            exact ⟨.inr ⟨Hgg.out, _, by rw [Hq.out]; rfl, by rw [Hq.out]; exact Hi6.out⟩, HF.out⟩
        · have Hq := Lib.hid (rangeSome_next (wkid B) k Hno.out (Hkid.out.trans hp))
          clear hp
          go_wp2
          go_roundg (B.looks.length + 1 - (k + 1))
          case measure => have := Hgk.out; omega
          case rel => exact ⟨k + 1, by omega, rfl, by go_num, Hfin.out, Hq.out⟩
      · obtain rfl : k = B.looks.length + 1 := by omega
        have Hq := Lib.hid (show wrongS B = [] by unfold wrongS; rw [Hno.out]; rfl)
        have HF := Lib.hid (below_then HE.out.old HE.out.old.size HBe.out)
        have hno1 : ¬ ((B.looks.length + 1 : Nat) : Int) < (B.looks.length : Int) + 1 := by omega
        go_wp2
        go_ret2
        exact ⟨.inr ⟨Hgg.out, none, by rw [Hq.out]; rfl, by rw [Hq.out]; exact ⟨by simp, .inl rfl⟩⟩, HF.out⟩
end
end Go.Proofs.YtgfbfbfajnfbjaaDoor
