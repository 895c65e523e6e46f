import Derived.Test.YtgfbfbfajnfbjaaDoorAK
namespace Go.Proofs.YtgfbfbfajnfbjaaDoor
section
open Go.RowKit Go.Shelf
set_option linter.unusedSimpArgs false
set_option linter.unusedVariables false
theorem cast_calls (B : ForgeV) (g : B.Good) (sizes : List Int) (SA : Option Addr) (sc : Nat) (w0 : World) (hB : B.Reads w0) (hMk : EndsAt w0) (hS : IntsAt w0 SA sizes) (nS nV nB nC nO bm : Nat) (hs4 : sizes.length ≤ 4) (hsz : ∀ k, k < sizes.length → 1 ≤ gi sizes k ∧ gi sizes k ≤ 24)
    (hap : Apart w0 nS nV nB nC nO bm) : ∀ n, CastCall B sizes SA sc w0 nS nV nB nC nO bm n
  | 0 => cast_zero B sizes SA sc w0 nS nV nB nC nO bm hs4
  | n + 1 => cast_succ B g sizes SA sc w0 hB hMk hS nS nV nB nC nO bm hs4 hsz hap n (cast_calls B g sizes SA sc w0 hB hMk hS nS nV nB nC nO bm hs4 hsz hap n)
theorem castsS_rows (B : ForgeV) : ∀ (sizes : List Int) (left : List Int) (ms : List (List Int)), (∀ k, 0 ≤ gi left k) → castsS B left sizes = some ms → ∀ m, m ∈ ms → m.length = left.length
  | [], left, ms, _, h, m, hm => by simp [castsS] at h; subst h; cases hm
  | s :: ss, left, ms, hl, h, m, hm => by
    rw [castsS_step] at h
    obtain ⟨l1, x, l2, h2, h3, _⟩ := List.findSome?_eq_some_iff.1 h
    obtain ⟨r, hr, rfl⟩ := Option.map_eq_some_iff.1 h3
    have hx := meltsS_mem hl (show x ∈ meltsS B left s by rw [h2]; simp)
    rcases List.mem_cons.1 hm with rfl | hm
    · exact hx.1
    · rw [castsS_rows B ss (subL left x) r (fun k => by rw [gi_subL left x hx.1.symm]; have := hx.2.1 k; omega) hr m hm, subL_len left x hx.1.symm]
/-- melts in memory, one behind the other -/
def BarsAt (w : World) (b : Nat) (l : List (List Int)) : Prop := ∀ j, j < l.length → w.cell? ⟨b, j * 4, none⟩ = some (.int .i64 (gi (gm l j) 0)) ∧ w.cell? ⟨b, j * 4 + 1, none⟩ = some (.int .i64 (gi (gm l j) 1)) ∧ w.cell? ⟨b, j * 4 + 2, none⟩ = some (.int .i64 (gi (gm l j) 2)) ∧ w.cell? ⟨b, j * 4 + 3, none⟩ = some (.int .i64 (gi (gm l j) 3))
theorem barCells_get (l : List (List Int)) (j : Nat) (hj : j < l.length) : (barCells l)[j * 4]? = some (.int .i64 (gi (gm l j) 0)) ∧ (barCells l)[j * 4 + 1]? = some (.int .i64 (gi (gm l j) 1)) ∧ (barCells l)[j * 4 + 2]? = some (.int .i64 (gi (gm l j) 2)) ∧ (barCells l)[j * 4 + 3]? = some (.int .i64 (gi (gm l j) 3)) := by
  induction l generalizing j with
  | nil => simp at hj
  | cons t l ih =>
    have hc : barCells (t :: l) = [.int .i64 (gi t 0), .int .i64 (gi t 1), .int .i64 (gi t 2), .int .i64 (gi t 3)] ++ barCells l := by unfold barCells; rw [List.flatMap_cons]; rfl
    rw [hc]
    cases j with
    | zero => exact ⟨rfl, rfl, rfl, rfl⟩
    | succ j =>
      have h := ih j (by simpa using hj)
      have e0 : (j + 1) * 4 = j * 4 + 4 := by omega
      have e1 : (j + 1) * 4 + 1 = (j * 4 + 1) + 4 := by omega
      have e2 : (j + 1) * 4 + 2 = (j * 4 + 2) + 4 := by omega
      have e3 : (j + 1) * 4 + 3 = (j * 4 + 3) + 4 := by omega
      rw [e1, e2, e3, e0]
      simpa [gm] using h
theorem OwnBars.reads {w : World} {base : Nat} {v : Value} {l : List (List Int)} (h : OwnBars w base v l) (hl : 0 < l.length) :
    ∃ g c, v = .slice (some ⟨g, 0, none⟩) l.length c ∧ BarsAt w g l ∧ l.length ≤ c ∧ c ≤ 9223372036854775807 ∧ g < w.heap.size := by
  have hlt := World.ownsRow.lt h
  have hcs := fun g => World.ownsRow.cells (w := w) (g := g) h
  obtain ⟨h1, h2⟩ := h
  rcases h2 with ⟨rfl, hn⟩ | ⟨g, cap, cur, rfl, hg, hb, hn, hc, hs, ht⟩
  · omega
  · refine ⟨g, cap, rfl, fun j hj => ?_, hn, by unfold maxLen at hc; omega, (hlt g rfl).2⟩
    have ht := barCells_get l j hj
    have h0 := hcs g rfl (j * 4) _ ht.1
    have h1 := hcs g rfl (j * 4 + 1) _ ht.2.1
    have h2 := hcs g rfl (j * 4 + 2) _ ht.2.2.1
    have h3 := hcs g rfl (j * 4 + 3) _ ht.2.2.2
    refine ⟨?_, by simpa [Addr.add] using h1, by simpa [Addr.add] using h2, by simpa [Addr.add] using h3⟩
    by_cases hj0 : j = 0
    · subst hj0; simpa [Addr.add] using h0
    · have : ¬ j * 4 = 0 := by omega
      simpa [Addr.add, this, hj0] using h0
theorem gm_reverse (ms : List (List Int)) (i : Nat) (h : i < ms.length) : gm ms.reverse (ms.length - 1 - i) = gm ms i := by
  unfold gm
  rw [List.getD_eq_getElem?_getD, List.getD_eq_getElem?_getD, List.getElem?_reverse (by omega), show ms.length - 1 - (ms.length - 1 - i) = i by omega]
theorem cast_held {B : ForgeV} {sizes left : List Int} {n10 n13 nO bm d : Nat} {WB w7 w8 : World} {b8 : Bool} {c13 c10 : Array Value} (h1 : BoxAt w7 n13 c13) (h2 : BoxAt w7 n10 c10) (h3 : Keep (fun k => k = nO ∨ k = bm) WB w7)
    (h : Hid ((b8 = true ∧ (∃ ms v, castsS B left (sizes.drop d) = some ms ∧ BoxAt w8 nO #[v] ∧ OwnBars w8 w7.heap.size v ms.reverse) ∧ Keep (fun k => k = nO ∨ k = bm) w7 w8) ∨
      (b8 = false ∧ castsS B left (sizes.drop d) = none ∧ (∃ vs, MapAt restK w8 bm vs ∧ VainS B sizes vs) ∧ Keep (fun k => k = bm) w7 w8))) (e1 : n13 ≠ nO ∧ n13 ≠ bm) (e2 : n10 ≠ nO ∧ n10 ≠ bm) :
    BoxAt w8 n13 c13 ∧ BoxAt w8 n10 c10 ∧ Keep (fun k => k = nO ∨ k = bm) WB w8 := by
  have hk : Keep (fun k => k = nO ∨ k = bm) w7 w8 := by
    rcases h with ⟨_, _, h⟩ | ⟨_, _, _, h⟩
    · exact h
    · exact h.mono fun _ _ e => .inr e
  exact ⟨h1.keep hk (by omega), h2.keep hk (by omega), h3.trans hk⟩
theorem rows_apart {w w' w9 : World} {base : Nat} {v : Value} {ms : List (List Int)} {A : Option Addr} {m : List Int} {vv : Value} {t : TypeId} (h : OwnRows w base v ms) (hi : IntsAt w9 A m) (hA : ∀ b o, A = some ⟨b, o, none⟩ → w'.heap.size ≤ b) (hs : w.heap.size ≤ w'.heap.size) (hm : 0 < m.length) :
    ∀ b o, A = some ⟨b, o, none⟩ → v.ownBlock ≠ some b ∧ b < (w9.alloc (.cells #[vv] t)).heap.size := by
  rintro b o rfl
  obtain ⟨vals, h1, _⟩ := h
  have h3 := hA b o rfl
  have h4 := World.block_lt_of_cell? _ _ (hi.at_ hm)
  simp only at h4
  refine ⟨fun e => by have := (World.ownsRow.lt h1 b e).2; omega, by rw [World.size_alloc]; omega⟩
theorem bcellN {n : Nat} {W w1 : World} (hb : Below n W w1) : (∀ b o, b < n → w1.cell? ⟨b, o, none⟩ = W.cell? ⟨b, o, none⟩) ∧ (∀ b o, b < n → w1.frozen? ⟨b, o, none⟩ = W.frozen? ⟨b, o, none⟩) :=
  ⟨fun b o h => hb.cell (p := ⟨b, o, none⟩) h, fun b o h => hb.frozen (p := ⟨b, o, none⟩) h⟩
theorem take_snoc4 (ms : List (List Int)) (i : Nat) (hi : i < ms.length) : ms.take (i + 1) = ms.take i ++ [gm ms i] := by
  rw [List.take_add_one, gm, List.getD_eq_getElem?_getD, List.getElem?_eq_getElem hi]; rfl
def askTo (sizes : List Int) (k : Nat) : Bool := inB sizes.length 1 4 && (List.range k).all fun j => inB (gi sizes j) 1 24
theorem askTo_succ (sizes : List Int) (k : Nat) : askTo sizes (k + 1) = (askTo sizes k && inB (gi sizes k) 1 24) := by unfold askTo; rw [range_all_succ, Bool.and_assoc]
def castsAsk (sizes : List Int) : Bool := askTo sizes sizes.length
def CastsR (B : ForgeV) (sizes : List Int) (e : Ending) (w' : World) : Prop :=
  (goodF B = false ∧ e = .returned (.tuple #[.slice none 0 0, .int .i64 20])) ∨ (goodF B = true ∧ castsAsk sizes = false ∧ e = .returned (.tuple #[.slice none 0 0, .int .i64 21])) ∨
  (goodF B = true ∧ castsAsk sizes = true ∧ castsS B (stockS B) sizes = none ∧ e = .returned (.tuple #[.slice none 0 0, .int .i64 4])) ∨
  (goodF B = true ∧ castsAsk sizes = true ∧ ∃ ms A, castsS B (stockS B) sizes = some ms ∧ e = .returned (.tuple #[.slice A ms.length ms.length, .int .i64 0]) ∧ RowsAt w' A ms)
end
section
open Go.RowKit Go.Shelf
attribute [local go_sem] Oper.semAt_some make97
set_option linter.unusedSimpArgs false
set_option linter.unusedVariables false
set_option maxRecDepth 100000 in
set_option maxHeartbeats 4000000 in
theorem Casts_calls (B : ForgeV) (A : Option Addr) (c : Nat) (sizes : List Int) (w : World) (hB : B.Reads w) (hM : EndsAt w) (hp : IntsAt w A sizes) :
    Calls Tryd.prog 28 #[B.val, .slice A sizes.length c] w fun e w' => CastsR B sizes e w' ∧ Below w.heap.size w w' := by
  have HB := Lib.hid hB
  have HM := Lib.hid hM
  have HP := Lib.hid hp
  have hl63 := hp.1
  have k2 := (BoxAt.new w B.cells 28).alloc (.cells #[.slice A sizes.length c] 29)
  have k3 := BoxAt.new (w.alloc (.cells B.cells 28)) #[.slice A sizes.length c] 29
  have Hb : Below w.heap.size w ((w.alloc (.cells B.cells 28)).alloc (.cells #[.slice A sizes.length c] 29)) := ((Below.refl _ _).alloc (Nat.le_refl _) _).alloc (by simp) _
  rw [World.size_alloc] at k3
  clear hB hM hp
  unfold ForgeV.val
  unfold ForgeV.cells at k2 k3 Hb ⊢
  go_enter Tryd.func28, Tryd.ntmps28
  go_upto_region 1 with (fail)
  generalize (w.alloc _).alloc _ = W at *
  have hn3 : w.heap.size < w.heap.size + 1 := by omega
  generalize w.heap.size + 1 = n3 at *
  have K3 := Lib.hid k3
  have K2 := Lib.hid k2
  obtain ⟨c2, f2, l2⟩ := k2
  clear k3
  go_wp2_with fail
  refine (eq0_1 (v' := B.val) (by unfold ForgeV.val ForgeV.cells; rfl) (Check_calls B _ (HB.out.below Hb))).mono ?_
  rintro e w1 ⟨rfl, hb⟩
  have H1 := Lib.hid (below_then Hb Hb.size hb)
  replace K2 := Lib.hid (K2.out.below hb)
  replace K3 := Lib.hid (K3.out.below hb)
  clear hb Hb c2 f2 l2
  cases hg : goodF B with
  | false =>
    rw [cond_false]
    have Hg := Lib.hid hg
    clear hg
    go_wp2
    go_ret2
    exact ⟨.inl ⟨Hg.out, rfl⟩, H1.out⟩
  | true =>
    rw [cond_true]
    have Hgg := Lib.hid hg
    have g := (goodF_iff B).1 hg
    have Hg := Lib.hid g
    clear hg g
    obtain ⟨c3, f3, l3⟩ := K3.out
    go_wp2_with fail
    refine (in_calls _ _ _ _).mono ?_
    rintro e w2 ⟨rfl, rfl⟩
    have hask0 : inB (sizes.length : Int) 1 4 = askTo sizes 0 := by unfold askTo; simp
    rw [hask0]
    clear hask0
    go_upto_block 0 with (fail)
    clear c3 f3 l3
    go_wp2
    go_loopg [26, 7] sizes.length (fun gk i ok wr => ∃ k : Nat, k ≤ sizes.length ∧ gk = sizes.length - k ∧ i = .int .i64 k ∧ ok = .bool (askTo sizes k) ∧ Below w1.heap.size w1 wr)
    case atStart => exact ⟨0, Nat.zero_le _, rfl, rfl, rfl, Below.refl _ _⟩
    case round =>
      obtain ⟨k, hk, hgk, rfl, rfl, hBe⟩ := hrel
      have Hgk := Lib.hid hgk
      have HBe := Lib.hid hBe
      clear hgk hBe
      by_cases hlt : k < sizes.length
      · obtain ⟨sb, so, rfl⟩ := HP.out.some_ (by omega)
        have hki : (k : Int) < sizes.length := by omega
        have ck := cell_below (below_then H1.out H1.out.size HBe.out) (HP.out.at_ hlt)
        have cbl := World.block_lt_of_cell? _ _ ck
        simp only at cbl
        have Hst := Lib.hid (askTo_succ sizes k)
        cases hok : askTo sizes k with
        | false =>
          have Hn := Lib.hid (show askTo sizes (k + 1) = false by rw [Hst.out, hok]; rfl)
          clear hok
          go_wp2
          go_roundg (sizes.length - (k + 1))
          case measure => have := Hgk.out; omega
          case rel => exact ⟨k + 1, by omega, rfl, by go_num, by rw [Hn.out], HBe.out⟩
        | true =>
          have Hn := Lib.hid (show askTo sizes (k + 1) = inB (gi sizes k) 1 24 by rw [Hst.out, hok]; rfl)
          clear hok
          go_wp2_with fail
          refine (in_calls _ _ _ _).mono ?_
          rintro e wx ⟨rfl, rfl⟩
          rw [← Hn.out]
          go_wp2
          go_roundg (sizes.length - (k + 1))
          case measure => have := Hgk.out; omega
          case rel => exact ⟨k + 1, by omega, rfl, by go_num, rfl, HBe.out⟩
      · obtain rfl : k = sizes.length := by omega
        have H9 := Lib.hid (below_then H1.out H1.out.size HBe.out)
        cases hok : askTo sizes sizes.length with
        | false =>
          have Hok := Lib.hid hok
          clear hok
          go_wp2
          go_ret2
          exact ⟨.inr (.inl ⟨Hgg.out, Hok.out, rfl⟩), H9.out⟩
        | true =>
          have Hok := Lib.hid hok
          have hok2 := hok
          unfold askTo at hok2
          rw [Bool.and_eq_true, inB_iff] at hok2
          have hs4 : 1 ≤ sizes.length ∧ sizes.length ≤ 4 := by omega
          have Hsz := Lib.hid (show ∀ k, k < sizes.length → 1 ≤ gi sizes k ∧ gi sizes k ≤ 24 from fun k hk => inB_iff.1 (range_all_get hok2.2 k hk))
          have hW1 := HBe.out
          have K29 := Lib.hid (K2.out.below hW1)
          have K39 := Lib.hid (K3.out.below hW1)
          clear hok hok2 hW1
          obtain ⟨c2, f2, l2⟩ := K29.out
          have k10 := ((((BoxAt.new wr B.cells 87).alloc (.map #[] 0)).alloc (.cells #[.map (some (wr.heap.size + 1))] 97)).alloc (.cells #[.slice none 0 0] 98)).alloc (.cells #[.nilFunc] 99)
          have km := ((MapAt.new (K := restK) (wr.alloc (.cells B.cells 87))).below (((Below.refl _ _).alloc (Nat.le_refl _) (.cells #[.map (some (wr.heap.size + 1))] 97)))).below ((((Below.refl _ _).alloc (Nat.le_refl _) (.cells #[.slice none 0 0] 98)).alloc (by simp) (.cells #[.nilFunc] 99)))
          have k11 := ((BoxAt.new ((wr.alloc (.cells B.cells 87)).alloc (.map #[] 0)) #[.map (some (wr.heap.size + 1))] 97).alloc (.cells #[.slice none 0 0] 98)).alloc (.cells #[.nilFunc] 99)
          have k12 := (BoxAt.new (((wr.alloc (.cells B.cells 87)).alloc (.map #[] 0)).alloc (.cells #[.map (some (wr.heap.size + 1))] 97)) #[.slice none 0 0] 98).alloc (.cells #[.nilFunc] 99)
          have k13 := BoxAt.new ((((wr.alloc (.cells B.cells 87)).alloc (.map #[] 0)).alloc (.cells #[.map (some (wr.heap.size + 1))] 97)).alloc (.cells #[.slice none 0 0] 98)) #[.nilFunc] 99
          have hbA : Below wr.heap.size wr (((((wr.alloc (.cells B.cells 87)).alloc (.map #[] 0)).alloc (.cells #[.map (some (wr.heap.size + 1))] 97)).alloc (.cells #[.slice none 0 0] 98)).alloc (.cells #[.nilFunc] 99)) :=
            (((((Below.refl _ _).alloc (Nat.le_refl _) _).alloc (by simp) _).alloc (by simp; omega) _).alloc (by simp; omega) _).alloc (by simp; omega) _
          simp only [World.size_alloc] at km k11 k12 k13
          unfold ForgeV.cells at k10 km k11 k12 k13 hbA
          go_upto_region 16 with (fail)
          clear c2 f2 l2
          generalize World.alloc (World.alloc (World.alloc (World.alloc (World.alloc wr _) _) _) _) _ = WA at *
          have hns : wr.heap.size < wr.heap.size + 1 ∧ wr.heap.size + 1 < wr.heap.size + 1 + 1 ∧ wr.heap.size + 1 + 1 < wr.heap.size + 1 + 1 + 1 ∧ wr.heap.size + 1 + 1 + 1 < wr.heap.size + 1 + 1 + 1 + 1 := by omega
          have h3l := K39.out.lt
          have HA := Lib.hid (below_then H9.out H9.out.size hbA)
          have K3A := Lib.hid (K39.out.below hbA)
          have hsw := H9.out.size
          generalize wr.heap.size + 1 + 1 + 1 + 1 = n13 at *
          generalize wr.heap.size + 1 + 1 + 1 = n12 at *
          generalize wr.heap.size + 1 + 1 = n11 at *
          generalize wr.heap.size + 1 = bm at *
          generalize wr.heap.size = n10 at *
          have hks : Keep (fun q => q = n13) WA (WA.setCell ⟨n13, 0, none⟩ (.func (.func 78) #[] #[.pointer (some ⟨n3, 0, none⟩), .pointer (some ⟨n11, 0, none⟩), .pointer (some ⟨n10, 0, none⟩), .pointer (some ⟨n13, 0, none⟩), .pointer (some ⟨n12, 0, none⟩)])) := Keep.setCell (M := fun q => q = n13) (Keep.refl _ _) (p := ⟨n13, 0, none⟩) (.inl rfl) _
          have HE := Lib.hid (show CastEnv B sizes A c w n3 n11 n10 n13 n12 bm (WA.setCell ⟨n13, 0, none⟩ (.func (.func 78) #[] #[.pointer (some ⟨n3, 0, none⟩), .pointer (some ⟨n11, 0, none⟩), .pointer (some ⟨n10, 0, none⟩), .pointer (some ⟨n13, 0, none⟩), .pointer (some ⟨n12, 0, none⟩)])) from
            ⟨HA.out.trans (hks.below (fun k _ e => by omega) HA.out.size), K3A.out.keep hks (by omega), k11.keep hks (by omega), k10.keep hks (by omega), k13.set1 _, k12.keep hks (by omega)⟩)
          have Hmm := Lib.hid (km.keep hks (by omega))
          obtain ⟨c13, f13, l13⟩ := k13
          have hap : Apart w n3 n11 n10 n13 n12 bm := ⟨by omega, by omega, by omega⟩
          go_upto_region 17 with (fail)
          clear c13 f13 l13 hks k10 km k11 k12 hbA
          generalize WA.setCell _ _ = WB at *
          have HEB := HE.out
          have hkB := HEB.kB
          unfold ForgeV.cells at hkB
          have HkB := Lib.hid hkB
          clear hkB HEB
          refine region_plain (S := fun w' => BoxAt w' n13 #[.func (.func 78) #[] #[.pointer (some ⟨n3, 0, none⟩), .pointer (some ⟨n11, 0, none⟩), .pointer (some ⟨n10, 0, none⟩), .pointer (some ⟨n13, 0, none⟩), .pointer (some ⟨n12, 0, none⟩)]] ∧ BoxAt w' n10 #[.slice B.lA B.lots.length B.lCap, .int .i64 B.tlo, .int .i64 B.thi, .int .i64 B.thick, .int .i64 B.crack, .int .i64 B.glo, .int .i64 B.ghi, .slice B.sA B.thins.length B.sCap, .int .i64 B.hot, .int .i64 B.least, .int .i64 B.clo, .int .i64 B.chi, .int .i64 B.coal, .slice B.kA B.looks.length B.kCap] ∧ Keep (fun k => k = n12 ∨ k = bm) WB w') 6 (by kernel_rfl) ?_ (fun hHeld => ?_)
          · exact ⟨HE.out.kC.below ((Below.refl _ _).drew), HkB.out.below ((Below.refl _ _).drew), Keep.of_below ((Below.refl _ _).drew)⟩
          first | (refine anyT_take 0 (some 42) (v := ?_) rfl rfl (by kernel_rfl) (by kernel_rfl) (by kernel_rfl) (by kernel_rfl) (fun _ _ _ h => h) (Or.inl ⟨by rfl, ?_⟩) hHeld ?_; rotate_left; focus (intro wq hSw; obtain ⟨⟨c13, f13, l13⟩, ⟨c10, f10, l10⟩, _⟩ := hSw; go_simp; (try with_reducible rfl); done))
          (try simp only [Act.put, List.setIfInBounds_toArray, List.set_cons_zero, List.set_cons_succ])
          first | (refine anyT_take 1 (some 43) (v := ?_) rfl rfl (by kernel_rfl) (by kernel_rfl) (by kernel_rfl) (by kernel_rfl) (fun _ _ _ h => h) (Or.inl ⟨by rfl, ?_⟩) hHeld ?_; rotate_left; focus (intro wq hSw; obtain ⟨⟨c13, f13, l13⟩, ⟨c10, f10, l10⟩, _⟩ := hSw; go_simp; (try with_reducible rfl); done))
          (try simp only [Act.put, List.setIfInBounds_toArray, List.set_cons_zero, List.set_cons_succ])
          refine anyT_one 2 (by kernel_rfl) rfl (fun K hK => ?_)
          go_simp
          refine (eq0_1 (v' := B.val) (by unfold ForgeV.val ForgeV.cells; rfl) (stock_calls B Hg.out _ (HB.out.below (below_then HE.out.old HE.out.old.size ((Below.refl _ _).drew))))).mono ?_; rintro e w7 ⟨rfl, hb7⟩; have hb7' : Below WB.heap.size WB w7 := ((Below.refl _ _).drew).trans hb7; rw [show pad4 (stockS B) = #[.int .i64 (gi (stockS B) 0), .int .i64 (gi (stockS B) 1), .int .i64 (gi (stockS B) 2), .int .i64 (gi (stockS B) 3)] from rfl]
          refine hK.out _ _ ?_ (fun hHeld => ?_)
          · exact ⟨hHeld.1.below hb7, hHeld.2.1.below hb7, Keep.of_below hb7'⟩
          clear hK K
          (try simp only [Act.put, List.setIfInBounds_toArray, List.set_cons_zero, List.set_cons_succ])
          first | (refine anyT_take 3 (some 45) (v := ?_) rfl rfl (by kernel_rfl) (by kernel_rfl) (by kernel_rfl) (by kernel_rfl) (fun _ _ _ h => h) (Or.inl ⟨by rfl, ?_⟩) hHeld ?_; rotate_left; focus (intro wq hSw; obtain ⟨⟨c13, f13, l13⟩, ⟨c10, f10, l10⟩, _⟩ := hSw; go_simp; (try with_reducible rfl); done))
          (try simp only [Act.put, List.setIfInBounds_toArray, List.set_cons_zero, List.set_cons_succ])
          refine anyT_one 4 (by kernel_rfl) rfl (fun K hK => ?_)
          go_simp
          refine (cast_calls B Hg.out sizes A c w HB.out HM.out HP.out n3 n11 n10 n13 n12 bm hs4.2 Hsz.out hap sizes.length (stockS B) 0 _ [] (by simp [stockS]) (fun k => stock_bd Hg.out k) (by omega) (HE.out.below hb7') (Hmm.out.below hb7') (fun _ _ _ h => by cases h)).mono ?_; rintro e w8 hp8; obtain ⟨b8, rfl, hb8⟩ := hp8.split
          refine hK.out _ _ ?_ (fun hHeld => ?_)
          · exact cast_held hHeld.1 hHeld.2.1 (Keep.of_below hb7') hb8 (by omega) (by omega)
          clear hK K
          (try simp only [Act.put, List.setIfInBounds_toArray, List.set_cons_zero, List.set_cons_succ])
          first | (refine anyT_take 5 (some 47) (v := ?_) rfl rfl (by kernel_rfl) (by kernel_rfl) (by kernel_rfl) (by kernel_rfl) (fun _ _ _ h => h) (Or.inl ⟨by rfl, ?_⟩) hHeld ?_; rotate_left; focus (intro wq hSw; obtain ⟨⟨c13, f13, l13⟩, ⟨c10, f10, l10⟩, _⟩ := hSw; go_simp; (try with_reducible rfl); done))
          (try simp only [Act.put, List.setIfInBounds_toArray, List.set_cons_zero, List.set_cons_succ])
          refine anyT_done (by kernel_rfl) ?_ _
          have HW := Lib.hid (below_then HE.out.old HE.out.old.size hb7')
          have hkb := hHeld.2.1
          clear hHeld hb7 hp8 HkB
          rcases hb8 with ⟨rfl, ⟨ms, v, hcs, hkO, hO⟩, hk8⟩ | ⟨rfl, hcn, _, hk8⟩
          · have hcs0 : castsS B (stockS B) sizes = some ms := hcs
            have Hcs := Lib.hid hcs0
            have hml := castsS_len B _ _ _ hcs0
            have Hrow := Lib.hid (castsS_rows B _ _ _ (fun k => (stock_bd Hg.out k).1) hcs0)
            have H8 := Lib.hid (HW.out.trans (hk8.below (fun k _ e => by omega) HW.out.size))
            have K12 := Lib.hid hkO
            have K10 := Lib.hid hkb
            have hmp : 0 < ms.length := by omega
            obtain ⟨gB, cB, rfl, hbr, hcB, hcm, hgl⟩ := hO.reads (by simpa using hmp)
            rw [List.length_reverse] at hcB hkO K12
            have Hbr := Lib.hid hbr
            have Hml := Lib.hid hml
            obtain ⟨c12, f12, l12⟩ := hkO
            clear hcs hcs0 hml hk8 hO hbr hkb
            go_upto_block 2 with (fail)
            clear c12 f12 l12
            go_wp2
            go_loopg [50, 14] ms.length (fun gk2 q v wr2 => ∃ k : Nat, k ≤ ms.length ∧ gk2 = ms.length - k ∧ q = .int .i64 k ∧ OwnRows wr2 w8.heap.size v (ms.take k) ∧ Below w8.heap.size w8 wr2)
            case atStart => exact ⟨0, Nat.zero_le _, rfl, rfl, OwnRows.nil _ _, Below.refl _ _⟩
            case round =>
              obtain ⟨k, hk, hgk, rfl, hown, hBe⟩ := hrel
              have Hgk := Lib.hid hgk
              have Hown := Lib.hid hown
              have HBe := Lib.hid hBe
              clear hgk hown hBe
              by_cases hlt : k < ms.length
              · have hki : (k : Int) < ms.length := by omega
                have hm4 : (ms.length : Int) ≤ 4 := by have := Hml.out; omega
                have hrl : (gm ms k).length = B.lots.length := by
                  rw [Hrow.out (gm ms k) (by unfold gm; rw [List.getD_eq_getElem?_getD, List.getElem?_eq_getElem hlt]; exact List.getElem_mem _)]
                  simp [stockS]
                have hrev : ms.length - 1 - k < ms.reverse.length := by rw [List.length_reverse]; omega
                obtain ⟨b0, b1, b2, b3⟩ := Hbr.out (ms.length - 1 - k) hrev
                rw [gm_reverse ms k hlt] at b0 b1 b2 b3
                replace b0 := cell_below HBe.out b0
                replace b1 := cell_below HBe.out b1
                replace b2 := cell_below HBe.out b2
                replace b3 := cell_below HBe.out b3
                have K12r := Lib.hid (K12.out.below HBe.out)
                have hkr := K10.out.below HBe.out
                have hw1 : IntKind.i64.wrap ((ms.length : Int) - 1) = (ms.length : Int) - 1 := wrap_in (by omega) (by omega)
                have hw2 : IntKind.i64.wrap ((ms.length : Int) - 1 - k) = ((ms.length - 1 - k : Nat) : Int) := by rw [wrap_in (by omega) (by omega)]; omega
                have hix : ((ms.length - 1 - k : Nat) : Int) < ms.length := by omega
                have hix0 : (0 : Int) ≤ ((ms.length - 1 - k : Nat) : Int) := by omega
                have hgl2 : gB < wr.heap.size := Nat.lt_of_lt_of_le hgl HBe.out.size
                have Htk := Lib.hid (take_snoc4 ms k hlt)
                have Hrl := Lib.hid hrl
                have HBk := Lib.hid hkr
                generalize hix9 : ms.length - 1 - k = ix at *
                generalize gm ms k = m at *
                clear hrl hkr hrev hix9
                go_upto_region 23 with (fail)
                obtain ⟨c12, f12, l12⟩ := K12r.out
                obtain ⟨c10, f10, l10⟩ := HBk.out
                have hBr : Below w.heap.size w wr := below_then H8.out H8.out.size HBe.out
                have hs8 := HBe.out.size
                have hl12 := K12.out.lt
                have hl10 := K10.out.lt
                refine region_plain (S := fun w' => Below w8.heap.size wr w') 14 (by kernel_rfl) ?_ (fun hHeld => ?_)
                · exact (Below.refl _ _).drew
                first | (refine anyT_take 0 (some 53) (v := ?_) rfl rfl (by kernel_rfl) (by kernel_rfl) (by kernel_rfl) (by kernel_rfl) (fun _ _ _ h => h) (Or.inl ⟨by rfl, ?_⟩) hHeld ?_; rotate_left; focus (intro wq hSw; obtain ⟨hcq, hfq⟩ := bcellN hSw; go_simp; (try with_reducible rfl); done))
                (try simp only [Act.put, List.setIfInBounds_toArray, List.set_cons_zero, List.set_cons_succ])
                first | (refine anyT_take 1 (some 54) (v := ?_) rfl rfl (by kernel_rfl) (by kernel_rfl) (by kernel_rfl) (by kernel_rfl) (fun _ _ _ h => h) (Or.inl ⟨by rfl, ?_⟩) hHeld ?_; rotate_left; focus (intro wq hSw; obtain ⟨hcq, hfq⟩ := bcellN hSw; go_simp; (try with_reducible rfl); done))
                (try simp only [Act.put, List.setIfInBounds_toArray, List.set_cons_zero, List.set_cons_succ])
                first | (refine anyT_take 2 (some 55) (v := ?_) rfl rfl (by kernel_rfl) (by kernel_rfl) (by kernel_rfl) (by kernel_rfl) (fun _ _ _ h => h) (Or.inl ⟨by rfl, ?_⟩) hHeld ?_; rotate_left; focus (intro wq hSw; obtain ⟨hcq, hfq⟩ := bcellN hSw; go_simp; (try with_reducible rfl); done))
                (try simp only [Act.put, List.setIfInBounds_toArray, List.set_cons_zero, List.set_cons_succ])
                first | (refine anyT_take 3 (some 56) (v := ?_) rfl rfl (by kernel_rfl) (by kernel_rfl) (by kernel_rfl) (by kernel_rfl) (fun _ _ _ h => h) (Or.inl ⟨by rfl, ?_⟩) hHeld ?_; rotate_left; focus (intro wq hSw; obtain ⟨hcq, hfq⟩ := bcellN hSw; go_simp; (try with_reducible rfl); done))
                (try simp only [Act.put, List.setIfInBounds_toArray, List.set_cons_zero, List.set_cons_succ])
                first | (refine anyT_take 4 (some 57) (v := ?_) rfl rfl (by kernel_rfl) (by kernel_rfl) (by kernel_rfl) (by kernel_rfl) (fun _ _ _ h => h) (Or.inl ⟨by rfl, ?_⟩) hHeld ?_; rotate_left; focus (intro wq hSw; obtain ⟨hcq, hfq⟩ := bcellN hSw; go_simp; (try with_reducible rfl); done))
                (try simp only [Act.put, List.setIfInBounds_toArray, List.set_cons_zero, List.set_cons_succ])
                first | (refine anyT_take 5 (some 58) (v := ?_) rfl rfl (by kernel_rfl) (by kernel_rfl) (by kernel_rfl) (by kernel_rfl) (fun _ _ _ h => h) (Or.inl ⟨by rfl, ?_⟩) hHeld ?_; rotate_left; focus (intro wq hSw; obtain ⟨hcq, hfq⟩ := bcellN hSw; go_simp; (try with_reducible rfl); done))
                (try simp only [Act.put, List.setIfInBounds_toArray, List.set_cons_zero, List.set_cons_succ])
                first | (refine anyT_take 6 (some 59) (v := ?_) rfl rfl (by kernel_rfl) (by kernel_rfl) (by kernel_rfl) (by kernel_rfl) (fun _ _ _ h => h) (Or.inl ⟨by rfl, ?_⟩) hHeld ?_; rotate_left; focus (intro wq hSw; obtain ⟨hcq, hfq⟩ := bcellN hSw; go_simp; (try with_reducible rfl); done))
                (try simp only [Act.put, List.setIfInBounds_toArray, List.set_cons_zero, List.set_cons_succ])
                first | (refine anyT_take 7 (some 60) (v := ?_) rfl rfl (by kernel_rfl) (by kernel_rfl) (by kernel_rfl) (by kernel_rfl) (fun _ _ _ h => h) (Or.inl ⟨by rfl, ?_⟩) hHeld ?_; rotate_left; focus (intro wq hSw; obtain ⟨hcq, hfq⟩ := bcellN hSw; go_simp; (try with_reducible rfl); done))
                (try simp only [Act.put, List.setIfInBounds_toArray, List.set_cons_zero, List.set_cons_succ])
                first | (refine anyT_take 8 (some 61) (v := ?_) rfl rfl (by kernel_rfl) (by kernel_rfl) (by kernel_rfl) (by kernel_rfl) (fun _ _ _ h => h) (Or.inl ⟨by rfl, ?_⟩) hHeld ?_; rotate_left; focus (intro wq hSw; obtain ⟨hcq, hfq⟩ := bcellN hSw; go_simp; (try with_reducible rfl); done))
                (try simp only [Act.put, List.setIfInBounds_toArray, List.set_cons_zero, List.set_cons_succ])
                first | (refine anyT_take 9 (some 62) (v := ?_) rfl rfl (by kernel_rfl) (by kernel_rfl) (by kernel_rfl) (by kernel_rfl) (fun _ _ _ h => h) (Or.inl ⟨by rfl, ?_⟩) hHeld ?_; rotate_left; focus (intro wq hSw; obtain ⟨hcq, hfq⟩ := bcellN hSw; go_simp; (try with_reducible rfl); done))
                (try simp only [Act.put, List.setIfInBounds_toArray, List.set_cons_zero, List.set_cons_succ])
                refine anyT_one 10 (by kernel_rfl) rfl (fun K hK => ?_)
                go_simp
                refine (eq0_2 (v' := B.val) (by unfold ForgeV.val ForgeV.cells; rfl) (list_calls B Hg.out m Hrl.out _)).mono ?_; rintro e w9 ⟨A9, rfl, hi9, hA9, hb9⟩; have hb9' : Below wr.heap.size wr w9 := ((Below.refl _ _).drew).trans hb9
                refine hK.out _ _ ?_ (fun hHeld => ?_)
                · exact hb9'.mono hs8
                clear hK K
                (try simp only [Act.put, List.setIfInBounds_toArray, List.set_cons_zero, List.set_cons_succ])
                refine anyT_one 11 (by kernel_rfl) rfl (fun K hK => ?_)
                go_simp
                refine hK.out _ _ ?_ (fun hHeld => ?_)
                · exact hHeld.alloc (Nat.le_trans hs8 hHeld.size) _
                clear hK K
                (try simp only [Act.put, List.setIfInBounds_toArray, List.set_cons_zero, List.set_cons_succ])
                refine anyT_one 12 (by kernel_rfl) rfl (fun K hK => ?_)
                rw [if_pos (by rfl)]; refine wp_appR _ _ _ rfl w8.heap.size _ (ms.take k) rfl (Hown.out.below (hb9'.alloc hb9'.size _)) _ 1 m A9 m.length rfl (cell_new1 _ _ _) (Nat.le_refl _) (hi9.below ((Below.refl _ _).alloc (Nat.le_refl _) _)) (rows_apart Hown.out hi9 hA9 (Nat.le_refl _) (by have := Hrl.out; have := Hg.out.many; omega)) (by rw [List.length_take]; omega) (by have := hHeld.size; omega) ?_; intro v' w10 ho10 hb10
                go_simp
                refine hK.out _ _ ?_ (fun hHeld => ?_)
                · exact hHeld.trans hb10
                clear hK K
                (try simp only [Act.put, List.setIfInBounds_toArray, List.set_cons_zero, List.set_cons_succ])
                first | (refine anyT_take 13 (some 14) (v := ?_) rfl rfl (by kernel_rfl) (by kernel_rfl) (by kernel_rfl) (by kernel_rfl) (fun _ _ _ h => h) (Or.inl ⟨by rfl, ?_⟩) hHeld ?_; rotate_left; focus (intro wq hSw; obtain ⟨hcq, hfq⟩ := bcellN hSw; go_simp; (try with_reducible rfl); done))
                (try simp only [Act.put, List.setIfInBounds_toArray, List.set_cons_zero, List.set_cons_succ])
                refine anyT_done (by kernel_rfl) ?_ _
                have Ho10 := Lib.hid ho10
                have HB10 := Lib.hid (HBe.out.trans hHeld)
                clear ho10 hHeld hb10 hb9 hb9' hi9 hA9 c12 f12 l12 c10 f10 l10 b0 b1 b2 b3 hBr
                go_wp2
                go_roundg (ms.length - (k + 1))
                case measure => have := Hgk.out; omega
                case rel => exact ⟨k + 1, by omega, rfl, by go_num, by rw [Htk.out]; exact Ho10.out, HB10.out⟩
              · obtain rfl : k = ms.length := by omega
                have ho := Hown.out
                rw [List.take_length] at ho
                obtain ⟨gR, cR, rfl, hrw, hrc, hrm⟩ := ho.reads hmp
                have HF := Lib.hid (below_then H8.out H8.out.size HBe.out)
                have Hrw := Lib.hid hrw
                clear ho hrw
                go_wp2
                go_ret2
                exact ⟨.inr (.inr (.inr ⟨Hgg.out, Hok.out, ms, _, Hcs.out, rfl, Hrw.out⟩)), HF.out⟩
          · have Hcn := Lib.hid (show castsS B (stockS B) sizes = none from hcn)
            have H8 := Lib.hid (HW.out.trans (hk8.below (fun k _ e => by omega) HW.out.size))
            clear hcn hk8
            go_wp2
            go_ret2
            exact ⟨.inr (.inr (.inl ⟨Hgg.out, Hok.out, Hcn.out, rfl⟩)), H8.out⟩
end
end Go.Proofs.YtgfbfbfajnfbjaaDoor
