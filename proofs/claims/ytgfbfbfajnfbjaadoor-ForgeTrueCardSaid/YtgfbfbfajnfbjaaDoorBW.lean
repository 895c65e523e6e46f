import Derived.Test.YtgfbfbfajnfbjaaDoorBV
import Derived.Test.YtgfbfbfajnfbjaaDoorT
namespace Go.Proofs.YtgfbfbfajnfbjaaDoor
section
open Go.RowKit Go.Shelf
attribute [local go_sem] Oper.semAt_some
set_option linter.unusedSimpArgs false
set_option linter.unusedVariables false
theorem Keep.of_belowN {n : Nat} {a b : World} (h : Below n a b) : Keep (fun q => n ≤ q) a b := ⟨h.os, h.tape, h.output, h.size, fun i hi hn => h.block i (by omega)⟩
theorem OwnLooks.keepM {M : Nat → Prop} {w w' : World} {base : Nat} {v : Value} {l : List LookV} (h : OwnLooks w base v l) (k : Keep M w w') (hm : ∀ g, base ≤ g → ¬ M g) : OwnLooks w' base v l := by
  have hlt := World.ownsRow.lt h
  obtain ⟨h1, h2⟩ := h
  refine ⟨h1, h2.imp id ?_⟩
  rintro ⟨g, cap, cur, e1, e2, e3, e4⟩
  have hg : v.ownBlock = some g := by rw [e1]; rfl
  exact ⟨g, cap, cur, e1, e2, (k.block g (hlt g hg).2 (hm g e2)).trans e3, e4⟩
theorem without_cells (B : ForgeV) (A : Option Addr) (c : Nat) (l : List Int) : (without B A c l).cells = #[.slice B.lA B.lots.length B.lCap, .int .i64 B.tlo, .int .i64 B.thi, .int .i64 B.thick, .int .i64 B.crack, .int .i64 B.glo, .int .i64 B.ghi, .slice B.sA B.thins.length B.sCap,
    .int .i64 B.hot, .int .i64 B.least, .int .i64 B.clo, .int .i64 B.chi, .int .i64 B.coal, .slice A (keptTo B l B.looks.length).length c] := rfl
def WithoutR (B : ForgeV) (l : List Int) (e : Ending) (w' : World) : Prop := ∃ A c, e = .returned (without B A c l).val ∧ (without B A c l).Reads w'
set_option maxRecDepth 100000 in
set_option maxHeartbeats 4000000 in
theorem without_calls (B : ForgeV) (hlen : B.looks.length ≤ 8) (A' : Option Addr) (c' : Nat) (l : List Int) (w : World) (hB : B.Reads w) (hp : IntsAt w A' l) :
    Calls Tryd.prog 60 #[B.val, .slice A' l.length c'] w fun e w' => WithoutR B l e w' ∧ Below w.heap.size w w' := by
  have HB0 := Lib.hid hB
  have Hl0 := Lib.hid hp
  clear hB hp
  have hcells : B.val = .agg B.cells := rfl
  rw [hcells]
  have k2 := (BoxAt.new w B.cells 28).alloc (.cells zeroF 28)
  have k4 := BoxAt.new (w.alloc (.cells B.cells 28)) zeroF 28
  have Hb : Below w.heap.size w ((w.alloc (.cells B.cells 28)).alloc (.cells zeroF 28)) := ((Below.refl _ _).alloc (Nat.le_refl _) _).alloc (by simp) _
  rw [World.size_alloc] at k4
  unfold zeroF at k2 k4 Hb
  unfold ForgeV.cells at k2 k4 Hb ⊢
  go_enter Tryd.func60, Tryd.ntmps60
  go_upto_region 1 with fail
  generalize World.alloc (World.alloc w _) _ = w1 at *
  have hn4 : w.heap.size < w.heap.size + 1 := Nat.lt_succ_self _
  generalize w.heap.size + 1 = n4 at *
  have H1 := Lib.hid Hb
  have K2 := Lib.hid k2
  have K4 := Lib.hid k4
  have h24 := k4.lt
  obtain ⟨c2, f2, l2⟩ := k2
  clear Hb k4
  go_upto_region 2 with (fail)
  have hb : Below w1.heap.size w1 (w1.alloc (.cells B.cells 28)) := (Below.refl _ _).alloc (Nat.le_refl _) _
  have k5 := BoxAt.new w1 B.cells 28
  unfold ForgeV.cells at hb k5
  generalize World.alloc w1 _ = W5 at *
  replace H1 := Lib.hid (below_then H1.out H1.out.size hb)
  replace K2 := Lib.hid (K2.out.below hb)
  replace K4 := Lib.hid (K4.out.below hb)
  generalize w1.heap.size = n5 at *
  have K5 := Lib.hid k5
  clear hb c2 f2 l2
  obtain ⟨c5, f5, l5⟩ := k5
  go_upto_block 0 with (fail)
  have hk3 : Keep (fun q => q = n5) W5 (W5.setCell ⟨n5, 13, none⟩ (.slice none 0 0)) := Keep.setCell (M := fun q => q = n5) (Keep.refl _ _) (p := ⟨n5, 13, none⟩) (.inl rfl) _
  have k5 : BoxAt (W5.setCell ⟨n5, 13, none⟩ (.slice none 0 0)) n5 #[.slice B.lA B.lots.length B.lCap, .int .i64 B.tlo, .int .i64 B.thi, .int .i64 B.thick, .int .i64 B.crack, .int .i64 B.glo, .int .i64 B.ghi, .slice B.sA B.thins.length B.sCap, .int .i64 B.hot, .int .i64 B.least, .int .i64 B.clo, .int .i64 B.chi, .int .i64 B.coal, .slice none 0 0] := K5.out.put 13 (.slice none 0 0) (by simp)
  have HK3 := Lib.hid hk3
  have K5 := Lib.hid k5
  clear hk3 k5 c5 f5
  generalize World.setCell W5 _ _ = W6 at *
  go_wp2
  go_loopg [6] B.looks.length (fun gq i wr => ∃ k : Nat, k ≤ B.looks.length ∧ gq = B.looks.length - k ∧ i = .int .i64 k ∧ ∃ v, BoxAt wr n5 #[.slice B.lA B.lots.length B.lCap, .int .i64 B.tlo, .int .i64 B.thi, .int .i64 B.thick, .int .i64 B.crack, .int .i64 B.glo, .int .i64 B.ghi, .slice B.sA B.thins.length B.sCap, .int .i64 B.hot, .int .i64 B.least, .int .i64 B.clo, .int .i64 B.chi, .int .i64 B.coal, v] ∧ OwnLooks wr W5.heap.size v (keptTo B l k) ∧ Keep (fun q => q = n5) W5 wr)
  case atStart => exact ⟨0, Nat.zero_le _, rfl, rfl, _, K5.out, OwnLooks.nil _ _, HK3.out⟩
  case round =>
    obtain ⟨k, hk, hgk, rfl, v, k5, hown, hkw⟩ := hrel
    have Hgk := Lib.hid hgk
    have Hown := Lib.hid hown
    have Hkw := Lib.hid hkw
    have HBr := Lib.hid (H1.out.trans (hkw.below (n := w.heap.size) (fun q _ e => by omega) H1.out.size))
    have K5r := Lib.hid k5
    have k2 := K2.out.keep hkw (by omega)
    clear hgk hown hkw
    obtain ⟨c2, f2, l2⟩ := k2
    by_cases hlt : k < B.looks.length
    · have hki : (k : Int) < B.looks.length := by omega
      have hs := keptTo_succ B l k
      by_cases hm : (k : Int) ∈ l
      · rw [if_pos hm, List.append_nil] at hs
        have Hs := Lib.hid hs
        have Hm := Lib.hid hm
        clear hs hm
        go_wp2_with (go_at_call 56; refine (Where_calls _ _ _ _ _ (Hl0.out.below HBr.out)).mono ?_; rintro e w' ⟨⟨r, rfl, hr⟩, rfl⟩; replace hr : ¬ r < 0 := (by rcases hr with h | h; exact Int.not_lt.2 h.1; exact absurd Hm.out h.2))
        go_roundg (B.looks.length - (k + 1))
        case measure => have := Hgk.out; omega
        case rel => exact ⟨k + 1, by omega, rfl, by go_num, v, K5r.out, by rw [Hs.out]; exact Hown.out, Hkw.out⟩
      · rw [if_neg hm] at hs
        have Hs := Lib.hid hs
        have Hm := Lib.hid hm
        clear hs hm
        obtain ⟨kb, ko, hkA⟩ := HB0.out.looks.some_ (by omega)
        have hlks := HB0.out.looks
        rw [hkA] at hlks c2
        have hpc := hlks.at_ hlt
        have p0 := (HBr.out.cell (World.block_lt_of_cell? _ _ hpc.1)).trans hpc.1
        have p1 := (HBr.out.cell (World.block_lt_of_cell? _ _ hpc.2.1)).trans hpc.2.1
        have p2 := (HBr.out.cell (World.block_lt_of_cell? _ _ hpc.2.2)).trans hpc.2.2
        have pbl := World.block_lt_of_cell? _ _ hpc.1
        have h5s := H1.out.size
        have h2w : w.heap.size < W5.heap.size := K2.out.lt
        simp only at pbl
        have hkb : kb < W5.heap.size := by omega
        have HkA := Lib.hid hkA
        clear hpc hlks hkA
        obtain ⟨c5, f5, _⟩ := k5
        go_upto_region 7 with (go_at_call 56; refine (Where_calls _ _ _ _ _ (Hl0.out.below HBr.out)).mono ?_; rintro e w' ⟨⟨r, rfl, hr⟩, rfl⟩; replace hr : r < 0 := (by rcases hr with h | h; exact absurd h.2 Hm.out; exact h.1))
        refine region_plain (S := fun w' => Below W5.heap.size wr w') 10 (by kernel_rfl) ?_ (fun hHeld => ?_)
        · exact (Below.refl _ _).drew
        have hownd : OwnLooks wr.drew W5.heap.size v (keptTo B l k) := Hown.out.below (Below.refl _ _).drew; generalize hWd : World.drew wr = Wd at *; have hws : W5.heap.size ≤ wr.heap.size := Hkw.out.size
        first | (refine anyT_take 0 (some 20) (v := ?_) rfl rfl (by kernel_rfl) (by kernel_rfl) (by kernel_rfl) (by kernel_rfl) (fun _ _ _ h => h) (Or.inl ⟨by rfl, ?_⟩) hHeld ?_; rotate_left; focus (intro wq hSw; obtain ⟨hcq, hfq⟩ := bcellN hSw; go_simp; (try with_reducible rfl); done))
        (try simp only [Act.put, List.setIfInBounds_toArray, List.set_cons_zero, List.set_cons_succ])
        first | (refine anyT_take 1 (some 21) (v := ?_) rfl rfl (by kernel_rfl) (by kernel_rfl) (by kernel_rfl) (by kernel_rfl) (fun _ _ _ h => h) (Or.inl ⟨by rfl, ?_⟩) hHeld ?_; rotate_left; focus (intro wq hSw; obtain ⟨hcq, hfq⟩ := bcellN hSw; go_simp; (try with_reducible rfl); done))
        (try simp only [Act.put, List.setIfInBounds_toArray, List.set_cons_zero, List.set_cons_succ])
        first | (refine anyT_take 2 (some 22) (v := ?_) rfl rfl (by kernel_rfl) (by kernel_rfl) (by kernel_rfl) (by kernel_rfl) (fun _ _ _ h => h) (Or.inl ⟨by rfl, ?_⟩) hHeld ?_; rotate_left; focus (intro wq hSw; obtain ⟨hcq, hfq⟩ := bcellN hSw; go_simp; (try with_reducible rfl); done))
        (try simp only [Act.put, List.setIfInBounds_toArray, List.set_cons_zero, List.set_cons_succ])
        first | (refine anyT_take 3 (some 23) (v := ?_) rfl rfl (by kernel_rfl) (by kernel_rfl) (by kernel_rfl) (by kernel_rfl) (fun _ _ _ h => h) (Or.inl ⟨by rfl, ?_⟩) hHeld ?_; rotate_left; focus (intro wq hSw; obtain ⟨hcq, hfq⟩ := bcellN hSw; go_simp; (try with_reducible rfl); done))
        (try simp only [Act.put, List.setIfInBounds_toArray, List.set_cons_zero, List.set_cons_succ])
        first | (refine anyT_take 4 (some 24) (v := ?_) rfl rfl (by kernel_rfl) (by kernel_rfl) (by kernel_rfl) (by kernel_rfl) (fun _ _ _ h => h) (Or.inl ⟨by rfl, ?_⟩) hHeld ?_; rotate_left; focus (intro wq hSw; obtain ⟨hcq, hfq⟩ := bcellN hSw; go_simp; (try with_reducible rfl); done))
        (try simp only [Act.put, List.setIfInBounds_toArray, List.set_cons_zero, List.set_cons_succ])
        first | (refine anyT_take 5 (some 25) (v := ?_) rfl rfl (by kernel_rfl) (by kernel_rfl) (by kernel_rfl) (by kernel_rfl) (fun _ _ _ h => h) (Or.inl ⟨by rfl, ?_⟩) hHeld ?_; rotate_left; focus (intro wq hSw; obtain ⟨hcq, hfq⟩ := bcellN hSw; go_simp; (try with_reducible rfl); done))
        (try simp only [Act.put, List.setIfInBounds_toArray, List.set_cons_zero, List.set_cons_succ])
        first | (refine anyT_take 6 (some 26) (v := ?_) rfl rfl (by kernel_rfl) (by kernel_rfl) (by kernel_rfl) (by kernel_rfl) (fun _ _ _ h => h) (Or.inl ⟨by rfl, ?_⟩) hHeld ?_; rotate_left; focus (intro wq hSw; obtain ⟨hcq, hfq⟩ := bcellN hSw; go_simp; (try with_reducible rfl); done))
        (try simp only [Act.put, List.setIfInBounds_toArray, List.set_cons_zero, List.set_cons_succ])
        refine anyT_one 7 (by kernel_rfl) rfl (fun K hK => ?_)
        go_simp
        refine hK.out _ _ ?_ (fun hHeld => ?_)
        · exact hHeld.alloc (by have := hHeld.size; omega) _
        clear hK K
        (try simp only [Act.put, List.setIfInBounds_toArray, List.set_cons_zero, List.set_cons_succ])
        refine anyT_one 8 (by kernel_rfl) rfl (fun K hK => ?_)
        rw [if_pos (by rfl)]; refine wp_appLooks _ _ _ rfl W5.heap.size v (keptTo B l k) rfl (hownd.alloc _) (some ⟨_, 0, none⟩) 1 [⟨(glk B.looks k).blows, (glk B.looks k).thick, (glk B.looks k).err⟩] rfl (LooksAt.of1 (BoxAt.new _ _ _)) (by have := keptTo_le B l k; simp; omega) (by have := hHeld.size; omega) ?_; rintro v8 w8 ho8 hb8 _; have hb8' := hHeld.trans hb8; obtain ⟨A8, c8, rfl, _, _⟩ := ho8.reads (by have := keptTo_le B l k; simp; omega); simp only [List.length_append, List.length_cons, List.length_nil, Nat.zero_add] at ho8
        go_simp
        refine hK.out _ _ ?_ (fun hHeld => ?_)
        · exact hb8'
        clear hK K
        (try simp only [Act.put, List.setIfInBounds_toArray, List.set_cons_zero, List.set_cons_succ])
        first | (refine anyT_take 9 (some 29) (v := ?_) rfl rfl (by kernel_rfl) (by kernel_rfl) (by kernel_rfl) (by kernel_rfl) (fun _ _ _ h => h) (Or.inl ⟨by rfl, ?_⟩) hHeld ?_; rotate_left; focus (intro wq hSw; obtain ⟨hcq, hfq⟩ := bcellN hSw; go_simp; (try with_reducible rfl); done))
        (try simp only [Act.put, List.setIfInBounds_toArray, List.set_cons_zero, List.set_cons_succ])
        refine anyT_last (by kernel_rfl) rfl (fun K hK => ?_)
        obtain ⟨c5, f5, l5x⟩ := K5r.out.keep (Keep.of_belowN hHeld) (by omega)
        go_simp
        refine hK.out _ _ ?_
        clear hK K
        (try simp only [Act.put, List.setIfInBounds_toArray, List.set_cons_zero, List.set_cons_succ])
        refine anyT_done (by kernel_rfl) ?_ _
        have hk3 : Keep (fun q => q = n5) w8 (w8.setCell ⟨n5, 13, none⟩ (.slice A8 ((keptTo B l k).length + 1) c8)) := Keep.setCell (M := fun q => q = n5) (Keep.refl _ _) (p := ⟨n5, 13, none⟩) (.inl rfl) _
        have Hk3 := Lib.hid hk3
        have Ho8 := Lib.hid ho8
        have Hh8 := Lib.hid hHeld
        clear hk3 ho8 hHeld
        go_wp2
        go_roundg (B.looks.length - (k + 1))
        case measure => have := Hgk.out; omega
        case rel => exact ⟨k + 1, by omega, rfl, by go_num, .slice A8 ((keptTo B l k).length + 1) c8, (K5r.out.keep (Keep.of_belowN Hh8.out) (by omega)).put 13 (.slice A8 ((keptTo B l k).length + 1) c8) (by simp), by rw [Hs.out]; exact OwnLooks.keepM Ho8.out Hk3.out (fun q h => by omega), Keep.trans' (Keep.trans' Hkw.out (Keep.of_belowN Hh8.out) (fun q h1 h2 => by omega)) Hk3.out (fun q _ h => h)⟩
    · obtain rfl : k = B.looks.length := by omega
      obtain ⟨A8, c8, rfl, hl8, hg8⟩ := Hown.out.reads (by have := keptTo_le B l B.looks.length; omega)
      have Hl8 := Lib.hid hl8
      have Hg8 := Lib.hid hg8
      have k4 := K4.out.keep Hkw.out (by omega)
      have K4 := Lib.hid k4
      clear hl8 hg8
      obtain ⟨c5, f5, _⟩ := k5
      obtain ⟨c4, f4, l4⟩ := k4
      go_wp2
      change bodyPost _ _ _ _ _ (putAll wr n4 0 (without B A8 c8 l).cells.toList)
      have k9 := putAll_box K4.out (without B A8 c8 l).cells.toList rfl
      have hkp := putAll_keep n4 (without B A8 c8 l).cells.toList 0 wr
      have hF := HBr.out.trans (hkp.below (n := w.heap.size) (fun q _ e => by omega) HBr.out.size)
      have hR : (without B A8 c8 l).Reads (putAll wr n4 0 (without B A8 c8 l).cells.toList) := by
        have h := HB0.out.below hF
        exact ⟨h.lots, h.thins, Hl8.out.keep hkp (fun b o e => by have := Hg8.out b o e; omega)⟩
      generalize putAll wr n4 0 (without B A8 c8 l).cells.toList = Z at *
      rw [without_cells] at k9
      obtain ⟨c9, f9, l9⟩ := k9
      exact bodyPost_ret (v := (without B A8 c8 l).val) (by simp [results, Tryd.results60, go_sem, c9, without_cells, ForgeV.val]) rfl ⟨⟨A8, c8, rfl, hR⟩, hF⟩
end
end Go.Proofs.YtgfbfbfajnfbjaaDoor
