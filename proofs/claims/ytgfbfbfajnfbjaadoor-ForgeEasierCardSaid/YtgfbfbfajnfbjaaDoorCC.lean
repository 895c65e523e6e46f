/- PROVED: ForgeEasier (its tied card): for every input, wherever its slices lie and whatever they share, the law returns true and every argument reads behind the call as it read before. Conditions: none beyond the card's own (the package's table of two methods is as the program's text lays it). -/
import Derived.Test.YtgfbfbfajnfbjaaDoorBG
import Derived.Test.YtgfbfbfajnfbjaaDoorCB
namespace Go.Proofs.YtgfbfbfajnfbjaaDoor
set_option linter.unusedVariables false
set_option linter.unusedSimpArgs false
open Go.ChangeShapes Go.WideShapes Go.ChangeAt Go.RowKit

section
variable {H : Type} {enc : TypeId × Value → H} {w : World} {fuel : Nat}
set_option maxRecDepth 100000 in
theorem open_three {base : Nat} {r : Reach} {v : Value} {d : DataW H} {ps : List MemPlace} (hv : Value.okWide Tryd.prog w r base 66 v) (h : DataW.Trod enc Tryd.prog w 0 (fun _ => true) true 66 v d ps) : ∃ a b c, v = .agg #[.int .i64 a, .int .i64 b, .int .i64 c] := by
  have ua : Tryd.prog.underlying 66 = some (.array 3 3) := by kernel_rfl
  have ca : Tryd.prog.cellsOf 66 = 3 := by kernel_rfl
  unfold Value.okWide at hv
  rw [ua] at hv
  obtain ⟨cs, rfl, hsz, _⟩ := hv
  rw [ca] at hsz
  obtain ⟨x0, x1, x2, rfl⟩ := arr3 hsz
  obtain ⟨fuel, hf⟩ := h
  obtain ⟨xs, m, _, _, _, hl, he⟩ := DataW.trod_array ua hf
  have h0 := he 0 (by omega)
  have h1 := he 1 (by omega)
  have h2 := he 2 (by omega)
  rw [List.getElem?_eq_getElem (by omega), c3_] at h0 h1 h2
  simp only [Value.cells, Nat.zero_mul, Nat.one_mul, Nat.reduceMul, List.drop_succ_cons, List.drop_zero, List.take_succ_cons, List.take_zero] at h0 h1 h2
  obtain ⟨a, rfl⟩ := int_of h0
  obtain ⟨b, rfl⟩ := int_of h1
  obtain ⟨c, rfl⟩ := int_of h2
  exact ⟨a, b, c, rfl⟩
end
theorem rThree : Tryd.prog.readableRec 66 = true := by kernel_rfl

set_option maxRecDepth 100000 in
theorem forgeEasier_lifted (os : Os) (started : os.Started) (H : Type) (enc : TypeId × Value → H) :
    ReturnsInHanded {} Tryd.checked os 10 .any (fun w args => (Rows.forgeEasierSpec.pre enc Tryd.prog Tryd.f10 [] false w args ∧ laidMetH Tryd.prog laidM w) ∧ sizedMet enc Tryd.prog Tryd.f10 (OpenSpec.ofChange Rows.forgeEasierSpec) false w args)
      (Rows.forgeEasierSpec.post enc Tryd.prog Tryd.f10 false true false false) := by
  refine returnsInHanded_of_change_and (C := Tryd.checked) (X := fun w _ => laidMetH Tryd.prog laidM w) (fun _ _ _ hh h => h.of_heap hh) ownK started (by kernel_rfl) Tryd.func10
    (ChangeSpec.witness_shaped (enc := enc) (C := Tryd.checked) (os := os) (X := fun w _ => laidMetH Tryd.prog laidM w) false (World.doorLaid Tryd.prog 14 os) #[.agg #[.slice none 0 0, .int .i64 0, .int .i64 0, .int .i64 0, .int .i64 0, .int .i64 0, .int .i64 0, .slice none 0 0, .int .i64 0, .int .i64 0, .int .i64 0, .int .i64 0, .int .i64 0, .slice none 0 0], .slice none 0 0, .agg #[.int .i64 0, .int .i64 0, .int .i64 0]] 8 rfl (World.shaped_of_RefB (by kernel_rfl) (by kernel_rfl)) (by kernel_rfl) (by kernel_rfl) (by kernel_rfl) (door_met os _)) ?_
  intro W base args ds gs before hval0 hW _ _ hL _
  have hval : ∀ (j : Nat) t v, Tryd.f10.params[j]? = some t → args[j]? = some v → Value.okWide Tryd.prog W .any base t v := hval0
  have hW' := hW
  obtain ⟨p, q, hA0, hV, rfl, hfz, hnd⟩ := hW
  have hA : DataW.TrodAll enc Tryd.prog W 0 (fun _ => true) true Tryd.f10.params.toList args.toList ds p := hA0
  rw [Tryd.params10] at hA hval
  have hlt := hW'.lt
  obtain ⟨rfl, rfl⟩ := trodVars_none hV
  have hMk := marks_of_laid hL

  obtain ⟨v0, v1, v2, d0, d1, d2, p0, p1, p2, rfl, rfl, rfl, h0, h1, h2⟩ := trodAll_three hA
  obtain ⟨B, rfl, hB⟩ := open_book (hval 0 _ _ rfl rfl) h0
  obtain ⟨A, bits, cap, rfl, hp, hc⟩ := open_list (hval 1 _ _ rfl rfl) h1
  obtain ⟨n0, n1, n2, rfl⟩ := open_three (hval 2 _ _ rfl rfl) h2
  have hl : ∀ x, x ∈ p0 ∨ x ∈ p1 ∨ x ∈ p2 → x.block < W.heap.size := fun x hx => hlt x (by simpa using hx)
  refine (ForgeEasier_calls B A cap bits n0 n1 n2 W hB hp hMk).mono ?_
  rintro e W' ⟨rfl, hb⟩
  have hargs := trodAll_mk3 (Below.trod laidOut rBook (Nat.lt_trans (by decide) sTypes) h0 hb fun x hx => hl x (.inl hx)) (Below.trod laidOut rInts (Nat.lt_trans (by decide) sTypes) h1 hb fun x hx => hl x (.inr (.inl hx))) (Below.trod laidOut rThree (Nat.lt_trans (by decide) sTypes) h2 hb fun x hx => hl x (.inr (.inr hx)))
  exact ⟨_, rfl, _, _, _, [], _, [], hW', trodAll_mk1 (shut_bool u4_ true), hargs, rfl, hb.frame _, fun h => by cases h⟩
theorem forgeEasier_holds : Rows.ForgeEasierSaid :=
  OpenClaim.holds_of_wide 10 Tryd.f10 rfl rfl rfl rfl rfl rfl rfl ⟨rfl, rfl, rfl, rfl, rfl⟩ rfl rfl rfl rfl rfl (by kernel_rfl) Tryd.func10 (by kernel_rfl)
    (of_decide_eq_true (by kernel_rfl)) (by unfold Func.isWrapper; first | (rw [if_pos (by decide +kernel)]; kernel_rfl) | (rw [if_neg (by decide +kernel)]; exact ⟨rfl, rfl⟩))
    (fun os started H enc _ => forgeEasier_lifted os started H enc)
theorem forgeEasier_card_holds : Rows.ForgeEasierCardSaid :=
  Claim7.holds_tied_plain_at .later [] [.funcs] true (true, "3fad9c1288e5c493a09ed296f709b91b9a8ad6a056c96a33ad7fc7ce5de90701") false
    forgeEasier_holds (fun _ h => by cases h) (by kernel_rfl) (fun _ h => by cases h) forgeEasier_row_tie rfl ⟨rfl, rfl⟩ (by kernel_rfl) rfl
    (fun f fn hf hfn => by
      obtain rfl : f = 10 := Option.some.inj ((show Tryd.prog.funcNamed "saron/saronlaw02.ForgeEasier" = some 10 by kernel_rfl).symm.trans hf) |>.symm
      obtain rfl : fn = Tryd.f10 := (Option.some.inj (Tryd.func10.symm.trans hfn)).symm
      exact ⟨by kernel_rfl, fun j t ht => by
        rw [Tryd.params10] at ht
        have hm := Array.mem_of_getElem? ht
        have hall : (Tryd.f10.params.toList.all fun u => !Tryd.prog.wantsStandIn u) = true := by kernel_rfl
        rw [Tryd.params10] at hall
        exact (show Tryd.prog.wantsStandIn t = false by simpa using List.all_eq_true.1 hall t (by simpa using hm))⟩)
    (by kernel_rfl)
#print axioms forgeEasier_card_holds

end Go.Proofs.YtgfbfbfajnfbjaaDoor
