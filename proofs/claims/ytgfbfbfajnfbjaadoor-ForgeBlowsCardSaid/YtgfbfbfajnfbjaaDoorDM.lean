/- PROVED: ForgeBlows (its tied card): for every input, wherever its slices lie and whatever they share, the law returns true and every argument reads behind the call as it read before. Conditions: none beyond the card's own (the package's table of two methods is as the program's text lays it). -/
import Derived.Test.YtgfbfbfajnfbjaaDoorBG
import Derived.Test.YtgfbfbfajnfbjaaDoorDL
namespace Go.Proofs.YtgfbfbfajnfbjaaDoor
set_option linter.unusedVariables false
set_option linter.unusedSimpArgs false
theorem rInt : Tryd.prog.readableRec 3 = true := by kernel_rfl
open Go.ChangeShapes Go.WideShapes Go.ChangeAt Go.RowKit

set_option maxRecDepth 100000 in
theorem forgeBlows_lifted (os : Os) (started : os.Started) (H : Type) (enc : TypeId × Value → H) :
    ReturnsInHanded {} Tryd.checked os 6 .any (fun w args => (Rows.forgeBlowsSpec.pre enc Tryd.prog Tryd.f6 [] false w args ∧ laidMetH Tryd.prog laidM w) ∧ sizedMet enc Tryd.prog Tryd.f6 (OpenSpec.ofChange Rows.forgeBlowsSpec) false w args)
      (Rows.forgeBlowsSpec.post enc Tryd.prog Tryd.f6 false true false false) := by
  refine returnsInHanded_of_change_and (C := Tryd.checked) (X := fun w _ => laidMetH Tryd.prog laidM w) (fun _ _ _ hh h => h.of_heap hh) ownK started (by kernel_rfl) Tryd.func6
    (ChangeSpec.witness_shaped (enc := enc) (C := Tryd.checked) (os := os) (X := fun w _ => laidMetH Tryd.prog laidM w) false (World.doorLaid Tryd.prog 14 os) #[.agg #[.slice none 0 0, .int .i64 0, .int .i64 0, .int .i64 0, .int .i64 0, .int .i64 0, .int .i64 0, .slice none 0 0, .int .i64 0, .int .i64 0, .int .i64 0, .int .i64 0, .int .i64 0, .slice none 0 0], .int .i64 0] 8 rfl (World.shaped_of_RefB (by kernel_rfl) (by kernel_rfl)) (by kernel_rfl) (by kernel_rfl) (by kernel_rfl) (door_met os _)) ?_
  intro W base args ds gs before hval0 hW _ _ hL _
  have hval : ∀ (j : Nat) t v, Tryd.f6.params[j]? = some t → args[j]? = some v → Value.okWide Tryd.prog W .any base t v := hval0
  have hW' := hW
  obtain ⟨p, q, hA0, hV, rfl, hfz, hnd⟩ := hW
  have hA : DataW.TrodAll enc Tryd.prog W 0 (fun _ => true) true Tryd.f6.params.toList args.toList ds p := hA0
  rw [Tryd.params6] at hA hval
  have hlt := hW'.lt
  obtain ⟨rfl, rfl⟩ := trodVars_none hV
  have hMk := marks_of_laid hL

  obtain ⟨v0, v1, d0, d1, p0, p1, rfl, rfl, rfl, h0, h1⟩ := trodAll_two hA
  obtain ⟨B, rfl, hB⟩ := open_book (hval 0 _ _ rfl rfl) h0
  obtain ⟨n, rfl⟩ : ∃ n, v1 = .int .i64 n := (open_int u3_ (hval 1 _ _ rfl rfl) h1).imp fun _ h => h.1
  have hl : ∀ x, x ∈ p0 ∨ x ∈ p1 → x.block < W.heap.size := fun x hx => hlt x (by simpa using hx)
  refine (ForgeBlows_calls B n W hB hMk).mono ?_
  rintro e W' ⟨rfl, hb⟩
  have hargs := trodAll_mk2 (Below.trod laidOut rBook (Nat.lt_trans (by decide) sTypes) h0 hb fun x hx => hl x (.inl hx)) (Below.trod laidOut rInt (Nat.lt_trans (by decide) sTypes) h1 hb fun x hx => hl x (.inr hx))
  exact ⟨_, rfl, _, _, _, [], _, [], hW', trodAll_mk1 (shut_bool u4_ true), hargs, rfl, hb.frame _, fun h => by cases h⟩
theorem forgeBlows_holds : Rows.ForgeBlowsSaid :=
  OpenClaim.holds_of_wide 6 Tryd.f6 rfl rfl rfl rfl rfl rfl rfl ⟨rfl, rfl, rfl, rfl, rfl⟩ rfl rfl rfl rfl rfl (by kernel_rfl) Tryd.func6 (by kernel_rfl)
    (of_decide_eq_true (by kernel_rfl)) (by unfold Func.isWrapper; first | (rw [if_pos (by decide +kernel)]; kernel_rfl) | (rw [if_neg (by decide +kernel)]; exact ⟨rfl, rfl⟩))
    (fun os started H enc _ => forgeBlows_lifted os started H enc)
theorem forgeBlows_card_holds : Rows.ForgeBlowsCardSaid :=
  Claim7.holds_tied_plain_at .later [] [.funcs] true (true, "3fad9c1288e5c493a09ed296f709b91b9a8ad6a056c96a33ad7fc7ce5de90701") false
    forgeBlows_holds (fun _ h => by cases h) (by kernel_rfl) (fun _ h => by cases h) forgeBlows_row_tie rfl ⟨rfl, rfl⟩ (by kernel_rfl) rfl
    (fun f fn hf hfn => by
      obtain rfl : f = 6 := Option.some.inj ((show Tryd.prog.funcNamed "saron/saronlaw02.ForgeBlows" = some 6 by kernel_rfl).symm.trans hf) |>.symm
      obtain rfl : fn = Tryd.f6 := (Option.some.inj (Tryd.func6.symm.trans hfn)).symm
      exact ⟨by kernel_rfl, fun j t ht => by
        rw [Tryd.params6] at ht
        have hm := Array.mem_of_getElem? ht
        have hall : (Tryd.f6.params.toList.all fun u => !Tryd.prog.wantsStandIn u) = true := by kernel_rfl
        rw [Tryd.params6] at hall
        exact (show Tryd.prog.wantsStandIn t = false by simpa using List.all_eq_true.1 hall t (by simpa using hm))⟩)
    (by kernel_rfl)
#print axioms forgeBlows_card_holds

end Go.Proofs.YtgfbfbfajnfbjaaDoor
