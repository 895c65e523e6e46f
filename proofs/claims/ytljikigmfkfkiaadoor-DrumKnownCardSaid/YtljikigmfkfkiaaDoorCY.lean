import Derived.Test.YtljikigmfkfkiaaDoorF
namespace Go.Proofs.YtljikigmfkfkiaaDoor
section
set_option linter.unusedVariables false
set_option linter.unusedSimpArgs false
open Go.RowKit Go.Shelf
variable {P : Program} {ops : Array Oper} {Q : Exit → Act → World → Prop} {md : Region.Mode}
/-- A region that draws its order, by what holds whatever has come up: a step of each operation, and the end. -/
theorem countP_set_lt {l : List Bool} {i : Nat} (hi : i < l.length) (h : l[i]? = some false) : ((l.set i true).countP (!·)) + 1 = l.countP (!·) := by
  induction l generalizing i with
  | nil => simp at hi
  | cons b l ih =>
    cases i with
    | zero => simp at h; subst h; simp
    | succ i =>
      simp at h hi
      have := ih hi (by simpa using h)
      simp only [List.set_cons_succ, List.countP_cons]
      omega
theorem ready_lt {listed : Array Bool} {i : Nat} (hs : listed.size = ops.size) (h : i ∈ Region.ready md ops listed) : i < ops.size ∧ listed.toList[i]? = some false := by
  obtain ⟨h1, o, h2, _⟩ := mem_ready.1 h
  have hi : i < ops.size := (Array.getElem?_eq_some_iff.1 h2).1
  have hi' : i < listed.size := by omega
  refine ⟨hi, ?_⟩
  rw [Array.getElem?_toList, Array.getElem?_eq_getElem hi']
  simp [Array.getD, hi'] at h1
  rw [h1]
theorem wpAny_inv {Inv : Array Bool → Act → World → Prop}
    (hstep : ∀ i listed a w, i ∈ Region.ready md ops listed → listed.size = ops.size → Inv listed a w → wpOp P ops Q i (fun a' w' => Inv (listed.setIfInBounds i true) a' w') a w)
    (hend : ∀ listed a w, Region.ready md ops listed = [] → listed.size = ops.size → Inv listed a w → Q .normal a w) :
    ∀ (fuel : Nat) (listed : Array Bool) (a : Act) (w : World), listed.toList.countP (!·) ≤ fuel → listed.size = ops.size → Inv listed a w → wpAny P md ops Q fuel listed a w
  | 0, listed, a, w, hc, hs, hI => by
    have hr : Region.ready md ops listed = [] := by
      rw [List.eq_nil_iff_forall_not_mem]
      intro i hi
      obtain ⟨h1, h2⟩ := ready_lt hs hi
      have := countP_set_lt (l := listed.toList) (i := i) (by simp; omega) h2
      omega
    exact ⟨hr, hend _ _ _ hr hs hI⟩
  | fuel + 1, listed, a, w, hc, hs, hI => by
    refine ⟨fun hr => hend _ _ _ hr hs hI, fun i hi => ?_⟩
    obtain ⟨h1, h2⟩ := ready_lt hs hi
    have := countP_set_lt (l := listed.toList) (i := i) (by simp; omega) h2
    refine wpOp_mono (fun a' w' h => wpAny_inv hstep hend fuel _ a' w' ?_ (by simpa using hs) h) (hstep i listed a w hi hs hI)
    rw [Array.toList_setIfInBounds]
    omega
theorem region_inv {Inv : Array Bool → Act → World → Prop} {id : Nat} {a : Act} {w : World} (hm : P.follows .mixedOrders = true)
    (h0 : Inv (Array.replicate ops.size false) a w.drew)
    (hstep : ∀ i listed a w, i ∈ Region.ready .any ops listed → listed.size = ops.size → Inv listed a w → wpOp P ops Q i (fun a' w' => Inv (listed.setIfInBounds i true) a' w') a w)
    (hend : ∀ listed a w, Region.ready .any ops listed = [] → listed.size = ops.size → Inv listed a w → Q .normal a w) :
    (Code.region id ops true).wp P Q a w := by
  refine wp_region_any hm (wpAny_inv hstep hend _ _ _ _ ?_ (by simp) h0)
  rw [Array.toList_replicate, List.countP_replicate]
  simp
theorem ready_dep {listed : Array Bool} {i k : Nat} (h : i ∈ Region.ready md ops listed) (hk : waitsOn md ops i k = true) : listed.getD k true = true := by
  obtain ⟨h1, o, h2, h3⟩ := mem_ready.1 h
  unfold waitsOn at hk
  rw [h2] at hk
  obtain ⟨e, he, hb⟩ := Array.any_eq_true'.1 hk
  rw [Bool.and_eq_true] at hb
  have h4 := h3 e he hb.1
  have h5 : e.on = k := by simpa using hb.2
  rw [h5] at h4
  rcases Nat.lt_or_ge k listed.size with h' | h'
  · simp [h'] at h4 ⊢; exact h4
  · simp [Array.getElem?_eq_none h'] at h4
/-- every operation waits for earlier ones alone -/
def orderedOps (md : Region.Mode) (ops : Array Oper) : Bool := (List.range ops.size).all fun i => ((ops[i]?).map fun o => o.after.all fun e => !Region.binds md e || decide (e.on < i)).getD true
theorem all_listed {listed : Array Bool} (hs : listed.size = ops.size) (hr : Region.ready md ops listed = []) (ho : orderedOps md ops = true) : ∀ k, k < ops.size → listed.getD k false = true := by
  intro k
  induction k using Nat.strongRecOn with
  | ind k ih =>
    intro hk
    cases h : listed.getD k false with
    | true => rfl
    | false =>
      have hk' : k < listed.size := by omega
      have h' : listed.getD k true = false := by simp [Array.getD, hk'] at h ⊢; exact h
      have : k ∈ Region.ready md ops listed := by
        refine mem_ready.2 ⟨h', ops[k], Array.getElem?_eq_getElem hk, fun e he hb => ?_⟩
        unfold orderedOps at ho
        have h1 := List.all_eq_true.1 ho k (List.mem_range.2 hk)
        rw [Array.getElem?_eq_getElem hk] at h1
        simp only [Option.map_some, Option.getD_some] at h1
        have h2 := Array.all_eq_true'.1 h1 e he
        rw [hb] at h2
        simp at h2
        exact ih _ h2 (by omega)
      rw [hr] at this
      cases this
theorem listed_true {listed : Array Bool} {k : Nat} (h : listed.getD k false = true) : listed.getD k true = true := by
  rcases Nat.lt_or_ge k listed.size with h' | h'
  · simp [h'] at h ⊢; exact h
  · simp [Array.getElem?_eq_none h'] at h
theorem wp_gen {c : Code} {a : Act} {w : World} (h : ∀ a0, a0 = a → c.wp P Q a0 w) : c.wp P Q a w := h a rfl
end
end Go.Proofs.YtljikigmfkfkiaaDoor
