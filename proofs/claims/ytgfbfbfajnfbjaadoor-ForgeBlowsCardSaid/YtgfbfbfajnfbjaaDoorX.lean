import Derived.Test.YtgfbfbfajnfbjaaDoorF
import Derived.DeepKeys3
/- Maps to true alone, by key. -/
namespace Go.Proofs.YtgfbfbfajnfbjaaDoor
section
open Go.RowKit Go.Shelf
set_option linter.unusedSimpArgs false
set_option linter.unusedVariables false
/-- a map's type whose keys are encoded by K -/
structure KeyOk {κ : Type} [DecidableEq κ] (mt kt : Nat) (K : κ → Value) : Prop where
  under : Tryd.prog.underlying mt = some (.map kt 4)
  eq : ∀ a b w, (Op.equalIn 10000 kt (K a) (K b)).run Tryd.prog w = .ok (decide (a = b)) w
  check : ∀ a em w, (Instr.checkKey em 10000 kt (K a)).run Tryd.prog w = .ok () w
  find : ∀ a (ls : List κ) (es : List MapEntry) w, es.map (·.key) = ls.map K → (Instr.findKey kt (K a) es).run Tryd.prog w = (Instr.findAsking kt (K a) es).run Tryd.prog w
  bits : ∀ a, Instr.sameBits 10000 (K a) (K a) = true
variable {κ : Type} [DecidableEq κ] {mt kt : Nat} {K : κ → Value}
/-- A map that holds the keys ls, each at true. -/
def MapAt (K : κ → Value) (W : World) (b : Nat) (ls : List κ) : Prop :=
  ∃ es clock, W.heap[b]? = some (.map es clock) ∧ es.toList.map (·.key) = ls.map K ∧ ∀ e ∈ es.toList, e.val = .bool true
theorem KeyOk.ask (o : KeyOk mt kt K) (l : κ) (w : World) : ∀ (es : List MapEntry) (ls : List κ) (i : Nat), es.map (·.key) = ls.map K → (∀ e ∈ es, e.val = .bool true) →
    ∃ r, (Instr.findAsking kt (K l) es i).run Tryd.prog w = .ok r w ∧ ((l ∈ ls ∧ ∃ k, i ≤ k ∧ k < i + es.length ∧ ls[k - i]? = some l ∧ r = some (k, .bool true)) ∨ (l ∉ ls ∧ r = none))
  | [], ls, i, h, _ => by
    have : ls = [] := by cases ls; rfl; simp at h
    subst this
    exact ⟨none, by unfold Instr.findAsking; simp, .inr ⟨by simp, rfl⟩⟩
  | e :: es, ls, i, h, hv => by
    obtain ⟨x, ls, rfl⟩ : ∃ x l', ls = x :: l' := by cases ls with | nil => simp at h | cons x l' => exact ⟨x, l', rfl⟩
    simp only [List.map_cons, List.cons.injEq] at h
    have he : (Op.equal kt (K l) e.key).run Tryd.prog w = .ok (decide (l = x)) w := by
      rw [h.1]; unfold Op.equal; exact o.eq l x w
    by_cases hx : l = x
    · subst hx
      refine ⟨some (i, .bool true), ?_, .inl ⟨by simp, i, Nat.le_refl _, by simp, by simp, rfl⟩⟩
      unfold Instr.findAsking
      simp [he, hv e (by simp)]
    · obtain ⟨r, hr, hr2⟩ := KeyOk.ask o l w es ls (i + 1) h.2 (fun e he => hv e (by simp [he]))
      refine ⟨r, ?_, ?_⟩
      · unfold Instr.findAsking
        simp [he, hx, hr]
      · rcases hr2 with ⟨h1, k, h2, h3, h4, h5⟩ | ⟨h1, h2⟩
        · refine .inl ⟨by simp [h1], k, by omega, by simp; omega, ?_, h5⟩
          rw [show k - i = (k - (i + 1)) + 1 by omega]; simpa using h4
        · exact .inr ⟨by simp [h1, hx], h2⟩
theorem KeyOk.stays (o : KeyOk mt kt K) (l : κ) (W : World) : (Instr.keyThatStays (K l) (K l)).run Tryd.prog W = .ok (K l) W := by
  unfold Instr.keyThatStays
  rw [if_pos (o.bits l)]
  simp
theorem KeyOk.lookup (o : KeyOk mt kt K) {W : World} {b : Nat} {ls : List κ} (h : MapAt K W b ls) (l : κ) : (Instr.lookup mt (.map (some b)) (K l) false).run Tryd.prog W = .ok (.bool (decide (l ∈ ls))) W := by
  obtain ⟨es, clock, hb, hk, hv⟩ := h
  obtain ⟨r, hr, hr2⟩ := o.ask l W es.toList ls 0 hk hv
  have hz : (zeroValue 4).run Tryd.prog W = .ok (.bool false) W := by kernel_rfl
  have hg := MapKept.run_getObj_map (P := Tryd.prog) hb
  have hf := o.find l ls es.toList W hk
  unfold Instr.lookup
  simp only [Sem.run_bind, run_underlying o.under, Result.andThen_ok]
  rcases hr2 with ⟨h1, k, _, h3, h4, rfl⟩ | ⟨h1, rfl⟩
  · simp [hg, o.check, hf, hr, h1]
  · simp [hg, o.check, hf, hr, h1, hz]
theorem KeyOk.update (o : KeyOk mt kt K) {W : World} {b : Nat} {ls : List κ} (h : MapAt K W b ls) (l : κ) :
    ∃ W', (Instr.mapUpdate mt (.map (some b)) (K l) (.bool true)).run Tryd.prog W = .ok () W' ∧ MapAt K W' b (if l ∈ ls then ls else ls ++ [l]) ∧ Keep (fun k => k = b) W W' := by
  obtain ⟨es, clock, hb, hk, hv⟩ := h
  obtain ⟨r, hr, hr2⟩ := o.ask l W es.toList ls 0 hk hv
  have hg := MapKept.run_getObj_map (P := Tryd.prog) hb
  have hs := fun o => MapKept.run_setObj_map (P := Tryd.prog) o hb
  have hf := o.find l ls es.toList W hk
  have hbl : b < W.heap.size := (Array.getElem?_eq_some_iff.1 hb).1
  have hkeep : ∀ o, Keep (fun k => k = b) W { W with heap := W.heap.setIfInBounds b o } := fun o =>
    ⟨rfl, rfl, rfl, by simp, fun k hk hn => by simp only; rw [Array.getElem?_setIfInBounds, if_neg (fun e => hn e.symm)]⟩
  unfold Instr.mapUpdate
  simp only [Sem.run_bind, run_underlying o.under, Result.andThen_ok]
  rcases hr2 with ⟨h1, k, _, h3, h4, rfl⟩ | ⟨h1, rfl⟩
  · have hkl : k < es.toList.length := by omega
    have hkey : (es[k]?.map (·.key)).getD (K l) = K l := by
      have h5 := congrArg (fun x => x[k]?) hk
      simp only [List.getElem?_map] at h5
      rw [Nat.sub_zero] at h4
      rw [h4] at h5
      rw [← Array.getElem?_toList, h5]; rfl
    simp only [hg, o.check, hf, hr, Sem.run_bind, Result.andThen_ok, hkey, o.stays, hs, if_pos h1]
    refine ⟨_, rfl, ⟨_, clock, by simp [hbl]; rfl, ?_, ?_⟩, hkeep _⟩
    · rw [← hk]
      refine List.ext_getElem? fun n => ?_
      simp only [Array.toList_modify, List.getElem?_map, List.getElem?_modify]
      by_cases e : k = n
      · subst e
        rw [Array.getElem?_toList]
        cases hek : es[k]? with
        | none => simp
        | some x => rw [hek] at hkey; simp at hkey ⊢; exact hkey.symm
      · simp [e]
    · intro e he
      simp only [Array.toList_modify] at he
      obtain ⟨n, hn⟩ := List.mem_iff_getElem?.1 he
      rw [List.getElem?_modify] at hn
      by_cases e' : k = n
      · subst e'
        cases hek : es.toList[k]? with
        | none => rw [hek] at hn; simp at hn
        | some x => rw [hek] at hn; simp at hn; rw [← hn]
      · cases hek : es.toList[n]? with
        | none => rw [hek] at hn; simp at hn
        | some x => rw [hek] at hn; simp [e'] at hn; rw [← hn]; exact hv x (List.mem_of_getElem? hek)
  · simp only [hg, o.check, hf, hr, Sem.run_bind, Result.andThen_ok, hs, if_neg h1]
    refine ⟨_, rfl, ⟨_, clock + 1, by simp [hbl]; rfl, ?_, ?_⟩, hkeep _⟩
    · simp [hk]
    · intro e he
      simp at he
      rcases he with he | rfl
      · exact hv e (by simpa using he)
      · rfl
end
section
open Go.RowKit Go.Shelf
variable {κ : Type} {K : κ → Value}
theorem MapAt.keep {M : Nat → Prop} {W W' : World} {b : Nat} {ls : List κ} (h : MapAt K W b ls) (k : Keep M W W') (hm : ¬ M b) : MapAt K W' b ls := by
  obtain ⟨es, c, hb, hk, hv⟩ := h
  exact ⟨es, c, (k.block b (Array.getElem?_eq_some_iff.1 hb).1 hm).trans hb, hk, hv⟩
theorem MapAt.below {W W' : World} {b : Nat} {ls : List κ} (h : MapAt K W b ls) (k : Below W.heap.size W W') : MapAt K W' b ls := by
  obtain ⟨es, c, hb, hk, hv⟩ := h
  exact ⟨es, c, (k.block b (Array.getElem?_eq_some_iff.1 hb).1).trans hb, hk, hv⟩
theorem MapAt.lt {W : World} {b : Nat} {ls : List κ} (h : MapAt K W b ls) : b < W.heap.size := by
  obtain ⟨es, c, hb, hk, hv⟩ := h
  exact (Array.getElem?_eq_some_iff.1 hb).1
theorem MapAt.new (W : World) : MapAt K (W.alloc (.map #[] 0)) W.heap.size [] := ⟨#[], 0, World.alloc_heap_new W _, by simp, by simp⟩
end
section
open Go.RowKit Go.Shelf
attribute [local go_sem] Oper.semAt_some
set_option linter.unusedSimpArgs false
set_option linter.unusedVariables false
def intK (a : Int) : Value := .int .i64 a
theorem eqInt (a b : Int) (w : World) (n : Nat) : (Op.equalIn (n + 1) 3 (.int .i64 a) (.int .i64 b)).run Tryd.prog w = .ok (decide (a = b)) w :=
  (run_equalIn_int w n 3 .i64 .i64 a b under3).trans (by by_cases h : a = b <;> simp [h])
theorem findNow_int (a : Int) (w : World) : ∀ (es : List MapEntry) (ls : List Int) (i : Nat), es.map (·.key) = ls.map intK →
    ∃ r, Instr.findNow (.int .i64) (.int .i64 a) es i = some r ∧ (Instr.findAsking 3 (.int .i64 a) es i).run Tryd.prog w = .ok r w
  | [], ls, i, h => ⟨none, rfl, by unfold Instr.findAsking; simp⟩
  | e :: es, ls, i, h => by
    obtain ⟨x, ls, rfl⟩ : ∃ x l', ls = x :: l' := by cases ls with | nil => simp at h | cons x l' => exact ⟨x, l', rfl⟩
    simp only [List.map_cons, List.cons.injEq] at h
    obtain ⟨ek, ev⟩ := e
    obtain ⟨h1, h2⟩ := h
    simp only at h1
    subst h1
    have he : (Op.equal 3 (.int .i64 a) (intK x)).run Tryd.prog w = .ok (decide (a = x)) w := by unfold Op.equal; exact eqInt a x w 9999
    unfold Instr.findNow Instr.findAsking Instr.sameNow
    by_cases hx : a = x
    · subst hx
      exact ⟨some (i, ev), by simp [intK], by simp [he]⟩
    · obtain ⟨r, hr, hr2⟩ := findNow_int a w es ls (i + 1) h2
      have hb : (a == x) = false := by simpa using hx
      exact ⟨r, by simp [intK, hb, hr], by simp [he, hx, hr2]⟩
theorem intKeys : KeyOk 105 3 intK where
  under := by kernel_rfl
  eq a b w := eqInt a b w 9999
  check a em w := by unfold intK; kernel_rfl
  find a ls es w h := by
    obtain ⟨r, hr, hr2⟩ := findNow_int a w es ls 0 h
    unfold intK
    rw [hr2]
    unfold Instr.findKey
    simp [run_underlying under3, hr]
  bits a := by unfold intK; rw [show (10000 : Nat) = 9999 + 1 from rfl]; simp [Instr.sameBits]
end
end Go.Proofs.YtgfbfbfajnfbjaaDoor
