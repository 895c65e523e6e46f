import Derived.Test.YtljikigmfkfkiaaDoorAI
namespace Go.Proofs.YtljikigmfkfkiaaDoor
open Go.RowKit Go.Shelf
attribute [local go_sem] Oper.semAt_some
set_option linter.unusedSimpArgs false
set_option linter.unusedVariables false

/-! The cues tell the path. -/
theorem cues_len (B : BookV) (path : List Int) : ∀ k, (cuesTo B path k).length = changesTo path k
  | 0 => rfl
  | k + 1 => by
    rw [cuesTo, List.length_append, cues_len B path k, changesTo]
    by_cases h : gi path (k + 1) = gi path k
    · rw [if_pos h.symm]; simp [h]
    · rw [if_neg (fun e => h e.symm)]; simp [h]
theorem gs_append_lt {l m : List (Int × Int)} {i : Nat} (h : i < l.length) : gs (l ++ m) i = gs l i := by
  unfold gs; rw [List.getD_eq_getElem?_getD, List.getD_eq_getElem?_getD, List.getElem?_append_left h]
theorem gs_append_at (l : List (Int × Int)) (x : Int × Int) : gs (l ++ [x]) l.length = x := by
  unfold gs; rw [List.getD_eq_getElem?_getD]; simp
theorem cues_next (B : BookV) (path : List Int) : ∀ n k, k < n →
    (gi path (k + 1) ≠ gi path k → (cuesTo B path k).length < (cuesTo B path n).length ∧ gs (cuesTo B path n) (cuesTo B path k).length = (((k : Int) + 1) * B.size - B.notice, gi path (k + 1) - gi path k)) ∧
    (gi path (k + 1) = gi path k → (cuesTo B path k).length < (cuesTo B path n).length → ∃ m : Nat, k < m ∧ (gs (cuesTo B path n) (cuesTo B path k).length).1 = ((m : Int) + 1) * B.size - B.notice)
  | 0, k, h => absurd h (by omega)
  | n + 1, k, h => by
    by_cases hk : k < n
    · obtain ⟨h1, h2⟩ := cues_next B path n k hk
      constructor
      · intro hne
        obtain ⟨a, b⟩ := h1 hne
        rw [cuesTo, List.length_append]
        exact ⟨by omega, by rw [gs_append_lt a]; exact b⟩
      · intro heq hlt
        by_cases hl : (cuesTo B path k).length < (cuesTo B path n).length
        · obtain ⟨m, hm, e⟩ := h2 heq hl
          exact ⟨m, hm, by rw [cuesTo, gs_append_lt hl]; exact e⟩
        · have hle : (cuesTo B path k).length ≤ (cuesTo B path n).length := by
            have hmono : ∀ d, (cuesTo B path k).length ≤ (cuesTo B path (k + d)).length := by
              intro d
              induction d with
              | zero => exact Nat.le_refl _
              | succ d ih => rw [← Nat.add_assoc, cuesTo, List.length_append]; omega
            have := hmono (n - k)
            rwa [show k + (n - k) = n by omega] at this
          have he : (cuesTo B path k).length = (cuesTo B path n).length := by omega
          rw [cuesTo] at hlt ⊢
          by_cases hd : gi path (n + 1) = gi path n
          · simp [hd] at hlt; omega
          · simp only [hd, decide_false, cond_false]
            exact ⟨n, hk, by rw [he, gs_append_at]⟩
    · obtain rfl : k = n := by omega
      constructor
      · intro hne
        rw [cuesTo]
        simp only [hne, decide_false, cond_false]
        exact ⟨by simp, gs_append_at _ _⟩
      · intro heq hlt
        rw [cuesTo] at hlt
        simp [heq] at hlt
theorem mark_ne {s : Int} (hs : 1 ≤ s) {k m : Nat} (h : k < m) (n : Int) : ((m : Int) + 1) * s - n ≠ ((k : Int) + 1) * s - n := by
  intro e
  have e2 : ((m : Int) + 1) * s = ((k : Int) + 1) * s := by omega
  have := Int.eq_of_mul_eq_mul_right (show s ≠ 0 by omega) e2
  omega
end Go.Proofs.YtljikigmfkfkiaaDoor
