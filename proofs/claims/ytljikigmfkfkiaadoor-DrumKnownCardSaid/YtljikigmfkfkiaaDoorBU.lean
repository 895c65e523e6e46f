import Derived.Test.YtljikigmfkfkiaaDoorBG
import Derived.Test.YtljikigmfkfkiaaDoorBT
namespace Go.Proofs.YtljikigmfkfkiaaDoor
open Go.RowKit Go.Shelf
attribute [local go_sem] Oper.semAt_some
set_option linter.unusedSimpArgs false
set_option linter.unusedVariables false

/-! All paths, level by level. -/
def kidsTo (p : List Int) (m : Nat) : List (List Int) := (List.range m).flatMap fun k : Nat => bif inB ((k : Int) - gi p (p.length - 1)) (-1) 1 then [p ++ [(k : Int)]] else []
def kidsAll (p : List Int) : List (List Int) := kidsTo p 4
def lev (s : Int) : Nat → List (List Int)
  | 0 => [[s]]
  | k + 1 => (lev s k).flatMap kidsAll
theorem kidsTo_succ (p : List Int) (m : Nat) : kidsTo p (m + 1) = kidsTo p m ++ (bif inB ((m : Int) - gi p (p.length - 1)) (-1) 1 then [p ++ [(m : Int)]] else []) := flat_succ _ _
theorem pathsFrom_kids (n : Nat) (p : List Int) : pathsFrom (n + 1) p = (kidsAll p).flatMap (pathsFrom n) := by
  unfold kidsAll kidsTo
  rw [List.flatMap_assoc]
  show (List.range 4).flatMap _ = _
  congr 1
  funext k
  cases inB ((k : Int) - gi p (p.length - 1)) (-1) 1 <;> simp
theorem lev_paths (s : Int) : ∀ n k, (lev s k).flatMap (pathsFrom n) = lev s (k + n)
  | 0, k => by
    have : (pathsFrom 0) = fun p => [p] := by funext p; rfl
    rw [this]; simp
  | n + 1, k => by
    have : (pathsFrom (n + 1)) = fun p => (kidsAll p).flatMap (pathsFrom n) := by funext p; exact pathsFrom_kids n p
    rw [this, ← List.flatMap_assoc]
    have := lev_paths s n (k + 1)
    rw [show k + 1 + n = k + (n + 1) by omega] at this
    exact this
theorem lev_eq (s : Int) (n : Nat) : lev s n = pathsFrom n [s] := by
  have := lev_paths s n 0
  rw [Nat.zero_add] at this
  rw [← this]; simp [lev]
theorem lev_len (s : Int) (n : Nat) : (lev s n).length ≤ 4 ^ n := by rw [lev_eq]; exact pathsFrom_len n _
theorem kids_mem {p x : List Int} {m : Nat} (h : x ∈ kidsTo p m) : ∃ j : Nat, j < m ∧ x = p ++ [(j : Int)] := by
  unfold kidsTo at h
  rw [List.mem_flatMap] at h
  obtain ⟨j, hj, hx⟩ := h
  cases hi : inB ((j : Int) - gi p (p.length - 1)) (-1) 1 with
  | false => rw [hi] at hx; simp at hx
  | true => rw [hi] at hx; simp at hx; exact ⟨j, List.mem_range.1 hj, hx⟩
theorem lev_mem (s : Int) (hs : 0 ≤ s ∧ s ≤ 3) : ∀ k x, x ∈ lev s k → x.length = k + 1 ∧ 0 ≤ gi x k ∧ gi x k ≤ 3
  | 0, x, h => by simp [lev] at h; subst h; exact ⟨rfl, hs⟩
  | k + 1, x, h => by
    unfold lev at h
    rw [List.mem_flatMap] at h
    obtain ⟨p, hp, hx⟩ := h
    obtain ⟨h1, _⟩ := lev_mem s hs k p hp
    obtain ⟨j, hj, rfl⟩ := kids_mem hx
    refine ⟨by simp [h1], ?_⟩
    have e : gi (p ++ [(j : Int)]) (k + 1) = j := by rw [← h1]; exact gi_snoc_at _ _
    rw [e]; omega
theorem kidsTo_len (p : List Int) (m : Nat) : (kidsTo p m).length ≤ m := by
  have := flatMap_len (fun k : Nat => bif inB ((k : Int) - gi p (p.length - 1)) (-1) 1 then [p ++ [(k : Int)]] else []) 1 (List.range m) (fun x => by cases inB ((x : Int) - gi p (p.length - 1)) (-1) 1 <;> simp)
  unfold kidsTo; simpa using this
def rowsTo (l : List (List Int)) (i : Nat) : List (List Int) := (l.take i).flatMap kidsAll
theorem rowsTo_succ {l : List (List Int)} {i : Nat} (h : i < l.length) : rowsTo l (i + 1) = rowsTo l i ++ kidsAll (gl l i) := by
  have e : l.take (i + 1) = l.take i ++ [gl l i] := by
    rw [List.take_add_one, List.getElem?_eq_getElem h]
    unfold gl
    rw [List.getD_eq_getElem?_getD, List.getElem?_eq_getElem h]; rfl
  unfold rowsTo
  rw [e, List.flatMap_append]
  simp
theorem rowsTo_all (l : List (List Int)) : rowsTo l l.length = l.flatMap kidsAll := by unfold rowsTo; rw [List.take_length]
theorem rowsTo_len (l : List (List Int)) (i : Nat) : (rowsTo l i).length ≤ 4 * l.length := by
  have h1 := flatMap_len kidsAll 4 (l.take i) (fun x => kidsTo_len x 4)
  have h2 : (l.take i).length ≤ l.length := by simp; omega
  have h3 : (l.take i).length * 4 ≤ l.length * 4 := Nat.mul_le_mul_right _ h2
  unfold rowsTo; omega
theorem gl_mem {l : List (List Int)} {i : Nat} (h : i < l.length) : gl l i ∈ l := by
  unfold gl; rw [List.getD_eq_getElem?_getD, List.getElem?_eq_getElem h]; exact List.getElem_mem h
/-- the least and the greatest density that may come next -/
def loOf (d : Int) : Nat := (max 0 (d - 1)).toNat
def hiOf (d : Int) : Nat := (min 3 (d + 1)).toNat
theorem kidsTo_lo {p : List Int} (h : 0 ≤ gi p (p.length - 1) ∧ gi p (p.length - 1) ≤ 3) : kidsTo p (loOf (gi p (p.length - 1))) = [] := by
  unfold kidsTo loOf
  rw [List.flatMap_eq_nil_iff]
  intro k hk
  rw [List.mem_range] at hk
  have : inB ((k : Int) - gi p (p.length - 1)) (-1) 1 = false := by rw [Bool.eq_false_iff]; intro e; have := inB_iff.1 e; omega
  rw [this]; rfl
theorem kidsTo_hi {p : List Int} (h : 0 ≤ gi p (p.length - 1) ∧ gi p (p.length - 1) ≤ 3) : kidsTo p (hiOf (gi p (p.length - 1)) + 1) = kidsAll p := by
  have key : ∀ d, hiOf (gi p (p.length - 1)) + 1 + d ≤ 4 → kidsTo p (hiOf (gi p (p.length - 1)) + 1 + d) = kidsTo p (hiOf (gi p (p.length - 1)) + 1) := by
    intro d
    induction d with
    | zero => intro _; rfl
    | succ d ih =>
      intro hd
      rw [← Nat.add_assoc, kidsTo_succ, ih (by omega)]
      have : inB (((hiOf (gi p (p.length - 1)) + 1 + d : Nat) : Int) - gi p (p.length - 1)) (-1) 1 = false := by
        rw [Bool.eq_false_iff]; intro e; have := inB_iff.1 e; unfold hiOf at this hd; omega
      rw [this]; simp
  have h4 : hiOf (gi p (p.length - 1)) + 1 ≤ 4 := by unfold hiOf; omega
  have := key (4 - (hiOf (gi p (p.length - 1)) + 1)) (by omega)
  rw [show hiOf (gi p (p.length - 1)) + 1 + (4 - (hiOf (gi p (p.length - 1)) + 1)) = 4 by omega] at this
  exact this.symm
theorem kid_in {p : List Int} {m : Nat} (h1 : loOf (gi p (p.length - 1)) ≤ m) (h2 : m ≤ hiOf (gi p (p.length - 1))) (h : 0 ≤ gi p (p.length - 1) ∧ gi p (p.length - 1) ≤ 3) : kidsTo p (m + 1) = kidsTo p m ++ [p ++ [(m : Int)]] := by
  rw [kidsTo_succ]
  have : inB ((m : Int) - gi p (p.length - 1)) (-1) 1 = true := inB_iff.2 (by unfold loOf at h1; unfold hiOf at h2; omega)
  rw [this]; rfl
end Go.Proofs.YtljikigmfkfkiaaDoor
