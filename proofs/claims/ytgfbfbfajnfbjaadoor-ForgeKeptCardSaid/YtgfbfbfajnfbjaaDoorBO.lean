import Derived.Test.YtgfbfbfajnfbjaaDoorBL
import Derived.Test.YtgfbfbfajnfbjaaDoorY
namespace Go.Proofs.YtgfbfbfajnfbjaaDoor
section
set_option linter.unusedSimpArgs false
set_option linter.unusedVariables false
/-! Books with one look more, with another look, or with one striker known: what is true of them, with no program in sight. -/
theorem miss0 (B : ForgeV) (t : List Int) (i : Nat) : missB B t 0 i = false ↔ (glk B.looks i).thick - (glk B.looks i).err ≤ afterS B t (glk B.looks i).blows ∧ afterS B t (glk B.looks i).blows ≤ (glk B.looks i).thick + (glk B.looks i).err := by
  have h0 : (0 : Int) / 2 ^ i % 2 = 0 := by simp
  unfold missB
  rw [h0]
  simp [inB_iff]
theorem mem0 {B : ForgeV} {t : List Int} : t ∈ truthsS B 0 ↔ t.length = 3 ∧ (∀ k, k < 3 → (gs B.thins k).1 ≤ gi t k ∧ gi t k ≤ (gs B.thins k).2) ∧
    ∀ i, i < B.looks.length → (glk B.looks i).thick - (glk B.looks i).err ≤ afterS B t (glk B.looks i).blows ∧ afterS B t (glk B.looks i).blows ≤ (glk B.looks i).thick + (glk B.looks i).err := by
  rw [mem_truthsS, seenTo_iff]
  simp only [miss0]
def lookOk (l : LookV) : Prop := (0 ≤ l.blows ∧ l.blows ≤ 300) ∧ (0 ≤ l.thick ∧ l.thick ≤ 3000) ∧ 0 ≤ l.err ∧ l.err ≤ 50
theorem glk_app (l : List LookV) (x : LookV) (i : Nat) (h : i < l.length + 1) : glk (l ++ [x]) i = if i < l.length then glk l i else x := by
  unfold glk
  rw [List.getD_eq_getElem?_getD, List.getD_eq_getElem?_getD]
  split
  · rw [List.getElem?_append_left (by assumption)]
  · rw [List.getElem?_append_right (by omega), show i - l.length = 0 by omega]; rfl
/-- a book with one look more -/
def withLook (B : ForgeV) (A : Option Addr) (c : Nat) (l : LookV) : ForgeV := { B with kA := A, kCap := c, looks := B.looks ++ [l] }
theorem withLook_good {B : ForgeV} (g : B.Good) (A : Option Addr) (c : Nat) (l : LookV) : (withLook B A c l).Good ↔ B.looks.length < 8 ∧ lookOk l := by
  constructor
  · intro h
    have h1 := h.looksLen
    simp only [withLook, List.length_append, List.length_cons, List.length_nil] at h1
    have h2 := h.look B.looks.length (by simp [withLook])
    simp only [withLook] at h2
    rw [glk_app _ _ _ (by omega), if_neg (by omega)] at h2
    exact ⟨by omega, h2⟩
  · rintro ⟨h1, h2⟩
    refine ⟨g.many, g.tin, g.thick, g.crack, g.goal, g.thinsLen, g.hot, g.least, g.cool, g.coal, ?_, g.lot, g.thin, fun j hj => ?_⟩
    · simp only [withLook, List.length_append, List.length_cons, List.length_nil]; omega
    · simp only [withLook, List.length_append, List.length_cons, List.length_nil] at hj ⊢
      rw [glk_app _ _ _ (by omega)]
      split
      · exact g.look j (by assumption)
      · exact h2
theorem mem_withLook {B : ForgeV} {A : Option Addr} {c : Nat} {l : LookV} {t : List Int} : t ∈ truthsS (withLook B A c l) 0 ↔ t ∈ truthsS B 0 ∧ l.thick - l.err ≤ afterS B t l.blows ∧ afterS B t l.blows ≤ l.thick + l.err := by
  rw [mem0, mem0]
  have ha : ∀ n, afterS (withLook B A c l) t n = afterS B t n := fun n => rfl
  simp only [ha]
  simp only [withLook, List.length_append, List.length_cons, List.length_nil]
  constructor
  · rintro ⟨h1, h2, h3⟩
    refine ⟨⟨h1, h2, fun i hi => ?_⟩, ?_⟩
    · have := h3 i (by omega)
      rw [glk_app _ _ _ (by omega), if_pos hi] at this
      exact this
    · have := h3 B.looks.length (by omega)
      rw [glk_app _ _ _ (by omega), if_neg (by omega)] at this
      exact this
  · rintro ⟨⟨h1, h2, h3⟩, h4⟩
    refine ⟨h1, h2, fun i hi => ?_⟩
    rw [glk_app _ _ _ (by omega)]
    split
    · exact h3 i (by assumption)
    · exact h4
theorem can_withLook {B : ForgeV} {A : Option Addr} {c : Nat} {l : LookV} : canS (withLook B A c l) 0 = true ↔ ∃ t, t ∈ truthsS B 0 ∧ l.thick - l.err ≤ afterS B t l.blows ∧ afterS B t l.blows ≤ l.thick + l.err := by
  rw [canS_iff]; simp only [mem_withLook]
/-- a book of which one striker is known -/
def withThin (B : ForgeV) (A : Option Addr) (c : Nat) (k : Nat) (v : Int) : ForgeV := { B with sA := A, sCap := c, thins := B.thins.set k (v, v) }
theorem gs_set (l : List (Int × Int)) (k : Nat) (x : Int × Int) (h : k < l.length) (j : Nat) : gs (l.set k x) j = if j = k then x else gs l j := by
  unfold gs
  rw [List.getD_eq_getElem?_getD, List.getD_eq_getElem?_getD, List.getElem?_set]
  by_cases e : k = j
  · subst e; rw [if_pos rfl, if_pos rfl, if_pos h]; rfl
  · rw [if_neg e, if_neg (fun h => e h.symm)]
theorem withThin_good {B : ForgeV} (g : B.Good) (A : Option Addr) (c : Nat) {k : Nat} (hk : k < 3) (v : Int) : (withThin B A c k v).Good ↔ 1 ≤ v ∧ v ≤ 20 := by
  have hl := g.thinsLen
  constructor
  · intro h
    have h2 := h.thin k hk
    simp only [withThin] at h2
    rw [gs_set _ _ _ (by omega), if_pos rfl] at h2
    exact ⟨h2.1, h2.2.2⟩
  · intro h
    refine ⟨g.many, g.tin, g.thick, g.crack, g.goal, ?_, g.hot, g.least, g.cool, g.coal, g.looksLen, g.lot, fun j hj => ?_, g.look⟩
    · simp only [withThin, List.length_set]; exact hl
    · simp only [withThin]
      rw [gs_set _ _ _ (by omega)]
      split
      · exact ⟨h.1, Int.le_refl _, h.2⟩
      · exact g.thin j hj
theorem mem_withThin {B : ForgeV} (g : B.Good) {A : Option Addr} {c : Nat} {k : Nat} (hk : k < 3) {v : Int} (hv : (gs B.thins k).1 ≤ v ∧ v ≤ (gs B.thins k).2) {t : List Int} : t ∈ truthsS (withThin B A c k v) 0 ↔ t ∈ truthsS B 0 ∧ gi t k = v := by
  have hl := g.thinsLen
  rw [mem0, mem0]
  have ha : ∀ n, afterS (withThin B A c k v) t n = afterS B t n := fun n => rfl
  simp only [ha]
  simp only [withThin]
  constructor
  · rintro ⟨h1, h2, h3⟩
    have h0 := h2 k hk
    rw [gs_set _ _ _ (by omega), if_pos rfl] at h0
    refine ⟨⟨h1, fun j hj => ?_, h3⟩, by simp only at h0; omega⟩
    have := h2 j hj
    rw [gs_set _ _ _ (by omega)] at this
    split at this
    · subst j; simp only at this; omega
    · exact this
  · rintro ⟨⟨h1, h2, h3⟩, h4⟩
    refine ⟨h1, fun j hj => ?_, h3⟩
    rw [gs_set _ _ _ (by omega)]
    split
    · subst j; simp only; omega
    · exact h2 j hj
theorem mem_strengthS {B : ForgeV} (g : B.Good) {s : Nat} {n : Int} : n ∈ strengthS B s ↔ ∃ t, t ∈ truthsS B 0 ∧ gi t s = n := by
  unfold strengthS
  rw [mem_strengthTo]
  simp only [Int.toNat_natCast]
  constructor
  · exact fun h => h.2
  · rintro ⟨t, ht, e⟩
    have := (truthsS_mem g ht).2 s
    exact ⟨by omega, t, ht, e⟩
theorem can_withThin {B : ForgeV} (g : B.Good) {A : Option Addr} {c : Nat} {k : Nat} (hk : k < 3) {v : Int} (hv : (gs B.thins k).1 ≤ v ∧ v ≤ (gs B.thins k).2) : canS (withThin B A c k v) 0 = true ↔ v ∈ strengthS B k := by
  rw [canS_iff, mem_strengthS g]; simp only [mem_withThin g hk hv]
theorem strength_in {B : ForgeV} (g : B.Good) {k : Nat} (hk : k < 3) {v : Int} (h : v ∈ strengthS B k) : (gs B.thins k).1 ≤ v ∧ v ≤ (gs B.thins k).2 := by
  obtain ⟨t, ht, e⟩ := (mem_strengthS g).1 h
  have := (mem0.1 ht).2.1 k hk
  omega
/-- a book that lets more be true -/
structure Wider (B X : ForgeV) : Prop where
  thick : X.thick = B.thick
  all : ∀ t, t ∈ truthsS B 0 → t ∈ truthsS X 0
theorem Wider.after {B X : ForgeV} (h : Wider B X) (t : List Int) (n : Int) : afterS X t n = afterS B t n := by unfold afterS; rw [h.thick]
theorem Wider.can {B X : ForgeV} (h : Wider B X) (hc : canS B 0 = true) : canS X 0 = true := by
  obtain ⟨t, ht⟩ := canS_iff.1 hc
  exact canS_iff.2 ⟨t, h.all t ht⟩
theorem Wider.between {B X : ForgeV} (h : Wider B X) (hc : canS B 0 = true) (n : Int) : (betweenS X n).1 ≤ (betweenS B n).1 ∧ (betweenS B n).2 ≤ (betweenS X n).2 := by
  have hx := h.can hc
  obtain ⟨t, ht, e⟩ := (between_ok hc n).2.1
  obtain ⟨u, hu, f⟩ := (between_ok hc n).2.2.1
  have h1 := ((between_ok hx n).1 t (h.all t ht)).1
  have h2 := ((between_ok hx n).1 u (h.all u hu)).2
  rw [h.after] at h1 h2
  omega
theorem Wider.strength {B X : ForgeV} (h : Wider B X) (g : B.Good) (gx : X.Good) (s : Nat) (v : Int) (hv : v ∈ strengthS B s) : v ∈ strengthS X s := by
  obtain ⟨t, ht, e⟩ := (mem_strengthS g).1 hv
  exact (mem_strengthS gx).2 ⟨t, h.all t ht, e⟩
theorem wider_withLook (B : ForgeV) (A : Option Addr) (c : Nat) (l : LookV) : Wider (withLook B A c l) B := ⟨rfl, fun t h => (mem_withLook.1 h).1⟩
/-- a book of which one look can be wrong by more -/
def looserLook (B : ForgeV) (A : Option Addr) (c : Nat) (k : Nat) (e : Int) : ForgeV := { B with kA := A, kCap := c, looks := B.looks.set k ⟨(glk B.looks k).blows, (glk B.looks k).thick, e⟩ }
theorem glk_set (l : List LookV) (k : Nat) (x : LookV) (h : k < l.length) (j : Nat) : glk (l.set k x) j = if j = k then x else glk l j := by
  unfold glk
  rw [List.getD_eq_getElem?_getD, List.getD_eq_getElem?_getD, List.getElem?_set]
  by_cases e : k = j
  · subst e; rw [if_pos rfl, if_pos rfl, if_pos h]; rfl
  · rw [if_neg e, if_neg (fun h => e h.symm)]
theorem looser_good {B : ForgeV} (g : B.Good) (A : Option Addr) (c : Nat) {k : Nat} (hk : k < B.looks.length) {e : Int} (he : 0 ≤ e ∧ e ≤ 50) : (looserLook B A c k e).Good := by
  refine ⟨g.many, g.tin, g.thick, g.crack, g.goal, g.thinsLen, g.hot, g.least, g.cool, g.coal, ?_, g.lot, g.thin, fun j hj => ?_⟩
  · simp only [looserLook, List.length_set]; exact g.looksLen
  · simp only [looserLook, List.length_set] at hj ⊢
    rw [glk_set _ _ _ hk]
    split
    · have := g.look k hk; exact ⟨this.1, this.2.1, he⟩
    · exact g.look j hj
theorem wider_looser {B : ForgeV} (A : Option Addr) (c : Nat) {k : Nat} (hk : k < B.looks.length) {e : Int} (he : (glk B.looks k).err ≤ e) : Wider B (looserLook B A c k e) := by
  refine ⟨rfl, fun t h => ?_⟩
  rw [mem0] at h ⊢
  obtain ⟨h1, h2, h3⟩ := h
  refine ⟨h1, h2, fun i hi => ?_⟩
  have ha : ∀ n, afterS (looserLook B A c k e) t n = afterS B t n := fun n => rfl
  rw [ha]
  simp only [looserLook, List.length_set] at hi ⊢
  rw [glk_set _ _ _ hk]
  split
  · subst i; have := h3 k hk; simp only; omega
  · exact h3 i hi
end
end Go.Proofs.YtgfbfbfajnfbjaaDoor
