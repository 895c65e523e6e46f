import Derived.Test.YtgfbfbfajnfbjaaDoorAI
namespace Go.Proofs.YtgfbfbfajnfbjaaDoor
section
open Go.RowKit Go.Shelf
attribute [local go_sem] Oper.semAt_some
set_option linter.unusedSimpArgs false
set_option linter.unusedVariables false
theorem drop_gi' {l : List Int} {p : Nat} (h : p < l.length) : l.drop p = gi l p :: l.drop (p + 1) := drop_gi h
theorem OwnBars.ne_deferred {w : World} {base : Nat} {v : Value} {l : List (List Int)} {q : Nat} {ds : Option (List Deferred)} (h : OwnBars w base v l) (hl : w.heap[q]? = some (.deferred ds)) : ∀ g, v.ownBlock = some g → ¬ g = q := by
  intro g hg e
  obtain ⟨_, h2⟩ := h
  rcases h2 with ⟨rfl, _⟩ | ⟨g', cap, cur, rfl, _, hh, _⟩
  · cases hg
  · simp [Value.ownBlock] at hg; subst hg; rw [e, hl] at hh; cases hh
theorem OwnBars.base {w : World} {base base' : Nat} {v : Value} {l : List (List Int)} (h : OwnBars w base v l) (hb : base' ≤ base) : OwnBars w base' v l := by
  obtain ⟨h1, h2⟩ := h
  exact ⟨h1, h2.imp id fun ⟨g, cap, cur, e1, e2, e3⟩ => ⟨g, cap, cur, e1, Nat.le_trans hb e2, e3⟩⟩
theorem OwnBars.shape {w : World} {base : Nat} {v : Value} {l : List (List Int)} (h : OwnBars w base v l) (hl : 0 < l.length) : ∃ g c, v = .slice (some ⟨g, 0, none⟩) l.length c := by
  obtain ⟨h1, h2⟩ := h
  rcases h2 with ⟨rfl, hn⟩ | ⟨g, cap, cur, rfl, _⟩
  · omega
  · exact ⟨g, cap, rfl⟩
theorem castsS_len (B : ForgeV) : ∀ (sizes : List Int) (left : List Int) (ms : List (List Int)), castsS B left sizes = some ms → ms.length = sizes.length
  | [], left, ms, h => by simp [castsS] at h; subst h; rfl
  | s :: ss, left, ms, h => by
    rw [castsS_step] at h
    obtain ⟨l1, m, l2, _, h3, _⟩ := List.findSome?_eq_some_iff.1 h
    obtain ⟨r, hr, rfl⟩ := Option.map_eq_some_iff.1 h3
    simp [castsS_len B ss _ r hr]
theorem keyOf_inj {B : ForgeV} {l l' : List Int} {d d' : Nat} (h1 : l.length = B.lots.length) (h2 : l'.length = B.lots.length) (h4 : B.lots.length ≤ 4) (h : keyOf l d = keyOf l' d') : l = l' ∧ d = d' := by
  simp only [keyOf, Prod.mk.injEq] at h
  obtain ⟨g0, g1, g2, g3, gd⟩ := h
  refine ⟨?_, by omega⟩
  apply List.ext_getElem (by omega)
  intro k hk hk'
  have e : ∀ (l : List Int) (hk : k < l.length), l[k] = gi l k := fun l hk => by unfold gi; rw [List.getD_eq_getElem?_getD, List.getElem?_eq_getElem hk]; rfl
  rw [e l hk, e l' hk']
  have : k = 0 ∨ k = 1 ∨ k = 2 ∨ k = 3 := by omega
  rcases this with rfl | rfl | rfl | rfl <;> assumption
theorem VainS.add {B : ForgeV} {sizes : List Int} {vs vs' : List RK} (h : VainS B sizes vs) (h4 : B.lots.length ≤ 4) (left : List Int) (d : Nat) (hl : left.length = B.lots.length) (hn : castsS B left (sizes.drop d) = none) (hvs : vs' = vs ∨ vs' = vs ++ [keyOf left d]) : VainS B sizes vs' := by
  intro l' d' hl' hm
  rcases hvs with rfl | rfl
  · exact h l' d' hl' hm
  · rw [List.mem_append, List.mem_singleton] at hm
    rcases hm with hm | hm
    · exact h l' d' hl' hm
    · obtain ⟨rfl, rfl⟩ := keyOf_inj hl' hl h4 hm
      exact hn
set_option maxRecDepth 100000 in
set_option maxHeartbeats 4000000 in
theorem cast_succ (B : ForgeV) (g : B.Good) (sizes : List Int) (SA : Option Addr) (sc : Nat) (w0 : World) (hB : B.Reads w0) (hMk : EndsAt w0) (hS : IntsAt w0 SA sizes) (nS nV nB nC nO bm : Nat) (hs4 : sizes.length ≤ 4) (hsz : ∀ k, k < sizes.length → 1 ≤ gi sizes k ∧ gi sizes k ≤ 24)
    (hap : Apart w0 nS nV nB nC nO bm) (n : Nat) (IH : CastCall B sizes SA sc w0 nS nV nB nC nO bm n) : CastCall B sizes SA sc w0 nS nV nB nC nO bm (n + 1) := by
  intro left d W vs hlen hlb hd hE hm hv
  have hdl : d < sizes.length := by omega
  have hdli : (d : Int) < sizes.length := by omega
  have hnd : ((d : Int) == (sizes.length : Int)) = false := by rw [beq_eq_false_iff_ne]; omega
  have hs4i : (sizes.length : Int) ≤ 4 := by omega
  obtain ⟨sb, so, rfl⟩ := hS.some_ (by omega)
  have hsd := hsz d hdl
  have cs := cell_below hE.old (hS.at_ hdl)
  have HDrop := Lib.hid (drop_gi' hdl)
  have Hap := Lib.hid hap
  have HE := Lib.hid hE
  have Hv := Lib.hid hv
  have Hm := Lib.hid hm
  have Hg := Lib.hid g
  have Hlen := Lib.hid hlen
  have Hlb := Lib.hid hlb
  have Hd := Lib.hid hd
  have HB := Lib.hid hB
  have HMk := Lib.hid hMk
  have hlots := g.many
  have hb2 : Below W.heap.size W ((W.alloc (.cells #[.int .i64 (gi left 0), .int .i64 (gi left 1), .int .i64 (gi left 2), .int .i64 (gi left 3), .int .i64 d] 101)).alloc (.cells #[.bool false] 4)) := ((Below.refl _ _).alloc (Nat.le_refl _) _).alloc (by simp) _
  have k6 := (BoxAt.new W #[.int .i64 (gi left 0), .int .i64 (gi left 1), .int .i64 (gi left 2), .int .i64 (gi left 3), .int .i64 d] 101).alloc (.cells #[.bool false] 4)
  have k7 := BoxAt.new (W.alloc (.cells #[.int .i64 (gi left 0), .int .i64 (gi left 1), .int .i64 (gi left 2), .int .i64 (gi left 3), .int .i64 d] 101)) #[.bool false] 4
  rw [World.size_alloc] at k7
  clear hlen hlb hd hE hm hv g hap hB hMk hS
  rw [show restK (keyOf left d) = .agg #[.int .i64 (gi left 0), .int .i64 (gi left 1), .int .i64 (gi left 2), .int .i64 (gi left 3), .int .i64 d] from rfl]
  refine (callsIn_wide (n := 0)).1 ?_
  refine callsIn_of_wp_marks Tryd.func78 rfl trivial ?_ rfl
  simp only [Tryd.ntmps78, List.size_toArray, List.length_cons, List.length_nil, Nat.reduceAdd, Nat.reduceSub, Array.replicate_succ, Array.replicate_zero, List.push_toArray, List.append_toArray, List.nil_append, List.cons_append]
  gi_wp2_with fail
  refine wpIn_scope_w ?_
  generalize (W.alloc _).alloc _ = W2 at *
  have hn7 : W.heap.size < W.heap.size + 1 := by omega
  generalize W.heap.size + 1 = n7 at *
  have H2 := Lib.hid hb2
  have HE2 := Lib.hid (HE.out.below hb2)
  have Hm2 := Lib.hid (Hm.out.below hb2)
  have K6 := Lib.hid k6
  have K7 := Lib.hid k7
  have cs2 := cell_below hb2 cs
  have csl := World.block_lt_of_cell? _ _ cs2
  simp only at csl
  obtain ⟨cS, fS, lS⟩ := HE2.out.kS
  obtain ⟨cV, fV, lV⟩ := HE2.out.kV
  obtain ⟨c6, f6, l6⟩ := k6
  have hlk := restKeys.lookup Hm2.out (keyOf left d)
  rw [show restK (keyOf left d) = .agg #[.int .i64 (gi left 0), .int .i64 (gi left 1), .int .i64 (gi left 2), .int .i64 (gi left 3), .int .i64 d] from rfl] at hlk
  clear hb2 k7
  by_cases hin : keyOf left d ∈ vs
  · simp only [hin, decide_true] at hlk
    have HF := Lib.hid (show CastPost B sizes nO bm left d W (.returned (.bool false)) (W2.setCell ⟨n7, 0, none⟩ (.bool false)) from by
      have hks : Keep (fun q => q = n7) W2 (W2.setCell ⟨n7, 0, none⟩ (.bool false)) := Keep.setCell (M := fun q => q = n7) (Keep.refl _ _) (p := ⟨n7, 0, none⟩) (.inl rfl) _
      exact .inr ⟨rfl, Hv.out left d Hlen.out hin, ⟨vs, Hm2.out.keep hks (by have := Hm.out.lt; omega), Hv.out⟩, (Keep.of_below H2.out).trans' hks (fun q hq e => by omega)⟩)
    have Hs7 := Lib.hid (K7.out.set1 (.bool false))
    obtain ⟨c7, f7, l7⟩ := K7.out
    clear hin
    gi_wp2
    obtain ⟨c7', f7', l7'⟩ := Hs7.out
    refine ⟨_, ?_, HF.out⟩
    simp [results, Tryd.results78, go_sem, c7']
  · simp only [hin, decide_false] at hlk
    clear hin
    gi_wp2_with fail
    refine wpIn_label_w ?_
    clear hlk cS fS lS cV fV lV c6 f6 l6
    gi_upto_region 5 with (fail)
    refine region_wideN (S := fun w' => Below W2.heap.size W2 w' ∧ BoxAt w' W.heap.size #[.int .i64 (gi left 0), .int .i64 (gi left 1), .int .i64 (gi left 2), .int .i64 (gi left 3), .int .i64 d] ∧ BoxAt w' nB #[.slice B.lA B.lots.length B.lCap, .int .i64 B.tlo, .int .i64 B.thi, .int .i64 B.thick, .int .i64 B.crack, .int .i64 B.glo, .int .i64 B.ghi, .slice B.sA B.thins.length B.sCap, .int .i64 B.hot, .int .i64 B.least, .int .i64 B.clo, .int .i64 B.chi, .int .i64 B.coal, .slice B.kA B.looks.length B.kCap] ∧ BoxAt w' nS #[.slice (some ⟨sb, so, none⟩) sizes.length sc] ∧ w'.cell? ⟨sb, so + d, none⟩ = some (.int .i64 (gi sizes d))) 9 (by kernel_rfl) ?_ (fun hHeld => ?_)
    · exact ⟨(Below.refl _ _).drew, K6.out.below ((Below.refl _ _).drew), HE2.out.kB.below ((Below.refl _ _).drew), HE2.out.kS.below ((Below.refl _ _).drew), cs2⟩
    first | (refine anyT_take 0 (some 20) (v := ?_) rfl rfl (by kernel_rfl) (by kernel_rfl) (by kernel_rfl) (by kernel_rfl) (fun _ _ _ h => h) (Or.inl ⟨by rfl, ?_⟩) hHeld ?_; rotate_left; focus (intro wq hSw; obtain ⟨_, ⟨c6, f6, l6⟩, ⟨cB, fB, lB⟩, ⟨cS, fS, lS⟩, csd⟩ := hSw; go_simp; (try with_reducible rfl); done))
    (try simp only [Act.put, List.setIfInBounds_toArray, List.set_cons_zero, List.set_cons_succ])
    first | (refine anyT_take 1 (some 21) (v := ?_) rfl rfl (by kernel_rfl) (by kernel_rfl) (by kernel_rfl) (by kernel_rfl) (fun _ _ _ h => h) (Or.inl ⟨by rfl, ?_⟩) hHeld ?_; rotate_left; focus (intro wq hSw; obtain ⟨_, ⟨c6, f6, l6⟩, ⟨cB, fB, lB⟩, ⟨cS, fS, lS⟩, csd⟩ := hSw; go_simp; (try with_reducible rfl); done))
    (try simp only [Act.put, List.setIfInBounds_toArray, List.set_cons_zero, List.set_cons_succ])
    first | (refine anyT_take 2 (some 22) (v := ?_) rfl rfl (by kernel_rfl) (by kernel_rfl) (by kernel_rfl) (by kernel_rfl) (fun _ _ _ h => h) (Or.inl ⟨by rfl, ?_⟩) hHeld ?_; rotate_left; focus (intro wq hSw; obtain ⟨_, ⟨c6, f6, l6⟩, ⟨cB, fB, lB⟩, ⟨cS, fS, lS⟩, csd⟩ := hSw; go_simp; (try with_reducible rfl); done))
    (try simp only [Act.put, List.setIfInBounds_toArray, List.set_cons_zero, List.set_cons_succ])
    first | (refine anyT_take 3 (some 23) (v := ?_) rfl rfl (by kernel_rfl) (by kernel_rfl) (by kernel_rfl) (by kernel_rfl) (fun _ _ _ h => h) (Or.inl ⟨by rfl, ?_⟩) hHeld ?_; rotate_left; focus (intro wq hSw; obtain ⟨_, ⟨c6, f6, l6⟩, ⟨cB, fB, lB⟩, ⟨cS, fS, lS⟩, csd⟩ := hSw; go_simp; (try with_reducible rfl); done))
    (try simp only [Act.put, List.setIfInBounds_toArray, List.set_cons_zero, List.set_cons_succ])
    first | (refine anyT_take 4 (some 24) (v := ?_) rfl rfl (by kernel_rfl) (by kernel_rfl) (by kernel_rfl) (by kernel_rfl) (fun _ _ _ h => h) (Or.inl ⟨by rfl, ?_⟩) hHeld ?_; rotate_left; focus (intro wq hSw; obtain ⟨_, ⟨c6, f6, l6⟩, ⟨cB, fB, lB⟩, ⟨cS, fS, lS⟩, csd⟩ := hSw; go_simp; (try with_reducible rfl); done))
    (try simp only [Act.put, List.setIfInBounds_toArray, List.set_cons_zero, List.set_cons_succ])
    first | (refine anyT_take 5 (some 25) (v := ?_) rfl rfl (by kernel_rfl) (by kernel_rfl) (by kernel_rfl) (by kernel_rfl) (fun _ _ _ h => h) (Or.inl ⟨by rfl, ?_⟩) hHeld ?_; rotate_left; focus (intro wq hSw; obtain ⟨_, ⟨c6, f6, l6⟩, ⟨cB, fB, lB⟩, ⟨cS, fS, lS⟩, csd⟩ := hSw; go_simp; (try with_reducible rfl); done))
    (try simp only [Act.put, List.setIfInBounds_toArray, List.set_cons_zero, List.set_cons_succ])
    first | (refine anyT_take 6 (some 26) (v := ?_) rfl rfl (by kernel_rfl) (by kernel_rfl) (by kernel_rfl) (by kernel_rfl) (fun _ _ _ h => h) (Or.inl ⟨by rfl, ?_⟩) hHeld ?_; rotate_left; focus (intro wq hSw; obtain ⟨_, ⟨c6, f6, l6⟩, ⟨cB, fB, lB⟩, ⟨cS, fS, lS⟩, csd⟩ := hSw; go_simp; (try with_reducible rfl); done))
    (try simp only [Act.put, List.setIfInBounds_toArray, List.set_cons_zero, List.set_cons_succ])
    first | (refine anyT_take 7 (some 27) (v := ?_) rfl rfl (by kernel_rfl) (by kernel_rfl) (by kernel_rfl) (by kernel_rfl) (fun _ _ _ h => h) (Or.inl ⟨by rfl, ?_⟩) hHeld ?_; rotate_left; focus (intro wq hSw; obtain ⟨_, ⟨c6, f6, l6⟩, ⟨cB, fB, lB⟩, ⟨cS, fS, lS⟩, csd⟩ := hSw; go_simp; (try with_reducible rfl); done))
    (try simp only [Act.put, List.setIfInBounds_toArray, List.set_cons_zero, List.set_cons_succ])
    refine anyT_one 8 (by kernel_rfl) rfl (fun K hK => ?_)
    go_simp
    refine (eq0_3 (v' := B.val) (by unfold ForgeV.val ForgeV.cells; rfl) (melts_calls B left (gi sizes d) _)).mono ?_; rintro e w3 ⟨bB, bH, bx, rfl, ⟨kB, kH, km⟩, hle, hb3⟩; have hHb := hHeld
    refine hK.out _ _ ?_ (fun hHeld => ?_)
    · exact ⟨below_then hHeld.1 hHeld.1.size hb3, hHeld.2.1.below hb3, hHeld.2.2.1.below hb3, hHeld.2.2.2.1.below hb3, cell_below hb3 hHeld.2.2.2.2⟩
    clear hK K
    (try simp only [Act.put, List.setIfInBounds_toArray, List.set_cons_zero, List.set_cons_succ])
    refine anyT_done (by kernel_rfl) ?_ _
    rw [NP_normal]
    have hlb7 : n7 < bB ∧ n7 < bH := by have := (K7.out.below hHb.1).lt; omega
    have H3 := Lib.hid (H2.out.trans (hHeld.1.mono H2.out.size))
    have HE3 := Lib.hid (HE2.out.below hHeld.1)
    have Hm3 := Lib.hid (Hm2.out.below hHeld.1)
    have K63 := Lib.hid hHeld.2.1
    have K73 := Lib.hid (K7.out.below hHeld.1)
    have hbmW := Hm.out.lt
    have hnOW := HE.out.kO.lt
    have hs3 := H3.out.size
    have hl73 := K73.out.lt
    have hap := Hap.out
    have hapm := hap.m
    have hapo := hap.o
    have haplo := hap.lo
    clear hHeld hHb hle hb3 cs2 csl hap HE2 Hm2 K6 K7
    gi_wp2_with fail
    refine wpIn_range_p (gf := 102) (lb := #[.pointer (some ⟨bB, 0, none⟩), .pointer (some ⟨bH, 0, none⟩), .pointer (some ⟨bx, 0, none⟩)]) rfl entersMelts1
      (melts_seq B Hg.out left Hlen.out (fun k => by have := Hlb.out k; omega) (gi sizes d) (by omega) w0 HB.out HMk.out bB bH bx (fun k => k = bm) w3 HE3.out.old kB kH km (by rintro k rfl; exact ⟨by omega, by omega, by omega, by omega⟩)) (fun k => k = nO ∨ k = bm ∨ k = n7) (fun k h => by omega) (fun k h => by omega) (fun x vs W hE => by rw [hE]; rfl)
      (fun pre Pv W' => (∀ m, m ∈ pre → castsS B (subL left m) (sizes.drop (d + 1)) = none) ∧ (∃ vs, MapAt restK W' bm vs ∧ VainS B sizes vs) ∧ Keep (fun k => k = bm ∨ w3.heap.size ≤ k) w3 W')
      (fun c pre W' => c = .ret ∧ BoxAt W' n7 #[.bool true] ∧ ∃ ms v, castsS B left (sizes.drop d) = some ms ∧ BoxAt W' nO #[v] ∧ OwnBars W' W.heap.size v ms.reverse)
      (fun Pv l s X Y r hl hr hk hI => ⟨hI.1, hI.2.1.imp fun vs h => ⟨h.1.keep hk (by omega), h.2⟩, hI.2.2.trans (hk.mono fun k _ e => .inr (by omega))⟩)
      (fun s Pv Pv' X Y hI hk hp _ => ⟨hI.1, hI.2.1.imp fun vs h => ⟨h.1.keep hk (fun e => by have := hp _ e; omega), h.2⟩, hI.2.2.trans (hk.mono fun k _ e => .inr (by have := hp k e; omega))⟩)
      (fun c l s X Y r hl hr hk hI => ⟨hI.1, hI.2.1.keep hk (by omega), hI.2.2.imp fun ms h => h.imp fun v h => ⟨h.1, h.2.1.keep hk (by omega), h.2.2.keep_l hr hk⟩⟩)
      (fun c s X Y hI hb => ⟨hI.1, hI.2.1.below hb, hI.2.2.imp fun ms h => h.imp fun v h => ⟨h.1, h.2.1.below hb, h.2.2.keepM (Keep.of_below (M := fun _ => False) hb) (fun _ _ h => h)⟩⟩)
      ⟨(fun m h => by cases h), ⟨vs, Hm3.out, Hv.out⟩, Keep.refl _ _⟩ ?round ?done ?stop
    case stop =>
      rintro D c pre W5 hD hK hpre ⟨rfl, k75, ms, v, hcs, kO5, hO5⟩ hd
      have hpd : Keep (fun k => k = D) W5 (W5.putObj D (.deferred none)) := Keep.putObj _ _ _
      have HF := Lib.hid (show CastPost B sizes nO bm left d W (.returned (.bool true)) (W5.putObj D (.deferred none)) from
        .inl ⟨rfl, ⟨ms, v, hcs, kO5.keep hpd (by omega), hO5.keepM hpd (hO5.ne_deferred hd)⟩, ((Keep.of_below H3.out).trans' hK (fun q hq e => by omega)).trans' hpd (fun q hq e => by omega)⟩)
      have Hd := Lib.hid hd
      obtain ⟨c75, f75, l75⟩ := k75.keep hpd (by omega)
      clear hpd hd hK hpre hcs kO5 hO5 k75
      gi_wp2
      refine ⟨by simp, .inl ⟨_, _, rfl, run_takeDeferred Hd.out, ?_⟩⟩
      refine ⟨_, ?_, HF.out⟩
      simp [results, Tryd.results78, go_sem, c75]
    case done =>
      rintro D W5 hD hK ⟨Pv, ⟨hfail, ⟨vs5, hm5, hv5⟩, hK5⟩⟩ hd
      have hnone : castsS B left (sizes.drop d) = none := by rw [HDrop.out]; exact castsS_none B left _ _ hfail
      obtain ⟨W9, hrun, hmW, hkW⟩ := restKeys.update hm5 (keyOf left d)
      rw [show restK (keyOf left d) = .agg #[.int .i64 (gi left 0), .int .i64 (gi left 1), .int .i64 (gi left 2), .int .i64 (gi left 3), .int .i64 d] from rfl] at hrun
      obtain ⟨vs9, hmW, hvs9⟩ : ∃ vs9, MapAt restK W9 bm vs9 ∧ (vs9 = vs5 ∨ vs9 = vs5 ++ [keyOf left d]) := ⟨_, hmW, by split; exact .inl rfl; exact .inr rfl⟩
      have hv9 := hv5.add hlots.2 left d Hlen.out hnone hvs9
      have hKW := ((Keep.of_below (M := fun k => k = bm) H3.out).trans' hK (fun q hq e => by omega)).trans' hkW (fun q hq e => e)
      obtain ⟨c6, f6, l6⟩ := K63.out.keep hK (by omega)
      obtain ⟨cV, fV, lV⟩ := HE3.out.kV.keep hK (by have := HE3.out.kV.lt; have := HE.out.kV.lt; omega)
      have k79 := (K73.out.keep hK (by omega)).keep hkW (by omega)
      have hks : Keep (fun q => q = n7) W9 (W9.setCell ⟨n7, 0, none⟩ (.bool false)) := Keep.setCell (M := fun q => q = n7) (Keep.refl _ _) (p := ⟨n7, 0, none⟩) (.inl rfl) _
      have hd9 := (hks.block D (Nat.lt_of_lt_of_le (Array.getElem?_eq_some_iff.1 hd).1 hkW.size) (by omega)).trans ((hkW.block D (Array.getElem?_eq_some_iff.1 hd).1 (by omega)).trans hd)
      have hpd : Keep (fun k => k = D) (W9.setCell ⟨n7, 0, none⟩ (.bool false)) ((W9.setCell ⟨n7, 0, none⟩ (.bool false)).putObj D (.deferred none)) := Keep.putObj _ _ _
      have HF := Lib.hid (show CastPost B sizes nO bm left d W (.returned (.bool false)) ((W9.setCell ⟨n7, 0, none⟩ (.bool false)).putObj D (.deferred none)) from
        .inr ⟨rfl, hnone, ⟨_, (hmW.keep hks (by omega)).keep hpd (by omega), hv9⟩, (hKW.trans' hks (fun q hq e => by omega)).trans' hpd (fun q hq e => by omega)⟩)
      obtain ⟨c7e, f7e, l7e⟩ := (k79.set1 (.bool false)).keep hpd (by omega)
      obtain ⟨c79, f79, l79⟩ := k79
      have Hd := Lib.hid hd9
      clear hpd hd hK hnone hfail hm5 hv5 hmW hkW hv9 hKW hks hd9 hK5
      gi_wp2
      refine ⟨by simp, .inl ⟨_, _, rfl, run_takeDeferred Hd.out, ?_⟩⟩
      refine ⟨_, ?_, HF.out⟩
      simp [results, Tryd.results78, go_sem, c7e]
    case round =>
      rintro l Pv pre x rest vs' W5 hxs hl hle5 hpv ⟨hfail, ⟨vs5, hm5, hv5⟩, hK5⟩ hE
      unfold EncMelt at hE
      subst hE
      have hxm := meltsS_mem (fun k => (Hlb.out k).1) (show x ∈ meltsS B left (gi sizes d) by rw [hxs]; simp)
      have Hxm := Lib.hid hxm
      have Hxs := Lib.hid hxs
      have Hfail := Lib.hid hfail
      have Hm5 := Lib.hid hm5
      have Hv5 := Lib.hid hv5
      have HK5 := Lib.hid hK5
      have hb8 : Below W5.heap.size W5 (W5.alloc (.cells (pad4 x) 85)) := (Below.refl _ _).alloc (Nat.le_refl _) _
      have k8 := BoxAt.new W5 (pad4 x) 85
      clear hxm hxs hfail hm5 hv5 hK5
      unfold pad4
      gi_wp2
      change Keep _ W5 (W5.alloc (.cells (pad4 x) 85)) ∧ _
      refine ⟨Keep.of_below hb8, ?_⟩
      rintro W6 r hlr hk2
      have hn8 : W5.heap.size ≠ l := fun e => by
        have := cell_ne_loop hlr (p := ⟨W5.heap.size, 0, none⟩) (v := .int .i64 (gi x 0)) (by exact k8.cell 0)
        exact this e
      have K8 := Lib.hid (k8.keep hk2 hn8)
      have HK6 := Lib.hid (show Keep (fun k => k = bm ∨ w3.heap.size ≤ k) w3 W6 from (HK5.out.trans (Keep.of_below hb8)).trans (hk2.mono fun k _ e => .inr (by omega)))
      have Hm6 := Lib.hid ((Hm5.out.below hb8).keep hk2 (by omega))
      have hl86 : W5.heap.size < W6.heap.size := K8.out.lt
      generalize W5.heap.size = n8 at *
      have HE6 := Lib.hid (HE3.out.keep HK6.out (fun q hq e => by omega) (by have := HE.out.kS.lt; omega) (by have := HE.out.kV.lt; omega) (by have := HE.out.kB.lt; omega) (by have := HE.out.kC.lt; omega) (by omega))
      have K66 := Lib.hid (K63.out.keep HK6.out (by omega))
      have K76 := Lib.hid (K73.out.keep HK6.out (by omega))
      obtain ⟨c6, f6, l6⟩ := K66.out
      obtain ⟨c8, f8, l8⟩ := K8.out
      unfold pad4 at c8
      have hw1 : IntKind.i64.wrap ((d : Int) + 1) = (d : Int) + 1 := wrap_in (by omega) (by omega)
      have k9 := BoxAt.new W6 (nextC left x 0 ((d : Int) + 1)) 101
      have hb9 : Below W6.heap.size W6 (W6.alloc (.cells (nextC left x 0 ((d : Int) + 1)) 101)) := (Below.refl _ _).alloc (Nat.le_refl _) _
      rw [nextC_zero] at k9 hb9
      clear hb8 k8 hlr hk2 HK5 Hm5 HE3 K63 K73
      gi_upto_region 8 with (fail)
      generalize W6.alloc _ = W7 at *
      rw [← nextC_zero left x] at k9
      have K9 := Lib.hid k9
      have HB9 := Lib.hid hb9
      obtain ⟨n9, hn9e⟩ : ∃ n9, n9 = W6.heap.size := ⟨_, rfl⟩
      rw [← hn9e] at K9 ⊢
      have Hn9e := Lib.hid hn9e
      obtain ⟨c8', f8', l8'⟩ := K8.out.below hb9
      unfold pad4 at c8'
      clear c6 f6 l6 c8 f8 l8 hb9 k9 hn9e
      gi_wp2_with fail
      gi_loopw [37] (fun i wr => ∃ k : Nat, k ≤ 4 ∧ i = .int .i64 k ∧ BoxAt wr n9 (nextC left x k ((d : Int) + 1)) ∧ Below n9 W6 wr) (fun i _ => 4 - (intOf i).toNat)
      case atStart => exact ⟨0, Nat.zero_le _, rfl, K9.out, by rw [Hn9e.out]; exact HB9.out⟩
      case round =>
        obtain ⟨k, hk, rfl, hb9k, hBe⟩ := hrel
        have HBe := Lib.hid hBe
        clear c8' f8' l8' K9 hBe
        by_cases hlt : k < 4
        · have hki : (k : Int) < 4 := by omega
          have hix := fun w => pad4_index x k hlt w
          have hck := (hb9k.cell k).trans (nextC_get left x k ((d : Int) + 1) k hlt)
          rw [show nextV left x k k = gi left k from by unfold nextV; rw [if_neg (by omega)]] at hck
          have hfk := hb9k.frozen
          have hlk := hb9k.lt
          have hput := hb9k.put k (.int .i64 (gi left k - gi x k)) (by simp [nextC]; omega)
          rw [nextC_step left x k _ hlt] at hput
          have Hput := Lib.hid hput
          have HBe2 := Lib.hid (HBe.out.setCell (p := ⟨n9, k, none⟩) (Nat.le_refl _) (.int .i64 (gi left k - gi x k)))
          have hl6 := Hlb.out k
          have hx6 := Hxm.out.2.1 k
          have hw2 : IntKind.i64.wrap (gi left k - gi x k) = gi left k - gi x k := wrap_in (by omega) (by omega)
          clear hb9k hput
          gi_wp2
          go_roundw
          case rel => exact ⟨k + 1, by omega, by go_num, Hput.out, HBe2.out⟩
          case measure => simp [intOf]; omega
        · obtain rfl : k = 4 := by omega
          have hB9 : Below W6.heap.size W6 wr := by have := HBe.out; rw [Hn9e.out] at this; exact this
          have HB9r := Lib.hid hB9
          have HEr := Lib.hid (HE6.out.below hB9)
          have Hmr := Lib.hid (Hm6.out.below hB9)
          have K6r := Lib.hid (K66.out.below hB9)
          have K7r := Lib.hid (K76.out.below hB9)
          have K8r := Lib.hid (K8.out.below hB9)
          rw [nextC_four] at hb9k
          have hsub : ∀ j, gi (subL left x) j = gi left j - gi x j := gi_subL left x (by rw [Hxm.out.1])
          have hkey : restK (keyOf (subL left x) ((d + 1 : Nat) : Int)) = .agg #[.int .i64 (gi left 0 - gi x 0), .int .i64 (gi left 1 - gi x 1), .int .i64 (gi left 2 - gi x 2), .int .i64 (gi left 3 - gi x 3), .int .i64 ((d : Int) + 1)] := by
            unfold restK keyOf; rw [hsub 0, hsub 1, hsub 2, hsub 3]; rfl
          have Hsub := Lib.hid hsub
          have Hkey := Lib.hid hkey
          have K9r := Lib.hid hb9k
          obtain ⟨c9, f9, l9⟩ := hb9k
          obtain ⟨c6, f6, l6⟩ := K6r.out
          obtain ⟨cC, fC, lC⟩ := HEr.out.kC
          have heq := fun w => eqRest (gi left 0 - gi x 0) (gi left 1 - gi x 1) (gi left 2 - gi x 2) (gi left 3 - gi x 3) ((d : Int) + 1) (gi left 0) (gi left 1) (gi left 2) (gi left 3) d w
          rw [show decide ((d : Int) + 1 = (d : Int)) = false from by rw [decide_eq_false_iff_not]; omega, Bool.and_false] at heq
          clear hsub hkey hB9
          gi_wp2_with fail
          refine ⟨trivial, rfl, ?_⟩
          have hih := IH (subL left x) (d + 1) wr vs5 (by rw [subL_len left x (by rw [Hxm.out.1]), Hlen.out]) (fun j => by rw [Hsub.out j]; have := Hlb.out j; have := Hxm.out.2.1 j; omega) (by have := Hd.out; omega) HEr.out Hmr.out Hv5.out
          rw [Hkey.out] at hih
          refine ((callsIn_wide.2 hih).inRound l).mono ?_
          clear hih
          rintro e W8 hp8
          obtain ⟨b, rfl, hb8⟩ := hp8.split
          have hrl : W6.heap.size ≤ wr.heap.size := HB9r.out.size
          clear hp8 c9 f9 l9 c6 f6 l6 cC fC lC
          rcases hb8 with ⟨rfl, ⟨ms, v, hcs, hkO, hO⟩, hk8⟩ | ⟨rfl, hcn, ⟨vs8, hm8, hv8⟩, hk8⟩
          · have hml : ms.length ≤ 4 := by have := castsS_len B _ _ _ hcs; rw [List.length_drop] at this; omega
            have Hcs := Lib.hid hcs
            have Hk8 := Lib.hid hk8
            have HO := Lib.hid hO
            have KO := Lib.hid hkO
            have hr8 : wr.heap.size ≤ W8.heap.size := hk8.size
            have k88 := K8r.out.keep hk8 (by omega)
            have K78 := Lib.hid (K7r.out.keep hk8 (by omega))
            obtain ⟨c8, f8, l8⟩ := k88
            unfold pad4 at c8
            obtain ⟨cO, fO, lO⟩ := hkO
            clear hcs hk8 hO
            gi_wp2_with (gi_at_builtin; refine wpListIn_appB _ rfl _ _ rfl wr.heap.size _ ms.reverse rfl (World.ownsRow.alloc HO.out _) W8.heap.size 1 x rfl (BoxAt.new _ _ _) (by simp; omega) (by simp; omega) ?_)
            intro v' w10 ho hgr
            obtain ⟨g4, c4, hv4⟩ := ho.shape (by simp)
            rw [List.length_append] at hv4
            simp only [List.length_cons, List.length_nil, Nat.zero_add, List.length_reverse] at hv4
            have hvo : ∀ p, v.ownBlock = some p → wr.heap.size ≤ p := fun p h => (World.ownsRow.lt HO.out p h).1
            have hkg : Keep (fun k => v.ownBlock = some k) W8 w10 :=
              (Keep.of_below ((Below.refl _ _).alloc (Nat.le_refl _) (.cells #[.int .i64 (gi x 0), .int .i64 (gi x 1), .int .i64 (gi x 2), .int .i64 (gi x 3)] 85))).trans ⟨hgr.os, hgr.tape, hgr.output, hgr.size, fun k hk hn => hgr.block k hk (fun e => hn e.symm)⟩
            have kO10 := KO.out.keep hkg (fun h => by have := hvo _ h; omega)
            have k710 := K78.out.keep hkg (fun h => by have := hvo _ h; omega)
            have hvl : ∀ p, v'.ownBlock = some p → wr.heap.size ≤ p := fun p h => (World.ownsRow.lt ho p h).1
            have hks1 : Keep (fun q => q = nO) w10 (w10.setCell ⟨nO, 0, none⟩ v') := Keep.setCell (M := fun q => q = nO) (Keep.refl _ _) (p := ⟨nO, 0, none⟩) (.inl rfl) _
            have hks2 : Keep (fun q => q = n7) (w10.setCell ⟨nO, 0, none⟩ v') ((w10.setCell ⟨nO, 0, none⟩ v').setCell ⟨n7, 0, none⟩ (.bool true)) := Keep.setCell (M := fun q => q = n7) (Keep.refl _ _) (p := ⟨n7, 0, none⟩) (.inl rfl) _
            have k711 := k710.keep hks1 (by omega)
            have kO11 := (kO10.set1 v').keep hks2 (by omega)
            have hO11 := (ho.keepM hks1 (fun p h e => by have := hvl p h; omega)).keepM hks2 (fun p h e => by have := hvl p h; omega)
            have hkf : Keep (fun k => k = nO ∨ k = bm ∨ k = n7) W6 ((w10.setCell ⟨nO, 0, none⟩ v').setCell ⟨n7, 0, none⟩ (.bool true)) :=
              ((((Keep.of_below HB9r.out).trans' Hk8.out (fun q hq e => by omega)).trans' hkg (fun q hq e => by have := hvo q e; omega)).trans' hks1 (fun q hq e => by omega)).trans' hks2 (fun q hq e => by omega)
            have HFin := Lib.hid (show Keep (fun k => k = nO ∨ k = bm ∨ k = n7) W6 ((w10.setCell ⟨nO, 0, none⟩ v').setCell ⟨n7, 0, none⟩ (.bool true)) ∧ Code.ret = .ret ∧ BoxAt ((w10.setCell ⟨nO, 0, none⟩ v').setCell ⟨n7, 0, none⟩ (.bool true)) n7 #[.bool true] ∧ ∃ ms v, castsS B left (sizes.drop d) = some ms ∧ BoxAt ((w10.setCell ⟨nO, 0, none⟩ v').setCell ⟨n7, 0, none⟩ (.bool true)) nO #[v] ∧ OwnBars ((w10.setCell ⟨nO, 0, none⟩ v').setCell ⟨n7, 0, none⟩ (.bool true)) W.heap.size v ms.reverse from
              ⟨hkf, rfl, k711.set1 (.bool true), x :: ms, v', by rw [HDrop.out]; exact castsS_some B left _ _ pre rest x ms Hxs.out Hfail.out Hcs.out, kO11, by rw [List.reverse_cons]; exact hO11.base (by omega)⟩)
            obtain ⟨cO10, fO10, lO10⟩ := kO10
            obtain ⟨c710, f710, l710⟩ := k710
            have hne : n7 ≠ nO := by omega
            subst hv4
            clear ho hgr hvo hkg hvl hks1 hks2 k711 kO11 hO11 hkf c8 f8 l8 cO fO lO
            gi_wp2
            obtain ⟨h1, _, h3, ms9, v9, h4, h5, h6⟩ := HFin.out
            first | exact ⟨h1, rfl, h3, ms9, h4, v9, h5, h6⟩ | exact ⟨h1, rfl, h3, ms9, v9, h4, h5, h6⟩
          · have hkf : Keep (fun k => k = bm) W6 W8 := (Keep.of_below HB9r.out).trans' hk8 (fun q hq e => e)
            have HFin := Lib.hid (show Keep (fun k => k = bm) W6 W8 ∧ (∀ m, m ∈ pre ++ [x] → castsS B (subL left m) (sizes.drop (d + 1)) = none) ∧ (∃ vs, MapAt restK W8 bm vs ∧ VainS B sizes vs) ∧ Keep (fun k => k = bm ∨ w3.heap.size ≤ k) w3 W8 from
              ⟨hkf, fun m hm => by
                rw [List.mem_append, List.mem_singleton] at hm
                rcases hm with hm | rfl
                · exact Hfail.out m hm
                · exact hcn, ⟨vs8, hm8, hv8⟩, HK6.out.trans (hkf.mono fun k _ e => .inl e)⟩)
            clear hkf hcn hm8 hv8 hk8
            gi_wp2
            exact HFin.out
end
end Go.Proofs.YtgfbfbfajnfbjaaDoor
