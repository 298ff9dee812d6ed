/-
  DERIVED. A builder in memory beside a reader. WALKS: builder.emit (75), builder.patch (80), balance (79).
-/
import Derived.Test.YahaawRd
import Derived.Test.YahaawList1
namespace Go.Proofs.Yahaaw
open Go.RowKit
set_option linter.unusedVariables false
set_option linter.unusedSimpArgs false

theorem Blk.uniq {w : World} {b : Nat} {cs cs' : List Value} {t t' : TypeId} (h : Blk w b cs t) (h' : Blk w b cs' t') : t = t' := by
  unfold Blk at *; rw [h] at h'; simp at h'; exact h'.2

theorem Grow.ne {w : World} {B : Nat} {e : TypeId} {size : Nat} {v : Value} {n : Nat} {xs : List Value} (h : Grow w B e size v n xs) {b : Nat} {cs : List Value} {t : TypeId} (hb : Blk w b cs t) (ht : t ≠ e) : some b ≠ v.ownBlock := by
  obtain ⟨_, h⟩ := h
  rcases h with ⟨rfl, _⟩ | ⟨g, cap, rest, rfl, _, _, _, hk⟩
  · simp [Value.ownBlock]
  · intro e'
    simp [Value.ownBlock] at e'
    subst e'
    exact ht (hb.uniq hk)

theorem Grow.owns {w : World} {B : Nat} {e : TypeId} {size : Nat} {v : Value} {n : Nat} {xs : List Value} (h : Grow w B e size v n xs) : ∀ k, v.ownBlock = some k → B ≤ k := by
  obtain ⟨_, h⟩ := h
  rcases h with ⟨rfl, _⟩ | ⟨g, cap, rest, rfl, hB, _, _, hk⟩
  · intro k hk; simp [Value.ownBlock] at hk
  · intro k hk; simp [Value.ownBlock] at hk; omega

theorem Grow.grown {w w' : World} {B : Nat} {e : TypeId} {size : Nat} {v : Value} {n : Nat} {xs : List Value} {r : Option Nat} (h : Grow w B e size v n xs) (hg : w.grownBy w' r) (hne : ∀ k, r = some k → v.ownBlock ≠ some k) : Grow w' B e size v n xs := by
  obtain ⟨hl, h⟩ := h
  refine ⟨hl, ?_⟩
  rcases h with h | ⟨g, cap, rest, rfl, hB, hc, hr, hk⟩
  · exact .inl h
  · exact .inr ⟨g, cap, rest, rfl, hB, hc, hr, hk.grown hg (fun e' => hne g e'.symm rfl)⟩

/-- A reader and a builder: the operations so far are ps. -/
structure St (B : Nat) (w0 : World) (rb gb : Nat) (a : Option Addr) (n cap pos : Nat) (ps : List SO) (w : World) : Prop where
  bel : Below B w0 w
  rd : Rd B rb a n cap pos w
  gB : B ≤ gb
  bd : ∃ v, Blk w gb [v] 70 ∧ Grow w B 73 2 v ps.length (sCells ps)
  wf : WfS ps
  keep : ∀ b cs, Blk w0 b cs 2 → Blk w b cs 2

theorem St.next {B : Nat} {w0 : World} {rb gb : Nat} {a : Option Addr} {n cap pos pos' : Nat} {ps : List SO} {w w' : World} (h : St B w0 rb gb a n cap pos ps w) (hr : Rd B rb a n cap pos' w') (hg : w.grownBy w' (some rb)) : St B w0 rb gb a n cap pos' ps w' := by
  obtain ⟨v, hv, hgr⟩ := h.bd
  refine ⟨h.bel.grown hg (by have := h.rd.blk.lt; have := h.rd.bB; omega) (fun k hk => by cases hk; exact h.rd.bB), hr, h.gB, ⟨v, hv.grown hg ?_, hgr.grown hg ?_⟩, h.wf, fun b cs hb => (h.keep b cs hb).grown hg ?_⟩
  · intro e; cases e; exact absurd (hv.uniq h.rd.blk) (by decide)
  · intro k hk e; cases hk; exact hgr.ne h.rd.blk (by decide) e.symm
  · intro e; cases e; exact absurd ((h.keep _ cs hb).uniq h.rd.blk) (by decide)

theorem WfS.snoc {ps : List SO} (h : WfS ps) {c x : Int} (hc : InR c) (hx : InR x) : WfS (ps ++ [⟨c, x⟩]) := by
  intro p hp
  rcases List.mem_append.1 hp with hp | hp
  · exact h p hp
  · simp at hp; subst hp; exact ⟨hc, hx⟩

theorem St.emitted {B : Nat} {w0 : World} {rb gb : Nat} {a : Option Addr} {n cap pos : Nat} {ps : List SO} {w w2 : World} (h : St B w0 rb gb a n cap pos ps w) {v v2 : Value} {o : Obj} {c x : Int} (hv : Blk w gb [v] 70) (hg : Grow w B 73 2 v ps.length (sCells ps))
    (hgr : (w.alloc o).grownBy w2 v.ownBlock) (hg2 : Grow w2 B 73 2 v2 (ps.length + 1) (sCells ps ++ [.int .i64 c, .int .i64 x])) (hc : InR c) (hx : InR x) :
    Blk w2 gb [v] 70 ∧ St B w0 rb gb a n cap pos (ps ++ [⟨c, x⟩]) (w2.setCell ⟨gb, 0, none⟩ v2) := by
  have hB : B ≤ w.heap.size := by have := h.rd.blk.lt; have := h.rd.bB; omega
  have hv2 : Blk w2 gb [v] 70 := (hv.alloc o).grown hgr (hg.ne hv (by decide))
  have hr2 : Rd B rb a n cap pos w2 := (h.rd.below ((Below.refl _ _).alloc (Nat.le_refl _) o)).grown hgr hg.owns (hg.ne h.rd.blk (by decide))
  have hne : rb ≠ gb := fun e => by subst e; exact absurd (hv.uniq h.rd.blk) (by decide)
  have hb2 : Below B w0 w2 := (h.bel.alloc hB o).grown hgr (by simp; omega) hg.owns
  refine ⟨hv2, hb2.setCell (p := ⟨gb, 0, none⟩) h.gB _, hr2.grown (grown_set (grown_refl _ _) _ _) (fun k hk => by cases hk; exact h.gB) (by simpa using hne), h.gB, ⟨v2, by have := hv2.set 0 v2; simpa using this, ?_⟩, h.wf.snoc hc hx, fun b cs hb => ?_⟩
  · rw [sCells_app, List.length_append]
    exact hg2.grown (grown_set (grown_refl _ _) _ _) (fun k hk e => by cases hk; exact hg2.ne hv2 (by decide) e.symm)
  · have k1 := h.keep b cs hb
    have k2 : Blk w2 b cs 2 := (k1.alloc o).grown hgr (hg.ne k1 (by decide))
    exact k2.far (p := ⟨gb, 0, none⟩) (fun e => by have e : gb = b := e; subst e; exact absurd (k2.uniq hv2) (by decide)) _

theorem sCells_set : ∀ (ps : List SO) (j : Nat) (hj : j < ps.length) (x : Int), (sCells ps).set (j * 2 + 1) (.int .i64 x) = sCells (ps.set j ⟨ps[j].c, x⟩)
  | p :: ps, 0, _, x => by simp [sCells]
  | p :: ps, j + 1, hj, x => by
    have ih := sCells_set ps j (by simpa using hj) x
    have e1 : sCells (p :: ps) = .int .i64 p.c :: .int .i64 p.a :: sCells ps := by simp [sCells]
    rw [e1, show (j + 1) * 2 + 1 = (j * 2 + 1) + 1 + 1 by omega, List.set_cons_succ, List.set_cons_succ, ih]
    simp [sCells]

theorem sCells_set0 : ∀ (ps : List SO) (j : Nat) (hj : j < ps.length) (x : Int), (sCells ps).set (j * 2) (.int .i64 x) = sCells (ps.set j ⟨x, ps[j].a⟩)
  | p :: ps, 0, _, x => by simp [sCells]
  | p :: ps, j + 1, hj, x => by
    have ih := sCells_set0 ps j (by simpa using hj) x
    have e1 : sCells (p :: ps) = .int .i64 p.c :: .int .i64 p.a :: sCells ps := by simp [sCells]
    rw [e1, show (j + 1) * 2 = (j * 2) + 1 + 1 by omega, List.set_cons_succ, List.set_cons_succ, ih]
    simp [sCells]

theorem news2 (w : World) (cs : List Value) (t : TypeId) : ∀ (j : Nat) (u : Value), cs[j]? = some u → (w.alloc (.cells cs.toArray t)).cell? ((⟨w.heap.size, 0, none⟩ : Addr).add j) = some u := by
  intro j u hu
  have hadd : (⟨w.heap.size, 0, none⟩ : Addr).add j = ⟨w.heap.size, j, none⟩ := by unfold Addr.add; split <;> simp_all
  rw [hadd, (Blk.new w cs t).cell]; exact hu

set_option maxRecDepth 100000 in
set_option maxHeartbeats 1000000 in
theorem emit_any (B : Nat) (w0 : World) (rb gb : Nat) (a : Option Addr) (n cap pos : Nat) (ps : List SO) (c x : Int) (w : World) (h : St B w0 rb gb a n cap pos ps w) (hc : InR c) (hx : InR x) (hl : ps.length ≤ 1073741824) :
    Calls Yaav.prog 75 #[.pointer (some ⟨gb, 0, none⟩), .int .i64 c, .int .i64 x] w fun e w' => e = .returned (.int .i64 ps.length) ∧ St B w0 rb gb a n cap pos (ps ++ [⟨c, x⟩]) w' := by
  obtain ⟨v, hv, hg⟩ := h.bd
  have hB : B ≤ w.heap.size := by have := h.rd.blk.lt; have := h.rd.bB; omega
  obtain ⟨a0, c0, rfl, _, _⟩ := hg.shape
  have d0 := hv.cell 0
  simp at d0
  have hglt := hv.lt
  have HS := hideP h
  have HV := hideP hv
  have HG := hideP hg
  clear h hv hg
  go_enter Yaav.func75, Yaav.ntmps75
  go_wp2_with (at_builtin; refine wpList_app Yaav.underlying23 Yaav.info73 rfl rfl (.tmp 11) (.tmp 15) rfl (v := .slice a0 ps.length c0) (n := ps.length) (xs := sCells ps) rfl rfl (HG.out.alloc _) (Src.ofSlice _ Yaav.underlying23 ⟨w.heap.size, 0, none⟩ 1 1 [.int .i64 c, .int .i64 x] rfl (by have := news2 w [.int .i64 c, .int .i64 x] 73; simpa using this) (by intro u hu; simp at hu; rcases hu with rfl | rfl <;> rfl)) (by omega) (by omega) (by simp; omega) ?_; intro v2 w2 hg2 hgr2 hat2; obtain ⟨a2, cc2, rfl, _, _⟩ := hg2.shape; obtain ⟨bv, hst⟩ := HS.out.emitted HV.out HG.out hgr2 hg2 hc hx; have d2 := bv.cell 0; simp at d2; have f2 := bv.frozen 0; have HST := hideP hst; clear hg2 hgr2 hat2 bv hst)
  go_ret
  exact ⟨by go_num, HST.out⟩

theorem St.patched {B : Nat} {w0 : World} {rb gb : Nat} {a : Option Addr} {n cap pos : Nat} {ps : List SO} {w : World} (h : St B w0 rb gb a n cap pos ps w) {j : Nat} (hj : j < ps.length) (x : Int) (hx : InR x) :
    ∃ g cc, w.cell? ⟨gb, 0, none⟩ = some (.slice (some ⟨g, 0, none⟩) ps.length cc) ∧ (∃ u, w.cell? ⟨g, j * 2 + 1, none⟩ = some u) ∧ w.frozen? ⟨g, j * 2 + 1, none⟩ = false ∧ ∃ ps' : List SO, ps'.length = ps.length ∧ St B w0 rb gb a n cap pos ps' (w.setCell ⟨g, j * 2 + 1, none⟩ (.int .i64 x)) ∧ Seg (w.setCell ⟨g, j * 2 + 1, none⟩ (.int .i64 x)) (some ⟨g, 0, none⟩) (sCells ps') := by
  obtain ⟨v, hv, hg⟩ := h.bd
  have hg0 := hg
  obtain ⟨hl, hg⟩ := hg
  rcases hg with ⟨_, h0⟩ | ⟨g, cc, rest, rfl, hBg, hc, hr, hk⟩
  · omega
  have d0 := hv.cell 0
  simp at d0
  have hlen : (sCells ps ++ rest).length = ps.length * 2 + rest.length := by rw [List.length_append, hl]
  have hne : gb ≠ g := fun e => by subst e; exact absurd (hv.uniq hk) (by decide)
  have hne2 : rb ≠ g := fun e => by subst e; exact absurd (h.rd.blk.uniq hk) (by decide)
  have hcells : (sCells ps).set (j * 2 + 1) (.int .i64 x) = sCells (ps.set j ⟨ps[j].c, x⟩) := sCells_set ps j hj x
  have hk2 : Blk (w.setCell ⟨g, j * 2 + 1, none⟩ (.int .i64 x)) g (sCells (ps.set j ⟨ps[j].c, x⟩) ++ rest) 73 := by
    have := hk.set (j * 2 + 1) (.int .i64 x)
    rw [List.set_append_left _ _ (by omega), hcells] at this
    exact this
  refine ⟨g, cc, d0, hk.there (by omega), hk.frozen _, ps.set j ⟨ps[j].c, x⟩, by simp, ⟨h.bel.setCell (p := ⟨g, _, none⟩) hBg _, h.rd.grown (grown_set (grown_refl _ _) _ _) (fun k hk => by cases hk; exact hBg) (by simpa using hne2), h.gB, ⟨_, hv.far (p := ⟨g, _, none⟩) hne.symm _, ?_, .inr ⟨g, cc, rest, by simp, hBg, by simpa using hc, by simpa using hr, hk2⟩⟩, ?_, ?_⟩, ?_⟩
  · rw [sCells_len]
  · intro p hp
    rcases List.mem_or_eq_of_mem_set hp with hp | rfl
    · exact h.wf p hp
    · exact ⟨(h.wf _ (List.getElem_mem hj)).1, hx⟩
  · intro b cs hb
    have k1 := h.keep b cs hb
    exact k1.far (p := ⟨g, _, none⟩) (fun e => by have e : g = b := e; subst e; exact absurd (k1.uniq hk) (by decide)) _
  · exact .inr ⟨g, 0, rfl, hk2.lt, fun i hi => by rw [Nat.zero_add, hk2.cell, List.getElem?_append_left hi]⟩

theorem St.patched0 {B : Nat} {w0 : World} {rb gb : Nat} {a : Option Addr} {n cap pos : Nat} {ps : List SO} {w : World} (h : St B w0 rb gb a n cap pos ps w) {j : Nat} (hj : j < ps.length) (x : Int) (hx : InR x) :
    ∃ g cc, w.cell? ⟨gb, 0, none⟩ = some (.slice (some ⟨g, 0, none⟩) ps.length cc) ∧ (∃ u, w.cell? ⟨g, j * 2, none⟩ = some u) ∧ w.frozen? ⟨g, j * 2, none⟩ = false ∧ ∃ ps' : List SO, ps'.length = ps.length ∧ St B w0 rb gb a n cap pos ps' (w.setCell ⟨g, j * 2, none⟩ (.int .i64 x)) ∧ Seg (w.setCell ⟨g, j * 2, none⟩ (.int .i64 x)) (some ⟨g, 0, none⟩) (sCells ps') := by
  obtain ⟨v, hv, hg⟩ := h.bd
  have hg0 := hg
  obtain ⟨hl, hg⟩ := hg
  rcases hg with ⟨_, h0⟩ | ⟨g, cc, rest, rfl, hBg, hc, hr, hk⟩
  · omega
  have d0 := hv.cell 0
  simp at d0
  have hlen : (sCells ps ++ rest).length = ps.length * 2 + rest.length := by rw [List.length_append, hl]
  have hne : gb ≠ g := fun e => by subst e; exact absurd (hv.uniq hk) (by decide)
  have hne2 : rb ≠ g := fun e => by subst e; exact absurd (h.rd.blk.uniq hk) (by decide)
  have hcells : (sCells ps).set (j * 2) (.int .i64 x) = sCells (ps.set j ⟨x, ps[j].a⟩) := sCells_set0 ps j hj x
  have hk2 : Blk (w.setCell ⟨g, j * 2, none⟩ (.int .i64 x)) g (sCells (ps.set j ⟨x, ps[j].a⟩) ++ rest) 73 := by
    have := hk.set (j * 2) (.int .i64 x)
    rw [List.set_append_left _ _ (by omega), hcells] at this
    exact this
  refine ⟨g, cc, d0, hk.there (by omega), hk.frozen _, ps.set j ⟨x, ps[j].a⟩, by simp, ⟨h.bel.setCell (p := ⟨g, _, none⟩) hBg _, h.rd.grown (grown_set (grown_refl _ _) _ _) (fun k hk => by cases hk; exact hBg) (by simpa using hne2), h.gB, ⟨_, hv.far (p := ⟨g, _, none⟩) hne.symm _, ?_, .inr ⟨g, cc, rest, by simp, hBg, by simpa using hc, by simpa using hr, hk2⟩⟩, ?_, ?_⟩, ?_⟩
  · rw [sCells_len]
  · intro p hp
    rcases List.mem_or_eq_of_mem_set hp with hp | rfl
    · exact h.wf p hp
    · exact ⟨hx, (h.wf _ (List.getElem_mem hj)).2⟩
  · intro b cs hb
    have k1 := h.keep b cs hb
    exact k1.far (p := ⟨g, _, none⟩) (fun e => by have e : g = b := e; subst e; exact absurd (k1.uniq hk) (by decide)) _
  · exact .inr ⟨g, 0, rfl, hk2.lt, fun i hi => by rw [Nat.zero_add, hk2.cell, List.getElem?_append_left hi]⟩

set_option maxRecDepth 100000 in
set_option maxHeartbeats 1000000 in
theorem patch_any (B : Nat) (w0 : World) (rb gb : Nat) (a : Option Addr) (n cap pos : Nat) (ps : List SO) (j : Nat) (x : Int) (w : World) (h : St B w0 rb gb a n cap pos ps w) (hj : j < ps.length) (hx : InR x) (hl : ps.length ≤ 1073741824) :
    Calls Yaav.prog 80 #[.pointer (some ⟨gb, 0, none⟩), .int .i64 j, .int .i64 x] w fun e w' => e = .returned (.tuple #[]) ∧ ∃ ps' : List SO, ps'.length = ps.length ∧ St B w0 rb gb a n cap pos ps' w' := by
  obtain ⟨g, cc, c0, ⟨u, c1⟩, f1, ps', hlen, hst, _⟩ := h.patched hj x hx
  have HST := hideP hst
  have HLEN := hideP hlen
  clear h hst hlen
  go_enter Yaav.func80, Yaav.ntmps80
  go_wp2
  go_end0
  exact ⟨rfl, ps', HLEN.out, HST.out⟩

set_option maxRecDepth 100000 in
set_option maxHeartbeats 1000000 in
theorem balance_any (B : Nat) (w0 : World) (rb gb : Nat) (a : Option Addr) (n cap pos : Nat) (ps : List SO) (d0 d1 : Nat) (w : World) (h : St B w0 rb gb a n cap pos ps w) (h0 : d0 ≤ 1073741824) (h1 : d1 ≤ 1073741824) (hl : ps.length + ((d0 - d1) + (d1 - d0)) ≤ 1073741824) :
    Calls Yaav.prog 79 #[.pointer (some ⟨gb, 0, none⟩), .int .i64 d0, .int .i64 d1] w fun e w' => e = .returned (.tuple #[]) ∧ ∃ ps' : List SO, ps'.length = ps.length + ((d0 - d1) + (d1 - d0)) ∧ St B w0 rb gb a n cap pos ps' w' := by
  have HST := hideP h
  clear h
  go_enter Yaav.func79, Yaav.ntmps79
  go_wp2_with fail
  go_loopw [1] (fun i wr => ∃ (f : Nat) (qs : List SO), i = .int .i64 f ∧ f ≤ d0 ∧ (d1 ≤ f ∨ f = d0) ∧ qs.length + f = ps.length + d0 ∧ St B w0 rb gb a n cap pos qs wr) (fun i _ => (intOf i).toNat)
  case atStart => exact ⟨d0, ps, rfl, Nat.le_refl _, .inr rfl, rfl, HST.out⟩
  case round =>
    obtain ⟨f, qs, rfl, hf0, hf1, hlq, hst⟩ := hrel
    have HS := hideP hst
    clear hst
    by_cases hlt : d1 < f
    · go_wp2_with (go_at_call 75; refine (emit_any B w0 rb gb a n cap pos qs 7 0 _ HS.out ⟨by omega, by omega⟩ ⟨by omega, by omega⟩ (by omega)).mono ?_; rintro e w1 ⟨rfl, hs1⟩; have HS1 := hideP hs1; clear hs1)
      go_roundw
      case rel => exact ⟨f - 1, qs ++ [⟨7, 0⟩], by go_num, by omega, by omega, by simp; omega, HS1.out⟩
      case measure => simp [intOf]; omega
    · go_wp2
      go_loopw [1] (fun i wr => ∃ (f' : Nat) (rs : List SO), i = .int .i64 f' ∧ (f' ≤ d1 ∨ f' = f) ∧ f ≤ f' ∧ rs.length + f = qs.length + f' ∧ St B w0 rb gb a n cap pos rs wr) (fun i _ => d1 - (intOf i).toNat)
      case atStart => exact ⟨f, qs, rfl, .inr rfl, Nat.le_refl _, rfl, HS.out⟩
      case round =>
        obtain ⟨f', rs, rfl, hg0, hg1, hlr, hst⟩ := hrel
        have HS2 := hideP hst
        clear hst
        by_cases hlt2 : f' < d1
        · go_wp2_with (go_at_call 75; refine (emit_any B w0 rb gb a n cap pos rs 0 0 _ HS2.out ⟨by omega, by omega⟩ ⟨by omega, by omega⟩ (by omega)).mono ?_; rintro e w1 ⟨rfl, hs1⟩; have HS3 := hideP hs1; clear hs1)
          go_roundw
          case rel => exact ⟨f' + 1, rs ++ [⟨0, 0⟩], by go_num, by omega, by omega, by simp; omega, HS3.out⟩
          case measure => simp [intOf]; omega
        · go_wp2
          go_end0
          exact ⟨rfl, rs, by omega, HS2.out⟩

end Go.Proofs.Yahaaw
