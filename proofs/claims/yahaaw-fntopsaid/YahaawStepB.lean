/-
  DERIVED. WALK: spec.stepStack (52), part B.
-/
import Derived.Test.YahaawStep0
namespace Go.Proofs.Yahaaw
open Go.RowKit
set_option linter.unusedVariables false
set_option linter.unusedSimpArgs false

set_option maxRecDepth 100000 in
set_option maxHeartbeats 4000000 in
theorem ss_4 (bb off n cap nx capx pc stp B : Nat) (ax : Option Addr) (a : Int) (g cp : Nat) (r : List Int) (x y : Int) (w : World) (hn : n ≤ 1099511627776) (hpc : pc < n) (hst : stp ≤ 20000) (hr : r.length ≤ 20000)
    (h1 : w.cell? ⟨bb, off + pc * 2, none⟩ = some (.int .i64 4)) (h2 : w.cell? ⟨bb, off + pc * 2 + 1, none⟩ = some (.int .i64 a)) (hbb : bb < w.heap.size) (hB : B ≤ w.heap.size)
    (hcp : r.length + 2 ≤ cp) (hgl : g < w.heap.size) (k1 : w.cell? ⟨g, r.length, none⟩ = some (.int .i64 x)) (k2 : w.cell? ⟨g, r.length + 1, none⟩ = some (.int .i64 y)) (hg0 : Grow w B 2 1 (.slice (some ⟨g, 0, none⟩) r.length cp) (r.length) (iCells r)) :
    Calls Yaav.prog 52 #[.slice (some ⟨bb, off, none⟩) n cap, .slice ax nx capx, .agg #[.int .i64 pc, .slice (some ⟨g, 0, none⟩) (r.length + 2) cp, .int .i64 stp]] w fun e w' => StepPost (some (pc + 1, r ++ [wrap64 (x * y)])) B pc (.slice (some ⟨g, 0, none⟩) (r.length + 2) cp) stp e w' ∧ Below B w w' := by
  have hnd : needs 4 = 2 := rfl
  have HG0 := hideP hg0
  have hb1 : bb < w.heap.size + 1 := by omega
  have hb2 : bb < w.heap.size + 1 + 1 := by omega
  have hg1 : g < w.heap.size + 1 := by omega
  have hg2 : g < w.heap.size + 1 + 1 := by omega
  have hg3 : g < w.heap.size + 1 + 1 + 1 := by omega
  clear hg0
  have G5 := hideP (((((HG0.out.alloc (.cells #[.int .i64 pc, .slice (some ⟨g, 0, none⟩) (r.length + 2) cp, .int .i64 stp] 90)).alloc (.cells #[.int .i64 0, .slice none 0 0, .int .i64 0] 90)).alloc (.cells #[.int .i64 4, .int .i64 a] 73)).alloc (.cells #[.int .i64 x, .int .i64 y] 118)).alloc (.cells #[.int .i64 (wrap64 (x * y))] 2))
  go_enter Yaav.func52, Yaav.ntmps52
  go_wp2_with (go_at_call 71; refine (effect_any _ _).mono ?_; rintro e w' ⟨rfl, rfl⟩)
  refine wp_loop_rounds 3 ?_
  rw [rounds_succ]
  go_wp2
  rw [rounds_succ]
  go_wp2
  rw [rounds_succ]
  go_wp2_with (first | (at_builtin; refine wpList_app Yaav.underlying24 Yaav.info2 rfl rfl (.tmp 106) (.tmp 112) rfl (v := .slice (some ⟨g, 0, none⟩) r.length cp) (n := r.length) (xs := iCells r) rfl rfl G5.out (Src.ofSlice _ Yaav.underlying24 ⟨w.heap.size + 1 + 1 + 1 + 1, 0, none⟩ 1 1 [.int .i64 (wrap64 (x * y))] rfl (by have := ss_news ((((w.alloc (.cells #[.int .i64 pc, .slice (some ⟨g, 0, none⟩) (r.length + 2) cp, .int .i64 stp] 90)).alloc (.cells #[.int .i64 0, .slice none 0 0, .int .i64 0] 90)).alloc (.cells #[.int .i64 4, .int .i64 a] 73)).alloc (.cells #[.int .i64 x, .int .i64 y] 118)) [.int .i64 (wrap64 (x * y))] 2; simpa using this) (one_ints [(wrap64 (x * y))])) (by omega) (by omega) (by simp; omega) ?_; intro v2 w2 hg2 hgr2 hat2; obtain ⟨a2, cc2, rfl, _, _⟩ := hg2.shape; obtain ⟨bC, bZ, bL, bN⟩ := ss_after (c := [.int .i64 pc, .slice (some ⟨g, 0, none⟩) (r.length + 2) cp, .int .i64 stp]) (z := [.int .i64 0, .slice none 0 0, .int .i64 0]) HG0.out hB hgr2 hat2; have G6 := hideP hg2; have c2 := bC.cell 2; have z0 := bZ.cell 0; have z1 := bZ.cell 1; have z2 := bZ.cell 2; simp at c2 z0 z1 z2; have f0 := bZ.frozen 0; have f1 := bZ.frozen 1; have f2 := bZ.frozen 2; have BZ := hideP bZ; have BL := hideP bL; have BN := hideP bN; clear hg2 hgr2 hat2 bC bZ bL bN G5 HG0))
  have hW := ((BZ.out.set 0 (.int .i64 ((pc : Int) + 1))).set 1 (.slice a2 (r.length + 1) cc2)).set 2 (.int .i64 ((stp : Int) + 1))
  have d0 := hW.cell 0
  have d1 := hW.cell 1
  have d2 := hW.cell 2
  simp at d0 d1 d2
  refine bodyPost_ret (v := .tuple #[.agg #[.int .i64 ((pc : Int) + 1), (.slice a2 (r.length + 1) cc2), .int .i64 ((stp : Int) + 1)], .bool true]) (by simp [results, Yaav.results52, go_sem, d0, d1, d2]) rfl ⟨⟨.slice a2 (r.length + 1) cc2, by simp, ?_⟩, ?_⟩
  · have := ((G6.out.setOther (p := ⟨w.heap.size + 1, 0, none⟩) BN.out (.int .i64 ((pc : Int) + 1))).setOther (p := ⟨w.heap.size + 1, 1, none⟩) BN.out (.slice a2 (r.length + 1) cc2)).setOther (p := ⟨w.heap.size + 1, 2, none⟩) BN.out (.int .i64 ((stp : Int) + 1))
    simpa [iCells] using this
  · exact ((BL.out.setCell (p := ⟨_, _, none⟩) (by simp; omega) _).setCell (p := ⟨_, _, none⟩) (by simp; omega) _).setCell (p := ⟨_, _, none⟩) (by simp; omega) _

set_option maxRecDepth 100000 in
set_option maxHeartbeats 4000000 in
theorem ss_5 (bb off n cap nx capx pc stp B : Nat) (ax : Option Addr) (a : Int) (g cp : Nat) (r : List Int) (y : Int) (w : World) (hn : n ≤ 1099511627776) (hpc : pc < n) (hst : stp ≤ 20000) (hr : r.length ≤ 20000)
    (h1 : w.cell? ⟨bb, off + pc * 2, none⟩ = some (.int .i64 5)) (h2 : w.cell? ⟨bb, off + pc * 2 + 1, none⟩ = some (.int .i64 a)) (hbb : bb < w.heap.size) (hB : B ≤ w.heap.size)
    (hcp : r.length + 1 ≤ cp) (hgl : g < w.heap.size) (k1 : w.cell? ⟨g, r.length, none⟩ = some (.int .i64 y)) (hg0 : Grow w B 2 1 (.slice (some ⟨g, 0, none⟩) r.length cp) (r.length) (iCells r)) :
    Calls Yaav.prog 52 #[.slice (some ⟨bb, off, none⟩) n cap, .slice ax nx capx, .agg #[.int .i64 pc, .slice (some ⟨g, 0, none⟩) (r.length + 1) cp, .int .i64 stp]] w fun e w' => StepPost (some (pc + 1, (r ++ [y]) ++ [y])) B pc (.slice (some ⟨g, 0, none⟩) (r.length + 1) cp) stp e w' ∧ Below B w w' := by
  have hnd : needs 5 = 1 := rfl
  have HG0 := hideP hg0
  have hb1 : bb < w.heap.size + 1 := by omega
  have hb2 : bb < w.heap.size + 1 + 1 := by omega
  have hg1 : g < w.heap.size + 1 := by omega
  have hg2 : g < w.heap.size + 1 + 1 := by omega
  have hg3 : g < w.heap.size + 1 + 1 + 1 := by omega
  clear hg0
  have G5 := hideP (((((HG0.out.alloc (.cells #[.int .i64 pc, .slice (some ⟨g, 0, none⟩) (r.length + 1) cp, .int .i64 stp] 90)).alloc (.cells #[.int .i64 0, .slice none 0 0, .int .i64 0] 90)).alloc (.cells #[.int .i64 5, .int .i64 a] 73)).alloc (.cells #[.int .i64 y, .int .i64 0] 118)).alloc (.cells #[.int .i64 y, .int .i64 y] 2))
  go_enter Yaav.func52, Yaav.ntmps52
  go_wp2_with (go_at_call 71; refine (effect_any _ _).mono ?_; rintro e w' ⟨rfl, rfl⟩)
  refine wp_loop_rounds 2 ?_
  rw [rounds_succ]
  go_wp2
  rw [rounds_succ]
  go_wp2_with (first | (at_builtin; refine wpList_app Yaav.underlying24 Yaav.info2 rfl rfl (.tmp 116) (.tmp 121) rfl (v := .slice (some ⟨g, 0, none⟩) r.length cp) (n := r.length) (xs := iCells r) rfl rfl G5.out (Src.ofSlice _ Yaav.underlying24 ⟨w.heap.size + 1 + 1 + 1 + 1, 0, none⟩ 2 2 [.int .i64 y, .int .i64 y] rfl (by have := ss_news ((((w.alloc (.cells #[.int .i64 pc, .slice (some ⟨g, 0, none⟩) (r.length + 1) cp, .int .i64 stp] 90)).alloc (.cells #[.int .i64 0, .slice none 0 0, .int .i64 0] 90)).alloc (.cells #[.int .i64 5, .int .i64 a] 73)).alloc (.cells #[.int .i64 y, .int .i64 0] 118)) [.int .i64 y, .int .i64 y] 2; simpa using this) (one_ints [y, y])) (by omega) (by omega) (by simp; omega) ?_; intro v2 w2 hg2 hgr2 hat2; obtain ⟨a2, cc2, rfl, _, _⟩ := hg2.shape; obtain ⟨bC, bZ, bL, bN⟩ := ss_after (c := [.int .i64 pc, .slice (some ⟨g, 0, none⟩) (r.length + 1) cp, .int .i64 stp]) (z := [.int .i64 0, .slice none 0 0, .int .i64 0]) HG0.out hB hgr2 hat2; have G6 := hideP hg2; have c2 := bC.cell 2; have z0 := bZ.cell 0; have z1 := bZ.cell 1; have z2 := bZ.cell 2; simp at c2 z0 z1 z2; have f0 := bZ.frozen 0; have f1 := bZ.frozen 1; have f2 := bZ.frozen 2; have BZ := hideP bZ; have BL := hideP bL; have BN := hideP bN; clear hg2 hgr2 hat2 bC bZ bL bN G5 HG0))
  have hW := ((BZ.out.set 0 (.int .i64 ((pc : Int) + 1))).set 1 (.slice a2 (r.length + 2) cc2)).set 2 (.int .i64 ((stp : Int) + 1))
  have d0 := hW.cell 0
  have d1 := hW.cell 1
  have d2 := hW.cell 2
  simp at d0 d1 d2
  refine bodyPost_ret (v := .tuple #[.agg #[.int .i64 ((pc : Int) + 1), (.slice a2 (r.length + 2) cc2), .int .i64 ((stp : Int) + 1)], .bool true]) (by simp [results, Yaav.results52, go_sem, d0, d1, d2]) rfl ⟨⟨.slice a2 (r.length + 2) cc2, by simp, ?_⟩, ?_⟩
  · have := ((G6.out.setOther (p := ⟨w.heap.size + 1, 0, none⟩) BN.out (.int .i64 ((pc : Int) + 1))).setOther (p := ⟨w.heap.size + 1, 1, none⟩) BN.out (.slice a2 (r.length + 2) cc2)).setOther (p := ⟨w.heap.size + 1, 2, none⟩) BN.out (.int .i64 ((stp : Int) + 1))
    simpa [iCells] using this
  · exact ((BL.out.setCell (p := ⟨_, _, none⟩) (by simp; omega) _).setCell (p := ⟨_, _, none⟩) (by simp; omega) _).setCell (p := ⟨_, _, none⟩) (by simp; omega) _

set_option maxRecDepth 100000 in
set_option maxHeartbeats 4000000 in
theorem ss_6 (bb off n cap nx capx pc stp B : Nat) (ax : Option Addr) (a : Int) (g cp : Nat) (r : List Int) (x y : Int) (w : World) (hn : n ≤ 1099511627776) (hpc : pc < n) (hst : stp ≤ 20000) (hr : r.length ≤ 20000)
    (h1 : w.cell? ⟨bb, off + pc * 2, none⟩ = some (.int .i64 6)) (h2 : w.cell? ⟨bb, off + pc * 2 + 1, none⟩ = some (.int .i64 a)) (hbb : bb < w.heap.size) (hB : B ≤ w.heap.size)
    (hcp : r.length + 2 ≤ cp) (hgl : g < w.heap.size) (k1 : w.cell? ⟨g, r.length, none⟩ = some (.int .i64 x)) (k2 : w.cell? ⟨g, r.length + 1, none⟩ = some (.int .i64 y)) (hg0 : Grow w B 2 1 (.slice (some ⟨g, 0, none⟩) r.length cp) (r.length) (iCells r)) :
    Calls Yaav.prog 52 #[.slice (some ⟨bb, off, none⟩) n cap, .slice ax nx capx, .agg #[.int .i64 pc, .slice (some ⟨g, 0, none⟩) (r.length + 2) cp, .int .i64 stp]] w fun e w' => StepPost (some (pc + 1, (r ++ [x, y]) ++ [x])) B pc (.slice (some ⟨g, 0, none⟩) (r.length + 2) cp) stp e w' ∧ Below B w w' := by
  have hnd : needs 6 = 2 := rfl
  have HG0 := hideP hg0
  have hb1 : bb < w.heap.size + 1 := by omega
  have hb2 : bb < w.heap.size + 1 + 1 := by omega
  have hg1 : g < w.heap.size + 1 := by omega
  have hg2 : g < w.heap.size + 1 + 1 := by omega
  have hg3 : g < w.heap.size + 1 + 1 + 1 := by omega
  clear hg0
  have G5 := hideP (((((HG0.out.alloc (.cells #[.int .i64 pc, .slice (some ⟨g, 0, none⟩) (r.length + 2) cp, .int .i64 stp] 90)).alloc (.cells #[.int .i64 0, .slice none 0 0, .int .i64 0] 90)).alloc (.cells #[.int .i64 6, .int .i64 a] 73)).alloc (.cells #[.int .i64 x, .int .i64 y] 118)).alloc (.cells #[.int .i64 x, .int .i64 y, .int .i64 x] 2))
  go_enter Yaav.func52, Yaav.ntmps52
  go_wp2_with (go_at_call 71; refine (effect_any _ _).mono ?_; rintro e w' ⟨rfl, rfl⟩)
  refine wp_loop_rounds 3 ?_
  rw [rounds_succ]
  go_wp2
  rw [rounds_succ]
  go_wp2
  rw [rounds_succ]
  go_wp2_with (first | (at_builtin; refine wpList_app Yaav.underlying24 Yaav.info2 rfl rfl (.tmp 125) (.tmp 132) rfl (v := .slice (some ⟨g, 0, none⟩) r.length cp) (n := r.length) (xs := iCells r) rfl rfl G5.out (Src.ofSlice _ Yaav.underlying24 ⟨w.heap.size + 1 + 1 + 1 + 1, 0, none⟩ 3 3 [.int .i64 x, .int .i64 y, .int .i64 x] rfl (by have := ss_news ((((w.alloc (.cells #[.int .i64 pc, .slice (some ⟨g, 0, none⟩) (r.length + 2) cp, .int .i64 stp] 90)).alloc (.cells #[.int .i64 0, .slice none 0 0, .int .i64 0] 90)).alloc (.cells #[.int .i64 6, .int .i64 a] 73)).alloc (.cells #[.int .i64 x, .int .i64 y] 118)) [.int .i64 x, .int .i64 y, .int .i64 x] 2; simpa using this) (one_ints [x, y, x])) (by omega) (by omega) (by simp; omega) ?_; intro v2 w2 hg2 hgr2 hat2; obtain ⟨a2, cc2, rfl, _, _⟩ := hg2.shape; obtain ⟨bC, bZ, bL, bN⟩ := ss_after (c := [.int .i64 pc, .slice (some ⟨g, 0, none⟩) (r.length + 2) cp, .int .i64 stp]) (z := [.int .i64 0, .slice none 0 0, .int .i64 0]) HG0.out hB hgr2 hat2; have G6 := hideP hg2; have c2 := bC.cell 2; have z0 := bZ.cell 0; have z1 := bZ.cell 1; have z2 := bZ.cell 2; simp at c2 z0 z1 z2; have f0 := bZ.frozen 0; have f1 := bZ.frozen 1; have f2 := bZ.frozen 2; have BZ := hideP bZ; have BL := hideP bL; have BN := hideP bN; clear hg2 hgr2 hat2 bC bZ bL bN G5 HG0))
  have hW := ((BZ.out.set 0 (.int .i64 ((pc : Int) + 1))).set 1 (.slice a2 (r.length + 3) cc2)).set 2 (.int .i64 ((stp : Int) + 1))
  have d0 := hW.cell 0
  have d1 := hW.cell 1
  have d2 := hW.cell 2
  simp at d0 d1 d2
  refine bodyPost_ret (v := .tuple #[.agg #[.int .i64 ((pc : Int) + 1), (.slice a2 (r.length + 3) cc2), .int .i64 ((stp : Int) + 1)], .bool true]) (by simp [results, Yaav.results52, go_sem, d0, d1, d2]) rfl ⟨⟨.slice a2 (r.length + 3) cc2, by simp, ?_⟩, ?_⟩
  · have := ((G6.out.setOther (p := ⟨w.heap.size + 1, 0, none⟩) BN.out (.int .i64 ((pc : Int) + 1))).setOther (p := ⟨w.heap.size + 1, 1, none⟩) BN.out (.slice a2 (r.length + 3) cc2)).setOther (p := ⟨w.heap.size + 1, 2, none⟩) BN.out (.int .i64 ((stp : Int) + 1))
    simpa [iCells] using this
  · exact ((BL.out.setCell (p := ⟨_, _, none⟩) (by simp; omega) _).setCell (p := ⟨_, _, none⟩) (by simp; omega) _).setCell (p := ⟨_, _, none⟩) (by simp; omega) _

set_option maxRecDepth 100000 in
set_option maxHeartbeats 4000000 in
theorem ss_8 (bb off n cap nx capx pc stp B : Nat) (ax : Option Addr) (a : Int) (g cp : Nat) (r : List Int) (x y : Int) (w : World) (hn : n ≤ 1099511627776) (hpc : pc < n) (hst : stp ≤ 20000) (hr : r.length ≤ 20000)
    (h1 : w.cell? ⟨bb, off + pc * 2, none⟩ = some (.int .i64 8)) (h2 : w.cell? ⟨bb, off + pc * 2 + 1, none⟩ = some (.int .i64 a)) (hbb : bb < w.heap.size) (hB : B ≤ w.heap.size)
    (hcp : r.length + 2 ≤ cp) (hgl : g < w.heap.size) (k1 : w.cell? ⟨g, r.length, none⟩ = some (.int .i64 x)) (k2 : w.cell? ⟨g, r.length + 1, none⟩ = some (.int .i64 y)) (hg0 : Grow w B 2 1 (.slice (some ⟨g, 0, none⟩) r.length cp) (r.length) (iCells r)) :
    Calls Yaav.prog 52 #[.slice (some ⟨bb, off, none⟩) n cap, .slice ax nx capx, .agg #[.int .i64 pc, .slice (some ⟨g, 0, none⟩) (r.length + 2) cp, .int .i64 stp]] w fun e w' => StepPost (some (pc + 1, r ++ [y, x])) B pc (.slice (some ⟨g, 0, none⟩) (r.length + 2) cp) stp e w' ∧ Below B w w' := by
  have hnd : needs 8 = 2 := rfl
  have HG0 := hideP hg0
  have hb1 : bb < w.heap.size + 1 := by omega
  have hb2 : bb < w.heap.size + 1 + 1 := by omega
  have hg1 : g < w.heap.size + 1 := by omega
  have hg2 : g < w.heap.size + 1 + 1 := by omega
  have hg3 : g < w.heap.size + 1 + 1 + 1 := by omega
  clear hg0
  have G5 := hideP (((((HG0.out.alloc (.cells #[.int .i64 pc, .slice (some ⟨g, 0, none⟩) (r.length + 2) cp, .int .i64 stp] 90)).alloc (.cells #[.int .i64 0, .slice none 0 0, .int .i64 0] 90)).alloc (.cells #[.int .i64 8, .int .i64 a] 73)).alloc (.cells #[.int .i64 x, .int .i64 y] 118)).alloc (.cells #[.int .i64 y, .int .i64 x] 2))
  go_enter Yaav.func52, Yaav.ntmps52
  go_wp2_with (go_at_call 71; refine (effect_any _ _).mono ?_; rintro e w' ⟨rfl, rfl⟩)
  refine wp_loop_rounds 3 ?_
  rw [rounds_succ]
  go_wp2
  rw [rounds_succ]
  go_wp2
  rw [rounds_succ]
  go_wp2_with (first | (at_builtin; refine wpList_app Yaav.underlying24 Yaav.info2 rfl rfl (.tmp 136) (.tmp 141) rfl (v := .slice (some ⟨g, 0, none⟩) r.length cp) (n := r.length) (xs := iCells r) rfl rfl G5.out (Src.ofSlice _ Yaav.underlying24 ⟨w.heap.size + 1 + 1 + 1 + 1, 0, none⟩ 2 2 [.int .i64 y, .int .i64 x] rfl (by have := ss_news ((((w.alloc (.cells #[.int .i64 pc, .slice (some ⟨g, 0, none⟩) (r.length + 2) cp, .int .i64 stp] 90)).alloc (.cells #[.int .i64 0, .slice none 0 0, .int .i64 0] 90)).alloc (.cells #[.int .i64 8, .int .i64 a] 73)).alloc (.cells #[.int .i64 x, .int .i64 y] 118)) [.int .i64 y, .int .i64 x] 2; simpa using this) (one_ints [y, x])) (by omega) (by omega) (by simp; omega) ?_; intro v2 w2 hg2 hgr2 hat2; obtain ⟨a2, cc2, rfl, _, _⟩ := hg2.shape; obtain ⟨bC, bZ, bL, bN⟩ := ss_after (c := [.int .i64 pc, .slice (some ⟨g, 0, none⟩) (r.length + 2) cp, .int .i64 stp]) (z := [.int .i64 0, .slice none 0 0, .int .i64 0]) HG0.out hB hgr2 hat2; have G6 := hideP hg2; have c2 := bC.cell 2; have z0 := bZ.cell 0; have z1 := bZ.cell 1; have z2 := bZ.cell 2; simp at c2 z0 z1 z2; have f0 := bZ.frozen 0; have f1 := bZ.frozen 1; have f2 := bZ.frozen 2; have BZ := hideP bZ; have BL := hideP bL; have BN := hideP bN; clear hg2 hgr2 hat2 bC bZ bL bN G5 HG0))
  have hW := ((BZ.out.set 0 (.int .i64 ((pc : Int) + 1))).set 1 (.slice a2 (r.length + 2) cc2)).set 2 (.int .i64 ((stp : Int) + 1))
  have d0 := hW.cell 0
  have d1 := hW.cell 1
  have d2 := hW.cell 2
  simp at d0 d1 d2
  refine bodyPost_ret (v := .tuple #[.agg #[.int .i64 ((pc : Int) + 1), (.slice a2 (r.length + 2) cc2), .int .i64 ((stp : Int) + 1)], .bool true]) (by simp [results, Yaav.results52, go_sem, d0, d1, d2]) rfl ⟨⟨.slice a2 (r.length + 2) cc2, by simp, ?_⟩, ?_⟩
  · have := ((G6.out.setOther (p := ⟨w.heap.size + 1, 0, none⟩) BN.out (.int .i64 ((pc : Int) + 1))).setOther (p := ⟨w.heap.size + 1, 1, none⟩) BN.out (.slice a2 (r.length + 2) cc2)).setOther (p := ⟨w.heap.size + 1, 2, none⟩) BN.out (.int .i64 ((stp : Int) + 1))
    simpa [iCells] using this
  · exact ((BL.out.setCell (p := ⟨_, _, none⟩) (by simp; omega) _).setCell (p := ⟨_, _, none⟩) (by simp; omega) _).setCell (p := ⟨_, _, none⟩) (by simp; omega) _

end Go.Proofs.Yahaaw
