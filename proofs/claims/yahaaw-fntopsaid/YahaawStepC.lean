/-
  DERIVED. WALK: spec.stepStack (52), part C.
-/
import Derived.Test.YahaawStep0
namespace Go.Proofs.Yahaaw
open Go.RowKit
set_option linter.unusedVariables false
set_option linter.unusedSimpArgs false

set_option maxRecDepth 100000 in
set_option maxHeartbeats 4000000 in
theorem ss_f1 (bb off n cap nx capx pc stp B : Nat) (ax : Option Addr) (c a : Int) (a0 : Option Addr) (m cp : Nat) (w : World) (hn : n ≤ 1099511627776) (hpc : pc < n) (hst : stp ≤ 20000) (hr : m ≤ 20000)
    (h1 : w.cell? ⟨bb, off + pc * 2, none⟩ = some (.int .i64 c)) (h2 : w.cell? ⟨bb, off + pc * 2 + 1, none⟩ = some (.int .i64 a)) (hbb : bb < w.heap.size) (hB : B ≤ w.heap.size) (hf : needs c < 0) :
    Calls Yaav.prog 52 #[.slice (some ⟨bb, off, none⟩) n cap, .slice ax nx capx, .agg #[.int .i64 pc, .slice a0 m cp, .int .i64 stp]] w fun e w' => StepPost none B pc (.slice a0 m cp) stp e w' ∧ Below B w w' := by
  have hb1 : bb < w.heap.size + 1 := by omega
  have hnl := needs_le c
  go_enter Yaav.func52, Yaav.ntmps52
  go_wp2_with (go_at_call 71; refine (effect_any _ _).mono ?_; rintro e w' ⟨rfl, rfl⟩)
  exact bodyPost_ret (v := .tuple #[.agg #[.int .i64 pc, .slice a0 m cp, .int .i64 stp], .bool false]) (by simp [results, Yaav.results52, go_sem]) rfl ⟨rfl, (((Below.refl B w).alloc hB _).alloc (by simp; omega) _).alloc (by simp; omega) _⟩

set_option maxRecDepth 100000 in
set_option maxHeartbeats 4000000 in
theorem ss_f2 (bb off n cap nx capx pc stp B : Nat) (ax : Option Addr) (c a : Int) (a0 : Option Addr) (m cp : Nat) (w : World) (hn : n ≤ 1099511627776) (hpc : pc < n) (hst : stp ≤ 20000) (hr : m ≤ 20000)
    (h1 : w.cell? ⟨bb, off + pc * 2, none⟩ = some (.int .i64 c)) (h2 : w.cell? ⟨bb, off + pc * 2 + 1, none⟩ = some (.int .i64 a)) (hbb : bb < w.heap.size) (hB : B ≤ w.heap.size) (hf0 : ¬ needs c < 0) (hf : (m : Int) < needs c) :
    Calls Yaav.prog 52 #[.slice (some ⟨bb, off, none⟩) n cap, .slice ax nx capx, .agg #[.int .i64 pc, .slice a0 m cp, .int .i64 stp]] w fun e w' => StepPost none B pc (.slice a0 m cp) stp e w' ∧ Below B w w' := by
  have hb1 : bb < w.heap.size + 1 := by omega
  have hnl := needs_le c
  go_enter Yaav.func52, Yaav.ntmps52
  go_wp2_with (go_at_call 71; refine (effect_any _ _).mono ?_; rintro e w' ⟨rfl, rfl⟩)
  exact bodyPost_ret (v := .tuple #[.agg #[.int .i64 pc, .slice a0 m cp, .int .i64 stp], .bool false]) (by simp [results, Yaav.results52, go_sem]) rfl ⟨rfl, (((Below.refl B w).alloc hB _).alloc (by simp; omega) _).alloc (by simp; omega) _⟩

set_option maxRecDepth 100000 in
set_option maxHeartbeats 4000000 in
theorem ss_7 (bb off n cap nx capx pc stp B : Nat) (ax : Option Addr) (a : Int) (g cp : Nat) (r : List Int) (y : Int) (w : World) (hn : n ≤ 1099511627776) (hpc : pc < n) (hst : stp ≤ 20000) (hr : r.length ≤ 20000)
    (h1 : w.cell? ⟨bb, off + pc * 2, none⟩ = some (.int .i64 7)) (h2 : w.cell? ⟨bb, off + pc * 2 + 1, none⟩ = some (.int .i64 a)) (hbb : bb < w.heap.size) (hB : B ≤ w.heap.size)
    (hcp : r.length + 1 ≤ cp) (hgl : g < w.heap.size) (k1 : w.cell? ⟨g, r.length, none⟩ = some (.int .i64 y)) (hg0 : Grow w B 2 1 (.slice (some ⟨g, 0, none⟩) r.length cp) (r.length) (iCells r)) :
    Calls Yaav.prog 52 #[.slice (some ⟨bb, off, none⟩) n cap, .slice ax nx capx, .agg #[.int .i64 pc, .slice (some ⟨g, 0, none⟩) (r.length + 1) cp, .int .i64 stp]] w fun e w' => StepPost (some (pc + 1, r)) B pc (.slice (some ⟨g, 0, none⟩) (r.length + 1) cp) stp e w' ∧ Below B w w' := by
  have hnd : needs 7 = 1 := rfl
  have HG0 := hideP hg0
  have hb1 : bb < w.heap.size + 1 := by omega
  have hb2 : bb < w.heap.size + 1 + 1 := by omega
  have hg1 : g < w.heap.size + 1 := by omega
  have hg2 : g < w.heap.size + 1 + 1 := by omega
  have hg3 : g < w.heap.size + 1 + 1 + 1 := by omega
  clear hg0
  go_enter Yaav.func52, Yaav.ntmps52
  go_wp2_with (go_at_call 71; refine (effect_any _ _).mono ?_; rintro e w' ⟨rfl, rfl⟩)
  refine wp_loop_rounds 2 ?_
  rw [rounds_succ]
  go_wp2
  rw [rounds_succ]
  go_wp2
  refine bodyPost_ret (v := .tuple #[.agg #[.int .i64 ((pc : Int) + 1), .slice (some ⟨g, 0, none⟩) r.length cp, .int .i64 ((stp : Int) + 1)], .bool true]) (by simp [results, Yaav.results52, go_sem]) rfl ⟨⟨.slice (some ⟨g, 0, none⟩) r.length cp, by simp, ?_⟩, ?_⟩
  · exact (((HG0.out.alloc _).alloc _).alloc _).alloc _
  · exact ((((Below.refl B w).alloc hB _).alloc (by simp; omega) _).alloc (by simp; omega) _).alloc (by simp; omega) _

set_option maxRecDepth 100000 in
set_option maxHeartbeats 4000000 in
theorem ss_9a (bb off n cap nx capx pc stp B : Nat) (ax : Option Addr) (a : Int) (a0 : Option Addr) (cp : Nat) (st : List Int) (w : World) (hn : n ≤ 1099511627776) (hpc : pc < n) (hst : stp ≤ 20000) (hr : st.length ≤ 20000)
    (h1 : w.cell? ⟨bb, off + pc * 2, none⟩ = some (.int .i64 9)) (h2 : w.cell? ⟨bb, off + pc * 2 + 1, none⟩ = some (.int .i64 a)) (hbb : bb < w.heap.size) (hB : B ≤ w.heap.size)
    (hcp : st.length ≤ cp) (hg0 : Grow w B 2 1 (.slice a0 st.length cp) (st.length) (iCells st)) (hj : a < 0) :
    Calls Yaav.prog 52 #[.slice (some ⟨bb, off, none⟩) n cap, .slice ax nx capx, .agg #[.int .i64 pc, .slice a0 st.length cp, .int .i64 stp]] w fun e w' => StepPost none B pc (.slice a0 st.length cp) stp e w' ∧ Below B w w' := by
  have hnd : needs 9 = 0 := rfl
  have HG0 := hideP hg0
  have hb1 : bb < w.heap.size + 1 := by omega
  have hb2 : bb < w.heap.size + 1 + 1 := by omega
  clear hg0
  go_enter Yaav.func52, Yaav.ntmps52
  go_wp2_with (go_at_call 71; refine (effect_any _ _).mono ?_; rintro e w' ⟨rfl, rfl⟩)
  refine wp_loop_rounds 1 ?_
  rw [rounds_succ]
  go_wp2
  exact bodyPost_ret (v := .tuple #[.agg #[.int .i64 pc, .slice a0 st.length cp, .int .i64 stp], .bool false]) (by simp [results, Yaav.results52, go_sem]) rfl ⟨rfl, ((((Below.refl B w).alloc hB _).alloc (by simp; omega) _).alloc (by simp; omega) _).alloc (by simp; omega) _⟩

set_option maxRecDepth 100000 in
set_option maxHeartbeats 4000000 in
theorem ss_9b (bb off n cap nx capx pc stp B : Nat) (ax : Option Addr) (a : Int) (a0 : Option Addr) (cp : Nat) (st : List Int) (w : World) (hn : n ≤ 1099511627776) (hpc : pc < n) (hst : stp ≤ 20000) (hr : st.length ≤ 20000)
    (h1 : w.cell? ⟨bb, off + pc * 2, none⟩ = some (.int .i64 9)) (h2 : w.cell? ⟨bb, off + pc * 2 + 1, none⟩ = some (.int .i64 a)) (hbb : bb < w.heap.size) (hB : B ≤ w.heap.size)
    (hcp : st.length ≤ cp) (hg0 : Grow w B 2 1 (.slice a0 st.length cp) (st.length) (iCells st)) (hj0 : 0 ≤ a) (hj : (n : Int) < a) :
    Calls Yaav.prog 52 #[.slice (some ⟨bb, off, none⟩) n cap, .slice ax nx capx, .agg #[.int .i64 pc, .slice a0 st.length cp, .int .i64 stp]] w fun e w' => StepPost none B pc (.slice a0 st.length cp) stp e w' ∧ Below B w w' := by
  have hnd : needs 9 = 0 := rfl
  have HG0 := hideP hg0
  have hb1 : bb < w.heap.size + 1 := by omega
  have hb2 : bb < w.heap.size + 1 + 1 := by omega
  clear hg0
  go_enter Yaav.func52, Yaav.ntmps52
  go_wp2_with (go_at_call 71; refine (effect_any _ _).mono ?_; rintro e w' ⟨rfl, rfl⟩)
  refine wp_loop_rounds 1 ?_
  rw [rounds_succ]
  go_wp2
  exact bodyPost_ret (v := .tuple #[.agg #[.int .i64 pc, .slice a0 st.length cp, .int .i64 stp], .bool false]) (by simp [results, Yaav.results52, go_sem]) rfl ⟨rfl, ((((Below.refl B w).alloc hB _).alloc (by simp; omega) _).alloc (by simp; omega) _).alloc (by simp; omega) _⟩

set_option maxRecDepth 100000 in
set_option maxHeartbeats 4000000 in
theorem ss_9 (bb off n cap nx capx pc stp B : Nat) (ax : Option Addr) (A : Nat) (a0 : Option Addr) (cp : Nat) (st : List Int) (w : World) (hn : n ≤ 1099511627776) (hpc : pc < n) (hst : stp ≤ 20000) (hr : st.length ≤ 20000)
    (h1 : w.cell? ⟨bb, off + pc * 2, none⟩ = some (.int .i64 9)) (h2 : w.cell? ⟨bb, off + pc * 2 + 1, none⟩ = some (.int .i64 (A : Int))) (hbb : bb < w.heap.size) (hB : B ≤ w.heap.size)
    (hcp : st.length ≤ cp) (hA : A ≤ n) (hg0 : Grow w B 2 1 (.slice a0 st.length cp) (st.length) (iCells st)) :
    Calls Yaav.prog 52 #[.slice (some ⟨bb, off, none⟩) n cap, .slice ax nx capx, .agg #[.int .i64 pc, .slice a0 st.length cp, .int .i64 stp]] w fun e w' => StepPost (some (A, st)) B pc (.slice a0 st.length cp) stp e w' ∧ Below B w w' := by
  have hnd : needs 9 = 0 := rfl
  have HG0 := hideP hg0
  have hb1 : bb < w.heap.size + 1 := by omega
  have hb2 : bb < w.heap.size + 1 + 1 := by omega
  clear hg0
  go_enter Yaav.func52, Yaav.ntmps52
  go_wp2_with (go_at_call 71; refine (effect_any _ _).mono ?_; rintro e w' ⟨rfl, rfl⟩)
  refine wp_loop_rounds 1 ?_
  rw [rounds_succ]
  go_wp2
  refine bodyPost_ret (v := .tuple #[.agg #[.int .i64 (A : Int), .slice a0 st.length cp, .int .i64 ((stp : Int) + 1)], .bool true]) (by simp [results, Yaav.results52, go_sem]) rfl ⟨⟨.slice a0 st.length cp, by simp, ?_⟩, ?_⟩
  · exact (((HG0.out.alloc _).alloc _).alloc _).alloc _
  · exact ((((Below.refl B w).alloc hB _).alloc (by simp; omega) _).alloc (by simp; omega) _).alloc (by simp; omega) _

set_option maxRecDepth 100000 in
set_option maxHeartbeats 4000000 in
theorem ss_10a (bb off n cap nx capx pc stp B : Nat) (ax : Option Addr) (a : Int) (g cp : Nat) (r : List Int) (y : Int) (w : World) (hn : n ≤ 1099511627776) (hpc : pc < n) (hst : stp ≤ 20000) (hr : r.length ≤ 20000)
    (h1 : w.cell? ⟨bb, off + pc * 2, none⟩ = some (.int .i64 10)) (h2 : w.cell? ⟨bb, off + pc * 2 + 1, none⟩ = some (.int .i64 a)) (hbb : bb < w.heap.size) (hB : B ≤ w.heap.size)
    (hcp : r.length + 1 ≤ cp) (hgl : g < w.heap.size) (k1 : w.cell? ⟨g, r.length, none⟩ = some (.int .i64 y)) (hg0 : Grow w B 2 1 (.slice (some ⟨g, 0, none⟩) r.length cp) (r.length) (iCells r)) (hj : a < 0) :
    Calls Yaav.prog 52 #[.slice (some ⟨bb, off, none⟩) n cap, .slice ax nx capx, .agg #[.int .i64 pc, .slice (some ⟨g, 0, none⟩) (r.length + 1) cp, .int .i64 stp]] w fun e w' => StepPost none B pc (.slice (some ⟨g, 0, none⟩) (r.length + 1) cp) stp e w' ∧ Below B w w' := by
  have hnd : needs 10 = 1 := rfl
  have HG0 := hideP hg0
  have hb1 : bb < w.heap.size + 1 := by omega
  have hb2 : bb < w.heap.size + 1 + 1 := by omega
  have hg1 : g < w.heap.size + 1 := by omega
  have hg2 : g < w.heap.size + 1 + 1 := by omega
  have hg3 : g < w.heap.size + 1 + 1 + 1 := by omega
  clear hg0
  go_enter Yaav.func52, Yaav.ntmps52
  go_wp2_with (go_at_call 71; refine (effect_any _ _).mono ?_; rintro e w' ⟨rfl, rfl⟩)
  refine wp_loop_rounds 2 ?_
  rw [rounds_succ]
  go_wp2
  rw [rounds_succ]
  go_wp2
  exact bodyPost_ret (v := .tuple #[.agg #[.int .i64 pc, .slice (some ⟨g, 0, none⟩) (r.length + 1) cp, .int .i64 stp], .bool false]) (by simp [results, Yaav.results52, go_sem]) rfl ⟨rfl, ((((Below.refl B w).alloc hB _).alloc (by simp; omega) _).alloc (by simp; omega) _).alloc (by simp; omega) _⟩

set_option maxRecDepth 100000 in
set_option maxHeartbeats 4000000 in
theorem ss_10b (bb off n cap nx capx pc stp B : Nat) (ax : Option Addr) (a : Int) (g cp : Nat) (r : List Int) (y : Int) (w : World) (hn : n ≤ 1099511627776) (hpc : pc < n) (hst : stp ≤ 20000) (hr : r.length ≤ 20000)
    (h1 : w.cell? ⟨bb, off + pc * 2, none⟩ = some (.int .i64 10)) (h2 : w.cell? ⟨bb, off + pc * 2 + 1, none⟩ = some (.int .i64 a)) (hbb : bb < w.heap.size) (hB : B ≤ w.heap.size)
    (hcp : r.length + 1 ≤ cp) (hgl : g < w.heap.size) (k1 : w.cell? ⟨g, r.length, none⟩ = some (.int .i64 y)) (hg0 : Grow w B 2 1 (.slice (some ⟨g, 0, none⟩) r.length cp) (r.length) (iCells r)) (hj0 : 0 ≤ a) (hj : (n : Int) < a) :
    Calls Yaav.prog 52 #[.slice (some ⟨bb, off, none⟩) n cap, .slice ax nx capx, .agg #[.int .i64 pc, .slice (some ⟨g, 0, none⟩) (r.length + 1) cp, .int .i64 stp]] w fun e w' => StepPost none B pc (.slice (some ⟨g, 0, none⟩) (r.length + 1) cp) stp e w' ∧ Below B w w' := by
  have hnd : needs 10 = 1 := rfl
  have HG0 := hideP hg0
  have hb1 : bb < w.heap.size + 1 := by omega
  have hb2 : bb < w.heap.size + 1 + 1 := by omega
  have hg1 : g < w.heap.size + 1 := by omega
  have hg2 : g < w.heap.size + 1 + 1 := by omega
  have hg3 : g < w.heap.size + 1 + 1 + 1 := by omega
  clear hg0
  go_enter Yaav.func52, Yaav.ntmps52
  go_wp2_with (go_at_call 71; refine (effect_any _ _).mono ?_; rintro e w' ⟨rfl, rfl⟩)
  refine wp_loop_rounds 2 ?_
  rw [rounds_succ]
  go_wp2
  rw [rounds_succ]
  go_wp2
  exact bodyPost_ret (v := .tuple #[.agg #[.int .i64 pc, .slice (some ⟨g, 0, none⟩) (r.length + 1) cp, .int .i64 stp], .bool false]) (by simp [results, Yaav.results52, go_sem]) rfl ⟨rfl, ((((Below.refl B w).alloc hB _).alloc (by simp; omega) _).alloc (by simp; omega) _).alloc (by simp; omega) _⟩

set_option maxRecDepth 100000 in
set_option maxHeartbeats 4000000 in
theorem ss_10z (bb off n cap nx capx pc stp B : Nat) (ax : Option Addr) (A : Nat) (g cp : Nat) (r : List Int) (y : Int) (w : World) (hn : n ≤ 1099511627776) (hpc : pc < n) (hst : stp ≤ 20000) (hr : r.length ≤ 20000)
    (h1 : w.cell? ⟨bb, off + pc * 2, none⟩ = some (.int .i64 10)) (h2 : w.cell? ⟨bb, off + pc * 2 + 1, none⟩ = some (.int .i64 (A : Int))) (hbb : bb < w.heap.size) (hB : B ≤ w.heap.size)
    (hcp : r.length + 1 ≤ cp) (hgl : g < w.heap.size) (k1 : w.cell? ⟨g, r.length, none⟩ = some (.int .i64 y)) (hA : A ≤ n) (hg0 : Grow w B 2 1 (.slice (some ⟨g, 0, none⟩) r.length cp) (r.length) (iCells r)) (hy : y = 0) :
    Calls Yaav.prog 52 #[.slice (some ⟨bb, off, none⟩) n cap, .slice ax nx capx, .agg #[.int .i64 pc, .slice (some ⟨g, 0, none⟩) (r.length + 1) cp, .int .i64 stp]] w fun e w' => StepPost (some (A, r)) B pc (.slice (some ⟨g, 0, none⟩) (r.length + 1) cp) stp e w' ∧ Below B w w' := by
  have hnd : needs 10 = 1 := rfl
  have HG0 := hideP hg0
  have hb1 : bb < w.heap.size + 1 := by omega
  have hb2 : bb < w.heap.size + 1 + 1 := by omega
  have hg1 : g < w.heap.size + 1 := by omega
  have hg2 : g < w.heap.size + 1 + 1 := by omega
  have hg3 : g < w.heap.size + 1 + 1 + 1 := by omega
  clear hg0
  subst hy
  go_enter Yaav.func52, Yaav.ntmps52
  go_wp2_with (go_at_call 71; refine (effect_any _ _).mono ?_; rintro e w' ⟨rfl, rfl⟩)
  refine wp_loop_rounds 2 ?_
  rw [rounds_succ]
  go_wp2
  rw [rounds_succ]
  go_wp2
  refine bodyPost_ret (v := .tuple #[.agg #[.int .i64 (A : Int), .slice (some ⟨g, 0, none⟩) r.length cp, .int .i64 ((stp : Int) + 1)], .bool true]) (by simp [results, Yaav.results52, go_sem]) rfl ⟨⟨.slice (some ⟨g, 0, none⟩) r.length cp, by simp, ?_⟩, ?_⟩
  · exact (((HG0.out.alloc _).alloc _).alloc _).alloc _
  · exact ((((Below.refl B w).alloc hB _).alloc (by simp; omega) _).alloc (by simp; omega) _).alloc (by simp; omega) _

set_option maxRecDepth 100000 in
set_option maxHeartbeats 4000000 in
theorem ss_10n (bb off n cap nx capx pc stp B : Nat) (ax : Option Addr) (A : Nat) (g cp : Nat) (r : List Int) (y : Int) (w : World) (hn : n ≤ 1099511627776) (hpc : pc < n) (hst : stp ≤ 20000) (hr : r.length ≤ 20000)
    (h1 : w.cell? ⟨bb, off + pc * 2, none⟩ = some (.int .i64 10)) (h2 : w.cell? ⟨bb, off + pc * 2 + 1, none⟩ = some (.int .i64 (A : Int))) (hbb : bb < w.heap.size) (hB : B ≤ w.heap.size)
    (hcp : r.length + 1 ≤ cp) (hgl : g < w.heap.size) (k1 : w.cell? ⟨g, r.length, none⟩ = some (.int .i64 y)) (hA : A ≤ n) (hg0 : Grow w B 2 1 (.slice (some ⟨g, 0, none⟩) r.length cp) (r.length) (iCells r)) (hy : (y == 0) = false) :
    Calls Yaav.prog 52 #[.slice (some ⟨bb, off, none⟩) n cap, .slice ax nx capx, .agg #[.int .i64 pc, .slice (some ⟨g, 0, none⟩) (r.length + 1) cp, .int .i64 stp]] w fun e w' => StepPost (some (pc + 1, r)) B pc (.slice (some ⟨g, 0, none⟩) (r.length + 1) cp) stp e w' ∧ Below B w w' := by
  have hnd : needs 10 = 1 := rfl
  have HG0 := hideP hg0
  have hb1 : bb < w.heap.size + 1 := by omega
  have hb2 : bb < w.heap.size + 1 + 1 := by omega
  have hg1 : g < w.heap.size + 1 := by omega
  have hg2 : g < w.heap.size + 1 + 1 := by omega
  have hg3 : g < w.heap.size + 1 + 1 + 1 := by omega
  clear hg0
  go_enter Yaav.func52, Yaav.ntmps52
  go_wp2_with (go_at_call 71; refine (effect_any _ _).mono ?_; rintro e w' ⟨rfl, rfl⟩)
  refine wp_loop_rounds 2 ?_
  rw [rounds_succ]
  go_wp2
  rw [rounds_succ]
  go_wp2
  refine bodyPost_ret (v := .tuple #[.agg #[.int .i64 ((pc : Int) + 1), .slice (some ⟨g, 0, none⟩) r.length cp, .int .i64 ((stp : Int) + 1)], .bool true]) (by simp [results, Yaav.results52, go_sem]) rfl ⟨⟨.slice (some ⟨g, 0, none⟩) r.length cp, by simp, ?_⟩, ?_⟩
  · exact (((HG0.out.alloc _).alloc _).alloc _).alloc _
  · exact ((((Below.refl B w).alloc hB _).alloc (by simp; omega) _).alloc (by simp; omega) _).alloc (by simp; omega) _

end Go.Proofs.Yahaaw
