/-
  DERIVED. WALK: spec.RunReg (21): the whole.
-/
import Derived.Test.YahaawRunRSA
import Derived.Test.YahaawRunRSB
import Derived.Test.YahaawRunRSC
import Derived.Test.YahaawRunRSD
namespace Go.Proofs.Yahaaw
open Go.RowKit
attribute [local go_sem ↓] Go.wp_at_zero Go.wp_at_succ
set_option linter.unusedVariables false
set_option linter.unusedSimpArgs false

theorem sRunReg_in (ap ax : Option Addr) (n cap nx capx N : Nat) (ps : List RO) (xs : List Int) (w : World) (hn : ps.length = n) (hn2 : n ≤ 1099511627776) (hs : Seg w ap (rCells ps)) (hnr : N ≤ 65536) (hnx : xs.length = nx) (hnx2 : nx ≤ 1099511627776) (hxs : Seg w ax (iCells xs)) :
    Calls Yaav.prog 21 #[.slice ap n cap, .int .i64 N, .slice ax nx capx] w fun e w' => RunPost (runR ps xs 20000 0 (List.replicate N 0)) w.heap.size e w' ∧ Below w.heap.size w w' :=
  (sSkel ap ax n cap nx capx N ps xs w (hideP hn) hn2 (hideP hs) hnr (hideP hnx) hnx2 (hideP hxs)).2 ⟨sRunA ap ax n cap nx capx N ps xs w (hideP hn) hn2 (hideP hs) hnr (hideP hnx) hnx2 (hideP hxs)⟩ ⟨sRunB ap ax n cap nx capx N ps xs w (hideP hn) hn2 (hideP hs) hnr (hideP hnx) hnx2 (hideP hxs)⟩ ⟨sRunC ap ax n cap nx capx N ps xs w (hideP hn) hn2 (hideP hs) hnr (hideP hnx) hnx2 (hideP hxs)⟩ ⟨sRunD ap ax n cap nx capx N ps xs w (hideP hn) hn2 (hideP hs) hnr (hideP hnx) hnx2 (hideP hxs)⟩

set_option maxRecDepth 100000 in
set_option maxHeartbeats 1000000 in
theorem sRunReg_out (ap ax : Option Addr) (n cap nx capx : Nat) (z : Int) (w : World) (hz : z < 0 ∨ 65536 < z) :
    Calls Yaav.prog 21 #[.slice ap n cap, .int .i64 z, .slice ax nx capx] w fun e w' => RunPost ⟨2, [], 0⟩ w.heap.size e w' ∧ Below w.heap.size w w' := by
  have B0 : Hid (Below w.heap.size w (w.alloc (.cells #[.int .i64 0, .slice none 0 0, .int .i64 0] 38))) := (Below.refl _ _).alloc (Nat.le_refl _) _
  have K0 := hideP (Blk.new' w #[.int .i64 0, .slice none 0 0, .int .i64 0] 38)
  by_cases h0 : z < 0
  all_goals
    go_enter Yaav.func21, Yaav.ntmps21
    go_wp2_with (go_at_call 48; refine (faulted_any _ _).mono ?_; rintro e w1 ⟨rfl, hb⟩; have hres := K0.out.below hb K0.out.lt; have c0 := hres.cell 0; have c1 := hres.cell 1; have c2 := hres.cell 2; simp at c0 c1 c2; have f0 := hres.frozen 0; have f1 := hres.frozen 1; have f2 := hres.frozen 2; have HRES2 := hideP hres; have HB2 := hideP (Below.both B0.out hb); clear hres)
    have hW := ((HRES2.out.set 0 (.int .i64 2)).set 1 (.slice none 0 0)).set 2 (.int .i64 0)
    have d0 := hW.cell 0
    have d1 := hW.cell 1
    have d2 := hW.cell 2
    simp at d0 d1 d2
    refine bodyPost_ret (v := .agg #[.int .i64 2, .slice none 0 0, .int .i64 0]) (res21 rfl d0 d1 d2) rfl ⟨⟨none, rfl, .inl rfl⟩, ?_⟩
    exact ((HB2.out.setCell (p := ⟨_, _, none⟩) (Nat.le_refl _) _).setCell (p := ⟨_, _, none⟩) (Nat.le_refl _) _).setCell (p := ⟨_, _, none⟩) (Nat.le_refl _) _

end Go.Proofs.Yahaaw
