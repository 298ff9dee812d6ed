/-
  DERIVED. WALK: impl.RunReg (23): the whole.
-/
import Derived.Test.YahaawRunIA
import Derived.Test.YahaawRunIB
import Derived.Test.YahaawRunIC
import Derived.Test.YahaawRunID
import Derived.Test.YahaawRunIE
import Derived.Test.YahaawRunIF
import Derived.Test.YahaawRunIZ
namespace Go.Proofs.Yahaaw
open Go.RowKit
set_option linter.unusedVariables false
set_option linter.unusedSimpArgs false

theorem iRunReg_in (ap ax : Option Addr) (n cap nx capx N : Nat) (ps : List RO) (xs : List Int) (w : World) (hn : ps.length = n) (hn2 : n ≤ 1099511627776) (hs : Seg w ap (rCells ps)) (hnr : N ≤ 65536) (hnx : xs.length = nx) (hnx2 : nx ≤ 1099511627776) (hxs : Seg w ax (iCells xs)) :
    Calls Yaav.prog 23 #[.slice ap n cap, .int .i64 N, .slice ax nx capx] w fun e w' => RunPost (runR ps xs 20000 0 (List.replicate N 0)) w.heap.size e w' ∧ Below w.heap.size w w' :=
  (iSkel ap ax n cap nx capx N ps xs w (hideP hn) hn2 (hideP hs) hnr (hideP hnx) hnx2 (hideP hxs)).2 ⟨iRunA ap ax n cap nx capx N ps xs w (hideP hn) hn2 (hideP hs) hnr (hideP hnx) hnx2 (hideP hxs)⟩ ⟨iRunB ap ax n cap nx capx N ps xs w (hideP hn) hn2 (hideP hs) hnr (hideP hnx) hnx2 (hideP hxs)⟩ ⟨iRunC ap ax n cap nx capx N ps xs w (hideP hn) hn2 (hideP hs) hnr (hideP hnx) hnx2 (hideP hxs)⟩ ⟨iRunD ap ax n cap nx capx N ps xs w (hideP hn) hn2 (hideP hs) hnr (hideP hnx) hnx2 (hideP hxs)⟩ ⟨iRunE ap ax n cap nx capx N ps xs w (hideP hn) hn2 (hideP hs) hnr (hideP hnx) hnx2 (hideP hxs)⟩ ⟨iRunF ap ax n cap nx capx N ps xs w (hideP hn) hn2 (hideP hs) hnr (hideP hnx) hnx2 (hideP hxs)⟩ ⟨iRunZ ap ax n cap nx capx N ps xs w (hideP hn) hn2 (hideP hs) hnr (hideP hnx) hnx2 (hideP hxs)⟩

set_option maxRecDepth 100000 in
set_option maxHeartbeats 1000000 in
theorem iRunReg_out (ap ax : Option Addr) (n cap nx capx : Nat) (z : Int) (w : World) (hz : z < 0 ∨ 65536 < z) :
    Calls Yaav.prog 23 #[.slice ap n cap, .int .i64 z, .slice ax nx capx] w fun e w' => RunPost ⟨2, [], 0⟩ w.heap.size e w' ∧ Below w.heap.size w w' := by
  by_cases h0 : z < 0
  all_goals
    go_enter Yaav.func23, Yaav.ntmps23
    go_wp2
    exact bodyPost_ret (v := .agg #[.int .i64 2, .slice none 0 0, .int .i64 0]) (by simp [results, Yaav.results23, go_sem]) rfl ⟨⟨none, rfl, .inl rfl⟩, (Below.refl _ _).alloc (Nat.le_refl _) _⟩

end Go.Proofs.Yahaaw
