/-
  DERIVED. WALK: impl.RunStack (24): the whole.
-/
import Derived.Test.YahaawRunSA
import Derived.Test.YahaawRunSB
import Derived.Test.YahaawRunSC
import Derived.Test.YahaawRunSD
import Derived.Test.YahaawRunSZ
namespace Go.Proofs.Yahaaw
open Go.RowKit
set_option linter.unusedVariables false
set_option linter.unusedSimpArgs false

theorem iRunStack (ap ax : Option Addr) (n cap nx capx : Nat) (ps : List SO) (xs : List Int) (w : World) (hn : ps.length = n) (hn2 : n ≤ 1099511627776) (hs : Seg w ap (sCells ps)) (hnx : xs.length = nx) (hnx2 : nx ≤ 1099511627776) (hxs : Seg w ax (iCells xs)) :
    Calls Yaav.prog 24 #[.slice ap n cap, .slice ax nx capx] w fun e w' => RunPost (runS ps xs 20000 0 []) w.heap.size e w' ∧ Below w.heap.size w w' :=
  (iSkelS ap ax n cap nx capx ps xs w (hideP hn) hn2 (hideP hs) (hideP hnx) hnx2 (hideP hxs)).2 ⟨iRunStkA ap ax n cap nx capx ps xs w (hideP hn) hn2 (hideP hs) (hideP hnx) hnx2 (hideP hxs)⟩ ⟨iRunStkB ap ax n cap nx capx ps xs w (hideP hn) hn2 (hideP hs) (hideP hnx) hnx2 (hideP hxs)⟩ ⟨iRunStkC ap ax n cap nx capx ps xs w (hideP hn) hn2 (hideP hs) (hideP hnx) hnx2 (hideP hxs)⟩ ⟨iRunStkD ap ax n cap nx capx ps xs w (hideP hn) hn2 (hideP hs) (hideP hnx) hnx2 (hideP hxs)⟩ ⟨iRunStkZ ap ax n cap nx capx ps xs w (hideP hn) hn2 (hideP hs) (hideP hnx) hnx2 (hideP hxs)⟩

end Go.Proofs.Yahaaw
