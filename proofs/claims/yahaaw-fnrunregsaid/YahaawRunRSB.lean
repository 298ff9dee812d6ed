/-
  DERIVED. WALK: spec.RunReg (21): one round, a part of the codes.
-/
import Derived.Test.YahaawRunRB3
import Derived.Test.YahaawRunRB4
namespace Go.Proofs.Yahaaw
open Go.RowKit
attribute [local go_sem ↓] Go.wp_at_zero Go.wp_at_succ
set_option linter.unusedVariables false
set_option linter.unusedSimpArgs false

theorem sRunB (ap ax : Option Addr) (n cap nx capx N : Nat) (ps : List RO) (xs : List Int) (w : World) (HN : Hid (ps.length = n)) (hn2 : n ≤ 1099511627776) (HS : Hid (Seg w ap (rCells ps))) (hnr : N ≤ 65536) (HNX : Hid (xs.length = nx)) (hnx2 : nx ≤ 1099511627776) (HXS : Hid (Seg w ax (iCells xs))) : (sSkel ap ax n cap nx capx N ps xs w HN hn2 HS hnr HNX hnx2 HXS).1.2.1 :=
  (sSkelB ap ax n cap nx capx N ps xs w HN hn2 HS hnr HNX hnx2 HXS).2 ⟨sRunB4 ap ax n cap nx capx N ps xs w HN hn2 HS hnr HNX hnx2 HXS⟩ ⟨sRunB3 ap ax n cap nx capx N ps xs w HN hn2 HS hnr HNX hnx2 HXS⟩

end Go.Proofs.Yahaaw
