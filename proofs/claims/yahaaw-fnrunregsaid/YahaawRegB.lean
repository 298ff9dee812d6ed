/-
  DERIVED. WALKS: laws.FnRunReg (13).
-/
import Derived.Test.YahaawDecReg
import Derived.Test.YahaawRegFn
namespace Go.Proofs.Yahaaw
open Go.RowKit
set_option linter.unusedVariables false
set_option linter.unusedSimpArgs false

set_option maxRecDepth 100000 in
set_option maxHeartbeats 2000000 in
theorem fnRunReg_small (a : Option Addr) (n cap : Nat) (w : World) (hn2 : n ≤ 1048576) (hcap : n ≤ cap) (hc63 : cap ≤ 9223372036854775807) (hs : Byt w.heap.size w a n) :
    Calls Yaav.prog 13 #[.slice a n cap] w fun e w' => e = .returned (.bool true) ∧ Below w.heap.size w w' := by
  have HS := hideP hs
  clear hs
  go_enter Yaav.func13, Yaav.ntmps13
  go_wp2_with fail
  refine (decodeReg_any a n cap _ hn2 hcap hc63 HS.out).mono ?_
  rintro e w1 ⟨ps, z, xs, a1, a2, c1, c2, rfl, hpl, hxl, hz, hpw, hxw, hps, hxs, hb1⟩
  have S1 := hideP hps
  have X1 := hideP hxs
  have B1 := hideP hb1
  clear hps hxs hb1 hpw hxw hz
  go_wp2_with fail
  refine (fromR a1 ps.length c1 ps _ rfl (by omega) S1.out).mono ?_
  rintro e w2 ⟨a3, rfl, hb2, ho2⟩
  have O2 := hideP ho2.seg
  have X2 := hideP (X1.out.below hb2)
  have B2 := hideP (Below.both B1.out hb2)
  clear hb2 ho2 B1 S1 X1
  go_wp2_with fail
  refine (fnExactRunReg a3 a2 ps.length ps.length xs.length c2 z ps xs _ rfl O2.out rfl X2.out).mono ?_
  rintro e w3 ⟨rfl, hb3⟩
  go_wp2
  go_ret
  exact ⟨rfl, Below.both B2.out hb3⟩

set_option maxRecDepth 100000 in
set_option maxHeartbeats 1000000 in
theorem fnRunReg_big (a : Option Addr) (n cap : Nat) (w : World) (hn2 : 1048576 < n) :
    Calls Yaav.prog 13 #[.slice a n cap] w fun e w' => e = .returned (.bool true) ∧ Below w.heap.size w w' := by
  go_enter Yaav.func13, Yaav.ntmps13
  go_wp2
  go_ret
  exact ⟨rfl, Below.refl _ _⟩

theorem fnRunReg_w (a : Option Addr) (n cap : Nat) (w : World) (hcap : n ≤ cap) (hc63 : cap ≤ 9223372036854775807) (hs : Byt w.heap.size w a n) :
    Calls Yaav.prog 13 #[.slice a n cap] w fun e w' => e = .returned (.bool true) ∧ Below w.heap.size w w' := by
  by_cases h : n ≤ 1048576
  · exact fnRunReg_small a n cap w h hcap hc63 hs
  · exact fnRunReg_big a n cap w (by omega)

end Go.Proofs.Yahaaw
