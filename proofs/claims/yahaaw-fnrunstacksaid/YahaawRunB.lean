/-
  DERIVED. WALKS: laws.FnRunStack (12).
-/
import Derived.Test.YahaawDecode
import Derived.Test.YahaawRunFn
namespace Go.Proofs.Yahaaw
open Go.RowKit
set_option linter.unusedVariables false
set_option linter.unusedSimpArgs false

set_option maxRecDepth 100000 in
set_option maxHeartbeats 2000000 in
theorem fnRunStack_small (a : Option Addr) (n cap : Nat) (w : World) (hn2 : n ≤ 1048576) (hs : Byt w.heap.size w a n) :
    Calls Yaav.prog 12 #[.slice a n cap] w fun e w' => e = .returned (.bool true) ∧ Below w.heap.size w w' := by
  have HS := hideP hs
  clear hs
  go_enter Yaav.func12, Yaav.ntmps12
  go_wp2_with fail
  refine (decode_any a n cap _ hn2 HS.out).mono ?_
  rintro e w1 ⟨ps, xs, a1, a2, c1, c2, rfl, hpl, hxl, hpw, hxw, hps, hxs, hb1⟩
  have S1 := hideP hps
  have X1 := hideP hxs
  have B1 := hideP hb1
  clear hps hxs hb1 hpw hxw
  go_wp2_with fail
  refine (fromS a1 ps.length c1 ps _ rfl (by omega) S1.out).mono ?_
  rintro e w2 ⟨a2', rfl, hb2, ho2⟩
  have O2 := hideP ho2.seg
  have S2 := hideP (S1.out.below hb2)
  have X2 := hideP (X1.out.below hb2)
  have B2 := hideP (Below.both B1.out hb2)
  clear hb2 ho2 B1 S1 X1
  go_wp2_with fail
  refine (fnExactRunStack a2' a2 ps.length ps.length xs.length c2 ps xs _ rfl O2.out rfl X2.out).mono ?_
  rintro e w3 ⟨rfl, hb3⟩
  have S3 := hideP (S2.out.below hb3)
  have B3 := hideP (Below.both B2.out hb3)
  clear hb3 B2 S2 X2 O2
  go_wp2_with fail
  refine (fromS a1 ps.length c1 ps _ rfl (by omega) S3.out).mono ?_
  rintro e w4 ⟨a4, rfl, hb4, ho4⟩
  have O4 := hideP ho4.seg
  have B4 := hideP (Below.both B3.out hb4)
  clear hb4 ho4 B3 S3
  go_wp2_with fail
  refine (fnExactRunStack a4 none ps.length ps.length 0 0 ps [] _ rfl O4.out rfl (.inl rfl)).mono ?_
  rintro e w5 ⟨rfl, hb5⟩
  go_wp2
  go_ret
  exact ⟨rfl, Below.both B4.out hb5⟩

set_option maxRecDepth 100000 in
set_option maxHeartbeats 1000000 in
theorem fnRunStack_big (a : Option Addr) (n cap : Nat) (w : World) (hn2 : 1048576 < n) :
    Calls Yaav.prog 12 #[.slice a n cap] w fun e w' => e = .returned (.bool true) ∧ Below w.heap.size w w' := by
  go_enter Yaav.func12, Yaav.ntmps12
  go_wp2
  go_ret
  exact ⟨rfl, Below.refl _ _⟩

theorem fnRunStack_w (a : Option Addr) (n cap : Nat) (w : World) (hs : Byt w.heap.size w a n) :
    Calls Yaav.prog 12 #[.slice a n cap] w fun e w' => e = .returned (.bool true) ∧ Below w.heap.size w w' := by
  by_cases h : n ≤ 1048576
  · exact fnRunStack_small a n cap w h hs
  · exact fnRunStack_big a n cap w (by omega)

end Go.Proofs.Yahaaw
