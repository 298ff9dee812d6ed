/-
  DERIVED. WALKS: laws.FnListing (14).
-/
import Derived.Test.YahaawDecReg
import Derived.Test.YahaawListFn
import Derived.Test.YahaawCopy2
namespace Go.Proofs.Yahaaw
open Go.RowKit
set_option linter.unusedVariables false
set_option linter.unusedSimpArgs false

set_option maxRecDepth 100000 in
set_option maxHeartbeats 2000000 in
theorem fnListing_small (a : Option Addr) (n cap : Nat) (w : World) (hn2 : n ≤ 1048576) (hcap : n ≤ cap) (hc63 : cap ≤ 9223372036854775807) (hs : Byt w.heap.size w a n) :
    Calls Yaav.prog 14 #[.slice a n cap] w fun e w' => e = .returned (.bool true) ∧ Below w.heap.size w w' := by
  have HS := hideP hs
  clear hs
  go_enter Yaav.func14, Yaav.ntmps14
  go_wp2_with fail
  refine (decodeReg_any a n cap _ hn2 hcap hc63 HS.out).mono ?_
  rintro e w1 ⟨ps, z, xs, a1, a2, c1, c2, rfl, hpl, hxl, hz, hpw, hxw, hps, hxs, hb1⟩
  have S1 := hideP hps
  have HPW := hideP hpw
  have B1 := hideP hb1
  clear hps hxs hb1 hpw hxw hz
  go_wp2_with fail
  refine (fromR a1 ps.length c1 ps _ rfl (by omega) S1.out).mono ?_
  rintro e w2 ⟨a3, rfl, hb2, ho2⟩
  have O2 := hideP ho2.seg
  have B2 := hideP (Below.both B1.out hb2)
  clear hb2 ho2 B1 S1
  go_wp2_with fail
  refine (fnExactListing a3 ps.length ps.length ps _ rfl O2.out HPW.out).mono ?_
  rintro e w3 ⟨rfl, hb3⟩
  have B3 := hideP (Below.both B2.out hb3)
  have HS3 : Hid (Byt w3.heap.size w3 a n) := (HS.out.keep B3.out.block).mono B3.out.size
  clear hb3 B2 O2
  go_wp2_with fail
  refine (decode_any a n cap _ hn2 HS3.out).mono ?_
  rintro e w4 ⟨qs, ys, a4, a5, c4, c5, rfl, hql, hyl, hqw, hyw, hqs, hys, hb4⟩
  have S4 := hideP hqs
  have HQW := hideP hqw
  have B4 := hideP (Below.both B3.out hb4)
  clear hqs hys hb4 hqw hyw B3
  go_wp2_with fail
  refine (sTranslate a4 qs.length c4 qs _ rfl (by omega) S4.out).mono ?_
  rintro e w5 ⟨htp, hb5⟩
  obtain ⟨ops, d, ok, b5, k5, ht, rfl, hs5⟩ := htp
  have hwf := ht.wf HQW.out hql
  have HT := hideP hwf
  have hol := hwf.2.2.2
  have S5 := hideP hs5
  have B5 := hideP (Below.both B4.out hb5)
  clear hb5 ht hs5 hwf B4 S4
  cases ok with
  | false =>
    go_wp2
    go_ret
    exact ⟨rfl, B5.out⟩
  | true =>
    go_wp2_with fail
    refine (fromR b5 ops.length k5 ops _ rfl (by omega) S5.out).mono ?_
    rintro e w6 ⟨a6, rfl, hb6, ho6⟩
    have O6 := hideP ho6.seg
    have B6 := hideP (Below.both B5.out hb6)
    clear hb6 ho6 B5 S5
    go_wp2_with fail
    refine (fnExactListing a6 ops.length ops.length ops _ rfl O6.out HT.out.1).mono ?_
    rintro e w7 ⟨rfl, hb7⟩
    go_wp2
    go_ret
    exact ⟨rfl, Below.both B6.out hb7⟩

set_option maxRecDepth 100000 in
set_option maxHeartbeats 1000000 in
theorem fnListing_big (a : Option Addr) (n cap : Nat) (w : World) (hn2 : 1048576 < n) :
    Calls Yaav.prog 14 #[.slice a n cap] w fun e w' => e = .returned (.bool true) ∧ Below w.heap.size w w' := by
  go_enter Yaav.func14, Yaav.ntmps14
  go_wp2
  go_ret
  exact ⟨rfl, Below.refl _ _⟩

theorem fnListing_w (a : Option Addr) (n cap : Nat) (w : World) (hcap : n ≤ cap) (hc63 : cap ≤ 9223372036854775807) (hs : Byt w.heap.size w a n) :
    Calls Yaav.prog 14 #[.slice a n cap] w fun e w' => e = .returned (.bool true) ∧ Below w.heap.size w w' := by
  by_cases h : n ≤ 1048576
  · exact fnListing_small a n cap w h hcap hc63 hs
  · exact fnListing_big a n cap w (by omega)

end Go.Proofs.Yahaaw
