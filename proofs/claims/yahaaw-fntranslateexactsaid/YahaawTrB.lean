/-
  DERIVED. WALKS: spec.SameROps (38), laws.FnTranslateExact (11).
-/
import Derived.Test.YahaawDecode
import Derived.Test.YahaawTrFn
namespace Go.Proofs.Yahaaw
open Go.RowKit
set_option linter.unusedVariables false
set_option linter.unusedSimpArgs false

set_option maxRecDepth 100000 in
set_option maxHeartbeats 1000000 in
theorem sameROps (a a' : Option Addr) (n cap cap' : Nat) (ps : List RO) (w : World) (hn : ps.length = n) (hn2 : n ≤ 1099511627776) (hs : Seg w a (rCells ps)) (hs' : Seg w a' (rCells ps)) :
    Calls Yaav.prog 38 #[.slice a n cap, .slice a' n cap'] w fun e w' => e = .returned (.bool true) ∧ Below w.heap.size w w' := by
  have HS : Hid (Seg w a (rCells ps)) := hs
  have HS' : Hid (Seg w a' (rCells ps)) := hs'
  clear hs hs'
  go_enter Yaav.func38, Yaav.ntmps38
  go_wp2
  go_loopw [5] (fun i wr => ∃ k : Nat, k ≤ n ∧ i = .int .i64 k ∧ Below w.heap.size w wr) (fun i _ => n - (intOf i).toNat)
  case atStart => exact ⟨0, Nat.zero_le _, rfl, Below.refl _ _⟩
  case round =>
    obtain ⟨k, hk, rfl, hbel⟩ := hrel
    by_cases hlt : k < n
    · obtain ⟨x, hx⟩ := some_at (ps := ps) (k := k) (by omega)
      obtain ⟨b, off, rfl, hb, h1, h2, h3, h4, h5⟩ := (HS.out.below hbel).r hx
      obtain ⟨b', off', rfl, hb', g1, g2, g3, g4, g5⟩ := (HS'.out.below hbel).r hx
      clear hx hn
      go_wp2_with fail
      go_quiet (fail)
      go_wp2
      go_roundw
      case rel => exact ⟨k + 1, by omega, by go_num, ⟨hbel.os, hbel.tape, hbel.output, hbel.size, hbel.block⟩⟩
      case measure => simp [intOf]; omega
    · go_wp2
      go_ret
      exact ⟨rfl, hbel⟩

set_option maxRecDepth 100000 in
set_option maxHeartbeats 2000000 in
theorem fnTranslateExact_small (a : Option Addr) (n cap : Nat) (w : World) (hn2 : n ≤ 1048576) (hs : Byt w.heap.size w a n) :
    Calls Yaav.prog 11 #[.slice a n cap] w fun e w' => e = .returned (.bool true) ∧ Below w.heap.size w w' := by
  have HS := hideP hs
  clear hs
  go_enter Yaav.func11, Yaav.ntmps11
  go_wp2_with fail
  refine (decode_any a n cap _ hn2 HS.out).mono ?_
  rintro e w1 ⟨ps, xs, a1, a2, c1, c2, rfl, hpl, hxl, hpw, hxw, hps, hxs, hb1⟩
  have S1 := hideP hps
  have B1 := hideP hb1
  clear hps hxs hb1 hpw hxw
  go_wp2_with fail
  refine (sTranslate a1 ps.length c1 ps _ rfl (by omega) S1.out).mono ?_
  rintro e w2 ⟨htp, hb2⟩
  obtain ⟨ops, d, ok, b2, k2, ht, rfl, hs2⟩ := htp
  have hml := ht.len
  have HT := hideP ht
  have R2 := hideP hs2
  have S2 := hideP (S1.out.below hb2)
  have B2 := hideP (Below.both B1.out hb2)
  clear hb2 ht hs2 B1 S1
  go_wp2_with fail
  refine (iTranslate a1 ps.length c1 ps _ rfl (by omega) S2.out).mono ?_
  rintro e w3 ⟨htp, hb3⟩
  obtain ⟨b3, rfl, ho3⟩ := htp.at HT.out
  have O3 := hideP ho3
  have R3 := hideP (R2.out.below hb3)
  have S3 := hideP (S2.out.below hb3)
  have B3 := hideP (Below.both B2.out hb3)
  clear hb3 htp ho3 B2 S2 R2
  go_wp2_with fail
  refine (sameROps b2 b3 ops.length k2 ops.length ops _ rfl (by omega) R3.out O3.out.seg).mono ?_
  rintro e w4 ⟨rfl, hb4⟩
  have S4 := hideP (S3.out.below hb4)
  have B4 := hideP (Below.both B3.out hb4)
  clear hb4 B3 S3 R3 O3
  go_wp2_with fail
  refine (fromS a1 ps.length c1 ps _ rfl (by omega) S4.out).mono ?_
  rintro e w5 ⟨a5, rfl, hb5, ho5⟩
  have S5 := hideP ho5.seg
  have B5 := hideP (Below.both B4.out hb5)
  clear hb5 ho5 B4 S4
  go_wp2_with fail
  refine (fnExactTranslate a5 ps.length ps.length ps _ rfl S5.out).mono ?_
  rintro e w6 ⟨rfl, hb6⟩
  go_wp2
  go_ret
  exact ⟨rfl, Below.both B5.out hb6⟩

set_option maxRecDepth 100000 in
set_option maxHeartbeats 1000000 in
theorem fnTranslateExact_big (a : Option Addr) (n cap : Nat) (w : World) (hn2 : 1048576 < n) :
    Calls Yaav.prog 11 #[.slice a n cap] w fun e w' => e = .returned (.bool true) ∧ Below w.heap.size w w' := by
  go_enter Yaav.func11, Yaav.ntmps11
  go_wp2
  go_ret
  exact ⟨rfl, Below.refl _ _⟩

theorem fnTranslateExact_w (a : Option Addr) (n cap : Nat) (w : World) (hs : Byt w.heap.size w a n) :
    Calls Yaav.prog 11 #[.slice a n cap] w fun e w' => e = .returned (.bool true) ∧ Below w.heap.size w w' := by
  by_cases h : n ≤ 1048576
  · exact fnTranslateExact_small a n cap w h hs
  · exact fnTranslateExact_big a n cap w (by omega)

end Go.Proofs.Yahaaw
