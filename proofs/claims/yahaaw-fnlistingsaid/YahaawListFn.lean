/-
  DERIVED. WALKS: laws.exactListingOnce (36), FnExactListing (9).
-/
import Derived.Test.YahaawList2
import Derived.Test.YahaawCopy2
namespace Go.Proofs.Yahaaw
open Go.RowKit

set_option maxRecDepth 100000 in
set_option maxHeartbeats 1000000 in
theorem onceListing (a : Option Addr) (n cap : Nat) (nz : Bool) (ps : List RO) (w : World) (hn : ps.length = n) (hn2 : n ≤ 1048576) (hs : Seg w a (rCells ps)) (hwf : WfR ps) :
    Calls Yaav.prog 36 #[.slice a n cap, .string (lstS ps), .bool nz] w fun e w' => e = .returned (.bool true) ∧ Below w.heap.size w w' := by
  have HS := hideP hs
  have HW := hideP hwf
  have HN := hideP hn
  clear hs hwf hn
  go_enter Yaav.func36, Yaav.ntmps36
  go_wp2_with fail
  refine (toR a n cap nz ps _ HN.out (by omega) HS.out).mono ?_
  rintro e w1 ⟨a1, rfl, hb1, ho1⟩
  have B1 := hideP hb1
  have O1 := hideP ho1
  clear hb1 ho1
  go_wp2_with fail
  refine (iListing a1 n n ps _ HN.out hn2 O1.out.seg HW.out).mono ?_
  rintro e w2 ⟨rfl, hb2⟩
  have B2 := hideP (Below.both B1.out hb2)
  have O2 := hideP (O1.out.below hb2)
  clear hb2 B1 O1
  go_wp2_with fail
  refine (sameR a a1 n cap n ps _ HN.out (by omega) (HS.out.below B2.out) O2.out.seg).mono ?_
  rintro e w3 ⟨rfl, hb3⟩
  have B3 := hideP (Below.both B2.out hb3)
  have O3 := hideP (O2.out.below hb3)
  clear hb3 B2 O2
  go_wp2_with fail
  refine (flipR a1 n w.heap.size ps _ HN.out (by omega) O3.out).mono ?_
  rintro e w4 ⟨rfl, hg4⟩
  have B4 := hideP (hg4.bel O3.out B3.out B3.out.size)
  clear hg4 O3 B3
  go_wp2_with fail
  refine (toR a n cap nz ps _ HN.out (by omega) (HS.out.below B4.out)).mono ?_
  rintro e w5 ⟨a5, rfl, hb5, ho5⟩
  have B5 := hideP (Below.both B4.out hb5)
  have O5 := hideP ho5
  clear hb5 ho5 B4
  go_wp2_with fail
  refine (iListing a5 n n ps _ HN.out hn2 O5.out.seg HW.out).mono ?_
  rintro e w6 ⟨rfl, hb6⟩
  have B6 := hideP (Below.both B5.out hb6)
  have O6 := hideP (O5.out.below hb6)
  clear hb6 B5 O5
  go_wp2_with fail
  refine (sameR a a5 n cap n ps _ HN.out (by omega) (HS.out.below B6.out) O6.out.seg).mono ?_
  rintro e w7 ⟨rfl, hb7⟩
  go_wp2
  go_ret
  exact ⟨rfl, Below.both B6.out hb7⟩

set_option maxRecDepth 100000 in
set_option maxHeartbeats 1000000 in
theorem fnExactListing_small (a : Option Addr) (n cap : Nat) (ps : List RO) (w : World) (hn : ps.length = n) (hn2 : n ≤ 1048576) (hs : Seg w a (rCells ps)) (hwf : WfR ps) :
    Calls Yaav.prog 9 #[.slice a n cap] w fun e w' => e = .returned (.bool true) ∧ Below w.heap.size w w' := by
  have HS := hideP hs
  have HW := hideP hwf
  have HN := hideP hn
  clear hs hwf hn
  go_enter Yaav.func9, Yaav.ntmps9
  go_wp2_with fail
  refine (toR a n cap false ps _ HN.out (by omega) HS.out).mono ?_
  rintro e w1 ⟨a1, rfl, hb1, ho1⟩
  have B1 := hideP hb1
  have O1 := hideP ho1
  clear hb1 ho1
  go_wp2_with fail
  refine (sListing a1 n n ps _ HN.out hn2 O1.out.seg HW.out).mono ?_
  rintro e w2 ⟨rfl, hb2⟩
  have B2 := hideP (Below.both B1.out hb2)
  clear hb2 B1 O1
  go_wp2_with fail
  refine (onceListing a n cap true ps _ HN.out hn2 (HS.out.below B2.out) HW.out).mono ?_
  rintro e w3 ⟨rfl, hb3⟩
  have B3 := hideP (Below.both B2.out hb3)
  clear hb3 B2
  go_wp2_with fail
  refine (onceListing a n cap false ps _ HN.out hn2 (HS.out.below B3.out) HW.out).mono ?_
  rintro e w4 ⟨rfl, hb4⟩
  go_wp2
  go_ret
  exact ⟨rfl, Below.both B3.out hb4⟩

set_option maxRecDepth 100000 in
set_option maxHeartbeats 1000000 in
theorem fnExactListing_big (a : Option Addr) (n cap : Nat) (w : World) (hn2 : 1048576 < n) :
    Calls Yaav.prog 9 #[.slice a n cap] w fun e w' => e = .returned (.bool true) ∧ Below w.heap.size w w' := by
  go_enter Yaav.func9, Yaav.ntmps9
  go_wp2
  go_ret
  exact ⟨rfl, Below.refl _ _⟩

/-- laws.FnExactListing, whatever the slice. -/
theorem fnExactListing (a : Option Addr) (n cap : Nat) (ps : List RO) (w : World) (hn : ps.length = n) (hs : Seg w a (rCells ps)) (hwf : WfR ps) :
    Calls Yaav.prog 9 #[.slice a n cap] w fun e w' => e = .returned (.bool true) ∧ Below w.heap.size w w' := by
  by_cases h : n ≤ 1048576
  · exact fnExactListing_small a n cap ps w hn h hs hwf
  · exact fnExactListing_big a n cap w (by omega)

end Go.Proofs.Yahaaw
