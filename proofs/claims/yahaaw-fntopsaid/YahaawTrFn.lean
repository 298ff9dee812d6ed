/-
  DERIVED. WALKS: laws.exactTranslateOnce (29), FnExactTranslate (6).
-/
import Derived.Test.YahaawTrI
import Derived.Test.YahaawCopy2
namespace Go.Proofs.Yahaaw
open Go.RowKit

theorem TrPostI.at {ps : List SO} {B : Nat} {e : Ending} {w' : World} {ops : List RO} {d : Int} {ok : Bool} (h : TrPostI ps B e w') (h' : TrIs ps ops d ok) :
    ∃ b, e = .returned (.tuple #[.slice b ops.length ops.length, .int .i64 d, .bool ok]) ∧ Own w' B b (rCells ops) 81 := by
  obtain ⟨ops', d', ok', b, h1, rfl, h2⟩ := h
  obtain ⟨rfl, rfl, rfl⟩ := h1.uniq h'
  exact ⟨b, rfl, h2⟩

theorem TrIs.len {ps : List SO} {ops : List RO} {d : Int} {ok : Bool} (h : TrIs ps ops d ok) : ops.length ≤ ps.length + 1 := by
  rcases h with ⟨T, _, rfl, _, _⟩ | ⟨_, rfl, _, _⟩
  · rw [trans_len]; exact Nat.le_refl _
  · simp

set_option maxRecDepth 100000 in
set_option maxHeartbeats 2000000 in
theorem onceTranslate (a aw : Option Addr) (n cap m cw : Nat) (nz : Bool) (ps : List SO) (ops : List RO) (d : Int) (ok : Bool) (w : World) (hn : ps.length = n) (hn2 : n ≤ 1048576) (hm : ops.length = m) (hs : Seg w a (sCells ps))
    (hws : Seg w aw (rCells ops)) (ht : TrIs ps ops d ok) :
    Calls Yaav.prog 29 #[.slice a n cap, .slice aw m cw, .int .i64 d, .bool ok, .bool nz] w fun e w' => e = .returned (.bool true) ∧ Below w.heap.size w w' := by
  have hml := ht.len
  rw [hm, hn] at hml
  have HS := hideP hs
  have HWS := hideP hws
  have HT := hideP ht
  have HN := hideP hn
  have HM := hideP hm
  clear hs hws ht hn hm
  cases ok
  all_goals
    go_enter Yaav.func29, Yaav.ntmps29
    go_wp2_with fail
    refine (toS a n cap nz ps _ HN.out (by omega) HS.out).mono ?_
    rintro e w1 ⟨a1, rfl, hb1, ho1⟩
    have B1 := hideP hb1
    have Z1 := hideP hb1.size
    have O1 := hideP ho1
    clear hb1 ho1
    go_wp2_with fail
    refine (iTranslate a1 n n ps _ HN.out (by omega) O1.out.seg).mono ?_
    rintro e w2 ⟨htp, hb2⟩
    obtain ⟨b2, rfl, ho2⟩ := htp.at HT.out
    rw [HM.out]
    have B2 := hideP (Below.both B1.out hb2)
    have L2 := hideP O1.out.lt
    have O2 := hideP (O1.out.below hb2)
    have R2 := hideP ho2
    clear hb2 B1 O1 htp ho2
    go_wp2_with fail
    refine (sameR aw b2 m cw m ops _ HM.out (by omega) (HWS.out.below B2.out) R2.out.seg).mono ?_
    rintro e w3 ⟨rfl, hb3⟩
    have B3 := hideP (Below.both B2.out hb3)
    have O3 := hideP (O2.out.below hb3)
    have R3 := hideP (R2.out.below hb3)
    clear hb3 B2 O2 R2
    go_wp2_with fail
    refine (sameS a a1 n cap n ps _ HN.out (by omega) (HS.out.below B3.out) O3.out.seg).mono ?_
    rintro e w4 ⟨rfl, hb4⟩
    have B4 := hideP (Below.both B3.out hb4)
    have O4 := hideP (O3.out.below hb4)
    have R4 := hideP (R3.out.below hb4)
    clear hb4 B3 O3 R3
    go_wp2_with fail
    refine (flipS a1 n w.heap.size ps _ HN.out (by omega) O4.out).mono ?_
    rintro e w5 ⟨rfl, hg5⟩
    have B5 := hideP (hg5.bel O4.out B4.out B4.out.size)
    have R5 := hideP (hg5.own R4.out (fun k h1 h2 => (L2.out k h1 h2).2))
    clear hg5 O4 B4 R4 L2
    go_wp2_with fail
    refine (sameR aw b2 m cw m ops _ HM.out (by omega) (HWS.out.below B5.out) R5.out.seg).mono ?_
    rintro e w6 ⟨rfl, hb6⟩
    have B6 := hideP (Below.both B5.out hb6)
    have R6 := hideP ((R5.out.below hb6).mono Z1.out)
    clear hb6 B5 R5
    go_wp2_with fail
    refine (flipR b2 m w.heap.size ops _ HM.out (by omega) R6.out).mono ?_
    rintro e w7 ⟨rfl, hg7⟩
    have B7 := hideP (hg7.bel R6.out B6.out B6.out.size)
    clear hg7 R6 B6
    go_wp2_with fail
    refine (toS a n cap nz ps _ HN.out (by omega) (HS.out.below B7.out)).mono ?_
    rintro e w8 ⟨a8, rfl, hb8, ho8⟩
    have B8 := hideP (Below.both B7.out hb8)
    have O8 := hideP ho8
    clear hb8 ho8 B7
    go_wp2_with fail
    refine (iTranslate a8 n n ps _ HN.out (by omega) O8.out.seg).mono ?_
    rintro e w9 ⟨htp, hb9⟩
    obtain ⟨b9, rfl, ho9⟩ := htp.at HT.out
    rw [HM.out]
    have B9 := hideP (Below.both B8.out hb9)
    have O9 := hideP (O8.out.below hb9)
    have R9 := hideP ho9
    clear hb9 B8 O8 htp ho9
    go_wp2_with fail
    refine (sameR aw b9 m cw m ops _ HM.out (by omega) (HWS.out.below B9.out) R9.out.seg).mono ?_
    rintro e w10 ⟨rfl, hb10⟩
    have B10 := hideP (Below.both B9.out hb10)
    have O10 := hideP (O9.out.below hb10)
    clear hb10 B9 O9 R9
    go_wp2_with fail
    refine (sameS a a8 n cap n ps _ HN.out (by omega) (HS.out.below B10.out) O10.out.seg).mono ?_
    rintro e w11 ⟨rfl, hb11⟩
    go_wp2
    go_ret
    exact ⟨rfl, Below.both B10.out hb11⟩

set_option maxRecDepth 100000 in
set_option maxHeartbeats 2000000 in
theorem fnExactTranslate_small (a : Option Addr) (n cap : Nat) (ps : List SO) (w : World) (hn : ps.length = n) (hn2 : n ≤ 1048576) (hs : Seg w a (sCells ps)) :
    Calls Yaav.prog 6 #[.slice a n cap] w fun e w' => e = .returned (.bool true) ∧ Below w.heap.size w w' := by
  have HS := hideP hs
  have HN := hideP hn
  clear hs hn
  go_enter Yaav.func6, Yaav.ntmps6
  go_wp2_with fail
  refine (toS a n cap false ps _ HN.out (by omega) HS.out).mono ?_
  rintro e w1 ⟨a1, rfl, hb1, ho1⟩
  have B1 := hideP hb1
  have O1 := hideP ho1
  clear hb1 ho1
  go_wp2_with fail
  refine (sTranslate a1 n n ps _ HN.out (by omega) O1.out.seg).mono ?_
  rintro e w2 ⟨htp, hb2⟩
  obtain ⟨ops, d, ok, b2, c2, ht, rfl, hs2⟩ := htp
  have hml := ht.len
  rw [HN.out] at hml
  have HT := hideP ht
  have S2 := hideP hs2
  have B2 := hideP (Below.both B1.out hb2)
  clear hb2 B1 O1 ht hs2
  go_wp2_with fail
  refine (fromR b2 ops.length c2 ops _ rfl (by omega) S2.out).mono ?_
  rintro e w3 ⟨a3, rfl, hb3, ho3⟩
  have B3 := hideP (Below.both B2.out hb3)
  have O3 := hideP ho3
  clear hb3 ho3 B2 S2
  go_wp2_with fail
  refine (onceTranslate a a3 n cap ops.length ops.length true ps ops d ok _ HN.out hn2 rfl (HS.out.below B3.out) O3.out.seg HT.out).mono ?_
  rintro e w4 ⟨rfl, hb4⟩
  have B4 := hideP (Below.both B3.out hb4)
  have O4 := hideP (O3.out.below hb4)
  clear hb4 B3 O3
  go_wp2_with fail
  refine (onceTranslate a a3 n cap ops.length ops.length false ps ops d ok _ HN.out hn2 rfl (HS.out.below B4.out) O4.out.seg HT.out).mono ?_
  rintro e w5 ⟨rfl, hb5⟩
  go_wp2
  go_ret
  exact ⟨rfl, Below.both B4.out hb5⟩

set_option maxRecDepth 100000 in
set_option maxHeartbeats 1000000 in
theorem fnExactTranslate_big (a : Option Addr) (n cap : Nat) (w : World) (hn2 : 1048576 < n) :
    Calls Yaav.prog 6 #[.slice a n cap] w fun e w' => e = .returned (.bool true) ∧ Below w.heap.size w w' := by
  go_enter Yaav.func6, Yaav.ntmps6
  go_wp2
  go_ret
  exact ⟨rfl, Below.refl _ _⟩

/-- laws.FnExactTranslate, whatever the slice. -/
theorem fnExactTranslate (a : Option Addr) (n cap : Nat) (ps : List SO) (w : World) (hn : ps.length = n) (hs : Seg w a (sCells ps)) :
    Calls Yaav.prog 6 #[.slice a n cap] w fun e w' => e = .returned (.bool true) ∧ Below w.heap.size w w' := by
  by_cases h : n ≤ 1048576
  · exact fnExactTranslate_small a n cap ps w hn h hs
  · exact fnExactTranslate_big a n cap w (by omega)

end Go.Proofs.Yahaaw
