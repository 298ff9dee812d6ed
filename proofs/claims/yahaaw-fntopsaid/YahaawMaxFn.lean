/-
  DERIVED. WALKS: laws.exactMaxDepthOnce (26), FnExactMaxDepth (5).
-/
import Derived.Test.YahaawDepI
namespace Go.Proofs.Yahaaw
open Go.RowKit

/-- What MaxDepth answers. -/
def MaxIs (ps : List SO) (d : Int) (ok : Bool) : Prop := (∃ T, IsDep ps T ∧ d = mx T ∧ ok = true) ∨ (NoDep ps ∧ d = 0 ∧ ok = false)

theorem MaxIs.uniq {ps : List SO} {d d' : Int} {ok ok' : Bool} (h : MaxIs ps d ok) (h' : MaxIs ps d' ok') : d = d' ∧ ok = ok' := by
  rcases h with ⟨T, hT, rfl, rfl⟩ | ⟨hn, rfl, rfl⟩ <;> rcases h' with ⟨T', hT', rfl, rfl⟩ | ⟨hn', rfl, rfl⟩
  · rw [hT.uniq hT']; exact ⟨rfl, rfl⟩
  · exact (hT.no hn').elim
  · exact (hT'.no hn).elim
  · exact ⟨rfl, rfl⟩

theorem MaxPost.is {ps : List SO} {e : Ending} (h : MaxPost ps e) : ∃ d ok, MaxIs ps d ok ∧ e = .returned (.tuple #[.int .i64 d, .bool ok]) := by
  rcases h with ⟨T, hT, rfl⟩ | ⟨hn, rfl⟩
  · exact ⟨_, _, .inl ⟨T, hT, rfl, rfl⟩, rfl⟩
  · exact ⟨_, _, .inr ⟨hn, rfl, rfl⟩, rfl⟩

theorem MaxPost.at {ps : List SO} {e : Ending} {d : Int} {ok : Bool} (h : MaxPost ps e) (h' : MaxIs ps d ok) : e = .returned (.tuple #[.int .i64 d, .bool ok]) := by
  obtain ⟨d', ok', h1, rfl⟩ := h.is
  obtain ⟨rfl, rfl⟩ := h1.uniq h'
  rfl

set_option maxRecDepth 100000 in
set_option maxHeartbeats 1000000 in
theorem onceMaxDepth (a : Option Addr) (n cap : Nat) (nz : Bool) (ps : List SO) (d : Int) (ok : Bool) (w : World) (hn : ps.length = n) (hn2 : n ≤ 1048576) (hs : Seg w a (sCells ps)) (hm : MaxIs ps d ok) :
    Calls Yaav.prog 26 #[.slice a n cap, .int .i64 d, .bool ok, .bool nz] w fun e w' => e = .returned (.bool true) ∧ Below w.heap.size w w' := by
  have HS := hideP hs
  have HM := hideP hm
  have HN := hideP hn
  clear hs hm hn
  cases ok
  all_goals
    go_enter Yaav.func26, Yaav.ntmps26
    go_wp2_with fail
    refine (toS a n cap nz ps _ HN.out (by omega) HS.out).mono ?_
    rintro e w1 ⟨a1, rfl, hb1, ho1⟩
    have B1 := hideP hb1
    have O1 := hideP ho1
    clear hb1 ho1
    go_wp2_with fail
    refine (iMaxDepth a1 n n ps _ HN.out (by omega) O1.out.seg).mono ?_
    rintro e w2 ⟨hmp, hb2⟩
    have he := hmp.at HM.out
    subst he
    have B2 := hideP (Below.both B1.out hb2)
    have O2 := hideP (O1.out.below hb2)
    clear hb2 B1 O1 hmp
    go_wp2_with fail
    refine (sameS a a1 n cap n ps _ HN.out (by omega) (HS.out.below B2.out) O2.out.seg).mono ?_
    rintro e w3 ⟨rfl, hb3⟩
    have B3 := hideP (Below.both B2.out hb3)
    have O3 := hideP (O2.out.below hb3)
    clear hb3 B2 O2
    go_wp2_with fail
    refine (flipS a1 n w.heap.size ps _ HN.out (by omega) O3.out).mono ?_
    rintro e w4 ⟨rfl, hg4⟩
    have B4 := hideP (hg4.bel O3.out B3.out B3.out.size)
    clear hg4 O3 B3
    go_wp2_with fail
    refine (toS a n cap nz ps _ HN.out (by omega) (HS.out.below B4.out)).mono ?_
    rintro e w5 ⟨a5, rfl, hb5, ho5⟩
    have B5 := hideP (Below.both B4.out hb5)
    have O5 := hideP ho5
    clear hb5 ho5 B4
    go_wp2_with fail
    refine (iMaxDepth a5 n n ps _ HN.out (by omega) O5.out.seg).mono ?_
    rintro e w6 ⟨hmp, hb6⟩
    have he := hmp.at HM.out
    subst he
    have B6 := hideP (Below.both B5.out hb6)
    have O6 := hideP (O5.out.below hb6)
    clear hb6 B5 O5 hmp
    go_wp2_with fail
    refine (sameS a a5 n cap n ps _ HN.out (by omega) (HS.out.below B6.out) O6.out.seg).mono ?_
    rintro e w7 ⟨rfl, hb7⟩
    go_wp2
    go_ret
    exact ⟨rfl, Below.both B6.out hb7⟩

set_option maxRecDepth 100000 in
set_option maxHeartbeats 1000000 in
theorem fnExactMaxDepth_small (a : Option Addr) (n cap : Nat) (ps : List SO) (w : World) (hn : ps.length = n) (hn2 : n ≤ 1048576) (hs : Seg w a (sCells ps)) :
    Calls Yaav.prog 5 #[.slice a n cap] w fun e w' => e = .returned (.bool true) ∧ Below w.heap.size w w' := by
  have HS := hideP hs
  have HN := hideP hn
  clear hs hn
  go_enter Yaav.func5, Yaav.ntmps5
  go_wp2_with fail
  refine (toS a n cap false ps _ HN.out (by omega) HS.out).mono ?_
  rintro e w1 ⟨a1, rfl, hb1, ho1⟩
  have B1 := hideP hb1
  have O1 := hideP ho1
  clear hb1 ho1
  go_wp2_with fail
  refine (sMaxDepth a1 n n ps _ HN.out (by omega) O1.out.seg).mono ?_
  rintro e w2 ⟨hmp, hb2⟩
  obtain ⟨d, ok, hm, rfl⟩ := hmp.is
  have HM := hideP hm
  have B2 := hideP (Below.both B1.out hb2)
  clear hb2 B1 O1 hmp hm
  go_wp2_with fail
  refine (onceMaxDepth a n cap true ps d ok _ HN.out hn2 (HS.out.below B2.out) HM.out).mono ?_
  rintro e w3 ⟨rfl, hb3⟩
  have B3 := hideP (Below.both B2.out hb3)
  clear hb3 B2
  go_wp2_with fail
  refine (onceMaxDepth a n cap false ps d ok _ HN.out hn2 (HS.out.below B3.out) HM.out).mono ?_
  rintro e w4 ⟨rfl, hb4⟩
  go_wp2
  go_ret
  exact ⟨rfl, Below.both B3.out hb4⟩

set_option maxRecDepth 100000 in
set_option maxHeartbeats 1000000 in
theorem fnExactMaxDepth_big (a : Option Addr) (n cap : Nat) (w : World) (hn2 : 1048576 < n) :
    Calls Yaav.prog 5 #[.slice a n cap] w fun e w' => e = .returned (.bool true) ∧ Below w.heap.size w w' := by
  go_enter Yaav.func5, Yaav.ntmps5
  go_wp2
  go_ret
  exact ⟨rfl, Below.refl _ _⟩

/-- laws.FnExactMaxDepth, whatever the slice. -/
theorem fnExactMaxDepth (a : Option Addr) (n cap : Nat) (ps : List SO) (w : World) (hn : ps.length = n) (hs : Seg w a (sCells ps)) :
    Calls Yaav.prog 5 #[.slice a n cap] w fun e w' => e = .returned (.bool true) ∧ Below w.heap.size w w' := by
  by_cases h : n ≤ 1048576
  · exact fnExactMaxDepth_small a n cap ps w hn h hs
  · exact fnExactMaxDepth_big a n cap w (by omega)

end Go.Proofs.Yahaaw
