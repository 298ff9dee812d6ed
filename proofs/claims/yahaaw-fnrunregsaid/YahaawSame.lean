/-
  DERIVED. WALKS: laws.sameSOps (55), sameInts (61), sameROps (58).
-/
import Derived.Test.YahaawCopy
import Derived.Deep.QuietTactic
import Derived.BigQuiet
import Derived.Handy
namespace Go.Proofs.Yahaaw
open Go.RowKit

theorem bdrewN {B : Nat} {a w : World} (h : Below B a w) (n : Nat) : Below B a (w.drewN n) := ⟨h.os, h.tape, h.output, h.size, h.block⟩

set_option maxRecDepth 100000 in
set_option maxHeartbeats 1000000 in
/-- Two lists that are alike: true. -/
theorem sameS (a a' : Option Addr) (n cap cap' : Nat) (ps : List SO) (w : World) (hn : ps.length = n) (hn2 : n ≤ 1099511627776) (hs : Seg w a (sCells ps)) (hs' : Seg w a' (sCells ps)) :
    Calls Yaav.prog 55 #[.slice a n cap, .slice a' n cap'] w fun e w' => e = .returned (.bool true) ∧ Below w.heap.size w w' := by
  have HS : Hid (Seg w a (sCells ps)) := hs
  have HS' : Hid (Seg w a' (sCells ps)) := hs'
  clear hs hs'
  go_enter Yaav.func55, Yaav.ntmps55
  go_wp2
  go_loopw [5] (fun i wr => ∃ k : Nat, k ≤ n ∧ i = .int .i64 k ∧ Below w.heap.size w wr) (fun i _ => n - (intOf i).toNat)
  case atStart => exact ⟨0, Nat.zero_le _, rfl, Below.refl _ _⟩
  case round =>
    obtain ⟨k, hk, rfl, hbel⟩ := hrel
    by_cases hlt : k < n
    · obtain ⟨x, hx⟩ := some_at (ps := ps) (k := k) (by omega)
      obtain ⟨b, off, rfl, hb, h1, h2⟩ := (HS.out.below hbel).s hx
      obtain ⟨b', off', rfl, hb', g1, g2⟩ := (HS'.out.below hbel).s hx
      clear hx hn
      go_wp2
      go_quiet (fail)
      go_wp2
      go_roundw
      case rel => exact ⟨k + 1, by omega, by go_num, by exact bdrewN hbel _⟩
      case measure => simp [intOf]; omega
    · go_wp2
      go_ret
      exact ⟨rfl, hbel⟩

set_option maxRecDepth 100000 in
set_option maxHeartbeats 1000000 in
/-- Two lists that are alike: true. -/
theorem sameI (a a' : Option Addr) (n cap cap' : Nat) (ps : List Int) (w : World) (hn : ps.length = n) (hn2 : n ≤ 1099511627776) (hs : Seg w a (iCells ps)) (hs' : Seg w a' (iCells ps)) :
    Calls Yaav.prog 61 #[.slice a n cap, .slice a' n cap'] w fun e w' => e = .returned (.bool true) ∧ Below w.heap.size w w' := by
  have HS : Hid (Seg w a (iCells ps)) := hs
  have HS' : Hid (Seg w a' (iCells ps)) := hs'
  clear hs hs'
  go_enter Yaav.func61, Yaav.ntmps61
  go_wp2
  go_loopw [5] (fun i wr => ∃ k : Nat, k ≤ n ∧ i = .int .i64 k ∧ Below w.heap.size w wr) (fun i _ => n - (intOf i).toNat)
  case atStart => exact ⟨0, Nat.zero_le _, rfl, Below.refl _ _⟩
  case round =>
    obtain ⟨k, hk, rfl, hbel⟩ := hrel
    by_cases hlt : k < n
    · obtain ⟨x, hx⟩ := some_at (ps := ps) (k := k) (by omega)
      obtain ⟨b, off, rfl, hb, h1⟩ := (HS.out.below hbel).i hx
      obtain ⟨b', off', rfl, hb', g1⟩ := (HS'.out.below hbel).i hx
      clear hx hn
      go_wp2
      go_quiet (fail)
      go_wp2
      go_roundw
      case rel => exact ⟨k + 1, by omega, by go_num, by exact bdrewN hbel _⟩
      case measure => simp [intOf]; omega
    · go_wp2
      go_ret
      exact ⟨rfl, hbel⟩

set_option maxRecDepth 100000 in
set_option maxHeartbeats 1000000 in
/-- Two lists that are alike: true. -/
theorem sameR (a a' : Option Addr) (n cap cap' : Nat) (ps : List RO) (w : World) (hn : ps.length = n) (hn2 : n ≤ 1099511627776) (hs : Seg w a (rCells ps)) (hs' : Seg w a' (rCells ps)) :
    Calls Yaav.prog 58 #[.slice a n cap, .slice a' n cap'] w fun e w' => e = .returned (.bool true) ∧ Below w.heap.size w w' := by
  have HS : Hid (Seg w a (rCells ps)) := hs
  have HS' : Hid (Seg w a' (rCells ps)) := hs'
  clear hs hs'
  go_enter Yaav.func58, Yaav.ntmps58
  go_wp2
  go_loopw [5] (fun i wr => ∃ k : Nat, k ≤ n ∧ i = .int .i64 k ∧ Below w.heap.size w wr) (fun i _ => n - (intOf i).toNat)
  case atStart => exact ⟨0, Nat.zero_le _, rfl, Below.refl _ _⟩
  case round =>
    obtain ⟨k, hk, rfl, hbel⟩ := hrel
    by_cases hlt : k < n
    · obtain ⟨x, hx⟩ := some_at (ps := ps) (k := k) (by omega)
      obtain ⟨b, off, rfl, hb, h1, h2, h3, h4, h5⟩ := (HS.out.below hbel).r hx
      obtain ⟨b', off', rfl, hb', g1, g2, g3, g4, g5⟩ := (HS'.out.below hbel).r hx
      clear hx hn
      go_wp2
      
      go_roundw
      case rel => exact ⟨k + 1, by omega, by go_num, by have := hbel.size; go_grown⟩
      case measure => simp [intOf]; omega
    · go_wp2
      go_ret
      exact ⟨rfl, hbel⟩

end Go.Proofs.Yahaaw
