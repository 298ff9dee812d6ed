/-
  DERIVED. WALKS: laws.toImplROps (33), fromImplROps (28), copyInts (31).
-/
import Derived.Test.YahaawCopy
namespace Go.Proofs.Yahaaw
open Go.RowKit

set_option maxRecDepth 100000 in
set_option maxHeartbeats 1000000 in
theorem toR_pos (a : Option Addr) (n cap : Nat) (nz : Bool) (ps : List RO) (w : World) (hn : ps.length = n) (hn1 : 0 < n) (hn2 : n ≤ 1099511627776) (hs : Seg w a (rCells ps)) :
    Calls Yaav.prog 33 #[.slice a n cap, .bool nz] w fun e w' => ∃ a', e = .returned (.slice a' n n) ∧ Below w.heap.size w w' ∧ Own w' w.heap.size a' (rCells ps) 81 := by
  have hmk := mk_run Yaav.underlying32 Yaav.info81 n n (Nat.le_refl _) (by omega) (by omega)
  have hlen := rCells_len ps
  have HS : Hid (Seg w a (rCells ps)) := hs
  clear hs
  have hnz : ((n : Int) == 0) = false := beq_eq_false_iff_ne.2 (by omega)
  go_enter Yaav.func33, Yaav.ntmps33
  go_wp2
  clear hmk
  go_loopw [6] (fun i wr => ∃ k : Nat, k ≤ n ∧ i = .int .i64 k ∧ Cp w (rCells ps) 81 (k * 5) wr) (fun i _ => n - (intOf i).toNat)
  case atStart => exact ⟨0, Nat.zero_le _, rfl, Cp.start _ _ _ _ (by rw [zc_len, hlen, hn])⟩
  case round =>
    obtain ⟨k, hk, rfl, hcp⟩ := hrel
    by_cases hlt : k < n
    · obtain ⟨x, hx⟩ := some_at (ps := ps) (k := k) (by omega)
      obtain ⟨b, off, rfl, hb, h1, h2, h3, h4, h5⟩ := (HS.out.below hcp.1).r hx
      have f0 := hcp.frozen (k * 5)
      obtain ⟨v0, c0⟩ := hcp.there (i := k * 5) (by omega)
      have f1 := hcp.frozen (k * 5 + 1)
      obtain ⟨v1, c1⟩ := hcp.there (i := k * 5 + 1) (by omega)
      have f2 := hcp.frozen (k * 5 + 2)
      obtain ⟨v2, c2⟩ := hcp.there (i := k * 5 + 2) (by omega)
      have f3 := hcp.frozen (k * 5 + 3)
      obtain ⟨v3, c3⟩ := hcp.there (i := k * 5 + 3) (by omega)
      have f4 := hcp.frozen (k * 5 + 4)
      obtain ⟨v4, c4⟩ := hcp.there (i := k * 5 + 4) (by omega)
      have HX : Hid (ps[k]? = some x) := hx
      have HC : Hid (Cp w (rCells ps) 81 (k * 5) wr) := hcp
      clear hx hcp hlen hn
      go_wp2
      go_region
      go_wp2
      go_roundw
      case rel => exact ⟨k + 1, by omega, by go_num, by obtain ⟨g0, g1, g2, g3, g4⟩ := rCells_get HX.out; rw [show (k + 1) * 5 = k * 5 + 5 by omega]; exact (HC.out.store5 g0 g1 g2 g3 g4).drew⟩
      case measure => simp [intOf]; omega
    · go_wp2
      go_ret
      obtain ⟨hb, ho⟩ := hcp.done (by omega)
      exact ⟨_, rfl, hb, ho⟩

set_option maxRecDepth 100000 in
set_option maxHeartbeats 400000 in
theorem toR_zero (a : Option Addr) (cap : Nat) (nz : Bool) (w : World) :
    Calls Yaav.prog 33 #[.slice a 0 cap, .bool nz] w fun e w' => ∃ a', e = .returned (.slice a' 0 0) ∧ Below w.heap.size w w' ∧ Own w' w.heap.size a' (rCells []) 81 := by
  cases nz
  · go_enter Yaav.func33, Yaav.ntmps33
    go_wp2
    go_ret
    exact ⟨_, rfl, (Below.refl _ _).alloc (Nat.le_refl _) _, Own.nil _ _ _ _⟩
  · go_enter Yaav.func33, Yaav.ntmps33
    go_wp2
    go_ret
    exact ⟨_, rfl, Below.refl _ _, Own.nil _ _ _ _⟩

theorem toR (a : Option Addr) (n cap : Nat) (nz : Bool) (ps : List RO) (w : World) (hn : ps.length = n) (hn2 : n ≤ 1099511627776) (hs : Seg w a (rCells ps)) :
    Calls Yaav.prog 33 #[.slice a n cap, .bool nz] w fun e w' => ∃ a', e = .returned (.slice a' n n) ∧ Below w.heap.size w w' ∧ Own w' w.heap.size a' (rCells ps) 81 := by
  by_cases h : 0 < n
  · exact toR_pos a n cap nz ps w hn h hn2 hs
  · have h0 : ps = [] := List.length_eq_zero_iff.1 (by omega)
    have h1 : n = 0 := by omega
    subst h0 h1
    exact toR_zero a cap nz w

set_option maxRecDepth 100000 in
set_option maxHeartbeats 1000000 in
theorem fromR (a : Option Addr) (n cap : Nat) (ps : List RO) (w : World) (hn : ps.length = n) (hn2 : n ≤ 1099511627776) (hs : Seg w a (rCells ps)) :
    Calls Yaav.prog 28 #[.slice a n cap] w fun e w' => ∃ a', e = .returned (.slice a' n n) ∧ Below w.heap.size w w' ∧ Own w' w.heap.size a' (rCells ps) 97 := by
  have hmk := mk_run Yaav.underlying45 Yaav.info97 n n (Nat.le_refl _) (by omega) (by omega)
  have hlen := rCells_len ps
  have HS : Hid (Seg w a (rCells ps)) := hs
  clear hs
  go_enter Yaav.func28, Yaav.ntmps28
  go_wp2
  clear hmk
  go_loopw [4] (fun i wr => ∃ k : Nat, k ≤ n ∧ i = .int .i64 k ∧ Cp w (rCells ps) 97 (k * 5) wr) (fun i _ => n - (intOf i).toNat)
  case atStart => exact ⟨0, Nat.zero_le _, rfl, Cp.start _ _ _ _ (by rw [zc_len, hlen, hn])⟩
  case round =>
    obtain ⟨k, hk, rfl, hcp⟩ := hrel
    by_cases hlt : k < n
    · obtain ⟨x, hx⟩ := some_at (ps := ps) (k := k) (by omega)
      obtain ⟨b, off, rfl, hb, h1, h2, h3, h4, h5⟩ := (HS.out.below hcp.1).r hx
      have f0 := hcp.frozen (k * 5)
      obtain ⟨v0, c0⟩ := hcp.there (i := k * 5) (by omega)
      have f1 := hcp.frozen (k * 5 + 1)
      obtain ⟨v1, c1⟩ := hcp.there (i := k * 5 + 1) (by omega)
      have f2 := hcp.frozen (k * 5 + 2)
      obtain ⟨v2, c2⟩ := hcp.there (i := k * 5 + 2) (by omega)
      have f3 := hcp.frozen (k * 5 + 3)
      obtain ⟨v3, c3⟩ := hcp.there (i := k * 5 + 3) (by omega)
      have f4 := hcp.frozen (k * 5 + 4)
      obtain ⟨v4, c4⟩ := hcp.there (i := k * 5 + 4) (by omega)
      have HX : Hid (ps[k]? = some x) := hx
      have HC : Hid (Cp w (rCells ps) 97 (k * 5) wr) := hcp
      clear hx hcp hlen hn
      go_wp2
      go_region
      go_wp2
      go_roundw
      case rel => exact ⟨k + 1, by omega, by go_num, by obtain ⟨g0, g1, g2, g3, g4⟩ := rCells_get HX.out; rw [show (k + 1) * 5 = k * 5 + 5 by omega]; exact (HC.out.store5 g0 g1 g2 g3 g4).drew⟩
      case measure => simp [intOf]; omega
    · go_wp2
      go_ret
      obtain ⟨hb, ho⟩ := hcp.done (by omega)
      exact ⟨_, rfl, hb, ho⟩

set_option maxRecDepth 100000 in
set_option maxHeartbeats 1000000 in
theorem cpI_pos (a : Option Addr) (n cap : Nat) (nz : Bool) (ps : List Int) (w : World) (hn : ps.length = n) (hn1 : 0 < n) (hn2 : n ≤ 1099511627776) (hs : Seg w a (iCells ps)) :
    Calls Yaav.prog 31 #[.slice a n cap, .bool nz] w fun e w' => ∃ a', e = .returned (.slice a' n n) ∧ Below w.heap.size w w' ∧ Own w' w.heap.size a' (iCells ps) 2 := by
  have hmk := mk_run Yaav.underlying24 Yaav.info2 n n (Nat.le_refl _) (by omega) (by omega)
  have hlen := iCells_len ps
  have HS : Hid (Seg w a (iCells ps)) := hs
  clear hs
  have hnz : ((n : Int) == 0) = false := beq_eq_false_iff_ne.2 (by omega)
  go_enter Yaav.func31, Yaav.ntmps31
  go_wp2
  clear hmk
  go_loopw [6] (fun i wr => ∃ k : Nat, k ≤ n ∧ i = .int .i64 k ∧ Cp w (iCells ps) 2 (k) wr) (fun i _ => n - (intOf i).toNat)
  case atStart => exact ⟨0, Nat.zero_le _, rfl, Cp.start _ _ _ _ (by rw [zc_len, hlen, hn])⟩
  case round =>
    obtain ⟨k, hk, rfl, hcp⟩ := hrel
    by_cases hlt : k < n
    · obtain ⟨x, hx⟩ := some_at (ps := ps) (k := k) (by omega)
      obtain ⟨b, off, rfl, hb, h1⟩ := (HS.out.below hcp.1).i hx
      have f0 := hcp.frozen (k)
      obtain ⟨v0, c0⟩ := hcp.there (i := k) (by omega)
      have HX : Hid (ps[k]? = some x) := hx
      have HC : Hid (Cp w (iCells ps) 2 (k) wr) := hcp
      clear hx hcp hlen hn
      go_wp2
      go_roundw
      case rel => exact ⟨k + 1, by omega, by go_num, by exact HC.out.store1 (iCells_get HX.out)⟩
      case measure => simp [intOf]; omega
    · go_wp2
      go_ret
      obtain ⟨hb, ho⟩ := hcp.done (by omega)
      exact ⟨_, rfl, hb, ho⟩

set_option maxRecDepth 100000 in
set_option maxHeartbeats 400000 in
theorem cpI_zero (a : Option Addr) (cap : Nat) (nz : Bool) (w : World) :
    Calls Yaav.prog 31 #[.slice a 0 cap, .bool nz] w fun e w' => ∃ a', e = .returned (.slice a' 0 0) ∧ Below w.heap.size w w' ∧ Own w' w.heap.size a' (iCells []) 2 := by
  cases nz
  · go_enter Yaav.func31, Yaav.ntmps31
    go_wp2
    go_ret
    exact ⟨_, rfl, (Below.refl _ _).alloc (Nat.le_refl _) _, Own.nil _ _ _ _⟩
  · go_enter Yaav.func31, Yaav.ntmps31
    go_wp2
    go_ret
    exact ⟨_, rfl, Below.refl _ _, Own.nil _ _ _ _⟩

theorem cpI (a : Option Addr) (n cap : Nat) (nz : Bool) (ps : List Int) (w : World) (hn : ps.length = n) (hn2 : n ≤ 1099511627776) (hs : Seg w a (iCells ps)) :
    Calls Yaav.prog 31 #[.slice a n cap, .bool nz] w fun e w' => ∃ a', e = .returned (.slice a' n n) ∧ Below w.heap.size w w' ∧ Own w' w.heap.size a' (iCells ps) 2 := by
  by_cases h : 0 < n
  · exact cpI_pos a n cap nz ps w hn h hn2 hs
  · have h0 : ps = [] := List.length_eq_zero_iff.1 (by omega)
    have h1 : n = 0 := by omega
    subst h0 h1
    exact cpI_zero a cap nz w

end Go.Proofs.Yahaaw
