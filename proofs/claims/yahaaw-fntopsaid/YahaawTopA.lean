/-
  DERIVED. WALK: spec.SameOutcome (20).
-/
import Derived.Test.YahaawSim
import Derived.Deep.RegionHeldLaw
namespace Go.Proofs.Yahaaw
open Go.RowKit
set_option linter.unusedVariables false
set_option linter.unusedSimpArgs false

theorem Below.drewN' {B : Nat} {a w : World} (h : Below B a w) (n : Nat) : Below B a (w.drewN n) := ⟨h.os, h.tape, h.output, h.size, h.block⟩

set_option maxRecDepth 100000 in
set_option maxHeartbeats 2000000 in
/-- Two outcomes that are alike: true. -/
theorem sameOc (a b : Option Addr) (m c c' : Nat) (zs : List Int) (s t : Int) (w : World) (hm : zs.length = m) (hm2 : m ≤ 1099511627776) (hs : Seg w a (iCells zs)) (hs' : Seg w b (iCells zs)) :
    Calls Yaav.prog 20 #[.agg #[.int .i64 s, .slice a m c, .int .i64 t], .agg #[.int .i64 s, .slice b m c', .int .i64 t]] w fun e w' => e = .returned (.bool true) ∧ Below w.heap.size w w' := by
  have HS := hideP hs
  have HS' := hideP hs'
  have HM := hideP hm
  clear hs hs' hm
  go_enter Yaav.func20, Yaav.ntmps20
  go_wp2_with fail
  go_loopw [5] (fun i wr => ∃ k : Nat, k ≤ m ∧ i = .int .i64 k ∧ Below w.heap.size w wr ∧ Blk wr w.heap.size [.int .i64 s, .slice a m c, .int .i64 t] 38 ∧ Blk wr (w.heap.size + 1) [.int .i64 s, .slice b m c', .int .i64 t] 38) (fun i _ => m - (intOf i).toNat)
  case atStart =>
    refine ⟨0, Nat.zero_le _, rfl, ((Below.refl _ _).alloc (Nat.le_refl _) _).alloc (by simp) _, (Blk.new w [.int .i64 s, .slice a m c, .int .i64 t] 38).alloc _, ?_⟩
    have := Blk.new (w.alloc (.cells #[.int .i64 s, .slice a m c, .int .i64 t] 38)) [.int .i64 s, .slice b m c', .int .i64 t] 38
    simpa using this
  case round =>
    obtain ⟨k, hk, rfl, hbel, hb1, hb2⟩ := hrel
    have c1 := hb1.cell 1
    have d1 := hb2.cell 1
    simp at c1 d1
    have HBEL := hideP hbel
    have HB1 := hideP hb1
    have HB2 := hideP hb2
    clear hbel hb1 hb2
    by_cases hlt : k < m
    · obtain ⟨x, hx⟩ := some_at (ps := zs) (k := k) (by have := HM.out; omega)
      obtain ⟨b1, off, rfl, _, h1⟩ := (HS.out.below HBEL.out).i hx
      obtain ⟨b2, off', rfl, _, h2⟩ := (HS'.out.below HBEL.out).i hx
      clear hx
      go_wp2_with fail
      go_quiet (fail)
      go_wp2
      go_roundw
      case rel => exact ⟨k + 1, by omega, by go_num, Below.drewN' HBEL.out _, HB1.out.drewN _, HB2.out.drewN _⟩
      case measure => simp [intOf]; omega
    · go_wp2
      go_ret
      exact ⟨rfl, HBEL.out⟩

end Go.Proofs.Yahaaw
