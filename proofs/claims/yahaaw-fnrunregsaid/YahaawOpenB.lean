/-
  DERIVED. A slice of bytes, opened.
-/
import Derived.Test.YahaawOpen
import Derived.Test.YahaawRd
namespace Go.Proofs.Yahaaw
open Go.RowKit
set_option linter.unusedVariables false
set_option linter.unusedSimpArgs false

theorem addr_add (b off i : Nat) : (⟨b, off, none⟩ : Addr).add i = ⟨b, off + i, none⟩ := by unfold Addr.add; split <;> simp_all

theorem byt_of {w : World} {x : Addr} {len : Nat} {zs : List Int} (hl : len ≤ zs.length) (hc : ∀ i, i < zs.length → w.cell? (x.add i) = some (.int .u8 (zs.getD i 0))) (hw : ∀ n ∈ zs, (Lit.int .u8 n).wf = true) : Byt w.heap.size w (some x) len := by
  by_cases h0 : len = 0
  · exact .inl h0
  · have c0 := hc 0 (by omega)
    obtain ⟨e, hlt⟩ := spot_none c0
    obtain ⟨b, off, spot⟩ := x
    cases spot with
    | some s => simp [Addr.add] at e
    | none =>
      rw [addr_add] at hlt
      refine .inr ⟨b, off, rfl, hlt, fun i hi => ?_⟩
      have ci := hc i (by omega)
      rw [addr_add] at ci
      have hmem : zs.getD i 0 ∈ zs := by rw [List.getD_eq_getElem?_getD, List.getElem?_eq_getElem (by omega)]; simp
      generalize zs.getD i 0 = q at ci hmem
      have hwf := hw _ hmem
      simp [Lit.wf, IntKind.min, IntKind.max, IntKind.signed, IntKind.bits] at hwf
      refine ⟨q.toNat, by omega, ?_⟩
      rw [ci, Int.toNat_of_nonneg (by omega)]

end Go.Proofs.Yahaaw
