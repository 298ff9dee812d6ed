/-
  DERIVED. THE STATEMENT Rows.FnExactTranslateSaid out of the contract of laws.FnExactTranslate (6).
-/
import Derived.Test.YahaawTrFn
import Derived.Test.YahaawOpen
import Derived.WalkKit
import Derived.ProofKit
import Derived.OpenShut
import Derived.ShutString
import Derived.ChangeOld
import Derived.Below
namespace Go.Proofs.Yahaaw.fnExactTranslate
open Go.ChangeShapes Go.WideShapes Go.ChangeAt Go.RowKit
open Go.ChangeMaps (open_string shut_string)
set_option linter.unusedVariables false

theorem own : ownKnob Yaav.prog.godebug = none := by kernel_rfl
theorem laidOut : laidOutB Yaav.prog = true := by kernel_rfl

set_option maxRecDepth 100000 in
theorem lifted (os : Os) (started : os.Started) (H : Type) (enc : TypeId × Value → H) :
    ReturnsInHanded {} Yaav.checked os 6 .any (Rows.fnExactTranslateSpec.pre6 enc Yaav.prog Yaav.f6 Rows.fnExactTranslateRow.domain false) (Rows.fnExactTranslateSpec.post enc Yaav.prog Yaav.f6 false true false false) := by
  refine returnsInHanded_of_change (C := Yaav.checked) own started (by kernel_rfl) Yaav.func6
    (ChangeSpec.witness6 (enc := enc) (C := Yaav.checked) false ⟨#[], #[.slice none 0 0], []⟩ 8 (by kernel_rfl) (by kernel_rfl) (by kernel_rfl) (by kernel_rfl)) ?_
  intro W base args ds gs before hval0 hW hcnd _
  have hval : ∀ (j : Nat) t v, Yaav.f6.params[j]? = some t → args[j]? = some v → Value.okWide Yaav.prog W .any base t v := hval0
  have hW' := hW
  obtain ⟨p, q, hA0, hV, rfl, hfz, hnd⟩ := hW
  have hA : DataW.TrodAll enc Yaav.prog W 0 (fun _ => true) true Yaav.f6.params.toList args.toList ds p := hA0
  rw [Yaav.params6] at hA hval
  obtain ⟨v0, vs0, d0, ds0, p0, q0, hargs, rfl, rfl, h0, r0⟩ := trodAll_cons hA
  obtain ⟨rfl, rfl, rfl⟩ := trodAll_nil r0
  obtain rfl : args = #[v0] := by cases args; simp_all
  obtain ⟨rfl, rfl⟩ := trodVars_none hV
  obtain ⟨a0, len0, cap0, rfl⟩ := okWide_slice Yaav.underlying28 (hval 0 28 v0 rfl rfl)
  have k0 := h0
  have lt0 : ∀ x ∈ p0, x.block < W.heap.size := by obtain ⟨m, hm⟩ := k0; exact DataW.trod_lt m _ _ _ hm
  obtain ⟨ps, hlen, hcap, hmax, hseg, hwf⟩ := openS h0
  clear hA0 hval0
  refine (Go.Proofs.Yahaaw.fnExactTranslate a0 len0 cap0 ps W hlen hseg).mono fun e W' ⟨he, bel⟩ => ?_
  subst he
  exact ⟨_, rfl, _, _, _, [], _, [], hW', trodAll_mk1 (shut_bool Yaav.underlying4 _), (trodAll_cons_mk (Below.trod laidOut (by kernel_rfl) (of_decide_eq_true (by kernel_rfl)) k0 bel lt0) trodAll_mk0), rfl, bel.frame _, fun h => by cases h⟩

theorem over : Rows.fnExactTranslateRow.holds Yaav.pinned (OpenSpec.ofChange Rows.fnExactTranslateSpec) :=
  OpenClaim.holds_of_wide 6 Yaav.f6 rfl rfl rfl rfl rfl rfl rfl ⟨rfl, rfl, rfl, rfl, rfl⟩ rfl rfl rfl rfl rfl (by kernel_rfl) Yaav.func6 (by kernel_rfl)
    (of_decide_eq_true (by kernel_rfl)) (by unfold Func.isWrapper; first | (rw [if_pos (by decide +kernel)]; kernel_rfl) | (rw [if_neg (by decide +kernel)]; exact ⟨rfl, rfl⟩))
    (fun os started H enc _ => lifted os started H enc)

/-- THE STATEMENT. -/
theorem proved : Rows.FnExactTranslateSaid := over
end Go.Proofs.Yahaaw.fnExactTranslate
