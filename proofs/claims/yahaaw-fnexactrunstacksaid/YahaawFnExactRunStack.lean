/-
  DERIVED. THE STATEMENT Rows.FnExactRunStackSaid out of the contract of laws.FnExactRunStack (7).
-/
import Derived.Test.YahaawRunFn
import Derived.Test.YahaawOpen
import Derived.WalkKit
import Derived.ProofKit
import Derived.OpenShut
import Derived.ShutString
import Derived.ChangeOld
import Derived.Below
namespace Go.Proofs.Yahaaw.fnExactRunStack
open Go.ChangeShapes Go.WideShapes Go.ChangeAt Go.RowKit
open Go.ChangeMaps (open_string shut_string)
set_option linter.unusedVariables false

theorem own : ownKnob Yaav.prog.godebug = none := by kernel_rfl
theorem laidOut : laidOutB Yaav.prog = true := by kernel_rfl

set_option maxRecDepth 100000 in
theorem lifted (os : Os) (started : os.Started) (H : Type) (enc : TypeId × Value → H) :
    ReturnsInHanded {} Yaav.checked os 7 .any (Rows.fnExactRunStackSpec.pre6 enc Yaav.prog Yaav.f7 Rows.fnExactRunStackRow.domain false) (Rows.fnExactRunStackSpec.post enc Yaav.prog Yaav.f7 false true false false) := by
  refine returnsInHanded_of_change (C := Yaav.checked) own started (by kernel_rfl) Yaav.func7
    (ChangeSpec.witness6 (enc := enc) (C := Yaav.checked) false ⟨#[], #[.slice none 0 0, .slice none 0 0], []⟩ 8 (by kernel_rfl) (by kernel_rfl) (by kernel_rfl) (by kernel_rfl)) ?_
  intro W base args ds gs before hval0 hW hcnd _
  have hval : ∀ (j : Nat) t v, Yaav.f7.params[j]? = some t → args[j]? = some v → Value.okWide Yaav.prog W .any base t v := hval0
  have hW' := hW
  obtain ⟨p, q, hA0, hV, rfl, hfz, hnd⟩ := hW
  have hA : DataW.TrodAll enc Yaav.prog W 0 (fun _ => true) true Yaav.f7.params.toList args.toList ds p := hA0
  rw [Yaav.params7] at hA hval
  obtain ⟨v0, vs0, d0, ds0, p0, q0, hargs0, rfl, rfl, h0, r0⟩ := trodAll_cons hA
  obtain ⟨v1, vs1, d1, ds1, p1, q1, hargs1, rfl, rfl, h1, r1⟩ := trodAll_cons r0
  obtain ⟨rfl, rfl, rfl⟩ := trodAll_nil r1
  obtain rfl : args = #[v0, v1] := by cases args; simp_all
  obtain ⟨rfl, rfl⟩ := trodVars_none hV
  obtain ⟨a0, len0, cap0, rfl⟩ := okWide_slice Yaav.underlying28 (hval 0 28 v0 rfl rfl)
  have k0 := h0
  have lt0 : ∀ x ∈ p0, x.block < W.heap.size := by obtain ⟨m, hm⟩ := k0; exact DataW.trod_lt m _ _ _ hm
  obtain ⟨ps0, hlen0, hcap0, hmax0, hseg0, hwf0⟩ := openS h0
  obtain ⟨a1, len1, cap1, rfl⟩ := okWide_slice Yaav.underlying24 (hval 1 24 v1 rfl rfl)
  have k1 := h1
  have lt1 : ∀ x ∈ p1, x.block < W.heap.size := by obtain ⟨m, hm⟩ := k1; exact DataW.trod_lt m _ _ _ hm
  obtain ⟨ps1, hlen1, hcap1, hmax1, hseg1, hwf1⟩ := openI h1
  clear hA0 hval0
  refine (Go.Proofs.Yahaaw.fnExactRunStack a0 a1 len0 cap0 len1 cap1 ps0 ps1 W hlen0 hseg0 hlen1 hseg1).mono fun e W' ⟨he, bel⟩ => ?_
  subst he
  exact ⟨_, rfl, _, _, _, [], _, [], hW', trodAll_mk1 (shut_bool Yaav.underlying4 _), (trodAll_cons_mk (Below.trod laidOut (by kernel_rfl) (of_decide_eq_true (by kernel_rfl)) k0 bel lt0) (trodAll_cons_mk (Below.trod laidOut (by kernel_rfl) (of_decide_eq_true (by kernel_rfl)) k1 bel lt1) trodAll_mk0)), rfl, bel.frame _, fun h => by cases h⟩

theorem over : Rows.fnExactRunStackRow.holds Yaav.pinned (OpenSpec.ofChange Rows.fnExactRunStackSpec) :=
  OpenClaim.holds_of_wide 7 Yaav.f7 rfl rfl rfl rfl rfl rfl rfl ⟨rfl, rfl, rfl, rfl, rfl⟩ rfl rfl rfl rfl rfl (by kernel_rfl) Yaav.func7 (by kernel_rfl)
    (of_decide_eq_true (by kernel_rfl)) (by unfold Func.isWrapper; first | (rw [if_pos (by decide +kernel)]; kernel_rfl) | (rw [if_neg (by decide +kernel)]; exact ⟨rfl, rfl⟩))
    (fun os started H enc _ => lifted os started H enc)

/-- THE STATEMENT. -/
theorem proved : Rows.FnExactRunStackSaid := over
end Go.Proofs.Yahaaw.fnExactRunStack
