/-
  DERIVED. WALKS: spec.stepStack (52) whole, spec.RunStack (22).
-/
import Derived.Test.YahaawStepA
import Derived.Test.YahaawStepB
import Derived.Test.YahaawStepC
import Derived.Test.YahaawTrI
namespace Go.Proofs.Yahaaw
open Go.RowKit
set_option linter.unusedVariables false
set_option linter.unusedSimpArgs false

theorem stepStack_any (bb off n cap nx capx pc stp B : Nat) (ax : Option Addr) (p : SO) (st xs : List Int) (sv : Value) (w : World) (hn : n ≤ 1099511627776) (hpc : pc < n) (hst : stp ≤ 20000) (hr : st.length ≤ 20000)
    (h1 : w.cell? ⟨bb, off + pc * 2, none⟩ = some (.int .i64 p.c)) (h2 : w.cell? ⟨bb, off + pc * 2 + 1, none⟩ = some (.int .i64 p.a)) (hbb : bb < w.heap.size) (hB : B ≤ w.heap.size)
    (hg : Grow w B 2 1 sv st.length (iCells st)) (hxs : Seg w ax (iCells xs)) (hxl : xs.length = nx) (hxn : nx ≤ 1099511627776) (h11 : ¬ p.c = 11) :
    Calls Yaav.prog 52 #[.slice (some ⟨bb, off, none⟩) n cap, .slice ax nx capx, .agg #[.int .i64 pc, sv, .int .i64 stp]] w fun e w' => StepPost (stepS n xs pc p st) B pc sv stp e w' ∧ Below B w w' := by
  obtain ⟨c, a⟩ := p
  simp only at h1 h2 h11
  by_cases hf1 : needs c < 0
  · rw [stepS_fault (.inl hf1)]
    obtain ⟨a0, cp, rfl, _, _⟩ := hg.shape
    exact ss_f1 bb off n cap nx capx pc stp B ax c a a0 _ cp w hn hpc hst hr h1 h2 hbb hB hf1
  by_cases hf2 : (st.length : Int) < needs c
  · rw [stepS_fault (.inr hf2)]
    obtain ⟨a0, cp, rfl, _, _⟩ := hg.shape
    exact ss_f2 bb off n cap nx capx pc stp B ax c a a0 _ cp w hn hpc hst hr h1 h2 hbb hB hf1 hf2
  rcases needs_codes (by omega : 0 ≤ needs c) with rfl | rfl | rfl | rfl | rfl | rfl | rfl | rfl | rfl | rfl | rfl | rfl
  · obtain ⟨a0, cp, rfl, _, hcp⟩ := hg.shape
    have e : stepS n xs pc ⟨0, a⟩ st = some (pc + 1, st ++ [a]) := by simp [stepS]
    rw [e]
    exact ss_0 bb off n cap nx capx pc stp B ax a a0 cp st w hn hpc hst hr h1 h2 hbb hB hcp hg
  · obtain ⟨a0, cp, rfl, _, hcp⟩ := hg.shape
    have e : stepS n xs pc ⟨1, a⟩ st = some (pc + 1, st ++ [argAt xs a]) := by simp [stepS]
    rw [e]
    exact ss_1 bb off n cap nx capx pc stp B ax a a0 cp st xs w hn hpc hst hr h1 h2 hbb hB hcp hg hxs hxl hxn
  · have hnd : needs 2 = 2 := rfl
    obtain ⟨r, x, y, rfl⟩ := split2 (st := st) (by omega)
    obtain ⟨g, cp, rfl, hcp, hgB, hgl, k1, k2, _, _, _, _, hG0⟩ := hg.top2
    have e : stepS n xs pc ⟨2, a⟩ (r ++ [x, y]) = some (pc + 1, r ++ [wrap64 (x + y)]) := by simp [stepS, pop2_some]
    rw [e]
    exact ss_2 bb off n cap nx capx pc stp B ax a g cp r x y w hn hpc hst (by simp at hr; omega) h1 h2 hbb hB hcp hgl k1 k2 hG0
  · have hnd : needs 3 = 2 := rfl
    obtain ⟨r, x, y, rfl⟩ := split2 (st := st) (by omega)
    obtain ⟨g, cp, rfl, hcp, hgB, hgl, k1, k2, _, _, _, _, hG0⟩ := hg.top2
    have e : stepS n xs pc ⟨3, a⟩ (r ++ [x, y]) = some (pc + 1, r ++ [wrap64 (x - y)]) := by simp [stepS, pop2_some]
    rw [e]
    exact ss_3 bb off n cap nx capx pc stp B ax a g cp r x y w hn hpc hst (by simp at hr; omega) h1 h2 hbb hB hcp hgl k1 k2 hG0
  · have hnd : needs 4 = 2 := rfl
    obtain ⟨r, x, y, rfl⟩ := split2 (st := st) (by omega)
    obtain ⟨g, cp, rfl, hcp, hgB, hgl, k1, k2, _, _, _, _, hG0⟩ := hg.top2
    have e : stepS n xs pc ⟨4, a⟩ (r ++ [x, y]) = some (pc + 1, r ++ [wrap64 (x * y)]) := by simp [stepS, pop2_some]
    rw [e]
    exact ss_4 bb off n cap nx capx pc stp B ax a g cp r x y w hn hpc hst (by simp at hr; omega) h1 h2 hbb hB hcp hgl k1 k2 hG0
  · have hnd : needs 5 = 1 := rfl
    obtain ⟨r, y, rfl⟩ := split1 (st := st) (by omega)
    obtain ⟨g, cp, rfl, hcp, hgB, hgl, k1, _, hG0⟩ := hg.top1
    have e : stepS n xs pc ⟨5, a⟩ (r ++ [y]) = some (pc + 1, (r ++ [y]) ++ [y]) := by simp [stepS, pop1_some]
    rw [e]
    exact ss_5 bb off n cap nx capx pc stp B ax a g cp r y w hn hpc hst (by simp at hr; omega) h1 h2 hbb hB hcp hgl k1 hG0
  · have hnd : needs 6 = 2 := rfl
    obtain ⟨r, x, y, rfl⟩ := split2 (st := st) (by omega)
    obtain ⟨g, cp, rfl, hcp, hgB, hgl, k1, k2, _, _, _, _, hG0⟩ := hg.top2
    have e : stepS n xs pc ⟨6, a⟩ (r ++ [x, y]) = some (pc + 1, (r ++ [x, y]) ++ [x]) := by simp [stepS, pop2_some]
    rw [e]
    exact ss_6 bb off n cap nx capx pc stp B ax a g cp r x y w hn hpc hst (by simp at hr; omega) h1 h2 hbb hB hcp hgl k1 k2 hG0
  · have hnd : needs 7 = 1 := rfl
    obtain ⟨r, y, rfl⟩ := split1 (st := st) (by omega)
    obtain ⟨g, cp, rfl, hcp, hgB, hgl, k1, _, hG0⟩ := hg.top1
    have e : stepS n xs pc ⟨7, a⟩ (r ++ [y]) = some (pc + 1, r) := by simp [stepS, pop1_some]
    rw [e]
    exact ss_7 bb off n cap nx capx pc stp B ax a g cp r y w hn hpc hst (by simp at hr; omega) h1 h2 hbb hB hcp hgl k1 hG0
  · have hnd : needs 8 = 2 := rfl
    obtain ⟨r, x, y, rfl⟩ := split2 (st := st) (by omega)
    obtain ⟨g, cp, rfl, hcp, hgB, hgl, k1, k2, _, _, _, _, hG0⟩ := hg.top2
    have e : stepS n xs pc ⟨8, a⟩ (r ++ [x, y]) = some (pc + 1, r ++ [y, x]) := by simp [stepS, pop2_some]
    rw [e]
    exact ss_8 bb off n cap nx capx pc stp B ax a g cp r x y w hn hpc hst (by simp at hr; omega) h1 h2 hbb hB hcp hgl k1 k2 hG0
  · obtain ⟨a0, cp, rfl, _, hcp⟩ := hg.shape
    by_cases ha : a < 0
    · have e : stepS n xs pc ⟨9, a⟩ st = none := by simp [stepS, ha]
      rw [e]
      exact ss_9a bb off n cap nx capx pc stp B ax a a0 cp st w hn hpc hst hr h1 h2 hbb hB hcp hg ha
    by_cases hb : (n : Int) < a
    · have e : stepS n xs pc ⟨9, a⟩ st = none := by simp [stepS, hb]
      rw [e]
      exact ss_9b bb off n cap nx capx pc stp B ax a a0 cp st w hn hpc hst hr h1 h2 hbb hB hcp hg (by omega) hb
    · obtain ⟨A, rfl⟩ := Int.eq_ofNat_of_zero_le (by omega : 0 ≤ a)
      have hA : A ≤ n := by omega
      have e : stepS n xs pc ⟨9, (A : Int)⟩ st = some (A, st) := by simp [stepS, hA]
      rw [e]
      exact ss_9 bb off n cap nx capx pc stp B ax A a0 cp st w hn hpc hst hr h1 h2 hbb hB hcp hA hg
  · have hnd : needs 10 = 1 := rfl
    obtain ⟨r, y, rfl⟩ := split1 (st := st) (by omega)
    obtain ⟨g, cp, rfl, hcp, hgB, hgl, k1, _, hG0⟩ := hg.top1
    by_cases ha : a < 0
    · have e : stepS n xs pc ⟨10, a⟩ (r ++ [y]) = none := by simp [stepS, ha]
      rw [e]
      exact ss_10a bb off n cap nx capx pc stp B ax a g cp r y w hn hpc hst (by simp at hr; omega) h1 h2 hbb hB hcp hgl k1 hG0 ha
    by_cases hb : (n : Int) < a
    · have e : stepS n xs pc ⟨10, a⟩ (r ++ [y]) = none := by simp [stepS, hb]
      rw [e]
      exact ss_10b bb off n cap nx capx pc stp B ax a g cp r y w hn hpc hst (by simp at hr; omega) h1 h2 hbb hB hcp hgl k1 hG0 (by omega) hb
    · obtain ⟨A, rfl⟩ := Int.eq_ofNat_of_zero_le (by omega : 0 ≤ a)
      have hA : A ≤ n := by omega
      by_cases hy : y = 0
      · have e : stepS n xs pc ⟨10, (A : Int)⟩ (r ++ [y]) = some (A, r) := by simp [stepS, hA, pop1_some, hy]
        rw [e]
        exact ss_10z bb off n cap nx capx pc stp B ax A g cp r y w hn hpc hst (by simp at hr; omega) h1 h2 hbb hB hcp hgl k1 hA hG0 hy
      · have e : stepS n xs pc ⟨10, (A : Int)⟩ (r ++ [y]) = some (pc + 1, r) := by simp [stepS, hA, pop1_some, hy]
        rw [e]
        exact ss_10n bb off n cap nx capx pc stp B ax A g cp r y w hn hpc hst (by simp at hr; omega) h1 h2 hbb hB hcp hgl k1 hA hG0 (beq_eq_false_iff_ne.2 hy)
  · exact absurd rfl h11

end Go.Proofs.Yahaaw
