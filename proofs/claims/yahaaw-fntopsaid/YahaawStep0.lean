/-
  DERIVED. WALK: spec.stepStack (52), code by code.
-/
import Derived.Test.YahaawStk
import Derived.LoopN
namespace Go.Proofs.Yahaaw
open Go.RowKit
set_option linter.unusedVariables false
set_option linter.unusedSimpArgs false

theorem Grow.setOther {w : World} {B : Nat} {e : TypeId} {size : Nat} {v : Value} {n : Nat} {xs : List Value} (h : Grow w B e size v n xs) {p : Addr} (hp : v.ownBlock ≠ some p.block) (u : Value) : Grow (w.setCell p u) B e size v n xs := by
  obtain ⟨hl, h⟩ := h
  refine ⟨hl, ?_⟩
  rcases h with h | ⟨g, cap, rest, rfl, hB, hc, hr, hk⟩
  · exact .inl h
  · exact .inr ⟨g, cap, rest, rfl, hB, hc, hr, hk.far (fun e => hp (by simp [Value.ownBlock, e])) u⟩

theorem ss_news (w : World) (cs : List Value) (t : TypeId) : ∀ (j : Nat) (u : Value), cs[j]? = some u → (w.alloc (.cells cs.toArray t)).cell? ((⟨w.heap.size, 0, none⟩ : Addr).add j) = some u := by
  intro j u hu
  have hadd : (⟨w.heap.size, 0, none⟩ : Addr).add j = ⟨w.heap.size, j, none⟩ := by unfold Addr.add; split <;> simp_all
  rw [hadd, (Blk.new w cs t).cell]; exact hu

theorem ss_after {w w2 : World} {B m : Nat} {v v2 : Value} {xs c z : List Value} {o3 o4 o5 : Obj} (hg : Grow w B 2 1 v m xs) (hB : B ≤ w.heap.size)
    (hgr : (((((w.alloc (.cells c.toArray 90)).alloc (.cells z.toArray 90)).alloc o3).alloc o4).alloc o5).grownBy w2 v.ownBlock)
    (hat : v2.ownBlock = v.ownBlock ∨ v2.ownBlock = some (((((w.alloc (.cells c.toArray 90)).alloc (.cells z.toArray 90)).alloc o3).alloc o4).alloc o5).heap.size) :
    Blk w2 w.heap.size c 90 ∧ Blk w2 (w.heap.size + 1) z 90 ∧ Below B w w2 ∧ v2.ownBlock ≠ some (w.heap.size + 1) := by
  have b1 : Blk (((((w.alloc (.cells c.toArray 90)).alloc (.cells z.toArray 90)).alloc o3).alloc o4).alloc o5) w.heap.size c 90 := ((((Blk.new w c 90).alloc _).alloc _).alloc _).alloc _
  have b2 : Blk (((((w.alloc (.cells c.toArray 90)).alloc (.cells z.toArray 90)).alloc o3).alloc o4).alloc o5) (w.heap.size + 1) z 90 := by
    have := Blk.new (w.alloc (.cells c.toArray 90)) z 90
    exact (((by simpa using this : Blk ((w.alloc (.cells c.toArray 90)).alloc (.cells z.toArray 90)) (w.heap.size + 1) z 90).alloc _).alloc _).alloc _
  have hb : Below B w (((((w.alloc (.cells c.toArray 90)).alloc (.cells z.toArray 90)).alloc o3).alloc o4).alloc o5) :=
    ((((((Below.refl B w).alloc hB _).alloc (by simp; omega) _).alloc (by simp; omega) _).alloc (by simp; omega) _).alloc (by simp; omega) _)
  refine ⟨?_, ?_, hb.grown hgr (by simp; omega) (fun k hk => (hg.row k hk).1), ?_⟩
  · unfold Blk at *
    rw [hgr.block _ (by simp; omega) (fun e => by have := (hg.row _ e.symm).2; omega)]; exact b1
  · unfold Blk at *
    rw [hgr.block _ (by simp) (fun e => by have := (hg.row _ e.symm).2; omega)]; exact b2
  · rcases hat with h | h <;> rw [h]
    · intro e; have := (hg.row _ e).2; omega
    · simp; omega

/-- What stepStack hands back. -/
def StepPost (o : Option (Nat × List Int)) (B : Nat) (pc : Int) (sv : Value) (stp : Int) (e : Ending) (w' : World) : Prop :=
  match o with
  | none => e = .returned (.tuple #[.agg #[.int .i64 pc, sv, .int .i64 stp], .bool false])
  | some q => ∃ sv', e = .returned (.tuple #[.agg #[.int .i64 (q.1 : Int), sv', .int .i64 (stp + 1)], .bool true]) ∧ Grow w' B 2 1 sv' q.2.length (iCells q.2)

end Go.Proofs.Yahaaw
