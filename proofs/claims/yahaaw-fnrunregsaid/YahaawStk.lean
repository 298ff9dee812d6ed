/-
  DERIVED. PLAIN: the stack machine; and a stack in memory.
-/
import Derived.Test.YahaawRun0
namespace Go.Proofs.Yahaaw
open Go.RowKit
set_option linter.unusedVariables false

def pop1 (st : List Int) : Option (List Int × Int) := match st.reverse with | y :: r => some (r.reverse, y) | [] => none
def pop2 (st : List Int) : Option (List Int × Int × Int) := match st.reverse with | y :: x :: r => some (r.reverse, x, y) | _ => none

theorem pop1_some (r : List Int) (y : Int) : pop1 (r ++ [y]) = some (r, y) := by simp [pop1]
theorem pop2_some (r : List Int) (x y : Int) : pop2 (r ++ [x, y]) = some (r, x, y) := by simp [pop2]
theorem pop1_none : pop1 [] = none := rfl
theorem pop2_none {st : List Int} (h : st.length < 2) : pop2 st = none := by
  match st, h with
  | [], _ => rfl
  | [a], _ => rfl

theorem split1 {st : List Int} (h : 1 ≤ st.length) : ∃ r y, st = r ++ [y] := by
  rcases List.eq_nil_or_concat st with rfl | ⟨r, y, rfl⟩
  · simp at h
  · exact ⟨r, y, by simp⟩
theorem split2 {st : List Int} (h : 2 ≤ st.length) : ∃ r x y, st = r ++ [x, y] := by
  obtain ⟨r, y, rfl⟩ := split1 (st := st) (by omega)
  obtain ⟨r', x, rfl⟩ := split1 (st := r) (by simp at h; omega)
  exact ⟨r', x, y, by simp⟩

/-- One step of the stack machine; none: it faults. -/
def stepS (n : Nat) (args : List Int) (pc : Nat) (p : SO) (st : List Int) : Option (Nat × List Int) :=
  if p.c = 0 then some (pc + 1, st ++ [p.a])
  else if p.c = 1 then some (pc + 1, st ++ [argAt args p.a])
  else if p.c = 2 then (pop2 st).map fun q => (pc + 1, q.1 ++ [wrap64 (q.2.1 + q.2.2)])
  else if p.c = 3 then (pop2 st).map fun q => (pc + 1, q.1 ++ [wrap64 (q.2.1 - q.2.2)])
  else if p.c = 4 then (pop2 st).map fun q => (pc + 1, q.1 ++ [wrap64 (q.2.1 * q.2.2)])
  else if p.c = 5 then (pop1 st).map fun q => (pc + 1, st ++ [q.2])
  else if p.c = 6 then (pop2 st).map fun q => (pc + 1, st ++ [q.2.1])
  else if p.c = 7 then (pop1 st).map fun q => (pc + 1, q.1)
  else if p.c = 8 then (pop2 st).map fun q => (pc + 1, q.1 ++ [q.2.2, q.2.1])
  else if p.c = 9 then (if p.a < 0 ∨ (n : Int) < p.a then none else some (p.a.toNat, st))
  else if p.c = 10 then (if p.a < 0 ∨ (n : Int) < p.a then none else (pop1 st).map fun q => (if q.2 = 0 then p.a.toNat else pc + 1, q.1))
  else none

theorem stepS_fault {n : Nat} {args : List Int} {pc : Nat} {p : SO} {st : List Int} (h : needs p.c < 0 ∨ (st.length : Int) < needs p.c) : stepS n args pc p st = none := by
  have h1 : st.length < 1 → pop1 st = none := fun h => by match st, h with | [], _ => rfl
  have h2 : st.length < 2 → pop2 st = none := fun h => pop2_none h
  unfold stepS
  unfold needs at h
  by_cases e0 : p.c = 0
  · simp [e0] at h; omega
  by_cases e1 : p.c = 1
  · simp [e1] at h; omega
  by_cases e2 : p.c = 2
  · simp [e2] at h ⊢; exact h2 (by omega)
  by_cases e3 : p.c = 3
  · simp [e3] at h ⊢; exact h2 (by omega)
  by_cases e4 : p.c = 4
  · simp [e4] at h ⊢; exact h2 (by omega)
  by_cases e5 : p.c = 5
  · simp [e5] at h ⊢; exact h1 (by omega)
  by_cases e6 : p.c = 6
  · simp [e6] at h ⊢; exact h2 (by omega)
  by_cases e7 : p.c = 7
  · simp [e7] at h ⊢; exact h1 (by omega)
  by_cases e8 : p.c = 8
  · simp [e8] at h ⊢; exact h2 (by omega)
  by_cases e9 : p.c = 9
  · simp [e9] at h; omega
  by_cases e10 : p.c = 10
  · simp [e10] at h ⊢; intro _ _; exact h1 (by omega)
  simp [e0, e1, e2, e3, e4, e5, e6, e7, e8, e9, e10]

theorem stepS_len {n : Nat} {args : List Int} {pc : Nat} {p : SO} {st st' : List Int} {pc' : Nat} (h : stepS n args pc p st = some (pc', st')) (hpc : pc < n) : st'.length ≤ st.length + 1 ∧ pc' ≤ n := by
  have h1 : ∀ q, pop1 st = some q → q.1.length + 1 = st.length := fun q hq => by
    unfold pop1 at hq
    split at hq
    · rename_i y r hr
      cases hq
      have := congrArg List.length hr
      simp at this ⊢; omega
    · cases hq
  have h2 : ∀ q, pop2 st = some q → q.1.length + 2 = st.length := fun q hq => by
    unfold pop2 at hq
    split at hq
    · rename_i y x r hr
      cases hq
      have := congrArg List.length hr
      simp at this ⊢; omega
    · cases hq
  unfold stepS at h
  by_cases e0 : p.c = 0
  · rw [if_pos e0] at h
    cases h; simp; omega
  rw [if_neg e0] at h
  by_cases e1 : p.c = 1
  · rw [if_pos e1] at h
    cases h; simp; omega
  rw [if_neg e1] at h
  by_cases e2 : p.c = 2
  · rw [if_pos e2] at h
    obtain ⟨q, hq, he⟩ := Option.map_eq_some_iff.1 h; have := h2 q hq; cases he; simp; omega
  rw [if_neg e2] at h
  by_cases e3 : p.c = 3
  · rw [if_pos e3] at h
    obtain ⟨q, hq, he⟩ := Option.map_eq_some_iff.1 h; have := h2 q hq; cases he; simp; omega
  rw [if_neg e3] at h
  by_cases e4 : p.c = 4
  · rw [if_pos e4] at h
    obtain ⟨q, hq, he⟩ := Option.map_eq_some_iff.1 h; have := h2 q hq; cases he; simp; omega
  rw [if_neg e4] at h
  by_cases e5 : p.c = 5
  · rw [if_pos e5] at h
    obtain ⟨q, hq, he⟩ := Option.map_eq_some_iff.1 h; have := h1 q hq; cases he; simp; omega
  rw [if_neg e5] at h
  by_cases e6 : p.c = 6
  · rw [if_pos e6] at h
    obtain ⟨q, hq, he⟩ := Option.map_eq_some_iff.1 h; have := h2 q hq; cases he; simp; omega
  rw [if_neg e6] at h
  by_cases e7 : p.c = 7
  · rw [if_pos e7] at h
    obtain ⟨q, hq, he⟩ := Option.map_eq_some_iff.1 h; have := h1 q hq; cases he; exact ⟨by omega, by omega⟩
  rw [if_neg e7] at h
  by_cases e8 : p.c = 8
  · rw [if_pos e8] at h
    obtain ⟨q, hq, he⟩ := Option.map_eq_some_iff.1 h; have := h2 q hq; cases he; simp; omega
  rw [if_neg e8] at h
  by_cases e9 : p.c = 9
  · rw [if_pos e9] at h
    by_cases hb : p.a < 0 ∨ (n : Int) < p.a
    · rw [if_pos hb] at h; cases h
    · rw [if_neg hb] at h; cases h; simp; omega
  rw [if_neg e9] at h
  by_cases e10 : p.c = 10
  · rw [if_pos e10] at h
    by_cases hb : p.a < 0 ∨ (n : Int) < p.a
    · rw [if_pos hb] at h; cases h
    · rw [if_neg hb] at h
      obtain ⟨q, hq, he⟩ := Option.map_eq_some_iff.1 h
      have := h1 q hq
      cases he
      refine ⟨by omega, ?_⟩
      by_cases hq0 : q.2 = 0
      · simp only [hq0, if_true]; omega
      · simp only [hq0, if_false]; omega
  rw [if_neg e10] at h
  cases h

/-- The run, f steps before the fuel is out. -/
def runS (ps : List SO) (args : List Int) : Nat → Nat → List Int → Oc
  | 0, pc, st => match ps[pc]? with
    | none => ⟨0, st, 20000⟩
    | some p => if p.c = 11 then ⟨0, st, 20000⟩ else ⟨1, [], 20000⟩
  | f + 1, pc, st => match ps[pc]? with
    | none => ⟨0, st, 20000 - ((f + 1 : Nat) : Int)⟩
    | some p => if p.c = 11 then ⟨0, st, 20000 - ((f + 1 : Nat) : Int)⟩ else
      match stepS ps.length args pc p st with
      | none => ⟨2, [], 20000 - ((f + 1 : Nat) : Int)⟩
      | some q => runS ps args f q.1 q.2

theorem runS_end {ps : List SO} {args : List Int} {f pc : Nat} {st : List Int} (h : ps[pc]? = none) : runS ps args f pc st = ⟨0, st, 20000 - (f : Int)⟩ := by
  cases f <;> simp [runS, h]
theorem runS_halt {ps : List SO} {args : List Int} {f pc : Nat} {st : List Int} {p : SO} (h : ps[pc]? = some p) (h11 : p.c = 11) : runS ps args f pc st = ⟨0, st, 20000 - (f : Int)⟩ := by
  cases f <;> simp [runS, h, h11]
theorem runS_fuel {ps : List SO} {args : List Int} {pc : Nat} {st : List Int} {p : SO} (h : ps[pc]? = some p) (h11 : ¬ p.c = 11) : runS ps args 0 pc st = ⟨1, [], 20000⟩ := by simp [runS, h, h11]
theorem runS_fault {ps : List SO} {args : List Int} {f pc : Nat} {st : List Int} {p : SO} (h : ps[pc]? = some p) (h11 : ¬ p.c = 11) (hs : stepS ps.length args pc p st = none) : runS ps args (f + 1) pc st = ⟨2, [], 20000 - ((f + 1 : Nat) : Int)⟩ := by
  simp only [runS, h, h11, hs, if_false]
theorem runS_step {ps : List SO} {args : List Int} {f pc : Nat} {st : List Int} {p : SO} {q : Nat × List Int} (h : ps[pc]? = some p) (h11 : ¬ p.c = 11) (hs : stepS ps.length args pc p st = some q) : runS ps args (f + 1) pc st = runS ps args f q.1 q.2 := by
  simp only [runS, h, h11, hs, if_false]

/-! ### A stack in memory -/
theorem Grow.top1 {w : World} {B : Nat} {v : Value} {r : List Int} {y : Int} (h : Grow w B 2 1 v (r ++ [y]).length (iCells (r ++ [y]))) :
    ∃ g cap, v = .slice (some ⟨g, 0, none⟩) (r.length + 1) cap ∧ r.length + 1 ≤ cap ∧ B ≤ g ∧ g < w.heap.size ∧ w.cell? ⟨g, r.length, none⟩ = some (.int .i64 y) ∧ w.frozen? ⟨g, r.length, none⟩ = false ∧
      Grow w B 2 1 (.slice (some ⟨g, 0, none⟩) r.length cap) r.length (iCells r) := by
  obtain ⟨hl, h⟩ := h
  rw [iCells_app] at h
  simp only [List.length_append, List.length_cons, List.length_nil, Nat.zero_add] at h
  have hr := iCells_len r
  rcases h with ⟨_, h⟩ | ⟨g, cap, rest, hv, hB, hc, hrl, hk⟩
  · omega
  · refine ⟨g, cap, hv, hc, hB, hk.lt, ?_, hk.frozen _, by rw [hr]; omega, .inr ⟨g, cap, .int .i64 y :: rest, rfl, hB, by omega, by simp; omega, by simpa [iCells] using hk⟩⟩
    rw [hk.cell, List.append_assoc, List.getElem?_append_right (by omega), hr]
    simp [iCells]

theorem Grow.top2 {w : World} {B : Nat} {v : Value} {r : List Int} {x y : Int} (h : Grow w B 2 1 v (r ++ [x, y]).length (iCells (r ++ [x, y]))) :
    ∃ g cap, v = .slice (some ⟨g, 0, none⟩) (r.length + 2) cap ∧ r.length + 2 ≤ cap ∧ B ≤ g ∧ g < w.heap.size ∧ w.cell? ⟨g, r.length, none⟩ = some (.int .i64 x) ∧ w.cell? ⟨g, r.length + 1, none⟩ = some (.int .i64 y) ∧
      w.frozen? ⟨g, r.length, none⟩ = false ∧ w.frozen? ⟨g, r.length + 1, none⟩ = false ∧
      (∀ z, Grow (w.setCell ⟨g, r.length, none⟩ (.int .i64 z)) B 2 1 (.slice (some ⟨g, 0, none⟩) (r.length + 1) cap) (r.length + 1) (iCells (r ++ [z]))) ∧
      Grow ((w.setCell ⟨g, r.length + 1, none⟩ (.int .i64 x)).setCell ⟨g, r.length, none⟩ (.int .i64 y)) B 2 1 (.slice (some ⟨g, 0, none⟩) (r.length + 2) cap) (r.length + 2) (iCells (r ++ [y, x])) ∧
      Grow w B 2 1 (.slice (some ⟨g, 0, none⟩) r.length cap) r.length (iCells r) := by
  obtain ⟨hl, h⟩ := h
  rw [iCells_app] at h
  simp only [List.length_append, List.length_cons, List.length_nil, Nat.zero_add] at h
  have hr := iCells_len r
  rcases h with ⟨_, h⟩ | ⟨g, cap, rest, hv, hB, hc, hrl, hk⟩
  · omega
  · have hk' : Blk w g (iCells r ++ (.int .i64 x :: .int .i64 y :: rest)) 2 := by simpa [iCells] using hk
    refine ⟨g, cap, hv, hc, hB, hk.lt, ?_, ?_, hk.frozen _, hk.frozen _, fun z => ?_, ?_, ?_⟩
    · rw [hk'.cell, List.getElem?_append_right (by omega), hr]; simp
    · rw [hk'.cell, List.getElem?_append_right (by omega), hr]; simp
    · refine ⟨by rw [iCells_len]; simp, .inr ⟨g, cap, .int .i64 y :: rest, rfl, hB, by omega, by simp at hrl ⊢; omega, ?_⟩⟩
      have := hk'.fill1 (m := r.length) hr.symm (by simp) (.int .i64 z)
      simpa [iCells] using this
    · refine ⟨by rw [iCells_len]; simp, .inr ⟨g, cap, rest, rfl, hB, hc, hrl, ?_⟩⟩
      have h1 := hk'.set (r.length + 1) (.int .i64 x)
      have e1 : (iCells r ++ (.int .i64 x :: .int .i64 y :: rest)).set (r.length + 1) (.int .i64 x) = iCells r ++ (.int .i64 x :: .int .i64 x :: rest) := by
        have := set1 (iCells r ++ [.int .i64 x]) rest (.int .i64 y) (.int .i64 x) (m := r.length + 1) (by simp [hr])
        simpa using this
      rw [e1] at h1
      have h2 := h1.set r.length (.int .i64 y)
      have e2 : (iCells r ++ (.int .i64 x :: .int .i64 x :: rest)).set r.length (.int .i64 y) = iCells (r ++ [y, x]) ++ rest := by
        rw [set1 _ _ _ _ hr.symm]; simp [iCells]
      rw [e2] at h2
      exact h2
    · exact ⟨by rw [hr]; omega, .inr ⟨g, cap, .int .i64 x :: .int .i64 y :: rest, rfl, hB, by omega, by simp; omega, hk'⟩⟩

/-- What a run hands back. -/
def RunPost (o : Oc) (B : Nat) (e : Ending) (w' : World) : Prop := ∃ b, e = .returned (.agg #[.int .i64 o.status, .slice b o.vals.length o.vals.length, .int .i64 o.steps]) ∧ Own w' B b (iCells o.vals) 2

/-- Where a run of the stack machine stands: the result's own variable at block w.heap.size, the stack's row behind it. -/
structure RS (w : World) (sv : Value) (st : List Int) (wr : World) : Prop where
  bel : Below w.heap.size w wr
  res : Blk wr w.heap.size [.int .i64 0, .slice none 0 0, .int .i64 0] 38
  gr : Grow wr (w.heap.size + 1) 2 1 sv st.length (iCells st)

theorem RS.alloc {w wr : World} {sv : Value} {st : List Int} (h : RS w sv st wr) (o : Obj) : RS w sv st (wr.alloc o) := ⟨h.bel.alloc h.bel.size _, h.res.alloc _, h.gr.alloc _⟩
theorem RS.drewN {w wr : World} {sv : Value} {st : List Int} (h : RS w sv st wr) (n : Nat) : RS w sv st (wr.drewN n) := ⟨bdrewN h.bel _, h.res, h.gr⟩
theorem RS.app {w wr w1 : World} {sv v' : Value} {st : List Int} {x : Int} (h : RS w sv st wr) (hg : Grow w1 (w.heap.size + 1) 2 1 v' (st.length + 1) (iCells st ++ [.int .i64 x])) (hgr : wr.grownBy w1 sv.ownBlock) (hat : v'.ownBlock = sv.ownBlock ∨ v'.ownBlock = some wr.heap.size) :
    RS w v' (st ++ [x]) w1 := by
  refine ⟨h.bel.grown hgr h.bel.size (fun k hk => by have := (h.gr.row k hk).1; omega), (blk_grown h.res (fun e => by have := (h.gr.row _ e).1; omega) hgr hat).1, ?_⟩
  simpa [iCells] using hg
theorem RS.set {w wr : World} {sv sv' : Value} {st st' : List Int} {g i : Nat} {v : Value} (h : RS w sv st wr) (hg : w.heap.size + 1 ≤ g) (hgr : Grow (wr.setCell ⟨g, i, none⟩ v) (w.heap.size + 1) 2 1 sv' st'.length (iCells st')) : RS w sv' st' (wr.setCell ⟨g, i, none⟩ v) :=
  ⟨h.bel.setCell (p := ⟨_, _, none⟩) (by simp; omega) _, h.res.far (p := ⟨_, _, none⟩) (by simp; omega) _, hgr⟩
theorem RS.set2 {w wr : World} {sv sv' : Value} {st st' : List Int} {g i j : Nat} {u v : Value} (h : RS w sv st wr) (hg : w.heap.size + 1 ≤ g) (hgr : Grow ((wr.setCell ⟨g, i, none⟩ u).setCell ⟨g, j, none⟩ v) (w.heap.size + 1) 2 1 sv' st'.length (iCells st')) : RS w sv' st' ((wr.setCell ⟨g, i, none⟩ u).setCell ⟨g, j, none⟩ v) :=
  ⟨(h.bel.setCell (p := ⟨_, _, none⟩) (by simp; omega) _).setCell (p := ⟨_, _, none⟩) (by simp; omega) _, (h.res.far (p := ⟨_, _, none⟩) (by simp; omega) _).far (p := ⟨_, _, none⟩) (by simp; omega) _, hgr⟩
theorem RS.shrink {w wr : World} {sv sv' : Value} {st st' : List Int} (h : RS w sv st wr) (hgr : Grow wr (w.heap.size + 1) 2 1 sv' st'.length (iCells st')) : RS w sv' st' wr := ⟨h.bel, h.res, hgr⟩

end Go.Proofs.Yahaaw
