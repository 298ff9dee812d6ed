/-
  DERIVED. The register machine, plain. WALKS: impl.inReg (53), spec.inRange (47), spec.uses (46).
-/
import Derived.Test.YahaawRun0
import Derived.Test.YahaawStk
namespace Go.Proofs.Yahaaw
open Go.RowKit
set_option linter.unusedVariables false
set_option linter.unusedSimpArgs false

def okR (x : Int) (N : Nat) : Bool := decide (0 ≤ x) && decide (x < N)
theorem okR_nat {x : Int} {N : Nat} (h : okR x N = true) : ∃ X : Nat, x = X ∧ X < N := by
  simp [okR] at h
  exact ⟨x.toNat, by omega, by omega⟩
def rget (rg : List Int) (x : Int) : Int := rg.getD x.toNat 0
theorem rget_at {rg : List Int} {X : Nat} {v : Int} (h : rg[X]? = some v) : rget rg (X : Int) = v := by simp [rget, List.getD, h]

/-- One step of the register machine; none: a fault. -/
def stepR (n : Nat) (xs : List Int) (pc : Nat) (p : RO) (rg : List Int) : Option (Nat × List Int) :=
  if p.op = 0 then (if okR p.r rg.length then some (pc + 1, rg.set p.r.toNat p.k) else none)
  else if p.op = 1 then (if okR p.r rg.length then some (pc + 1, rg.set p.r.toNat (argAt xs p.k)) else none)
  else if p.op = 2 then (if okR p.r rg.length && okR p.a rg.length && okR p.b rg.length then some (pc + 1, rg.set p.r.toNat (wrap64 (rget rg p.a + rget rg p.b))) else none)
  else if p.op = 3 then (if okR p.r rg.length && okR p.a rg.length && okR p.b rg.length then some (pc + 1, rg.set p.r.toNat (wrap64 (rget rg p.a - rget rg p.b))) else none)
  else if p.op = 4 then (if okR p.r rg.length && okR p.a rg.length && okR p.b rg.length then some (pc + 1, rg.set p.r.toNat (wrap64 (rget rg p.a * rget rg p.b))) else none)
  else if p.op = 5 then (if okR p.r rg.length && okR p.a rg.length then some (pc + 1, rg.set p.r.toNat (rget rg p.a)) else none)
  else if p.op = 6 then (if okR p.a rg.length && okR p.b rg.length then some (pc + 1, (rg.set p.a.toNat (rget rg p.b)).set p.b.toNat (rget rg p.a)) else none)
  else if p.op = 7 then some (pc + 1, rg)
  else if p.op = 8 then (if 0 ≤ p.k ∧ p.k ≤ n then some (p.k.toNat, rg) else none)
  else if p.op = 9 then (if okR p.a rg.length = true ∧ 0 ≤ p.k ∧ p.k ≤ n then some (if rget rg p.a = 0 then p.k.toNat else pc + 1, rg) else none)
  else none

theorem ite_some {α : Type} {c : Prop} [Decidable c] {x y : α} (h : (if c then some x else none) = some y) : x = y ∧ c := by
  by_cases hc : c
  · rw [if_pos hc] at h; cases h; exact ⟨rfl, hc⟩
  · rw [if_neg hc] at h; cases h

theorem stepR_len {n : Nat} {xs : List Int} {pc : Nat} {p : RO} {rg : List Int} {q : Nat × List Int} (h : stepR n xs pc p rg = some q) (hpc : pc < n) : q.2.length = rg.length ∧ q.1 ≤ n := by
  unfold stepR at h
  by_cases e0 : p.op = 0
  · rw [if_pos e0] at h
    obtain ⟨h, hk⟩ := ite_some h
    subst h
    exact ⟨by simp only [List.length_set], hpc⟩
  rw [if_neg e0] at h
  by_cases e1 : p.op = 1
  · rw [if_pos e1] at h
    obtain ⟨h, hk⟩ := ite_some h
    subst h
    exact ⟨by simp only [List.length_set], hpc⟩
  rw [if_neg e1] at h
  by_cases e2 : p.op = 2
  · rw [if_pos e2] at h
    obtain ⟨h, hk⟩ := ite_some h
    subst h
    exact ⟨by simp only [List.length_set], hpc⟩
  rw [if_neg e2] at h
  by_cases e3 : p.op = 3
  · rw [if_pos e3] at h
    obtain ⟨h, hk⟩ := ite_some h
    subst h
    exact ⟨by simp only [List.length_set], hpc⟩
  rw [if_neg e3] at h
  by_cases e4 : p.op = 4
  · rw [if_pos e4] at h
    obtain ⟨h, hk⟩ := ite_some h
    subst h
    exact ⟨by simp only [List.length_set], hpc⟩
  rw [if_neg e4] at h
  by_cases e5 : p.op = 5
  · rw [if_pos e5] at h
    obtain ⟨h, hk⟩ := ite_some h
    subst h
    exact ⟨by simp only [List.length_set], hpc⟩
  rw [if_neg e5] at h
  by_cases e6 : p.op = 6
  · rw [if_pos e6] at h
    obtain ⟨h, hk⟩ := ite_some h
    subst h
    exact ⟨by simp only [List.length_set], hpc⟩
  rw [if_neg e6] at h
  by_cases e7 : p.op = 7
  · rw [if_pos e7] at h
    cases h
    exact ⟨rfl, hpc⟩
  rw [if_neg e7] at h
  by_cases e8 : p.op = 8
  · rw [if_pos e8] at h
    obtain ⟨h, hk⟩ := ite_some h
    subst h
    exact ⟨rfl, by show p.k.toNat ≤ n; omega⟩
  rw [if_neg e8] at h
  by_cases e9 : p.op = 9
  · rw [if_pos e9] at h
    obtain ⟨h, hk⟩ := ite_some h
    subst h
    refine ⟨rfl, ?_⟩
    show (if rget rg p.a = 0 then p.k.toNat else pc + 1) ≤ n
    by_cases hz : rget rg p.a = 0
    · rw [if_pos hz]; omega
    · rw [if_neg hz]; omega
  rw [if_neg e9] at h
  cases h

/-- The run, f steps before the fuel is out. -/
def runR (ps : List RO) (args : List Int) : Nat → Nat → List Int → Oc
  | 0, pc, rg => match ps[pc]? with
    | none => ⟨0, [], 20000⟩
    | some p => if p.op = 10 then (if 0 ≤ p.a ∧ p.a ≤ rg.length then ⟨0, rg.take p.a.toNat, 20000⟩ else ⟨2, [], 20000⟩) else ⟨1, [], 20000⟩
  | f + 1, pc, rg => match ps[pc]? with
    | none => ⟨0, [], 20000 - ((f + 1 : Nat) : Int)⟩
    | some p => if p.op = 10 then (if 0 ≤ p.a ∧ p.a ≤ rg.length then ⟨0, rg.take p.a.toNat, 20000 - ((f + 1 : Nat) : Int)⟩ else ⟨2, [], 20000 - ((f + 1 : Nat) : Int)⟩) else
      match stepR ps.length args pc p rg with
      | none => ⟨2, [], 20000 - ((f + 1 : Nat) : Int)⟩
      | some q => runR ps args f q.1 q.2

theorem runR_end {ps : List RO} {args : List Int} {f pc : Nat} {rg : List Int} (h : ps[pc]? = none) : runR ps args f pc rg = ⟨0, [], 20000 - (f : Int)⟩ := by
  cases f <;> simp [runR, h]
theorem runR_halt {ps : List RO} {args : List Int} {f pc : Nat} {rg : List Int} {p : RO} (h : ps[pc]? = some p) (h10 : p.op = 10) (ha : 0 ≤ p.a ∧ p.a ≤ rg.length) : runR ps args f pc rg = ⟨0, rg.take p.a.toNat, 20000 - (f : Int)⟩ := by
  cases f <;> simp [runR, h, h10, ha]
theorem runR_hfault {ps : List RO} {args : List Int} {f pc : Nat} {rg : List Int} {p : RO} (h : ps[pc]? = some p) (h10 : p.op = 10) (ha : ¬ (0 ≤ p.a ∧ p.a ≤ rg.length)) : runR ps args f pc rg = ⟨2, [], 20000 - (f : Int)⟩ := by
  cases f <;> simp only [runR, h, h10, ha, if_true, if_false] <;> simp
theorem runR_fuel {ps : List RO} {args : List Int} {pc : Nat} {rg : List Int} {p : RO} (h : ps[pc]? = some p) (h10 : ¬ p.op = 10) : runR ps args 0 pc rg = ⟨1, [], 20000⟩ := by simp [runR, h, h10]
theorem runR_fault {ps : List RO} {args : List Int} {f pc : Nat} {rg : List Int} {p : RO} (h : ps[pc]? = some p) (h10 : ¬ p.op = 10) (hs : stepR ps.length args pc p rg = none) : runR ps args (f + 1) pc rg = ⟨2, [], 20000 - ((f + 1 : Nat) : Int)⟩ := by
  simp only [runR, h, h10, hs, if_false]
theorem runR_step {ps : List RO} {args : List Int} {f pc : Nat} {rg : List Int} {p : RO} {q : Nat × List Int} (h : ps[pc]? = some p) (h10 : ¬ p.op = 10) (hs : stepR ps.length args pc p rg = some q) : runR ps args (f + 1) pc rg = runR ps args f q.1 q.2 := by
  simp only [runR, h, h10, hs, if_false]

theorem runR_len (ps : List RO) (xs : List Int) : ∀ (f pc : Nat) (rg : List Int), (runR ps xs f pc rg).vals.length ≤ rg.length := by
  intro f
  induction f with
  | zero =>
    intro pc rg
    simp only [runR]
    split
    · simp
    · split
      · split <;> simp; omega
      · simp
  | succ f ih =>
    intro pc rg
    cases hp : ps[pc]? with
    | none => rw [runR_end hp]; simp
    | some p =>
      by_cases h10 : p.op = 10
      · by_cases ha : 0 ≤ p.a ∧ p.a ≤ rg.length
        · rw [runR_halt hp h10 ha]; simp; omega
        · rw [runR_hfault hp h10 ha]; simp
      · cases hs : stepR ps.length xs pc p rg with
        | none => rw [runR_fault hp h10 hs]; simp
        | some q =>
          rw [runR_step hp h10 hs]
          have := (stepR_len hs (lt_of_get hp)).1
          have := ih q.1 q.2
          omega

/-- Where a run of the register machine stands. -/
structure RR (w : World) (rg : List Int) (wr : World) : Prop where
  bel : Below w.heap.size w wr
  res : Blk wr w.heap.size [.int .i64 0, .slice none 0 0, .int .i64 0] 38
  reg : Blk wr (w.heap.size + 1) (iCells rg) 2
theorem RR.alloc {w wr : World} {rg : List Int} (h : RR w rg wr) (o : Obj) : RR w rg (wr.alloc o) := ⟨h.bel.alloc h.bel.size _, h.res.alloc _, h.reg.alloc _⟩
theorem RR.drewN {w wr : World} {rg : List Int} (h : RR w rg wr) (n : Nat) : RR w rg (wr.drewN n) := ⟨bdrewN h.bel _, h.res, h.reg⟩
theorem RR.set {w wr : World} {rg : List Int} (h : RR w rg wr) (i : Nat) (v : Int) : RR w (rg.set i v) (wr.setCell ⟨w.heap.size + 1, i, none⟩ (.int .i64 v)) :=
  ⟨h.bel.setCell (p := ⟨_, _, none⟩) (by simp) _, h.res.far (p := ⟨_, _, none⟩) (by simp) _, h.reg.iset i v⟩
theorem RR.cell {w wr : World} {rg : List Int} (h : RR w rg wr) {i : Nat} {v : Int} (hv : rg[i]? = some v) : wr.cell? ⟨w.heap.size + 1, i, none⟩ = some (.int .i64 v) := by
  rw [h.reg.cell, iCells_get hv]

set_option maxRecDepth 100000 in
set_option maxHeartbeats 1000000 in
theorem inReg_any (x : Int) (N : Nat) (w : World) (hN : N ≤ 65536) : Calls Yaav.prog 53 #[.int .i64 x, .int .i64 N] w fun e w' => e = .returned (.bool (okR x N)) ∧ w' = w := by
  by_cases h0 : 0 ≤ x
  · by_cases h1 : x < N
    · have e : okR x N = true := by simp [okR, h0, h1]
      go_enter Yaav.func53, Yaav.ntmps53
      go_wp2
      go_ret
      exact ⟨by simp [e, h1], rfl⟩
    · have e : okR x N = false := by simp [okR, h1]
      go_enter Yaav.func53, Yaav.ntmps53
      go_wp2
      go_ret
      exact ⟨by simp [e, h1], rfl⟩
  · have e : okR x N = false := by simp [okR, h0]
    have hd : decide (0 ≤ x) = false := by simp; omega
    go_enter Yaav.func53, Yaav.ntmps53
    go_wp2
    go_ret
    exact ⟨by simp [e], rfl⟩

set_option maxRecDepth 100000 in
set_option maxHeartbeats 1000000 in
theorem inRange_any (x : Int) (N : Nat) (w : World) (hN : N ≤ 65536) : Calls Yaav.prog 47 #[.int .i64 x, .int .i64 N] w fun e w' => e = .returned (.bool (okR x N)) ∧ w' = w := by
  by_cases h0 : 0 ≤ x
  · by_cases h1 : x < N
    · have e : okR x N = true := by simp [okR, h0, h1]
      go_enter Yaav.func47, Yaav.ntmps47
      go_wp2
      go_ret
      exact ⟨by simp [e, h1], rfl⟩
    · have e : okR x N = false := by simp [okR, h1]
      go_enter Yaav.func47, Yaav.ntmps47
      go_wp2
      go_ret
      exact ⟨by simp [e, h1], rfl⟩
  · have e : okR x N = false := by simp [okR, h0]
    have hd : decide (0 ≤ x) = false := by simp; omega
    go_enter Yaav.func47, Yaav.ntmps47
    go_wp2
    go_ret
    exact ⟨by simp [e], rfl⟩

end Go.Proofs.Yahaaw
