/-
  DERIVED. The plain data of this seat: a stack operation (SO), a register operation (RO), and how lists of them, and of numbers, lie in cells.
-/
import Derived.Test.YahaawMem
namespace Go.Proofs.Yahaaw
open Go.RowKit

structure SO where
  c : Int
  a : Int

structure RO where
  op : Int
  r : Int
  a : Int
  b : Int
  k : Int

def sCells (ps : List SO) : List Value := ps.flatMap fun p => [.int .i64 p.c, .int .i64 p.a]
def rCells (ps : List RO) : List Value := ps.flatMap fun p => [.int .i64 p.op, .int .i64 p.r, .int .i64 p.a, .int .i64 p.b, .int .i64 p.k]
def iCells (xs : List Int) : List Value := xs.map (Value.int .i64)

theorem sCells_len (ps : List SO) : (sCells ps).length = ps.length * 2 := by
  induction ps with
  | nil => rfl
  | cons p ps ih => simp [sCells] at *; omega
theorem rCells_len (ps : List RO) : (rCells ps).length = ps.length * 5 := by
  induction ps with
  | nil => rfl
  | cons p ps ih => simp [rCells] at *; omega
theorem iCells_len (xs : List Int) : (iCells xs).length = xs.length := by simp [iCells]

theorem sCells_app (ps qs : List SO) : sCells (ps ++ qs) = sCells ps ++ sCells qs := by simp [sCells]
theorem rCells_app (ps qs : List RO) : rCells (ps ++ qs) = rCells ps ++ rCells qs := by simp [rCells]
theorem iCells_app (ps qs : List Int) : iCells (ps ++ qs) = iCells ps ++ iCells qs := by simp [iCells]

theorem take_at {α : Type} {ps : List α} {k : Nat} {x : α} (hx : ps[k]? = some x) : ps.take (k + 1) = ps.take k ++ [x] := by
  rw [List.take_add_one, hx]; rfl

theorem split_at {α : Type} {ps : List α} {k : Nat} {x : α} (hx : ps[k]? = some x) : ∃ l r, ps = l ++ x :: r ∧ l.length = k := by
  obtain ⟨hk, rfl⟩ := List.getElem?_eq_some_iff.1 hx
  exact ⟨ps.take k, ps.drop (k + 1), by simp, by simp; omega⟩

theorem sCells_get {ps : List SO} {k : Nat} {x : SO} (hx : ps[k]? = some x) : (sCells ps)[k * 2]? = some (.int .i64 x.c) ∧ (sCells ps)[k * 2 + 1]? = some (.int .i64 x.a) := by
  obtain ⟨l, r, rfl, rfl⟩ := split_at hx
  have e : sCells (l ++ x :: r) = sCells l ++ (.int .i64 x.c :: .int .i64 x.a :: sCells r) := by simp [sCells]
  have hl := sCells_len l
  rw [e, ← hl]
  constructor
  · simp
  · rw [List.getElem?_append_right (by omega)]; simp

theorem rCells_get {ps : List RO} {k : Nat} {x : RO} (hx : ps[k]? = some x) : (rCells ps)[k * 5]? = some (.int .i64 x.op) ∧ (rCells ps)[k * 5 + 1]? = some (.int .i64 x.r) ∧
    (rCells ps)[k * 5 + 2]? = some (.int .i64 x.a) ∧ (rCells ps)[k * 5 + 3]? = some (.int .i64 x.b) ∧ (rCells ps)[k * 5 + 4]? = some (.int .i64 x.k) := by
  obtain ⟨l, r, rfl, rfl⟩ := split_at hx
  have e : rCells (l ++ x :: r) = rCells l ++ (.int .i64 x.op :: .int .i64 x.r :: .int .i64 x.a :: .int .i64 x.b :: .int .i64 x.k :: rCells r) := by simp [rCells]
  have hl := rCells_len l
  rw [e, ← hl]
  refine ⟨?_, ?_, ?_, ?_, ?_⟩
  · simp
  all_goals (rw [List.getElem?_append_right (by omega)]; simp)

theorem iCells_get {xs : List Int} {k : Nat} {x : Int} (hx : xs[k]? = some x) : (iCells xs)[k]? = some (.int .i64 x) := by simp [iCells, hx]

theorem Seg.at {w : World} {a : Option Addr} {cs : List Value} (h : Seg w a cs) (hne : 0 < cs.length) : ∃ b off, a = some ⟨b, off, none⟩ ∧ b < w.heap.size ∧ ∀ i, i < cs.length → w.cell? ⟨b, off + i, none⟩ = cs[i]? := by
  rcases h with rfl | h
  · simp at hne
  · exact h

theorem lt_of_get {α : Type} {ps : List α} {k : Nat} {x : α} (hx : ps[k]? = some x) : k < ps.length := (List.getElem?_eq_some_iff.1 hx).1

theorem Seg.s {w : World} {a : Option Addr} {ps : List SO} (h : Seg w a (sCells ps)) {k : Nat} {x : SO} (hx : ps[k]? = some x) :
    ∃ b off, a = some ⟨b, off, none⟩ ∧ b < w.heap.size ∧ w.cell? ⟨b, off + k * 2, none⟩ = some (.int .i64 x.c) ∧ w.cell? ⟨b, off + k * 2 + 1, none⟩ = some (.int .i64 x.a) := by
  have hk := lt_of_get hx
  have hl := sCells_len ps
  obtain ⟨b, off, ha, hb, hc⟩ := h.at (by omega)
  obtain ⟨e0, e1⟩ := sCells_get hx
  exact ⟨b, off, ha, hb, by rw [hc _ (by omega)]; exact e0, by rw [Nat.add_assoc, hc _ (by omega)]; exact e1⟩

theorem Seg.r {w : World} {a : Option Addr} {ps : List RO} (h : Seg w a (rCells ps)) {k : Nat} {x : RO} (hx : ps[k]? = some x) :
    ∃ b off, a = some ⟨b, off, none⟩ ∧ b < w.heap.size ∧ w.cell? ⟨b, off + k * 5, none⟩ = some (.int .i64 x.op) ∧ w.cell? ⟨b, off + k * 5 + 1, none⟩ = some (.int .i64 x.r) ∧
      w.cell? ⟨b, off + k * 5 + 2, none⟩ = some (.int .i64 x.a) ∧ w.cell? ⟨b, off + k * 5 + 3, none⟩ = some (.int .i64 x.b) ∧ w.cell? ⟨b, off + k * 5 + 4, none⟩ = some (.int .i64 x.k) := by
  have hk := lt_of_get hx
  have hl := rCells_len ps
  obtain ⟨b, off, ha, hb, hc⟩ := h.at (by omega)
  obtain ⟨e0, e1, e2, e3, e4⟩ := rCells_get hx
  exact ⟨b, off, ha, hb, by rw [hc _ (by omega)]; exact e0, by rw [Nat.add_assoc, hc _ (by omega)]; exact e1, by rw [Nat.add_assoc, hc _ (by omega)]; exact e2,
    by rw [Nat.add_assoc, hc _ (by omega)]; exact e3, by rw [Nat.add_assoc, hc _ (by omega)]; exact e4⟩

theorem Seg.i {w : World} {a : Option Addr} {xs : List Int} (h : Seg w a (iCells xs)) {k : Nat} {x : Int} (hx : xs[k]? = some x) :
    ∃ b off, a = some ⟨b, off, none⟩ ∧ b < w.heap.size ∧ w.cell? ⟨b, off + k, none⟩ = some (.int .i64 x) := by
  have hk := lt_of_get hx
  have hl := iCells_len xs
  obtain ⟨b, off, ha, hb, hc⟩ := h.at (by omega)
  exact ⟨b, off, ha, hb, by rw [hc _ (by omega)]; exact iCells_get hx⟩

theorem some_at {α : Type} {ps : List α} {k : Nat} (hk : k < ps.length) : ∃ x, ps[k]? = some x := ⟨ps[k], List.getElem?_eq_getElem hk⟩

/-! ### What fits -/
def WfS (ps : List SO) : Prop := ∀ p ∈ ps, InR p.c ∧ InR p.a
def WfR (ps : List RO) : Prop := ∀ p ∈ ps, InR p.op ∧ InR p.r ∧ InR p.a ∧ InR p.b ∧ InR p.k
def WfI (xs : List Int) : Prop := ∀ x ∈ xs, InR x

theorem mem_of_get {α : Type} {ps : List α} {k : Nat} {x : α} (hx : ps[k]? = some x) : x ∈ ps := List.mem_of_getElem? hx

end Go.Proofs.Yahaaw
