/-
  DERIVED. The memory words of this seat: 'Blk w b cs t': block b of the world w holds just the cells cs. 'Seg w a cs': the slice that begins at a holds the cells cs (reading). 'Own w B a cs t': .. and it is a whole block of its own, from block number B on.
-/
import Derived.WalkKit
import Derived.WalkSpells
import Derived.WalkLawsBesides
namespace Go.Proofs.Yahaaw
open Go.RowKit

/-- Block number b of w is a row of cells, just cs, of element type t, none frozen. -/
def Blk (w : World) (b : Nat) (cs : List Value) (t : TypeId) : Prop := w.heap[b]? = some (.cells cs.toArray t (0, 0))

theorem Blk.cell {w : World} {b : Nat} {cs : List Value} {t : TypeId} (h : Blk w b cs t) (i : Nat) : w.cell? ⟨b, i, none⟩ = cs[i]? := by
  unfold Blk at h; simp [World.cell?, h]

theorem Blk.frozen {w : World} {b : Nat} {cs : List Value} {t : TypeId} (h : Blk w b cs t) (i : Nat) : w.frozen? ⟨b, i, none⟩ = false := by
  unfold Blk at h; simp [World.frozen?, h]

theorem Blk.lt {w : World} {b : Nat} {cs : List Value} {t : TypeId} (h : Blk w b cs t) : b < w.heap.size := by
  unfold Blk at h; exact (Array.getElem?_eq_some_iff.1 h).1

theorem Blk.drew {w : World} {b : Nat} {cs : List Value} {t : TypeId} (h : Blk w b cs t) : Blk w.drew b cs t := h

theorem Blk.drewN {w : World} {b : Nat} {cs : List Value} {t : TypeId} (h : Blk w b cs t) (n : Nat) : Blk (w.drewN n) b cs t := h

theorem Blk.alloc {w : World} {b : Nat} {cs : List Value} {t : TypeId} (h : Blk w b cs t) (o : Obj) : Blk (w.alloc o) b cs t := by
  unfold Blk; rw [Below.heap_alloc w o b h.lt]; exact h

theorem Blk.new (w : World) (cs : List Value) (t : TypeId) : Blk (w.alloc (.cells cs.toArray t)) w.heap.size cs t := by
  unfold Blk; show (w.heap.push _)[w.heap.size]? = _; simp

theorem Blk.new' (w : World) (c : Array Value) (t : TypeId) : Blk (w.alloc (.cells c t)) w.heap.size c.toList t := by
  have := Blk.new w c.toList t; simpa using this

theorem Blk.set {w : World} {b : Nat} {cs : List Value} {t : TypeId} (h : Blk w b cs t) (i : Nat) (v : Value) : Blk (w.setCell ⟨b, i, none⟩ v) b (cs.set i v) t := by
  have hl := h.lt
  unfold Blk at *
  simp [World.setCell, Array.getElem?_modify, h]

theorem Blk.far {w : World} {b : Nat} {cs : List Value} {t : TypeId} (h : Blk w b cs t) {p : Addr} (hp : p.block ≠ b) (v : Value) : Blk (w.setCell p v) b cs t := by
  unfold Blk at *; rw [Below.heap_setCell w p v b (fun e => hp e.symm)]; exact h

theorem Blk.below {w w' : World} {b : Nat} {cs : List Value} {t : TypeId} (h : Blk w b cs t) {B : Nat} (hb : Below B w w') (hB : b < B) : Blk w' b cs t := by
  unfold Blk at *; rw [hb.block b hB]; exact h

/-- A cell is there. -/
theorem Blk.there {w : World} {b : Nat} {cs : List Value} {t : TypeId} (h : Blk w b cs t) {i : Nat} (hi : i < cs.length) : ∃ v, w.cell? ⟨b, i, none⟩ = some v :=
  ⟨cs[i], by rw [h.cell]; exact List.getElem?_eq_getElem hi⟩

/-! ### Filling a row from its front -/
theorem set1 (l rest : List Value) (r v : Value) {m : Nat} (hm : m = l.length) : (l ++ r :: rest).set m v = l ++ v :: rest := by
  subst hm; simp

theorem Blk.fill1 {w : World} {b : Nat} {l rest : List Value} {t : TypeId} (h : Blk w b (l ++ rest) t) {m : Nat} (hm : m = l.length) (hr : 1 ≤ rest.length) (v : Value) :
    Blk (w.setCell ⟨b, m, none⟩ v) b ((l ++ [v]) ++ rest.drop 1) t := by
  match rest, hr with
  | r :: rest, _ => have := h.set m v; rw [set1 _ _ _ _ hm] at this; simpa using this

theorem Blk.fill2 {w : World} {b : Nat} {l rest : List Value} {t : TypeId} (h : Blk w b (l ++ rest) t) {m : Nat} (hm : m = l.length) (hr : 2 ≤ rest.length) (v0 v1 : Value) :
    Blk ((w.setCell ⟨b, m, none⟩ v0).setCell ⟨b, m + 1, none⟩ v1) b ((l ++ [v0, v1]) ++ rest.drop 2) t := by
  have h1 := h.fill1 hm (by omega) v0
  have h2 := h1.fill1 (m := m + 1) (by simp [hm]) (by simp; omega) v1
  simpa using h2

theorem Blk.fill5 {w : World} {b : Nat} {l rest : List Value} {t : TypeId} (h : Blk w b (l ++ rest) t) {m : Nat} (hm : m = l.length) (hr : 5 ≤ rest.length) (v0 v1 v2 v3 v4 : Value) :
    Blk (((((w.setCell ⟨b, m, none⟩ v0).setCell ⟨b, m + 1, none⟩ v1).setCell ⟨b, m + 2, none⟩ v2).setCell ⟨b, m + 3, none⟩ v3).setCell ⟨b, m + 4, none⟩ v4) b ((l ++ [v0, v1, v2, v3, v4]) ++ rest.drop 5) t := by
  have h1 := h.fill2 hm (by omega) v0 v1
  have h2 := h1.fill2 (m := m + 2) (by simp [hm]) (by simp; omega) v2 v3
  have h3 := h2.fill1 (m := m + 4) (by simp [hm]) (by simp; omega) v4
  simpa using h3

/-! ### Slices that are read -/
def Seg (w : World) (a : Option Addr) (cs : List Value) : Prop :=
  cs = [] ∨ ∃ b off, a = some ⟨b, off, none⟩ ∧ b < w.heap.size ∧ ∀ i, i < cs.length → w.cell? ⟨b, off + i, none⟩ = cs[i]?

theorem Seg.nil (w : World) (a : Option Addr) : Seg w a [] := .inl rfl

theorem Seg.below {w w' : World} {a : Option Addr} {cs : List Value} (h : Seg w a cs) (hb : Below w.heap.size w w') : Seg w' a cs := by
  rcases h with h | ⟨b, off, ha, hlt, hc⟩
  · exact .inl h
  · exact .inr ⟨b, off, ha, Nat.lt_of_lt_of_le hlt hb.size, fun i hi => by rw [hb.cell (p := ⟨b, off + i, none⟩) hlt]; exact hc i hi⟩

/-- A slice that is a whole block of its own (or is empty). -/
def Own (w : World) (B : Nat) (a : Option Addr) (cs : List Value) (t : TypeId) : Prop :=
  cs = [] ∨ ∃ g, B ≤ g ∧ a = some ⟨g, 0, none⟩ ∧ Blk w g cs t

theorem Own.nil (w : World) (B : Nat) (a : Option Addr) (t : TypeId) : Own w B a [] t := .inl rfl

theorem Own.seg {w : World} {B : Nat} {a : Option Addr} {cs : List Value} {t : TypeId} (h : Own w B a cs t) : Seg w a cs := by
  rcases h with h | ⟨g, _, ha, hb⟩
  · exact .inl h
  · exact .inr ⟨g, 0, ha, hb.lt, fun i _ => by rw [Nat.zero_add]; exact hb.cell i⟩

theorem Own.below {w w' : World} {B : Nat} {a : Option Addr} {cs : List Value} {t : TypeId} (h : Own w B a cs t) (hb : Below w.heap.size w w') : Own w' B a cs t := by
  rcases h with h | ⟨g, hg, ha, hk⟩
  · exact .inl h
  · exact .inr ⟨g, hg, ha, hk.below hb hk.lt⟩

theorem Own.mono {w : World} {B B' : Nat} {a : Option Addr} {cs : List Value} {t : TypeId} (h : Own w B a cs t) (hB : B' ≤ B) : Own w B' a cs t := by
  rcases h with h | ⟨g, hg, ha, hk⟩
  · exact .inl h
  · exact .inr ⟨g, Nat.le_trans hB hg, ha, hk⟩

/-- Two calls one behind the other, neither of which turned anything old. -/
theorem Below.both {w w1 w2 : World} (h : Below w.heap.size w w1) (k : Below w1.heap.size w1 w2) : Below w.heap.size w w2 := h.trans (k.mono h.size)

/-! ### What a number is that fits an int64 -/
def InR (x : Int) : Prop := -9223372036854775808 ≤ x ∧ x ≤ 9223372036854775807

end Go.Proofs.Yahaaw
