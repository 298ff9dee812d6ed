/-
  DERIVED. The arguments opened: a slice of laws.ROp (type 45), of laws.SOp (28), of int64 (24), of bytes (22).
-/
import Derived.Test.YahaawData
import Derived.Test.YahaawRows
import Derived.ProofKit
import Derived.OpenShut
import Derived.ShutString
import Derived.ChangeOld
import Derived.Deep.Slices
namespace Go.Proofs.Yahaaw
open Go.RowKit Go.ChangeShapes Go.WideShapes Go.ChangeAt

theorem list_of {α : Type} (p : Nat → α → Prop) : ∀ n : Nat, (∀ i, i < n → ∃ x, p i x) → ∃ l : List α, l.length = n ∧ ∀ i x, l[i]? = some x → p i x
  | 0, _ => ⟨[], rfl, fun i x h => by simp at h⟩
  | n + 1, h => by
    obtain ⟨l, hl, hp⟩ := list_of p n (fun i hi => h i (by omega))
    obtain ⟨x, hx⟩ := h n (by omega)
    refine ⟨l ++ [x], by simp [hl], fun i y hy => ?_⟩
    by_cases hi : i < l.length
    · rw [List.getElem?_append_left hi] at hy; exact hp i y hy
    · have : i = l.length := by have := lt_of_get hy; simp at this; omega
      subst this
      simp at hy
      subst hy hl
      exact hx

theorem inR_of_wf {n : Int} (h : (Lit.int .i64 n).wf = true) : InR n := by
  have := bounds_i64 h
  exact ⟨by omega, by omega⟩

theorem mapM_some {α β : Type} {f : α → Option β} : ∀ {l : List α} {r : List β}, l.mapM f = some r → ∀ (i : Nat) (x : α), l[i]? = some x → ∃ y, r[i]? = some y ∧ f x = some y
  | [], r, _, i, x, hx => by simp at hx
  | a :: l, r, h, i, x, hx => by
    rw [List.mapM_cons] at h
    cases hf : f a with
    | none => simp [hf] at h
    | some b =>
      cases hl : l.mapM f with
      | none => simp [hf, hl] at h
      | some bs =>
        simp [hf, hl] at h
        subst h
        cases i with
        | zero => simp at hx; subst hx; exact ⟨b, rfl, hf⟩
        | succ i => simp at hx; obtain ⟨y, hy, he⟩ := mapM_some hl i x hx; exact ⟨y, by simpa using hy, he⟩

theorem cells_at {w : World} {base : Nat} {a : Addr} {n : Nat} {cs : List Value} (h : w.cells? base a n = some cs) : ∀ j, j < n → w.cell? (a.add j) = cs[j]? := by
  unfold World.cells? at h
  split at h
  · intro j hj
    obtain ⟨y, hy, he⟩ := mapM_some h j j (by rw [List.getElem?_range hj])
    rw [he, hy]
  · cases h

theorem spot_none {w : World} {a : Addr} {v : Value} (h : w.cell? a = some v) : a = ⟨a.block, a.off, none⟩ ∧ a.block < w.heap.size := by
  refine ⟨?_, World.block_lt_of_cell? w a h⟩
  obtain ⟨b, off, spot⟩ := a
  cases spot with
  | none => rfl
  | some s => exfalso; revert h; unfold World.cell?; simp; split <;> simp

theorem add_plain (b off j : Nat) : (⟨b, off, none⟩ : Addr).add j = ⟨b, off + j, none⟩ := by unfold Addr.add; split <;> simp_all

/-- From the elements' cells to a segment. -/
theorem seg_of {w : World} {a : Addr} {size : Nat} {elems : List (List Value)} (hsz : 0 < size) (hl : ∀ e ∈ elems, e.length = size)
    (h : ∀ i e, elems[i]? = some e → ∀ j, j < size → w.cell? ((a.add (i * size)).add j) = e[j]?) : Seg w (some a) elems.flatten := by
  by_cases h0 : elems = []
  · subst h0; exact .inl rfl
  · right
    obtain ⟨e0, he0⟩ : ∃ e0, elems[0]? = some e0 := by
      cases elems with
      | nil => exact absurd rfl h0
      | cons e _ => exact ⟨e, rfl⟩
    have hc0 := h 0 e0 he0 0 hsz
    have hle := hl e0 (mem_of_get he0)
    have : a.add (0 * size) = a := by simp [Addr.add]
    rw [this] at hc0
    have : a.add 0 = a := by simp [Addr.add]
    rw [this, List.getElem?_eq_getElem (by omega)] at hc0
    obtain ⟨ha, hb⟩ := spot_none hc0
    refine ⟨a.block, a.off, congrArg some ha, hb, ?_⟩
    have key : ∀ (es : List (List Value)) (k : Nat), (∀ e ∈ es, e.length = size) → (∀ i e, es[i]? = some e → ∀ j, j < size → w.cell? ⟨a.block, a.off + ((k + i) * size + j), none⟩ = e[j]?) →
        ∀ i, i < es.flatten.length → w.cell? ⟨a.block, a.off + (k * size + i), none⟩ = es.flatten[i]? := by
      intro es
      induction es with
      | nil => intro k _ _ i hi; simp at hi
      | cons e es ih =>
        intro k hl' hh i hi
        have hel := hl' e (by simp)
        simp only [List.flatten_cons]
        by_cases hlt : i < size
        · rw [List.getElem?_append_left (by omega)]
          have := hh 0 e rfl i hlt
          simpa using this
        · rw [List.getElem?_append_right (by omega), hel]
          have := ih (k + 1) (fun e he => hl' e (by simp [he])) (fun i e he j hj => by
            have := hh (i + 1) e (by simpa using he) j hj
            rw [show k + 1 + i = k + (i + 1) by omega]; exact this) (i - size) (by rw [List.flatten_cons, List.length_append, hel] at hi; omega)
          rw [← this, Nat.add_mul]
          congr 2
          omega
    intro i hi
    have := key elems 0 hl (fun i e he j hj => by
      have := h i e he j hj
      rw [ha, add_plain, add_plain] at this
      rw [Nat.zero_add, ← Nat.add_assoc]; exact this) i hi
    simpa using this

theorem Yaav.cells97 : Yaav.prog.cellsOf 97 = 5 := by kernel_rfl
theorem Yaav.cells74 : Yaav.prog.cellsOf 74 = 2 := by kernel_rfl
theorem Yaav.cells3 : Yaav.prog.cellsOf 3 = 1 := by kernel_rfl
theorem Yaav.cells2 : Yaav.prog.cellsOf 2 = 1 := by kernel_rfl


section
variable {H : Type} {enc : TypeId × Value → H} {w : World}
set_option maxRecDepth 100000 in
theorem openR_elem {n : Nat} {cs : List Value} {x : DataW H × List MemPlace} (h : DataW.trod enc Yaav.prog w 0 (fun _ => true) true n 97 cs = some x) :
    ∃ p : RO, cs = rCells [p] ∧ WfR [p] := by
  obtain ⟨xs, m, _, _, hlen, hxl, hf⟩ := DataW.trod_struct Yaav.underlying97 h
  rw [Yaav.cells97] at hlen
  match cs, hlen, xs, hxl with
  | [c0, c1, c2, c3, c4], _, [y0, y1, y2, y3, y4], _ =>
    have g0 : DataW.trod enc Yaav.prog w 0 (fun _ => true) true m 3 [c0] = some y0 := by
      have := hf 0 _ rfl
      simpa [Yaav.cells3] using this
    obtain ⟨n0, e0, _, w0⟩ := DataW.trod_int Yaav.underlying3 g0
    simp only [List.cons.injEq, and_true] at e0
    subst e0
    have g1 : DataW.trod enc Yaav.prog w 0 (fun _ => true) true m 3 [c1] = some y1 := by
      have := hf 1 _ rfl
      simpa [Yaav.cells3] using this
    obtain ⟨n1, e1, _, w1⟩ := DataW.trod_int Yaav.underlying3 g1
    simp only [List.cons.injEq, and_true] at e1
    subst e1
    have g2 : DataW.trod enc Yaav.prog w 0 (fun _ => true) true m 3 [c2] = some y2 := by
      have := hf 2 _ rfl
      simpa [Yaav.cells3] using this
    obtain ⟨n2, e2, _, w2⟩ := DataW.trod_int Yaav.underlying3 g2
    simp only [List.cons.injEq, and_true] at e2
    subst e2
    have g3 : DataW.trod enc Yaav.prog w 0 (fun _ => true) true m 3 [c3] = some y3 := by
      have := hf 3 _ rfl
      simpa [Yaav.cells3] using this
    obtain ⟨n3, e3, _, w3⟩ := DataW.trod_int Yaav.underlying3 g3
    simp only [List.cons.injEq, and_true] at e3
    subst e3
    have g4 : DataW.trod enc Yaav.prog w 0 (fun _ => true) true m 2 [c4] = some y4 := by
      have := hf 4 _ rfl
      simpa [Yaav.cells2] using this
    obtain ⟨n4, e4, _, w4⟩ := DataW.trod_int Yaav.underlying2 g4
    simp only [List.cons.injEq, and_true] at e4
    subst e4
    exact ⟨⟨n0, n1, n2, n3, n4⟩, rfl, fun p hp => by simp at hp; subst hp; exact ⟨inR_of_wf w0, inR_of_wf w1, inR_of_wf w2, inR_of_wf w3, inR_of_wf w4⟩⟩

theorem openR {a : Option Addr} {len cap : Nat} {d : DataW H} {p : List MemPlace} (h : DataW.Trod enc Yaav.prog w 0 (fun _ => true) true 45 (.slice a len cap) d p) :
    ∃ ps : List RO, ps.length = len ∧ len ≤ cap ∧ cap ≤ maxLen ∧ Seg w a (rCells ps) ∧ WfR ps := by
  obtain ⟨fuel, hf⟩ := h
  rcases Go.Deep.open_slice Yaav.underlying45 hf with ⟨hcs, _⟩ | ⟨a', len', cap', m, n, D, Pl, hcs, _, hl, hm, hmm, _, hel⟩
  · simp [Value.cells] at hcs
    obtain ⟨rfl, rfl, rfl⟩ := hcs
    exact ⟨[], rfl, Nat.le_refl _, by simp, .inl rfl, fun p hp => by simp at hp⟩
  · simp [Value.cells] at hcs
    obtain ⟨rfl, rfl, rfl⟩ := hcs
    simp only [if_true] at hmm
    subst hmm
    rw [Yaav.cells97] at hel
    obtain ⟨ps, hpl, hps⟩ := list_of (fun i (q : RO) => w.cells? 0 (a'.add (i * 5)) 5 = some (rCells [q]) ∧ WfR [q]) len (fun i hi => by
      obtain ⟨cs', h1, h2⟩ := hel i (by omega)
      obtain ⟨q, rfl, hq⟩ := openR_elem h2
      exact ⟨q, h1, hq⟩)
    refine ⟨ps, hpl, hl, hm, ?_, fun q hq => ?_⟩
    · have := seg_of (w := w) (a := a') (size := 5) (elems := ps.map fun q => rCells [q]) (by omega) (fun e he => by
        obtain ⟨q, _, rfl⟩ := List.mem_map.1 he; rfl) (fun i e he j hj => by
        rw [List.getElem?_map] at he
        cases hq : ps[i]? with
        | none => rw [hq] at he; cases he
        | some q =>
          rw [hq] at he
          simp at he
          subst he
          exact cells_at (hps i q hq).1 j hj)
      have e : (ps.map fun q => rCells [q]).flatten = rCells ps := by
        clear this hps hpl
        induction ps with
        | nil => rfl
        | cons q ps ih => rw [List.map_cons, List.flatten_cons, ih, ← rCells_app]; rfl
      rw [e] at this
      exact this
    · obtain ⟨i, hi, rfl⟩ := List.getElem_of_mem hq
      exact (hps i _ (List.getElem?_eq_getElem hi)).2 _ (by simp)
end

section
variable {H : Type} {enc : TypeId × Value → H} {w : World}
set_option maxRecDepth 100000 in
theorem openS_elem {n : Nat} {cs : List Value} {x : DataW H × List MemPlace} (h : DataW.trod enc Yaav.prog w 0 (fun _ => true) true n 74 cs = some x) :
    ∃ p : SO, cs = sCells [p] ∧ WfS [p] := by
  obtain ⟨xs, m, _, _, hlen, hxl, hf⟩ := DataW.trod_struct Yaav.underlying74 h
  rw [Yaav.cells74] at hlen
  match cs, hlen, xs, hxl with
  | [c0, c1], _, [y0, y1], _ =>
    have g0 : DataW.trod enc Yaav.prog w 0 (fun _ => true) true m 3 [c0] = some y0 := by
      have := hf 0 _ rfl
      simpa [Yaav.cells3] using this
    obtain ⟨n0, e0, _, w0⟩ := DataW.trod_int Yaav.underlying3 g0
    simp only [List.cons.injEq, and_true] at e0
    subst e0
    have g1 : DataW.trod enc Yaav.prog w 0 (fun _ => true) true m 2 [c1] = some y1 := by
      have := hf 1 _ rfl
      simpa [Yaav.cells2] using this
    obtain ⟨n1, e1, _, w1⟩ := DataW.trod_int Yaav.underlying2 g1
    simp only [List.cons.injEq, and_true] at e1
    subst e1
    exact ⟨⟨n0, n1⟩, rfl, fun p hp => by simp at hp; subst hp; exact ⟨inR_of_wf w0, inR_of_wf w1⟩⟩

theorem openS {a : Option Addr} {len cap : Nat} {d : DataW H} {p : List MemPlace} (h : DataW.Trod enc Yaav.prog w 0 (fun _ => true) true 28 (.slice a len cap) d p) :
    ∃ ps : List SO, ps.length = len ∧ len ≤ cap ∧ cap ≤ maxLen ∧ Seg w a (sCells ps) ∧ WfS ps := by
  obtain ⟨fuel, hf⟩ := h
  rcases Go.Deep.open_slice Yaav.underlying28 hf with ⟨hcs, _⟩ | ⟨a', len', cap', m, n, D, Pl, hcs, _, hl, hm, hmm, _, hel⟩
  · simp [Value.cells] at hcs
    obtain ⟨rfl, rfl, rfl⟩ := hcs
    exact ⟨[], rfl, Nat.le_refl _, by simp, .inl rfl, fun p hp => by simp at hp⟩
  · simp [Value.cells] at hcs
    obtain ⟨rfl, rfl, rfl⟩ := hcs
    simp only [if_true] at hmm
    subst hmm
    rw [Yaav.cells74] at hel
    obtain ⟨ps, hpl, hps⟩ := list_of (fun i (q : SO) => w.cells? 0 (a'.add (i * 2)) 2 = some (sCells [q]) ∧ WfS [q]) len (fun i hi => by
      obtain ⟨cs', h1, h2⟩ := hel i (by omega)
      obtain ⟨q, rfl, hq⟩ := openS_elem h2
      exact ⟨q, h1, hq⟩)
    refine ⟨ps, hpl, hl, hm, ?_, fun q hq => ?_⟩
    · have := seg_of (w := w) (a := a') (size := 2) (elems := ps.map fun q => sCells [q]) (by omega) (fun e he => by
        obtain ⟨q, _, rfl⟩ := List.mem_map.1 he; rfl) (fun i e he j hj => by
        rw [List.getElem?_map] at he
        cases hq : ps[i]? with
        | none => rw [hq] at he; cases he
        | some q =>
          rw [hq] at he
          simp at he
          subst he
          exact cells_at (hps i q hq).1 j hj)
      have e : (ps.map fun q => sCells [q]).flatten = sCells ps := by
        clear this hps hpl
        induction ps with
        | nil => rfl
        | cons q ps ih => rw [List.map_cons, List.flatten_cons, ih, ← sCells_app]; rfl
      rw [e] at this
      exact this
    · obtain ⟨i, hi, rfl⟩ := List.getElem_of_mem hq
      exact (hps i _ (List.getElem?_eq_getElem hi)).2 _ (by simp)
end

section
variable {H : Type} {enc : TypeId × Value → H} {w : World}
theorem openI {a : Option Addr} {len cap : Nat} {d : DataW H} {p : List MemPlace} (h : DataW.Trod enc Yaav.prog w 0 (fun _ => true) true 24 (.slice a len cap) d p) :
    ∃ xs : List Int, xs.length = len ∧ len ≤ cap ∧ cap ≤ maxLen ∧ Seg w a (iCells xs) ∧ WfI xs := by
  obtain ⟨fuel, hf⟩ := h
  rcases open_ints Yaav.underlying24 Yaav.underlying2 Yaav.cells2 hf with ⟨hcs, _⟩ | ⟨a', len', cap', zs, hcs, _, hl, hm, hz, _, hcell, hwz⟩
  · simp [Value.cells] at hcs
    obtain ⟨rfl, rfl, rfl⟩ := hcs
    exact ⟨[], rfl, Nat.le_refl _, by simp, .inl rfl, fun p hp => by simp at hp⟩
  · simp [Value.cells] at hcs
    obtain ⟨rfl, rfl, rfl⟩ := hcs
    simp only [if_true] at hz
    refine ⟨zs.take len, by simp; omega, hl, hm, ?_, fun x hx => inR_of_wf (hwz x (List.mem_of_mem_take hx))⟩
    have := seg_of (w := w) (a := a') (size := 1) (elems := (zs.take len).map fun z => [Value.int .i64 z]) (by omega) (fun e he => by
        obtain ⟨q, _, rfl⟩ := List.mem_map.1 he; rfl) (fun i e he j hj => by
        have hj0 : j = 0 := by omega
        subst hj0
        have hil := lt_of_get he
        simp at hil
        rw [List.getElem?_map, List.getElem?_take, if_pos (by omega), List.getElem?_eq_getElem (by omega)] at he
        simp at he
        subst he
        have := hcell i (by omega)
        have e0 : (a'.add (i * 1)).add 0 = a'.add i := by simp [Addr.add]
        rw [e0, this]
        simp [List.getElem?_eq_getElem (show i < zs.length by omega)])
    have e : ((zs.take len).map fun z => [Value.int .i64 z]).flatten = iCells (zs.take len) := by
      clear this
      generalize zs.take len = ys
      induction ys with
      | nil => rfl
      | cons q ys ih => rw [List.map_cons, List.flatten_cons, ih]; rfl
    rw [e] at this
    exact this
end

end Go.Proofs.Yahaaw
