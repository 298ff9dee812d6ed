/-
  DERIVED. WALKS: laws.toImplSOps (25), fromImplSOps (16), toImplROps (33), fromImplROps (28), copyInts (31).
-/
import Derived.Test.YahaawRows
import Derived.Test.YahaawData
namespace Go.Proofs.Yahaaw
open Go.RowKit

theorem Yaav.info73 : (Yaav.prog.info? 73).map (fun i => (i.zero, i.size, i.bytes)) = some (some (.agg #[.int .i64 0, .int .i64 0]), 2, 16) := by kernel_rfl
theorem Yaav.info74 : (Yaav.prog.info? 74).map (fun i => (i.zero, i.size, i.bytes)) = some (some (.agg #[.int .i64 0, .int .i64 0]), 2, 16) := by kernel_rfl
theorem Yaav.info81 : (Yaav.prog.info? 81).map (fun i => (i.zero, i.size, i.bytes)) = some (some (.agg #[.int .i64 0, .int .i64 0, .int .i64 0, .int .i64 0, .int .i64 0]), 5, 40) := by kernel_rfl
theorem Yaav.info97 : (Yaav.prog.info? 97).map (fun i => (i.zero, i.size, i.bytes)) = some (some (.agg #[.int .i64 0, .int .i64 0, .int .i64 0, .int .i64 0, .int .i64 0]), 5, 40) := by kernel_rfl
theorem Yaav.info2 : (Yaav.prog.info? 2).map (fun i => (i.zero, i.size, i.bytes)) = some (some (.int .i64 0), 1, 8) := by kernel_rfl
theorem Yaav.info3 : (Yaav.prog.info? 3).map (fun i => (i.zero, i.size, i.bytes)) = some (some (.int .i64 0), 1, 8) := by kernel_rfl

/-- The cells of a new row. -/
def zc (z : Array Value) (m : Nat) : Array Value := madeCells z m
theorem zc_len (z : Array Value) (m : Nat) : (zc z m).toList.length = m := by simp [zc, size_madeCells]

theorem mk_run {t e : TypeId} {z : Value} {size bytes : Nat} (hu : Yaav.prog.underlying t = some (.slice e)) (hin : (Yaav.prog.info? e).map (fun i => (i.zero, i.size, i.bytes)) = some (some z, size, bytes))
    (n c : Nat) (hnc : n ≤ c) (hb : bytes * c ≤ 281474976710656) (h63 : c ≤ 9223372036854775807) (w : World) :
    (Instr.makeSlice t (.int .i64 n) (.int .i64 c)).run Yaav.prog w = .ok (.slice (some ⟨w.heap.size, 0, none⟩) n c) (w.alloc (.cells (zc z.cells (c * size)) e)) := by
  obtain ⟨i0, hi, hz0, hz1, hz2⟩ := info_parts hin
  have hb' : (bytes : Int) * (c : Int) ≤ 281474976710656 := by
    have h : ((bytes * c : Nat) : Int) ≤ 281474976710656 := by omega
    rwa [Int.natCast_mul] at h
  have := run_make (P := Yaav.prog) w t e i0 _ hu hi hz0 .i64 .i64 n c (by omega) (by omega) (by rw [hz2]; exact hb') (by omega)
  simp only [Int.toNat_natCast, hz1] at this
  exact this

theorem Below.setCells2 {B : Nat} {a w : World} (h : Below B a w) {b m : Nat} (hp : B ≤ b) (u0 u1 : Value) : Below B a ((w.setCell ⟨b, m, none⟩ u0).setCell ⟨b, m + 1, none⟩ u1) :=
  (h.setCell (p := ⟨b, m, none⟩) hp u0).setCell (p := ⟨b, m + 1, none⟩) hp u1

theorem Below.setCells5 {B : Nat} {a w : World} (h : Below B a w) {b m : Nat} (hp : B ≤ b) (u0 u1 u2 u3 u4 : Value) :
    Below B a (((((w.setCell ⟨b, m, none⟩ u0).setCell ⟨b, m + 1, none⟩ u1).setCell ⟨b, m + 2, none⟩ u2).setCell ⟨b, m + 3, none⟩ u3).setCell ⟨b, m + 4, none⟩ u4) :=
  ((((h.setCell (p := ⟨b, m, none⟩) hp u0).setCell (p := ⟨b, m + 1, none⟩) hp u1).setCell (p := ⟨b, m + 2, none⟩) hp u2).setCell (p := ⟨b, m + 3, none⟩) hp u3).setCell (p := ⟨b, m + 4, none⟩) hp u4

/-- What a copying loop has done behind k rounds: the row of its own holds the first k elements' cells; nothing old has turned. -/
def Cp (w : World) (full : List Value) (t m : Nat) (wr : World) : Prop :=
  Below w.heap.size w wr ∧ ∃ rest, Blk wr w.heap.size (full.take m ++ rest) t ∧ m + rest.length = full.length

theorem Cp.start (w : World) (z : Array Value) (full : List Value) (t : Nat) (h : z.toList.length = full.length) : Cp w full t 0 (w.alloc (.cells z t)) :=
  ⟨(Below.refl _ _).alloc (Nat.le_refl _) _, z.toList, Blk.new' w z t, by omega⟩

theorem take_add_of {l : List Value} {m : Nat} {vs : List Value} (h : ∀ i, i < vs.length → l[m + i]? = vs[i]?) : l.take (m + vs.length) = l.take m ++ vs := by
  induction vs generalizing m with
  | nil => simp
  | cons v vs ih =>
    have h0 : l[m]? = some v := by have := h 0 (by simp); simpa using this
    have := ih (m := m + 1) (fun i hi => by have := h (i + 1) (by simp; omega); rw [show m + 1 + i = m + (i + 1) by omega]; simpa using this)
    rw [List.length_cons, show m + (vs.length + 1) = m + 1 + vs.length by omega, this, take_at h0]; simp

theorem Cp.store1 {w wr : World} {full : List Value} {t m : Nat} (h : Cp w full t m wr) {v0 : Value} (h0 : full[m]? = some v0) :
    Cp w full t (m + 1) (wr.setCell ⟨w.heap.size, m, none⟩ v0) := by
  obtain ⟨hb, rest, hk, hl⟩ := h
  have hm := lt_of_get h0
  refine ⟨hb.setCell (p := ⟨_, _, none⟩) (Nat.le_refl _) _, rest.drop 1, ?_, by simp; omega⟩
  rw [take_at h0]
  exact hk.fill1 (by simp; omega) (by omega) v0

theorem Cp.store2 {w wr : World} {full : List Value} {t m : Nat} (h : Cp w full t m wr) {v0 v1 : Value} (h0 : full[m]? = some v0) (h1 : full[m + 1]? = some v1) :
    Cp w full t (m + 2) ((wr.setCell ⟨w.heap.size, m, none⟩ v0).setCell ⟨w.heap.size, m + 1, none⟩ v1) := (h.store1 h0).store1 h1

theorem Cp.store5 {w wr : World} {full : List Value} {t m : Nat} (h : Cp w full t m wr) {v0 v1 v2 v3 v4 : Value} (h0 : full[m]? = some v0) (h1 : full[m + 1]? = some v1) (h2 : full[m + 2]? = some v2)
    (h3 : full[m + 3]? = some v3) (h4 : full[m + 4]? = some v4) :
    Cp w full t (m + 5) (((((wr.setCell ⟨w.heap.size, m, none⟩ v0).setCell ⟨w.heap.size, m + 1, none⟩ v1).setCell ⟨w.heap.size, m + 2, none⟩ v2).setCell ⟨w.heap.size, m + 3, none⟩ v3).setCell ⟨w.heap.size, m + 4, none⟩ v4) :=
  ((h.store2 h0 h1).store2 h2 h3).store1 h4

theorem Cp.drew {w wr : World} {full : List Value} {t m : Nat} (h : Cp w full t m wr) : Cp w full t m wr.drew := ⟨h.1.drew, h.2⟩

theorem Cp.there {w wr : World} {full : List Value} {t m : Nat} (h : Cp w full t m wr) {i : Nat} (hi : i < full.length) : ∃ v, wr.cell? ⟨w.heap.size, i, none⟩ = some v := by
  obtain ⟨_, rest, hk, hl⟩ := h
  exact hk.there (by simp; omega)

theorem Cp.frozen {w wr : World} {full : List Value} {t m : Nat} (h : Cp w full t m wr) (i : Nat) : wr.frozen? ⟨w.heap.size, i, none⟩ = false := by
  obtain ⟨_, rest, hk, hl⟩ := h
  exact hk.frozen i

theorem Cp.done {w wr : World} {full : List Value} {t m : Nat} (h : Cp w full t m wr) (hm : m = full.length) : Below w.heap.size w wr ∧ Own wr w.heap.size (some ⟨w.heap.size, 0, none⟩) full t := by
  obtain ⟨hb, rest, hk, hl⟩ := h
  have : rest = [] := List.length_eq_zero_iff.1 (by omega)
  subst this hm
  exact ⟨hb, .inr ⟨_, Nat.le_refl _, rfl, by simpa using hk⟩⟩

set_option maxRecDepth 100000 in
set_option maxHeartbeats 1000000 in
theorem toS_pos (a : Option Addr) (n cap : Nat) (nz : Bool) (ps : List SO) (w : World) (hn : ps.length = n) (hn1 : 0 < n) (hn2 : n ≤ 1099511627776) (hs : Seg w a (sCells ps)) :
    Calls Yaav.prog 25 #[.slice a n cap, .bool nz] w fun e w' => ∃ a', e = .returned (.slice a' n n) ∧ Below w.heap.size w w' ∧ Own w' w.heap.size a' (sCells ps) 73 := by
  have hmk := mk_run Yaav.underlying23 Yaav.info73 n n (Nat.le_refl _) (by omega) (by omega)
  have hlen := sCells_len ps
  have HS : Hid (Seg w a (sCells ps)) := hs
  clear hs
  have hnz : ((n : Int) == 0) = false := beq_eq_false_iff_ne.2 (by omega)
  go_enter Yaav.func25, Yaav.ntmps25
  go_wp2
  clear hmk
  go_loopw [6] (fun i wr => ∃ k : Nat, k ≤ n ∧ i = .int .i64 k ∧ Cp w (sCells ps) 73 (k * 2) wr) (fun i _ => n - (intOf i).toNat)
  case atStart => exact ⟨0, Nat.zero_le _, rfl, Cp.start _ _ _ _ (by rw [zc_len, hlen, hn])⟩
  case round =>
    obtain ⟨k, hk, rfl, hcp⟩ := hrel
    by_cases hlt : k < n
    · obtain ⟨x, hx⟩ := some_at (ps := ps) (k := k) (by omega)
      obtain ⟨b, off, rfl, hb, h1, h2⟩ := (HS.out.below hcp.1).s hx
      have f0 := hcp.frozen (k * 2)
      obtain ⟨v0, c0⟩ := hcp.there (i := k * 2) (by omega)
      have f1 := hcp.frozen (k * 2 + 1)
      obtain ⟨v1, c1⟩ := hcp.there (i := k * 2 + 1) (by omega)
      have HX : Hid (ps[k]? = some x) := hx
      have HC : Hid (Cp w (sCells ps) 73 (k * 2) wr) := hcp
      clear hx hcp hlen hn
      go_wp2
      go_region
      go_wp2
      go_roundw
      case rel => exact ⟨k + 1, by omega, by go_num, by rw [show (k + 1) * 2 = k * 2 + 2 by omega]; exact (HC.out.store2 (sCells_get HX.out).1 (sCells_get HX.out).2).drew⟩
      case measure => simp [intOf]; omega
    · go_wp2
      go_ret
      obtain ⟨hb, ho⟩ := hcp.done (by omega)
      exact ⟨_, rfl, hb, ho⟩

set_option maxRecDepth 100000 in
set_option maxHeartbeats 400000 in
theorem toS_zero (a : Option Addr) (cap : Nat) (nz : Bool) (w : World) :
    Calls Yaav.prog 25 #[.slice a 0 cap, .bool nz] w fun e w' => ∃ a', e = .returned (.slice a' 0 0) ∧ Below w.heap.size w w' ∧ Own w' w.heap.size a' (sCells []) 73 := by
  cases nz
  · go_enter Yaav.func25, Yaav.ntmps25
    go_wp2
    go_ret
    exact ⟨_, rfl, (Below.refl _ _).alloc (Nat.le_refl _) _, Own.nil _ _ _ _⟩
  · go_enter Yaav.func25, Yaav.ntmps25
    go_wp2
    go_ret
    exact ⟨_, rfl, Below.refl _ _, Own.nil _ _ _ _⟩

theorem toS (a : Option Addr) (n cap : Nat) (nz : Bool) (ps : List SO) (w : World) (hn : ps.length = n) (hn2 : n ≤ 1099511627776) (hs : Seg w a (sCells ps)) :
    Calls Yaav.prog 25 #[.slice a n cap, .bool nz] w fun e w' => ∃ a', e = .returned (.slice a' n n) ∧ Below w.heap.size w w' ∧ Own w' w.heap.size a' (sCells ps) 73 := by
  by_cases h : 0 < n
  · exact toS_pos a n cap nz ps w hn h hn2 hs
  · have h0 : ps = [] := List.length_eq_zero_iff.1 (by omega)
    have h1 : n = 0 := by omega
    subst h0 h1
    exact toS_zero a cap nz w

set_option maxRecDepth 100000 in
set_option maxHeartbeats 1000000 in
theorem fromS (a : Option Addr) (n cap : Nat) (ps : List SO) (w : World) (hn : ps.length = n) (hn2 : n ≤ 1099511627776) (hs : Seg w a (sCells ps)) :
    Calls Yaav.prog 16 #[.slice a n cap] w fun e w' => ∃ a', e = .returned (.slice a' n n) ∧ Below w.heap.size w w' ∧ Own w' w.heap.size a' (sCells ps) 74 := by
  have hmk := mk_run Yaav.underlying28 Yaav.info74 n n (Nat.le_refl _) (by omega) (by omega)
  have hlen := sCells_len ps
  have HS : Hid (Seg w a (sCells ps)) := hs
  clear hs
  go_enter Yaav.func16, Yaav.ntmps16
  go_wp2
  clear hmk
  go_loopw [4] (fun i wr => ∃ k : Nat, k ≤ n ∧ i = .int .i64 k ∧ Cp w (sCells ps) 74 (k * 2) wr) (fun i _ => n - (intOf i).toNat)
  case atStart => exact ⟨0, Nat.zero_le _, rfl, Cp.start _ _ _ _ (by rw [zc_len, hlen, hn])⟩
  case round =>
    obtain ⟨k, hk, rfl, hcp⟩ := hrel
    by_cases hlt : k < n
    · obtain ⟨x, hx⟩ := some_at (ps := ps) (k := k) (by omega)
      obtain ⟨b, off, rfl, hb, h1, h2⟩ := (HS.out.below hcp.1).s hx
      have f0 := hcp.frozen (k * 2)
      obtain ⟨v0, c0⟩ := hcp.there (i := k * 2) (by omega)
      have f1 := hcp.frozen (k * 2 + 1)
      obtain ⟨v1, c1⟩ := hcp.there (i := k * 2 + 1) (by omega)
      have HX : Hid (ps[k]? = some x) := hx
      have HC : Hid (Cp w (sCells ps) 74 (k * 2) wr) := hcp
      clear hx hcp hlen hn
      go_wp2
      go_region
      go_wp2
      go_roundw
      case rel => exact ⟨k + 1, by omega, by go_num, by rw [show (k + 1) * 2 = k * 2 + 2 by omega]; exact (HC.out.store2 (sCells_get HX.out).1 (sCells_get HX.out).2).drew⟩
      case measure => simp [intOf]; omega
    · go_wp2
      go_ret
      obtain ⟨hb, ho⟩ := hcp.done (by omega)
      exact ⟨_, rfl, hb, ho⟩

end Go.Proofs.Yahaaw
