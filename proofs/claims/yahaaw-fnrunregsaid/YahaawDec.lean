/-
  DERIVED. WALKS: spec.Dec (63), spec.reg (72), impl.itoa (74), impl.reg (73): the decimal text of an int64.
-/
import Derived.Test.YahaawFlip
namespace Go.Proofs.Yahaaw
open Go.RowKit

/-- The decimal digits of u, as bytes (nothing for 0). -/
def decL : Nat → Nat → List Int
  | 0, _ => []
  | f + 1, u => if u = 0 then [] else decL f (u / 10) ++ [48 + ((u % 10 : Nat) : Int)]

/-- What the loop holds: at position j, u is left, ds is written. -/
def DecAt (u0 u j : Nat) (ds : List Int) : Prop := ds.length + j = 24 ∧ 4 ≤ j ∧ u * 10 ^ (24 - j) ≤ u0 ∧ u0 < 18446744073709551616 ∧ decL (j + 1) u ++ ds = decL 25 u0

theorem DecAt.start {u0 : Nat} (h : u0 < 18446744073709551616) : DecAt u0 u0 24 [] := ⟨rfl, by omega, by simp, h, by simp⟩

theorem DecAt.low {u0 u j : Nat} {ds : List Int} (h : DecAt u0 u j ds) (hu : 0 < u) : 5 ≤ j := by
  obtain ⟨_, h4, hle, hlt, _⟩ := h
  by_cases h5 : 5 ≤ j
  · exact h5
  · have : j = 4 := by omega
    subst this
    have : u * 10 ^ 20 ≤ u0 := hle
    omega

theorem DecAt.step {u0 u j : Nat} {ds : List Int} (h : DecAt u0 u j ds) (hu : 0 < u) : DecAt u0 (u / 10) (j - 1) ((48 + ((u % 10 : Nat) : Int)) :: ds) := by
  have h5 := h.low hu
  obtain ⟨hl, h4, hle, hlt, heq⟩ := h
  refine ⟨by simp; omega, by omega, ?_, hlt, ?_⟩
  · have e : 24 - (j - 1) = (24 - j) + 1 := by omega
    rw [e, Nat.pow_succ, Nat.mul_comm (10 ^ (24 - j)) 10, ← Nat.mul_assoc]
    refine Nat.le_trans (Nat.mul_le_mul_right _ ?_) hle
    omega
  · rw [← heq, show j - 1 + 1 = j by omega]
    have : decL (j + 1) u = decL j (u / 10) ++ [48 + ((u % 10 : Nat) : Int)] := by rw [decL, if_neg (by omega)]
    rw [this]; simp

theorem DecAt.done {u0 j : Nat} {ds : List Int} (h : DecAt u0 0 j ds) : ds = decL 25 u0 := by
  have := h.2.2.2.2
  rw [decL, if_pos rfl] at this
  simpa using this

theorem DecAt.lt {u0 j : Nat} {ds : List Int} (h : DecAt u0 0 j ds) (h0 : 0 < u0) : j < 24 := by
  have hd := h.done
  have : decL 25 u0 = decL 24 (u0 / 10) ++ [48 + ((u0 % 10 : Nat) : Int)] := by rw [decL, if_neg (by omega)]
  rw [this] at hd
  have := h.1
  rw [hd] at this
  simp at this
  omega

/-- The decimal text. -/
def decI (v : Int) : List Int := if v = 0 then [48] else (if v < 0 then [45] else []) ++ decL 25 v.natAbs
def decS (v : Int) : ByteArray := strOfNums (decI v)

def u8Cells (xs : List Int) : List Value := xs.map (Value.int .u8)

theorem u8Cells_get {xs : List Int} {k : Nat} {x : Int} (hx : xs[k]? = some x) : (u8Cells xs)[k]? = some (.int .u8 x) := by simp [u8Cells, hx]
theorem u8Cells_len (xs : List Int) : (u8Cells xs).length = xs.length := by simp [u8Cells]

/-- The buffer: ds at its end, from j on. -/
def Buf (w : World) (g j : Nat) (ds : List Int) : Prop := ∃ pre, pre.length = j ∧ Blk w g (pre ++ u8Cells ds) 119

theorem Buf.put {w : World} {g j : Nat} {ds : List Int} (h : Buf w g j ds) (hj : 0 < j) (d : Int) : Buf (w.setCell ⟨g, j - 1, none⟩ (.int .u8 d)) g (j - 1) (d :: ds) := by
  obtain ⟨pre, hl, hb⟩ := h
  obtain ⟨pre', x, rfl⟩ : ∃ pre' x, pre = pre' ++ [x] := by
    rcases List.eq_nil_or_concat pre with h | ⟨l, x, h⟩
    · subst h; simp at hl; omega
    · exact ⟨l, x, by simpa using h⟩
  have hl' : pre'.length = j - 1 := by simp at hl; omega
  refine ⟨pre', hl', ?_⟩
  have hs := hb.set (j - 1) (.int .u8 d)
  simp only [List.append_assoc, List.cons_append, List.nil_append] at hs
  rw [set1 _ _ _ _ hl'.symm] at hs
  exact hs

theorem Buf.there {w : World} {g j : Nat} {ds : List Int} (h : Buf w g j ds) {i : Nat} (hi : i < j) : ∃ v, w.cell? ⟨g, i, none⟩ = some v := by
  obtain ⟨pre, hl, hb⟩ := h
  exact hb.there (by simp; omega)

theorem Buf.frozen {w : World} {g j : Nat} {ds : List Int} (h : Buf w g j ds) (i : Nat) : w.frozen? ⟨g, i, none⟩ = false := by
  obtain ⟨pre, hl, hb⟩ := h
  exact hb.frozen i

theorem Buf.at {w : World} {g j : Nat} {ds : List Int} (h : Buf w g j ds) (i : Nat) (hi : i < ds.length) : w.cell? ⟨g, j + i, none⟩ = some (.int .u8 (ds.getD i 0)) := by
  obtain ⟨pre, hl, hb⟩ := h
  rw [hb.cell, List.getElem?_append_right (by omega), hl, Nat.add_sub_cancel_left]
  rw [u8Cells_get (List.getElem?_eq_getElem hi)]
  simp [hi]

theorem sl119 (b i : Nat) (hi : i < 24) (w : World) : (Instr.sliceAt 119 (.pointer (some ⟨b, 0, none⟩)) (some (.int .i64 i)) none none).run Yaav.prog w = .ok (.slice (some ⟨b, i, none⟩) (24 - i) (24 - i)) w := by
  have ht : Yaav.prog.underlying 119 = some (.array (Yaav.prog.arrayLen 119) (Yaav.prog.elem 119)) := by kernel_rfl
  have h24 : Yaav.prog.arrayLen 119 = 24 := by kernel_rfl
  have hsz : ∀ w : World, (sizeOf (Yaav.prog.elem 119)).run Yaav.prog w = .ok 1 w := fun w => by kernel_rfl
  rw [run_sliceAt_array_l w 119 _ ht .i64 i (by omega) (by rw [h24]; omega), hsz, h24]
  simp only [Result.andThen, slicedAt, Int.toNat_natCast, Nat.mul_one]
  rw [if_neg (by omega)]
  simp only [Addr.add, Nat.zero_add]
  split <;> simp_all

theorem conv119 {w : World} {g j : Nat} {ds : List Int} (h : Buf w g j ds) (hl : ds.length = 24 - j) : (convert 22 9 (.slice (some ⟨g, j, none⟩) (24 - j) (24 - j))).run Yaav.prog w = .ok (.string (strOfNums ds)) w :=
  run_convert_bytes_arg w 22 5 Yaav.underlying22 Yaav.underlying5 g j (24 - j) (24 - j) ds hl (fun i hi => h.at i (by omega)) 9 Yaav.underlying9

set_option maxRecDepth 100000 in
set_option maxHeartbeats 400000 in
theorem dec_pos (V : Nat) (w : World) (hv : 0 < V) (hv2 : V ≤ 9223372036854775807) :
    Calls Yaav.prog 63 #[.int .i64 (V : Int)] w fun e w' => e = .returned (.string (strOfNums (decL 25 V))) ∧ Below w.heap.size w w' := by
  have h0 : ((V : Int) == 0) = false := beq_eq_false_iff_ne.2 (by omega)
  have h1 : decide ((V : Int) < 0) = false := by simp
  go_enter Yaav.func63, Yaav.ntmps63
  go_wp2
  go_loopw [4, 6] (fun u i wr => ∃ j U : Nat, ∃ ds, U ≤ 9223372036854775808 ∧ j ≤ 24 ∧ 4 ≤ j ∧ u = .int .u64 (U : Int) ∧ i = .int .i64 (j : Int) ∧ Below w.heap.size w wr ∧ DecAt V U j ds ∧ Buf wr w.heap.size j ds) (fun u _ _ => (intOf u).toNat)
  case atStart => exact ⟨24, V, [], by omega, by omega, by omega, by go_num, rfl, (Below.refl _ _).alloc (Nat.le_refl _) _, DecAt.start (by omega), ⟨_, rfl, by simpa [u8Cells] using Blk.new w _ 119⟩⟩
  case round =>
    obtain ⟨j, U, ds, hU, hj, hj4, rfl, rfl, hbel, hdec, hbuf⟩ := hrel
    by_cases hlt : 0 < U
    · have hj5 := hdec.low hlt
      obtain ⟨v0, c0⟩ := hbuf.there (i := j - 1) (by omega)
      have f0 := hbuf.frozen (j - 1)
      have HD : Hid (DecAt V U j ds) := hdec
      have HB : Hid (Buf wr w.heap.size j ds) := hbuf
      clear hdec hbuf
      go_wp2
      refine ⟨⟨j - 1, U / 10, _, by omega, by omega, by omega, by go_num, by go_num, hbel.setCell (p := ⟨_, _, none⟩) (Nat.le_refl _) _, HD.out.step hlt, ?_⟩, by simp [intOf]; omega⟩
      have := HB.out.put (by omega) (48 + ((U % 10 : Nat) : Int))
      simpa using this
    · have hU0 : U = 0 := by omega
      subst hU0
      have hj24 := hdec.lt (by omega)
      have hs := sl119 w.heap.size j (by omega) wr
      have hl : ds.length = 24 - j := by have := hdec.1; omega
      have hc := conv119 hbuf hl
      have HD : Hid (DecAt V 0 j ds) := hdec
      clear hdec hbuf hl
      go_wp2
      go_ret
      exact ⟨by rw [← HD.out.done]; rfl, hbel⟩

set_option maxRecDepth 100000 in
set_option maxHeartbeats 400000 in
theorem dec_neg (V : Nat) (w : World) (hv : 0 < V) (hv2 : V ≤ 9223372036854775808) :
    Calls Yaav.prog 63 #[.int .i64 (-(V : Int))] w fun e w' => e = .returned (.string (strOfNums (45 :: decL 25 V))) ∧ Below w.heap.size w w' := by
  have h0 : ((-(V : Int)) == 0) = false := beq_eq_false_iff_ne.2 (by omega)
  have h1 : decide (-(V : Int) < 0) = true := by simp; omega
  go_enter Yaav.func63, Yaav.ntmps63
  go_wp2
  go_loopw [4, 6] (fun u i wr => ∃ j U : Nat, ∃ ds, U ≤ 9223372036854775808 ∧ j ≤ 24 ∧ 4 ≤ j ∧ u = .int .u64 (U : Int) ∧ i = .int .i64 (j : Int) ∧ Below w.heap.size w wr ∧ DecAt V U j ds ∧ Buf wr w.heap.size j ds) (fun u _ _ => (intOf u).toNat)
  case atStart => exact ⟨24, V, [], by omega, by omega, by omega, by go_num, rfl, (Below.refl _ _).alloc (Nat.le_refl _) _, DecAt.start (by omega), ⟨_, rfl, by simpa [u8Cells] using Blk.new w _ 119⟩⟩
  case round =>
    obtain ⟨j, U, ds, hU, hj, hj4, rfl, rfl, hbel, hdec, hbuf⟩ := hrel
    by_cases hlt : 0 < U
    · have hj5 := hdec.low hlt
      obtain ⟨v0, c0⟩ := hbuf.there (i := j - 1) (by omega)
      have f0 := hbuf.frozen (j - 1)
      have HD : Hid (DecAt V U j ds) := hdec
      have HB : Hid (Buf wr w.heap.size j ds) := hbuf
      clear hdec hbuf
      go_wp2
      refine ⟨⟨j - 1, U / 10, _, by omega, by omega, by omega, by go_num, by go_num, hbel.setCell (p := ⟨_, _, none⟩) (Nat.le_refl _) _, HD.out.step hlt, ?_⟩, by simp [intOf]; omega⟩
      have := HB.out.put (by omega) (48 + ((U % 10 : Nat) : Int))
      simpa using this
    · have hU0 : U = 0 := by omega
      subst hU0
      have hj24 := hdec.lt (by omega)
      have hs : ∀ wx, _ := sl119 w.heap.size (j - 1) (by omega)
      have hl : (45 :: ds).length = 24 - (j - 1) := by have := hdec.1; simp; omega
      have hc := conv119 (hbuf.put (by omega) 45) hl
      have ej : ((j : Int) - 1) = ((j - 1 : Nat) : Int) := by omega
      rw [← ej] at hs
      obtain ⟨v0, c0⟩ := hbuf.there (i := j - 1) (by omega)
      have f0 := hbuf.frozen (j - 1)
      have HD : Hid (DecAt V 0 j ds) := hdec
      clear hdec hbuf hl ej
      go_wp2
      go_ret
      exact ⟨by rw [← HD.out.done]; rfl, hbel.setCell (p := ⟨_, _, none⟩) (Nat.le_refl _) _⟩

set_option maxRecDepth 100000 in
set_option maxHeartbeats 400000 in
theorem dec_zero (w : World) : Calls Yaav.prog 63 #[.int .i64 0] w fun e w' => e = .returned (.string ⟨#[48]⟩) ∧ Below w.heap.size w w' := by
  go_enter Yaav.func63, Yaav.ntmps63
  go_wp2
  go_ret
  exact ⟨rfl, Below.refl _ _⟩

theorem dec (v : Int) (w : World) (hv : InR v) : Calls Yaav.prog 63 #[.int .i64 v] w fun e w' => e = .returned (.string (decS v)) ∧ Below w.heap.size w w' := by
  unfold InR at hv
  rcases Int.lt_trichotomy v 0 with h | h | h
  · obtain ⟨V, hV⟩ := Int.eq_ofNat_of_zero_le (by omega : 0 ≤ -v)
    have e : v = -(V : Int) := by omega
    subst e
    have := dec_neg V w (by omega) (by omega)
    have e2 : decS (-(V : Int)) = strOfNums (45 :: decL 25 V) := by unfold decS decI; rw [if_neg (by omega), if_pos (by omega)]; simp
    rw [e2]; exact this
  · subst h
    have e2 : decS 0 = ⟨#[48]⟩ := by rfl
    rw [e2]; exact dec_zero w
  · obtain ⟨V, rfl⟩ := Int.eq_ofNat_of_zero_le (by omega : 0 ≤ v)
    have := dec_pos V w (by omega) (by omega)
    have e2 : decS (V : Int) = strOfNums (decL 25 V) := by unfold decS decI; rw [if_neg (by omega), if_neg (by omega)]; simp
    rw [e2]; exact this

set_option maxRecDepth 100000 in
set_option maxHeartbeats 400000 in
theorem itoa_pos (V : Nat) (w : World) (hv : 0 < V) (hv2 : V ≤ 9223372036854775807) :
    Calls Yaav.prog 74 #[.int .i64 (V : Int)] w fun e w' => e = .returned (.string (strOfNums (decL 25 V))) ∧ Below w.heap.size w w' := by
  have h0 : ((V : Int) == 0) = false := beq_eq_false_iff_ne.2 (by omega)
  have h1 : decide ((V : Int) < 0) = false := by simp
  go_enter Yaav.func74, Yaav.ntmps74
  go_wp2
  go_loopw [4, 6] (fun i u wr => ∃ j U : Nat, ∃ ds, U ≤ 9223372036854775808 ∧ j ≤ 24 ∧ 4 ≤ j ∧ u = .int .u64 (U : Int) ∧ i = .int .i64 (j : Int) ∧ Below w.heap.size w wr ∧ DecAt V U j ds ∧ Buf wr w.heap.size j ds) (fun _ u _ => (intOf u).toNat)
  case atStart => exact ⟨24, V, [], by omega, by omega, by omega, by go_num, rfl, (Below.refl _ _).alloc (Nat.le_refl _) _, DecAt.start (by omega), ⟨_, rfl, by simpa [u8Cells] using Blk.new w _ 119⟩⟩
  case round =>
    obtain ⟨j, U, ds, hU, hj, hj4, rfl, rfl, hbel, hdec, hbuf⟩ := hrel
    by_cases hlt : 0 < U
    · have hj5 := hdec.low hlt
      obtain ⟨v0, c0⟩ := hbuf.there (i := j - 1) (by omega)
      have f0 := hbuf.frozen (j - 1)
      have HD : Hid (DecAt V U j ds) := hdec
      have HB : Hid (Buf wr w.heap.size j ds) := hbuf
      clear hdec hbuf
      go_wp2
      refine ⟨⟨j - 1, U / 10, _, by omega, by omega, by omega, by go_num, by go_num, hbel.setCell (p := ⟨_, _, none⟩) (Nat.le_refl _) _, HD.out.step hlt, ?_⟩, by simp [intOf]; omega⟩
      have := HB.out.put (by omega) (48 + ((U % 10 : Nat) : Int))
      simpa using this
    · have hU0 : U = 0 := by omega
      subst hU0
      have hj24 := hdec.lt (by omega)
      have hs := sl119 w.heap.size j (by omega) wr
      have hl : ds.length = 24 - j := by have := hdec.1; omega
      have hc := conv119 hbuf hl
      have HD : Hid (DecAt V 0 j ds) := hdec
      clear hdec hbuf hl
      go_wp2
      go_ret
      exact ⟨by rw [← HD.out.done]; rfl, hbel⟩

set_option maxRecDepth 100000 in
set_option maxHeartbeats 400000 in
theorem itoa_neg (V : Nat) (w : World) (hv : 0 < V) (hv2 : V ≤ 9223372036854775808) :
    Calls Yaav.prog 74 #[.int .i64 (-(V : Int))] w fun e w' => e = .returned (.string (strOfNums (45 :: decL 25 V))) ∧ Below w.heap.size w w' := by
  have h0 : ((-(V : Int)) == 0) = false := beq_eq_false_iff_ne.2 (by omega)
  have h1 : decide (-(V : Int) < 0) = true := by simp; omega
  go_enter Yaav.func74, Yaav.ntmps74
  go_wp2
  go_loopw [4, 6] (fun i u wr => ∃ j U : Nat, ∃ ds, U ≤ 9223372036854775808 ∧ j ≤ 24 ∧ 4 ≤ j ∧ u = .int .u64 (U : Int) ∧ i = .int .i64 (j : Int) ∧ Below w.heap.size w wr ∧ DecAt V U j ds ∧ Buf wr w.heap.size j ds) (fun _ u _ => (intOf u).toNat)
  case atStart => exact ⟨24, V, [], by omega, by omega, by omega, by go_num, rfl, (Below.refl _ _).alloc (Nat.le_refl _) _, DecAt.start (by omega), ⟨_, rfl, by simpa [u8Cells] using Blk.new w _ 119⟩⟩
  case round =>
    obtain ⟨j, U, ds, hU, hj, hj4, rfl, rfl, hbel, hdec, hbuf⟩ := hrel
    by_cases hlt : 0 < U
    · have hj5 := hdec.low hlt
      obtain ⟨v0, c0⟩ := hbuf.there (i := j - 1) (by omega)
      have f0 := hbuf.frozen (j - 1)
      have HD : Hid (DecAt V U j ds) := hdec
      have HB : Hid (Buf wr w.heap.size j ds) := hbuf
      clear hdec hbuf
      go_wp2
      refine ⟨⟨j - 1, U / 10, _, by omega, by omega, by omega, by go_num, by go_num, hbel.setCell (p := ⟨_, _, none⟩) (Nat.le_refl _) _, HD.out.step hlt, ?_⟩, by simp [intOf]; omega⟩
      have := HB.out.put (by omega) (48 + ((U % 10 : Nat) : Int))
      simpa using this
    · have hU0 : U = 0 := by omega
      subst hU0
      have hj24 := hdec.lt (by omega)
      have hs : ∀ wx, _ := sl119 w.heap.size (j - 1) (by omega)
      have hl : (45 :: ds).length = 24 - (j - 1) := by have := hdec.1; simp; omega
      have hc := conv119 (hbuf.put (by omega) 45) hl
      have ej : ((j : Int) - 1) = ((j - 1 : Nat) : Int) := by omega
      rw [← ej] at hs
      obtain ⟨v0, c0⟩ := hbuf.there (i := j - 1) (by omega)
      have f0 := hbuf.frozen (j - 1)
      have HD : Hid (DecAt V 0 j ds) := hdec
      clear hdec hbuf hl ej
      go_wp2
      go_ret
      exact ⟨by rw [← HD.out.done]; rfl, hbel.setCell (p := ⟨_, _, none⟩) (Nat.le_refl _) _⟩

set_option maxRecDepth 100000 in
set_option maxHeartbeats 400000 in
theorem itoa_zero (w : World) : Calls Yaav.prog 74 #[.int .i64 0] w fun e w' => e = .returned (.string ⟨#[48]⟩) ∧ Below w.heap.size w w' := by
  go_enter Yaav.func74, Yaav.ntmps74
  go_wp2
  go_ret
  exact ⟨rfl, Below.refl _ _⟩

theorem itoa (v : Int) (w : World) (hv : InR v) : Calls Yaav.prog 74 #[.int .i64 v] w fun e w' => e = .returned (.string (decS v)) ∧ Below w.heap.size w w' := by
  unfold InR at hv
  rcases Int.lt_trichotomy v 0 with h | h | h
  · obtain ⟨V, hV⟩ := Int.eq_ofNat_of_zero_le (by omega : 0 ≤ -v)
    have e : v = -(V : Int) := by omega
    subst e
    have := itoa_neg V w (by omega) (by omega)
    have e2 : decS (-(V : Int)) = strOfNums (45 :: decL 25 V) := by unfold decS decI; rw [if_neg (by omega), if_pos (by omega)]; simp
    rw [e2]; exact this
  · subst h
    have e2 : decS 0 = ⟨#[48]⟩ := by rfl
    rw [e2]; exact itoa_zero w
  · obtain ⟨V, rfl⟩ := Int.eq_ofNat_of_zero_le (by omega : 0 ≤ v)
    have := itoa_pos V w (by omega) (by omega)
    have e2 : decS (V : Int) = strOfNums (decL 25 V) := by unfold decS decI; rw [if_neg (by omega), if_neg (by omega)]; simp
    rw [e2]; exact this

theorem decL_len (f u : Nat) : (decL f u).length ≤ f := by
  induction f generalizing u with
  | zero => simp [decL]
  | succ f ih =>
    rw [decL]
    split
    · simp
    · have := ih (u / 10); simp; omega

theorem decS_size (v : Int) : (decS v).size ≤ 26 := by
  have := decL_len 25 v.natAbs
  unfold decS decI
  rw [strOfNums_size]
  split
  · simp
  · split <;> simp <;> omega

/-- A register's name. -/
def regS (v : Int) : ByteArray := ⟨#[114]⟩ ++ decS v
theorem regS_size (v : Int) : (regS v).size ≤ 27 := by
  have := decS_size v
  unfold regS
  rw [ByteArray.size_append]
  have e : (ByteArray.mk #[114]).size = 1 := rfl
  omega

set_option maxRecDepth 100000 in
set_option maxHeartbeats 400000 in
theorem sreg (v : Int) (w : World) (hv : InR v) : Calls Yaav.prog 72 #[.int .i64 v] w fun e w' => e = .returned (.string (regS v)) ∧ Below w.heap.size w w' := by
  have HV : Hid (InR v) := hv
  clear hv
  have hsz := decS_size v
  go_enter Yaav.func72, Yaav.ntmps72
  go_wp2_with (go_at_call 63; refine (dec _ _ HV.out).mono ?_; rintro e w' ⟨rfl, hb⟩)
  go_ret
  exact ⟨rfl, hb⟩

set_option maxRecDepth 100000 in
set_option maxHeartbeats 400000 in
theorem ireg (v : Int) (w : World) (hv : InR v) : Calls Yaav.prog 73 #[.int .i64 v] w fun e w' => e = .returned (.string (regS v)) ∧ Below w.heap.size w w' := by
  have HV : Hid (InR v) := hv
  clear hv
  have hsz := decS_size v
  go_enter Yaav.func73, Yaav.ntmps73
  go_wp2_with (go_at_call 74; refine (itoa _ _ HV.out).mono ?_; rintro e w' ⟨rfl, hb⟩)
  go_ret
  exact ⟨rfl, hb⟩

end Go.Proofs.Yahaaw
