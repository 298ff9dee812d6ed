/-
  DERIVED. Outcomes; copy into a new row; WALKS: spec.halted (49), faulted (48), outOfFuel (50), argAt (51).
-/
import Derived.Test.YahaawDepI
import Derived.Laws.CopyOwn
namespace Go.Proofs.Yahaaw
open Go.RowKit
set_option linter.unusedVariables false

/-- How a run ends. -/
structure Oc where
  status : Int
  vals : List Int
  steps : Int

/-- An outcome as a value: its values lie at a. -/
def ocV (o : Oc) (a : Option Addr) (cap : Nat) : Value := .agg #[.int .i64 o.status, .slice a o.vals.length cap, .int .i64 o.steps]

theorem one_ints (xs : List Int) : ∀ v ∈ iCells xs, v.oneCell' = true := by
  intro v hv
  unfold iCells at hv
  obtain ⟨x, _, rfl⟩ := List.mem_map.1 hv
  rfl

theorem setCells_grown (w : World) (g o : Nat) (vs : List Value) : w.grownBy (w.setCells g o vs) (some g) := by
  obtain ⟨t1, t2, t3, t4, t5⟩ := tape_setCells g vs o w
  exact ⟨t2, t1, t3, by omega, fun k _ hne => t5 k (fun e => hne (by subst e; rfl))⟩

theorem info2_size : (Yaav.prog.info? 2).map (·.size) = some 1 := by kernel_rfl

theorem copy_run {w : World} {g n c sc : Nat} {sa : Option Addr} {zs : List Value} {xs : List Int} (hb : Blk w g zs 2) (hz : zs.length = n) (hseg : Seg w sa (iCells xs)) (hx : xs.length = n) :
    ∃ w', (Builtin.copy_ #[24, 24] 3 #[.slice (some ⟨g, 0, none⟩) n c, .slice sa n sc]).run Yaav.prog w = .ok (.int .i64 n) w' ∧ Blk w' g (iCells xs) 2 ∧ w.grownBy w' (some g) := by
  have hl := iCells_len xs
  rcases hseg with h0 | ⟨b, off, rfl, hlt, hc⟩
  · have hn0 : n = 0 := by rw [h0] at hl; simp at hl; omega
    subst hn0
    have hz0 : zs = [] := List.length_eq_zero_iff.1 hz
    refine ⟨w, run_copy_none (P := Yaav.prog) w 24 24 3 2 _ sa 0 c 0 sc Yaav.underlying24 info2_size rfl, ?_, grown_refl _ _⟩
    rw [h0, ← hz0]; exact hb
  · have hr := run_copy_cells (P := Yaav.prog) w 24 24 3 2 g 0 n c ⟨b, off, none⟩ n sc (iCells xs) Yaav.underlying24 info2_size (by rw [hl]; simp; omega)
      (fun j v hj => by
        have hadd : (⟨b, off, none⟩ : Addr).add j = ⟨b, off + j, none⟩ := by unfold Addr.add; split <;> simp_all
        rw [hadd, hc j (lt_of_get hj)]; exact hj)
      (fun j hj => by rw [hb.cell, Nat.zero_add, List.getElem?_eq_getElem (by omega)]; rfl) (fun j _ => hb.frozen _) (one_ints xs)
    refine ⟨_, by rw [hr, hl, hx]; rfl, ?_, setCells_grown w g 0 _⟩
    have := Blk.setCells (iCells xs) (pre := []) (rest := zs) (by simpa using hb) (by omega) (m := 0) rfl
    rw [List.drop_of_length_le (by omega)] at this
    simpa using this

set_option maxRecDepth 100000 in
set_option maxHeartbeats 1000000 in
theorem halted_any (a : Option Addr) (n cap : Nat) (xs : List Int) (st : Int) (w : World) (hn : xs.length = n) (hn2 : n ≤ 1099511627776) (hs : Seg w a (iCells xs)) :
    Calls Yaav.prog 49 #[.slice a n cap, .int .i64 st] w fun e w' => ∃ b, e = .returned (.agg #[.int .i64 0, .slice b n n, .int .i64 st]) ∧ Own w' w.heap.size b (iCells xs) 2 ∧ Below w.heap.size w w' := by
  have hmk := mk_run Yaav.underlying24 Yaav.info2 n n (Nat.le_refl _) (by omega) (by omega)
  simp only [Value.cells, Nat.mul_one] at hmk
  have hb0 : Below w.heap.size w ((w.alloc (.cells #[.int .i64 0, .slice none 0 0, .int .i64 0] 38)).alloc (.cells (zc #[.int .i64 0] n) 2)) := ((Below.refl _ _).alloc (Nat.le_refl _) _).alloc (by simp) _
  have hz : Blk ((w.alloc (.cells #[.int .i64 0, .slice none 0 0, .int .i64 0] 38)).alloc (.cells (zc #[.int .i64 0] n) 2)) (w.heap.size + 1) (zc #[.int .i64 0] n).toList 2 := by
    have := Blk.new' (w.alloc (.cells #[.int .i64 0, .slice none 0 0, .int .i64 0] 38)) (zc #[.int .i64 0] n) 2
    simpa using this
  have hr0 : Blk ((w.alloc (.cells #[.int .i64 0, .slice none 0 0, .int .i64 0] 38)).alloc (.cells (zc #[.int .i64 0] n) 2)) w.heap.size [.int .i64 0, .slice none 0 0, .int .i64 0] 38 := (Blk.new' w #[.int .i64 0, .slice none 0 0, .int .i64 0] 38).alloc _
  obtain ⟨w2, hrun, hk2, hg2⟩ := copy_run (c := n) (sc := cap) hz (by rw [zc_len]) (hs.below hb0) hn
  have hB2 := hb0.grown hg2 hb0.size (fun k hk => by cases hk; omega)
  have hR2 : Blk w2 w.heap.size [.int .i64 0, .slice none 0 0, .int .i64 0] 38 := by
    unfold Blk at *
    rw [hg2.block _ (by simp; omega) (by simp)]; exact hr0
  have c0 := hR2.cell 0
  have c1 := hR2.cell 1
  have c2 := hR2.cell 2
  simp at c0 c1 c2
  have f0 := hR2.frozen 0
  have f1 := hR2.frozen 1
  have f2 := hR2.frozen 2
  have HB2 := hideP hB2
  have HK2 := hideP hk2
  have HR2 := hideP hR2
  clear hs hn hb0 hz hr0 hk2 hg2 hB2 hR2
  go_enter Yaav.func49, Yaav.ntmps49
  go_wp2
  have hW := ((HR2.out.set 0 (.int .i64 0)).set 1 (.slice (some ⟨w.heap.size + 1, 0, none⟩) n n)).set 2 (.int .i64 st)
  have d0 := hW.cell 0
  have d1 := hW.cell 1
  have d2 := hW.cell 2
  simp at d0 d1 d2
  refine bodyPost_ret (v := .agg #[.int .i64 0, .slice (some ⟨w.heap.size + 1, 0, none⟩) n n, .int .i64 st]) (by simp [results, Yaav.results49, go_sem, d0, d1, d2]) rfl ⟨_, rfl, .inr ⟨w.heap.size + 1, by omega, rfl, ?_⟩, ?_⟩
  · exact ((HK2.out.far (p := ⟨_, _, none⟩) (by simp) _).far (p := ⟨_, _, none⟩) (by simp) _).far (p := ⟨_, _, none⟩) (by simp) _
  · exact ((HB2.out.setCell (p := ⟨_, _, none⟩) (Nat.le_refl _) _).setCell (p := ⟨_, _, none⟩) (Nat.le_refl _) _).setCell (p := ⟨_, _, none⟩) (Nat.le_refl _) _

set_option maxRecDepth 100000 in
set_option maxHeartbeats 1000000 in
theorem faulted_any (st : Int) (w : World) :
    Calls Yaav.prog 48 #[.int .i64 st] w fun e w' => e = .returned (.agg #[.int .i64 2, .slice none 0 0, .int .i64 st]) ∧ Below w.heap.size w w' := by
  go_enter Yaav.func48, Yaav.ntmps48
  go_wp2
  exact bodyPost_ret (v := .agg #[.int .i64 2, .slice none 0 0, .int .i64 st]) (by simp [results, Yaav.results48, go_sem]) rfl ⟨rfl, (Below.refl _ _).alloc (Nat.le_refl _) _⟩

set_option maxRecDepth 100000 in
set_option maxHeartbeats 1000000 in
theorem outOfFuel_any (w : World) :
    Calls Yaav.prog 50 #[] w fun e w' => e = .returned (.agg #[.int .i64 1, .slice none 0 0, .int .i64 20000]) ∧ Below w.heap.size w w' := by
  go_enter Yaav.func50, Yaav.ntmps50
  go_wp2
  exact bodyPost_ret (v := .agg #[.int .i64 1, .slice none 0 0, .int .i64 20000]) (by simp [results, Yaav.results50, go_sem]) rfl ⟨rfl, (Below.refl _ _).alloc (Nat.le_refl _) _⟩

/-- An argument, or 0. -/
def argAt (xs : List Int) (k : Int) : Int := if 0 ≤ k ∧ k < xs.length then xs.getD k.toNat 0 else 0

theorem argAt_in {xs : List Int} {k : Nat} {x : Int} (h : xs[k]? = some x) : argAt xs (k : Int) = x := by
  have := lt_of_get h
  unfold argAt
  rw [if_pos (by omega), Int.toNat_natCast]
  simp [List.getD, h]
theorem argAt_out {xs : List Int} {k : Int} (h : k < 0 ∨ (xs.length : Int) ≤ k) : argAt xs k = 0 := by
  unfold argAt
  rw [if_neg (by omega)]

set_option maxRecDepth 100000 in
set_option maxHeartbeats 1000000 in
theorem argAt_any (a : Option Addr) (n cap : Nat) (xs : List Int) (k : Int) (w : World) (hn : xs.length = n) (hn2 : n ≤ 1099511627776) (hs : Seg w a (iCells xs)) :
    Calls Yaav.prog 51 #[.slice a n cap, .int .i64 k] w fun e w' => e = .returned (.int .i64 (argAt xs k)) ∧ w' = w := by
  by_cases h0 : k < 0
  · have ha := hideP (argAt_out (xs := xs) (.inl h0))
    clear hs
    have hd : decide (0 ≤ k) = false := by simp; omega
    go_enter Yaav.func51, Yaav.ntmps51
    go_wp2
    go_ret
    exact ⟨by rw [ha.out]; rfl, rfl⟩
  · by_cases h1 : (n : Int) ≤ k
    · have ha := hideP (argAt_out (xs := xs) (k := k) (.inr (by omega)))
      clear hs
      go_enter Yaav.func51, Yaav.ntmps51
      go_wp2
      go_ret
      exact ⟨by rw [ha.out]; rfl, rfl⟩
    · obtain ⟨K, rfl⟩ := Int.eq_ofNat_of_zero_le (by omega : 0 ≤ k)
      obtain ⟨x, hx⟩ := some_at (ps := xs) (k := K) (by omega)
      obtain ⟨b, off, rfl, hb, hc⟩ := hs.i hx
      have ha := hideP (argAt_in hx)
      clear hs hx hn
      go_enter Yaav.func51, Yaav.ntmps51
      go_wp2
      go_ret
      exact ⟨by rw [ha.out]; rfl, rfl⟩

end Go.Proofs.Yahaaw
