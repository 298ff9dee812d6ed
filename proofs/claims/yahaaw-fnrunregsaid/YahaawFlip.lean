/-
  DERIVED. WALKS: laws.flipSOps (56), flipInts (62), flipROps (59).
-/
import Derived.Test.YahaawSame
namespace Go.Proofs.Yahaaw
open Go.RowKit

theorem grown_refl (w : World) (row : Option Nat) : w.grownBy w row := ⟨rfl, rfl, rfl, Nat.le_refl _, fun _ _ _ => rfl⟩

/-- A block of numbers. -/
def IntRow (w : World) (g m : Nat) (t : TypeId) : Prop := ∃ zs : List Int, zs.length = m ∧ Blk w g (iCells zs) t

theorem IntRow.lt {w : World} {g m : Nat} {t : TypeId} (h : IntRow w g m t) : g < w.heap.size := by obtain ⟨_, _, h⟩ := h; exact h.lt
theorem IntRow.frozen {w : World} {g m : Nat} {t : TypeId} (h : IntRow w g m t) (i : Nat) : w.frozen? ⟨g, i, none⟩ = false := by obtain ⟨_, _, h⟩ := h; exact h.frozen i
theorem IntRow.at {w : World} {g m : Nat} {t : TypeId} (h : IntRow w g m t) {i : Nat} (hi : i < m) : ∃ z, w.cell? ⟨g, i, none⟩ = some (.int .i64 z) := by
  obtain ⟨zs, hl, h⟩ := h
  exact ⟨zs[i]'(by omega), by rw [h.cell]; exact iCells_get (List.getElem?_eq_getElem (by omega))⟩
theorem IntRow.set {w : World} {g m : Nat} {t : TypeId} (h : IntRow w g m t) (i : Nat) (z : Int) : IntRow (w.setCell ⟨g, i, none⟩ (.int .i64 z)) g m t := by
  obtain ⟨zs, hl, h⟩ := h
  exact ⟨zs.set i z, by simpa using hl, by have := h.set i (.int .i64 z); simpa [iCells, List.map_set] using this⟩
theorem IntRow.alloc {w : World} {g m : Nat} {t : TypeId} (h : IntRow w g m t) (o : Obj) : IntRow (w.alloc o) g m t := by
  obtain ⟨zs, hl, h⟩ := h; exact ⟨zs, hl, h.alloc o⟩

theorem grown_set {w wr : World} {g : Nat} (h : w.grownBy wr (some g)) (i : Nat) (v : Value) : w.grownBy (wr.setCell ⟨g, i, none⟩ v) (some g) :=
  ⟨h.os, h.tape, h.output, by simp [World.setCell]; exact h.size, fun k hk hne => by rw [Below.heap_setCell _ _ _ _ (fun e => hne (by rw [e]))]; exact h.block k hk hne⟩
theorem grown_alloc {w wr : World} {r : Option Nat} (h : w.grownBy wr r) (o : Obj) : w.grownBy (wr.alloc o) r :=
  ⟨h.os, h.tape, h.output, by simp; have := h.size; omega, fun k hk hne => by rw [Below.heap_alloc _ _ _ (Nat.lt_of_lt_of_le hk h.size)]; exact h.block k hk hne⟩

set_option maxRecDepth 100000 in
set_option maxHeartbeats 1000000 in
theorem flipS_own (g n m : Nat) (w : World) (hm : m = n * 2) (hn2 : n ≤ 1099511627776) (hr : IntRow w g m 73) :
    Calls Yaav.prog 56 #[.slice (some ⟨g, 0, none⟩) n n] w fun e w' => e = .returned (.tuple #[]) ∧ w.grownBy w' (some g) := by
  have HR : Hid (IntRow w g m 73) := hr
  have hm' : n * 2 = m := hm.symm
  clear hr hm
  go_enter Yaav.func56, Yaav.ntmps56
  go_wp2
  go_loopw [2] (fun i wr => ∃ k : Nat, k ≤ n ∧ i = .int .i64 k ∧ w.grownBy wr (some g) ∧ IntRow wr g m 73) (fun i _ => n - (intOf i).toNat)
  case atStart => exact ⟨0, Nat.zero_le _, rfl, grown_refl _ _, HR.out⟩
  case round =>
    obtain ⟨k, hk, rfl, hgr, hrow⟩ := hrel
    by_cases hlt : k < n
    · have hgl := hrow.lt
      obtain ⟨z0, c0⟩ := hrow.at (i := k * 2) (by omega)
      have f0 := hrow.frozen (k * 2)
      obtain ⟨z1, c1⟩ := hrow.at (i := k * 2 + 1) (by omega)
      have f1 := hrow.frozen (k * 2 + 1)
      have HW : Hid (IntRow wr g m 73) := hrow
      clear hrow hm'
      go_wp2
      go_roundw
      case rel =>
        refine ⟨k + 1, by omega, by go_num, ?_, ?_⟩
        · exact (grown_alloc (grown_set (grown_set hgr _ _) _ _) _)
        · exact (((HW.out.set _ _).set _ _).alloc _)
      case measure => simp [intOf]; omega
    · go_wp2
      go_end0
      exact ⟨rfl, hgr⟩

set_option maxRecDepth 100000 in
set_option maxHeartbeats 1000000 in
theorem flipI_own (g n m : Nat) (w : World) (hm : m = n * 1) (hn2 : n ≤ 1099511627776) (hr : IntRow w g m 2) :
    Calls Yaav.prog 62 #[.slice (some ⟨g, 0, none⟩) n n] w fun e w' => e = .returned (.tuple #[]) ∧ w.grownBy w' (some g) := by
  have HR : Hid (IntRow w g m 2) := hr
  have hm' : n * 1 = m := hm.symm
  clear hr hm
  go_enter Yaav.func62, Yaav.ntmps62
  go_wp2
  go_loopw [2] (fun i wr => ∃ k : Nat, k ≤ n ∧ i = .int .i64 k ∧ w.grownBy wr (some g) ∧ IntRow wr g m 2) (fun i _ => n - (intOf i).toNat)
  case atStart => exact ⟨0, Nat.zero_le _, rfl, grown_refl _ _, HR.out⟩
  case round =>
    obtain ⟨k, hk, rfl, hgr, hrow⟩ := hrel
    by_cases hlt : k < n
    · have hgl := hrow.lt
      obtain ⟨z0, c0⟩ := hrow.at (i := k) (by omega)
      have f0 := hrow.frozen (k)
      have HW : Hid (IntRow wr g m 2) := hrow
      clear hrow hm'
      go_wp2
      go_roundw
      case rel =>
        refine ⟨k + 1, by omega, by go_num, ?_, ?_⟩
        · exact (grown_set hgr _ _)
        · exact (HW.out.set _ _)
      case measure => simp [intOf]; omega
    · go_wp2
      go_end0
      exact ⟨rfl, hgr⟩

set_option maxRecDepth 100000 in
set_option maxHeartbeats 1000000 in
theorem flipR_own (g n m : Nat) (w : World) (hm : m = n * 5) (hn2 : n ≤ 1099511627776) (hr : IntRow w g m 81) :
    Calls Yaav.prog 59 #[.slice (some ⟨g, 0, none⟩) n n] w fun e w' => e = .returned (.tuple #[]) ∧ w.grownBy w' (some g) := by
  have HR : Hid (IntRow w g m 81) := hr
  have hm' : n * 5 = m := hm.symm
  clear hr hm
  go_enter Yaav.func59, Yaav.ntmps59
  go_wp2
  go_loopw [2] (fun i wr => ∃ k : Nat, k ≤ n ∧ i = .int .i64 k ∧ w.grownBy wr (some g) ∧ IntRow wr g m 81) (fun i _ => n - (intOf i).toNat)
  case atStart => exact ⟨0, Nat.zero_le _, rfl, grown_refl _ _, HR.out⟩
  case round =>
    obtain ⟨k, hk, rfl, hgr, hrow⟩ := hrel
    by_cases hlt : k < n
    · have hgl := hrow.lt
      obtain ⟨z0, c0⟩ := hrow.at (i := k * 5) (by omega)
      have f0 := hrow.frozen (k * 5)
      obtain ⟨z1, c1⟩ := hrow.at (i := k * 5 + 1) (by omega)
      have f1 := hrow.frozen (k * 5 + 1)
      obtain ⟨z2, c2⟩ := hrow.at (i := k * 5 + 2) (by omega)
      have f2 := hrow.frozen (k * 5 + 2)
      obtain ⟨z3, c3⟩ := hrow.at (i := k * 5 + 3) (by omega)
      have f3 := hrow.frozen (k * 5 + 3)
      obtain ⟨z4, c4⟩ := hrow.at (i := k * 5 + 4) (by omega)
      have f4 := hrow.frozen (k * 5 + 4)
      have HW : Hid (IntRow wr g m 81) := hrow
      clear hrow hm'
      go_wp2
      go_roundw
      case rel =>
        refine ⟨k + 1, by omega, by go_num, ?_, ?_⟩
        · exact (grown_alloc (grown_set (grown_set (grown_set (grown_set (grown_set hgr _ _) _ _) _ _) _ _) _ _) _)
        · exact ((((((HW.out.set _ _).set _ _).set _ _).set _ _).set _ _).alloc _)
      case measure => simp [intOf]; omega
    · go_wp2
      go_end0
      exact ⟨rfl, hgr⟩


/-- What flipping the slice at a has done: one block at most has turned, that of a. -/
def FlipPost (a : Option Addr) (cs : List Value) (w w' : World) : Prop := ∃ row, w.grownBy w' row ∧ ∀ k, row = some k → cs ≠ [] ∧ a = some ⟨k, 0, none⟩

theorem sInts (ps : List SO) : ∃ zs : List Int, sCells ps = iCells zs := by
  induction ps with
  | nil => exact ⟨[], rfl⟩
  | cons p ps ih => obtain ⟨zs, h⟩ := ih; exact ⟨p.c :: p.a :: zs, by simp [sCells, iCells] at *; exact h⟩
theorem rInts (ps : List RO) : ∃ zs : List Int, rCells ps = iCells zs := by
  induction ps with
  | nil => exact ⟨[], rfl⟩
  | cons p ps ih => obtain ⟨zs, h⟩ := ih; exact ⟨p.op :: p.r :: p.a :: p.b :: p.k :: zs, by simp [rCells, iCells] at *; exact h⟩

set_option maxRecDepth 100000 in
set_option maxHeartbeats 400000 in
theorem flipS_zero (a : Option Addr) (cap : Nat) (w : World) (row : Option Nat) :
    Calls Yaav.prog 56 #[.slice a 0 cap] w fun e w' => e = .returned (.tuple #[]) ∧ w.grownBy w' row := by
  go_enter Yaav.func56, Yaav.ntmps56
  go_wp2
  go_loopw [2] (fun i wr => i = .int .i64 0 ∧ wr = w) (fun _ _ => 0)
  case atStart => exact ⟨rfl, rfl⟩
  case round =>
    obtain ⟨rfl, rfl⟩ := hrel
    go_wp2
    go_end0
    exact ⟨rfl, grown_refl _ _⟩

theorem flipS (a : Option Addr) (n B : Nat) (ps : List SO) (w : World) (hn : ps.length = n) (hn2 : n ≤ 1099511627776) (ho : Own w B a (sCells ps) 73) :
    Calls Yaav.prog 56 #[.slice a n n] w fun e w' => e = .returned (.tuple #[]) ∧ FlipPost a (sCells ps) w w' := by
  have hl := sCells_len ps
  by_cases h0 : n = 0
  · subst h0
    exact (flipS_zero a 0 w none).mono fun _ _ ⟨h1, h2⟩ => ⟨h1, none, h2, fun k hk => by cases hk⟩
  · rcases ho with h | ⟨g, _, rfl, hb⟩
    · rw [h] at hl; simp at hl; omega
    · have hne : sCells ps ≠ [] := fun e => by rw [e] at hl; simp at hl; omega
      obtain ⟨zs, hz⟩ := sInts ps
      rw [hz] at hb hl
      exact (flipS_own g n _ w rfl hn2 ⟨zs, by rw [iCells_len] at hl; omega, hb⟩).mono fun _ _ ⟨h1, h2⟩ => ⟨h1, some g, h2, fun k hk => by cases hk; exact ⟨hne, rfl⟩⟩

set_option maxRecDepth 100000 in
set_option maxHeartbeats 400000 in
theorem flipI_zero (a : Option Addr) (cap : Nat) (w : World) (row : Option Nat) :
    Calls Yaav.prog 62 #[.slice a 0 cap] w fun e w' => e = .returned (.tuple #[]) ∧ w.grownBy w' row := by
  go_enter Yaav.func62, Yaav.ntmps62
  go_wp2
  go_loopw [2] (fun i wr => i = .int .i64 0 ∧ wr = w) (fun _ _ => 0)
  case atStart => exact ⟨rfl, rfl⟩
  case round =>
    obtain ⟨rfl, rfl⟩ := hrel
    go_wp2
    go_end0
    exact ⟨rfl, grown_refl _ _⟩

theorem flipI (a : Option Addr) (n B : Nat) (ps : List Int) (w : World) (hn : ps.length = n) (hn2 : n ≤ 1099511627776) (ho : Own w B a (iCells ps) 2) :
    Calls Yaav.prog 62 #[.slice a n n] w fun e w' => e = .returned (.tuple #[]) ∧ FlipPost a (iCells ps) w w' := by
  have hl := iCells_len ps
  by_cases h0 : n = 0
  · subst h0
    exact (flipI_zero a 0 w none).mono fun _ _ ⟨h1, h2⟩ => ⟨h1, none, h2, fun k hk => by cases hk⟩
  · rcases ho with h | ⟨g, _, rfl, hb⟩
    · rw [h] at hl; simp at hl; omega
    · have hne : iCells ps ≠ [] := fun e => by rw [e] at hl; simp at hl; omega
      obtain ⟨zs, hz⟩ : ∃ zs, iCells ps = iCells zs := ⟨ps, rfl⟩
      rw [hz] at hb hl
      exact (flipI_own g n _ w rfl hn2 ⟨zs, by rw [iCells_len] at hl; omega, hb⟩).mono fun _ _ ⟨h1, h2⟩ => ⟨h1, some g, h2, fun k hk => by cases hk; exact ⟨hne, rfl⟩⟩

set_option maxRecDepth 100000 in
set_option maxHeartbeats 400000 in
theorem flipR_zero (a : Option Addr) (cap : Nat) (w : World) (row : Option Nat) :
    Calls Yaav.prog 59 #[.slice a 0 cap] w fun e w' => e = .returned (.tuple #[]) ∧ w.grownBy w' row := by
  go_enter Yaav.func59, Yaav.ntmps59
  go_wp2
  go_loopw [2] (fun i wr => i = .int .i64 0 ∧ wr = w) (fun _ _ => 0)
  case atStart => exact ⟨rfl, rfl⟩
  case round =>
    obtain ⟨rfl, rfl⟩ := hrel
    go_wp2
    go_end0
    exact ⟨rfl, grown_refl _ _⟩

theorem flipR (a : Option Addr) (n B : Nat) (ps : List RO) (w : World) (hn : ps.length = n) (hn2 : n ≤ 1099511627776) (ho : Own w B a (rCells ps) 81) :
    Calls Yaav.prog 59 #[.slice a n n] w fun e w' => e = .returned (.tuple #[]) ∧ FlipPost a (rCells ps) w w' := by
  have hl := rCells_len ps
  by_cases h0 : n = 0
  · subst h0
    exact (flipR_zero a 0 w none).mono fun _ _ ⟨h1, h2⟩ => ⟨h1, none, h2, fun k hk => by cases hk⟩
  · rcases ho with h | ⟨g, _, rfl, hb⟩
    · rw [h] at hl; simp at hl; omega
    · have hne : rCells ps ≠ [] := fun e => by rw [e] at hl; simp at hl; omega
      obtain ⟨zs, hz⟩ := rInts ps
      rw [hz] at hb hl
      exact (flipR_own g n _ w rfl hn2 ⟨zs, by rw [iCells_len] at hl; omega, hb⟩).mono fun _ _ ⟨h1, h2⟩ => ⟨h1, some g, h2, fun k hk => by cases hk; exact ⟨hne, rfl⟩⟩

theorem Own.grown {w w' : World} {B : Nat} {a : Option Addr} {cs : List Value} {t : TypeId} {row : Option Nat} (h : Own w B a cs t) (hg : w.grownBy w' row) (hr : ∀ k, row = some k → k < B) : Own w' B a cs t := by
  rcases h with h | ⟨g, hB, ha, hk⟩
  · exact .inl h
  · refine .inr ⟨g, hB, ha, ?_⟩
    unfold Blk at *
    rw [hg.block g (Array.getElem?_eq_some_iff.1 hk).1 (fun e => by have := hr g e.symm; omega)]
    exact hk

theorem Own.lt {w : World} {B : Nat} {a : Option Addr} {cs : List Value} {t : TypeId} (h : Own w B a cs t) : ∀ k, cs ≠ [] → a = some ⟨k, 0, none⟩ → B ≤ k ∧ k < w.heap.size := by
  intro k hne ha
  rcases h with h | ⟨g, hB, hg, hk⟩
  · exact absurd h hne
  · rw [ha] at hg; cases hg; exact ⟨hB, hk.lt⟩

theorem FlipPost.bel {a : Option Addr} {cs : List Value} {w w' wi : World} {B : Nat} {t : TypeId} (h : FlipPost a cs w w') (ho : Own w B a cs t) (hb : Below B wi w) (hB : B ≤ w.heap.size) : Below B wi w' := by
  obtain ⟨row, hg, hr⟩ := h
  exact hb.grown hg hB fun k hk => (ho.lt k (hr k hk).1 (hr k hk).2).1

theorem FlipPost.own {a a2 : Option Addr} {cs cs2 : List Value} {w w' : World} {B2 : Nat} {t2 : TypeId} (h : FlipPost a cs w w') (ho : Own w B2 a2 cs2 t2) (hlt : ∀ k, cs ≠ [] → a = some ⟨k, 0, none⟩ → k < B2) : Own w' B2 a2 cs2 t2 := by
  obtain ⟨row, hg, hr⟩ := h
  exact ho.grown hg fun k hk => hlt k (hr k hk).1 (hr k hk).2

end Go.Proofs.Yahaaw
