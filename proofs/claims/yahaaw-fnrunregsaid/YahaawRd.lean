/-
  DERIVED. A reader in memory. WALKS: reader.next (40), reader.done (67), reader.value (41).
-/
import Derived.Test.YahaawApp
import Derived.Test.YahaawList0
import Derived.Deep.RegionHeldLaw
namespace Go.Proofs.Yahaaw
open Go.RowKit
set_option linter.unusedVariables false
set_option linter.unusedSimpArgs false

/-- n bytes at a, in a block below B. -/
def Byt (B : Nat) (w : World) (a : Option Addr) (n : Nat) : Prop :=
  n = 0 ∨ ∃ b off, a = some ⟨b, off, none⟩ ∧ b < B ∧ ∀ i, i < n → ∃ c : Nat, c < 256 ∧ w.cell? ⟨b, off + i, none⟩ = some (.int .u8 c)

theorem Byt.keep {B : Nat} {w w' : World} {a : Option Addr} {n : Nat} (h : Byt B w a n) (hb : ∀ k, k < B → w'.heap[k]? = w.heap[k]?) : Byt B w' a n := by
  rcases h with h | ⟨b, off, ha, hB, hc⟩
  · exact .inl h
  · exact .inr ⟨b, off, ha, hB, fun i hi => by rw [World.cell?_of_block (w := w) (hb b hB)]; exact hc i hi⟩

theorem Byt.mono {B B' : Nat} {w : World} {a : Option Addr} {n : Nat} (h : Byt B w a n) (hB : B ≤ B') : Byt B' w a n := by
  rcases h with h | ⟨b, off, ha, hb, hc⟩
  · exact .inl h
  · exact .inr ⟨b, off, ha, by omega, hc⟩

theorem grown_trans {w w1 w2 : World} {r : Option Nat} (h : w.grownBy w1 r) (k : w1.grownBy w2 r) : w.grownBy w2 r :=
  ⟨k.os.trans h.os, k.tape.trans h.tape, k.output.trans h.output, Nat.le_trans h.size k.size, fun i hi hne => (k.block i (Nat.lt_of_lt_of_le hi h.size) hne).trans (h.block i hi hne)⟩

theorem grown_setp (w : World) (p : Addr) (v : Value) : w.grownBy (w.setCell p v) (some p.block) :=
  ⟨rfl, rfl, rfl, by simp [World.setCell], fun k _ hne => Below.heap_setCell _ _ _ _ (fun e => hne (by rw [e]))⟩

theorem grown_drewN {w w' : World} {r : Option Nat} (h : w.grownBy w' r) (n : Nat) : w.grownBy (w'.drewN n) r := ⟨h.os, h.tape, h.output, h.size, h.block⟩

theorem Blk.grown {w w' : World} {b : Nat} {cs : List Value} {t : TypeId} {r : Option Nat} (h : Blk w b cs t) (hg : w.grownBy w' r) (hne : some b ≠ r) : Blk w' b cs t := by
  have := h.lt
  unfold Blk at *; rw [hg.block b this hne]; exact h

/-- A reader: block rb (from B on) holds the slice and the place. -/
structure Rd (B : Nat) (rb : Nat) (a : Option Addr) (n cap pos : Nat) (w : World) : Prop where
  bB : B ≤ rb
  byt : Byt B w a n
  blk : Blk w rb [.slice a n cap, .int .i64 pos] 64
  le : pos ≤ n
  len : n ≤ 1048576

theorem Rd.grown {B rb : Nat} {a : Option Addr} {n cap pos : Nat} {w w' : World} {r : Option Nat} (h : Rd B rb a n cap pos w) (hg : w.grownBy w' r) (hr : ∀ k, r = some k → B ≤ k) (hne : some rb ≠ r) : Rd B rb a n cap pos w' :=
  ⟨h.bB, h.byt.keep fun k hk => hg.block k (by have := h.blk.lt; have := h.bB; omega) (fun e => by have := hr k e.symm; omega), h.blk.grown hg hne, h.le, h.len⟩

theorem Rd.below {B rb : Nat} {a : Option Addr} {n cap pos : Nat} {w w' : World} (h : Rd B rb a n cap pos w) (hb : Below w.heap.size w w') : Rd B rb a n cap pos w' :=
  ⟨h.bB, h.byt.keep fun k hk => hb.block k (by have := h.blk.lt; have := h.bB; omega), h.blk.below hb h.blk.lt, h.le, h.len⟩

theorem Rd.drewN {B rb : Nat} {a : Option Addr} {n cap pos : Nat} {w : World} (h : Rd B rb a n cap pos w) (k : Nat) : Rd B rb a n cap pos (w.drewN k) :=
  ⟨h.bB, h.byt.keep fun _ _ => rfl, h.blk, h.le, h.len⟩

theorem Rd.step {B rb : Nat} {a : Option Addr} {n cap pos : Nat} {w : World} (h : Rd B rb a n cap pos w) (hl : pos < n) : Rd B rb a n cap (pos + 1) (w.setCell ⟨rb, 1, none⟩ (.int .i64 ((pos : Int) + 1))) :=
  ⟨h.bB, h.byt.keep fun k hk => Below.heap_setCell _ _ _ _ (by have := h.bB; show k ≠ rb; omega), by have := h.blk.set 1 (.int .i64 ((pos : Int) + 1)); simpa using this, hl, h.len⟩

theorem Rd.cells {B rb : Nat} {a : Option Addr} {n cap pos : Nat} {w : World} (h : Rd B rb a n cap pos w) :
    w.cell? ⟨rb, 0, none⟩ = some (.slice a n cap) ∧ w.cell? ⟨rb, 1, none⟩ = some (.int .i64 pos) ∧ w.frozen? ⟨rb, 1, none⟩ = false :=
  ⟨h.blk.cell 0, h.blk.cell 1, h.blk.frozen 1⟩

/-- What a turn of the reader leaves. -/
def RdPost (B rb : Nat) (a : Option Addr) (n cap pos : Nat) (w w' : World) : Prop := ∃ pos', pos ≤ pos' ∧ Rd B rb a n cap pos' w' ∧ w.grownBy w' (some rb)

set_option maxRecDepth 100000 in
set_option maxHeartbeats 1000000 in
theorem next_any (B rb : Nat) (a : Option Addr) (n cap pos : Nat) (w : World) (hr : Rd B rb a n cap pos w) :
    Calls Yaav.prog 40 #[.pointer (some ⟨rb, 0, none⟩)] w fun e w' => ∃ c : Nat, c < 256 ∧ e = .returned (.int .u8 c) ∧ (∃ pos', pos ≤ pos' ∧ (pos < n → pos' = pos + 1) ∧ Rd B rb a n cap pos' w' ∧ w.grownBy w' (some rb)) := by
  obtain ⟨c0, c1, f1⟩ := hr.cells
  have hn := hr.len
  by_cases hlt : pos < n
  · obtain h | ⟨b, off, rfl, hb, hc⟩ := hr.byt
    · omega
    obtain ⟨c, hc1, hc2⟩ := hc pos hlt
    have HR : Hid _ := hr
    clear hr hc
    go_enter Yaav.func40, Yaav.ntmps40
    go_wp2_with fail
    go_quiet (fail)
    go_wp2_with fail
    go_quiet (fail)
    go_wp2
    go_ret
    refine ⟨c, hc1, rfl, pos + 1, by omega, fun _ => rfl, ?_, ?_⟩
    · exact (HR.out.drewN _).step hlt
    · exact grown_set (grown_drewN (grown_refl _ _) _) _ _
  · have HR : Hid _ := hr
    clear hr
    go_enter Yaav.func40, Yaav.ntmps40
    go_wp2_with fail
    go_quiet (fail)
    go_wp2
    go_ret
    exact ⟨0, by omega, rfl, pos, Nat.le_refl _, fun h => by omega, HR.out.drewN _, grown_drewN (grown_refl _ _) _⟩

set_option maxRecDepth 100000 in
set_option maxHeartbeats 1000000 in
theorem done_any (B rb : Nat) (a : Option Addr) (n cap pos : Nat) (w : World) (hr : Rd B rb a n cap pos w) :
    Calls Yaav.prog 67 #[.pointer (some ⟨rb, 0, none⟩)] w fun e w' => e = .returned (.bool (decide (n ≤ pos))) ∧ Rd B rb a n cap pos w' ∧ w.grownBy w' (some rb) := by
  obtain ⟨c0, c1, f1⟩ := hr.cells
  have hn := hr.len
  have HR : Hid _ := hr
  clear hr
  by_cases hlt : n ≤ pos
  · go_enter Yaav.func67, Yaav.ntmps67
    go_wp2_with fail
    go_quiet (fail)
    go_wp2
    go_ret
    exact ⟨by simp [hlt], HR.out.drewN _, grown_drewN (grown_refl _ _) _⟩
  · go_enter Yaav.func67, Yaav.ntmps67
    go_wp2_with fail
    go_quiet (fail)
    go_wp2
    go_ret
    exact ⟨by simp [hlt], HR.out.drewN _, grown_drewN (grown_refl _ _) _⟩

theorem inR_wrap (x : Int) : InR (wrap64 x) := by unfold InR wrap64; omega

theorem or64 (x y : Int) : ∃ m : Nat, m < 18446744073709551616 ∧ bits .or .u64 x y = (m : Int) := by
  have h : ∃ z : Int, bits .or .u64 x y = IntKind.u64.wrap z := ⟨_, rfl⟩
  obtain ⟨z, hz⟩ := h
  have h0 : (0 : Int) ≤ z % 18446744073709551616 := by omega
  refine ⟨(z % 18446744073709551616).toNat, by omega, ?_⟩
  rw [hz, Int.toNat_of_nonneg h0]; simp [IntKind.wrap, IntKind.bits, IntKind.signed]

set_option maxRecDepth 100000 in
set_option maxHeartbeats 4000000 in
theorem value_any (B rb : Nat) (a : Option Addr) (n cap pos : Nat) (w : World) (hr : Rd B rb a n cap pos w) :
    Calls Yaav.prog 41 #[.pointer (some ⟨rb, 0, none⟩)] w fun e w' => ∃ c : Int, InR c ∧ e = .returned (.int .i64 c) ∧ RdPost B rb a n cap pos w w' := by
  have HR : Hid _ := hr
  clear hr
  go_enter Yaav.func41, Yaav.ntmps41
  go_wp2_with fail
  refine (next_any B rb a n cap pos w HR.out).mono ?_
  rintro e w1 ⟨c, hc, rfl, pos1, hp1, _, hr1, hg1⟩
  have HR1 : Hid _ := hr1
  have HG1 : Hid _ := hg1
  clear hr1 hg1
  have h4 : ((c : Int) % 4 == 0) = true ∨ (((c : Int) % 4 == 0) = false ∧ ((c : Int) % 4 == 1) = true) ∨ (((c : Int) % 4 == 0) = false ∧ ((c : Int) % 4 == 1) = false ∧ ((c : Int) % 4 == 2) = true) ∨ (((c : Int) % 4 == 0) = false ∧ ((c : Int) % 4 == 1) = false ∧ ((c : Int) % 4 == 2) = false) := by
    simp only [beq_iff_eq, beq_eq_false_iff_ne]; omega
  rcases h4 with k0 | ⟨k0, k1⟩ | ⟨k0, k1, k2⟩ | ⟨k0, k1, k2⟩
  · go_wp2_with fail
    refine (next_any B rb a n cap pos1 w1 HR1.out).mono ?_
    rintro e w2 ⟨d, hd, rfl, pos2, hp2, _, hr2, hg2⟩
    have HR2 : Hid _ := hr2
    have HG2 : Hid _ := hg2
    clear hr2 hg2
    go_wp2
    go_ret
    exact ⟨_, ⟨by omega, by omega⟩, rfl, pos2, by omega, HR2.out, grown_trans HG1.out HG2.out⟩
  · go_wp2_with fail
    go_loopw [4, 5] (fun u i wr => ∃ k m : Nat, k ≤ 8 ∧ i = .int .i64 k ∧ u = .int .u64 m ∧ m < 18446744073709551616 ∧ RdPost B rb a n cap pos w wr) (fun u i _ => 8 - (intOf i).toNat)
    case atStart => exact ⟨0, 0, by omega, rfl, rfl, by omega, pos1, hp1, HR1.out, HG1.out⟩
    case round =>
      obtain ⟨k, m, hk, rfl, rfl, hm, pos2, hp2, hr2, hg2⟩ := hrel
      have HR2 : Hid _ := hr2
      have HG2 : Hid _ := hg2
      clear hr2 hg2
      by_cases hlt : k < 8
      · go_wp2_with fail
        refine (next_any B rb a n cap pos2 wr HR2.out).mono ?_
        rintro e w2 ⟨d, hd, rfl, pos3, hp3, _, hr3, hg3⟩
        have HR3 : Hid _ := hr3
        have HG3 : Hid _ := hg3
        clear hr3 hg3
        go_wp2
        obtain ⟨m', hm', he⟩ := or64 (IntKind.u64.wrap ((m : Int) * 256)) d
        rw [he]
        refine ⟨⟨k + 1, m', by omega, by go_num, rfl, hm', pos3, by omega, HR3.out, grown_trans HG2.out HG3.out⟩, ?_⟩
        simp [intOf]; omega
      · go_wp2
        go_ret
        exact ⟨_, inR_wrap _, rfl, pos2, hp2, HR2.out, HG2.out⟩
  · go_wp2_with fail
    refine (next_any B rb a n cap pos1 w1 HR1.out).mono ?_
    rintro e w2 ⟨d, hd, rfl, pos2, hp2, _, hr2, hg2⟩
    have HR2 : Hid _ := hr2
    have HG2 : Hid _ := hg2
    clear hr2 hg2
    go_wp2
    go_ret
    exact ⟨_, ⟨by omega, by omega⟩, rfl, pos2, by omega, HR2.out, grown_trans HG1.out HG2.out⟩
  · go_wp2_with fail
    refine (next_any B rb a n cap pos1 w1 HR1.out).mono ?_
    rintro e w2 ⟨d, hd, rfl, pos2, hp2, _, hr2, hg2⟩
    have HR2 : Hid _ := hr2
    have HG2 : Hid _ := hg2
    clear hr2 hg2
    go_wp2
    all_goals (go_ret; exact ⟨_, ⟨by omega, by omega⟩, rfl, pos2, by omega, HR2.out, grown_trans HG1.out HG2.out⟩)

end Go.Proofs.Yahaaw
