/-
  DERIVED. WALKS: rawProg (42).
-/
import Derived.Test.YahaawBd
namespace Go.Proofs.Yahaaw
open Go.RowKit
set_option linter.unusedVariables false
set_option linter.unusedSimpArgs false

theorem inR_i8 (x : Int) : InR (IntKind.i8.wrap x) := by
  unfold InR
  simp only [IntKind.wrap, IntKind.bits, IntKind.signed]
  by_cases h : x % 2 ^ 8 ≥ 2 ^ (8 - 1)
  · simp only [h, decide_true, Bool.and_self, if_true]; omega
  · simp only [h, decide_false, Bool.and_false, Bool.false_eq_true, if_false]; omega

theorem inR_mod (x : Int) {y : Int} (h : 0 < y) (h2 : y ≤ 1073741824) : InR (x % y) :=
  ⟨by have := Int.emod_nonneg x (Int.ne_of_gt h); omega, by have := Int.emod_lt_of_pos x h; omega⟩

theorem w64 (n : Int) (h : -9223372036854775808 ≤ n ∧ n ≤ 9223372036854775807) : wrap64 n = n := by unfold wrap64; omega

theorem Below.grownAt {B : Nat} {a w w' : World} {g : Nat} (h : Below B a w) (hg : w.grownBy w' (some g)) (hB : B ≤ w.heap.size) (hr : B ≤ g) : Below B a w' :=
  h.grown hg hB (fun k hk => by cases hk; exact hr)

/-- append of one operation, new in memory. -/
theorem wpApp_s {B : Nat} {w : World} {ops : Array Oper} {rest : List Oper} {o : Oper} {act : Act} {Q : Exit → Act → World → Prop} (hgd : o.guard = none) (s xo : Operand)
    (ho : o.op = .call { callee := .builtin .append, args := #[s, xo], argTypes := #[23, 23] }) {ao : Option Addr} {n co : Nat} {xs : List Value} {c x : Int} (hv : act.eval s = .slice ao n co) (hx : act.eval xo = .slice (some ⟨w.heap.size, 0, none⟩) 1 1)
    (hg : Grow w B 73 2 (.slice ao n co) n xs) (hn : n ≤ 1073741824) (hB : B ≤ w.heap.size)
    (h : ∀ v' w', Grow w' B 73 2 v' (n + 1) (xs ++ [.int .i64 c, .int .i64 x]) → (w.alloc (.cells #[.int .i64 c, .int .i64 x] 73)).grownBy w' (Value.slice ao n co).ownBlock → wpList Yaav.prog ops Q rest (act.put o.dst v') w') :
    wpList Yaav.prog ops Q (o :: rest) act (w.alloc (.cells #[.int .i64 c, .int .i64 x] 73)) :=
  wpList_app Yaav.underlying23 Yaav.info73 rfl hgd s xo ho (v := .slice ao n co) (n := n) (xs := xs) hv hx (hg.alloc _)
    (Src.ofSlice _ Yaav.underlying23 ⟨w.heap.size, 0, none⟩ 1 1 [.int .i64 c, .int .i64 x] rfl (by have := news2 w [.int .i64 c, .int .i64 x] 73; simpa using this) (by intro u hu; simp at hu; rcases hu with rfl | rfl <;> rfl)) (by omega) (by omega) (by simp; omega)
    fun v' w' h1 h2 _ => h v' w' h1 h2

/-- append of one number, new in memory. -/
theorem wpApp_i {B : Nat} {w : World} {ops : Array Oper} {rest : List Oper} {o : Oper} {act : Act} {Q : Exit → Act → World → Prop} (hgd : o.guard = none) (s xo : Operand)
    (ho : o.op = .call { callee := .builtin .append, args := #[s, xo], argTypes := #[24, 24] }) {ao : Option Addr} {n co : Nat} {xs : List Value} {c : Int} (hv : act.eval s = .slice ao n co) (hx : act.eval xo = .slice (some ⟨w.heap.size, 0, none⟩) 1 1)
    (hg : Grow w B 2 1 (.slice ao n co) n xs) (hn : n ≤ 1073741824) (hB : B ≤ w.heap.size)
    (h : ∀ v' w', Grow w' B 2 1 v' (n + 1) (xs ++ [.int .i64 c]) → (w.alloc (.cells #[.int .i64 c] 2)).grownBy w' (Value.slice ao n co).ownBlock → wpList Yaav.prog ops Q rest (act.put o.dst v') w') :
    wpList Yaav.prog ops Q (o :: rest) act (w.alloc (.cells #[.int .i64 c] 2)) :=
  wpList_app Yaav.underlying24 Yaav.info2 rfl hgd s xo ho (v := .slice ao n co) (n := n) (xs := xs) hv hx (hg.alloc _)
    (Src.ofSlice _ Yaav.underlying24 ⟨w.heap.size, 0, none⟩ 1 1 [.int .i64 c] rfl (by have := news2 w [.int .i64 c] 2; simpa using this) (by intro u hu; simp at hu; subst hu; rfl)) (by omega) (by omega) (by simp; omega)
    fun v' w' h1 h2 _ => h v' w' h1 h2

/-- The state of rawProg's loop. -/
def RawRel (B rb : Nat) (a : Option Addr) (n cap : Nat) (w : World) (m : Nat) (o i : Value) (wr : World) : Prop :=
  ∃ (k pos : Nat) (ps : List SO) (ao : Option Addr) (co : Nat), k ≤ m ∧ i = .int .i64 k ∧ o = .slice ao k co ∧ ps.length = k ∧ WfS ps ∧ Grow wr w.heap.size 73 2 (.slice ao k co) k (sCells ps) ∧ Rd B rb a n cap pos wr ∧ w.grownBy wr (some rb)

theorem RawRel.app {B rb : Nat} {a : Option Addr} {n cap : Nat} {w wr w2 : World} {m k pos : Nat} {ps : List SO} {ao : Option Addr} {co : Nat} {v2 : Value} {c x : Int} (hk : k < m) (hl : ps.length = k) (hw : WfS ps)
    (hg : Grow wr w.heap.size 73 2 (.slice ao k co) k (sCells ps)) (hr : Rd B rb a n cap pos wr) (hgr : w.grownBy wr (some rb)) (o : Obj) (h2 : Grow w2 w.heap.size 73 2 v2 (k + 1) (sCells ps ++ [.int .i64 c, .int .i64 x])) (hgr2 : (wr.alloc o).grownBy w2 (Value.slice ao k co).ownBlock) (hc : InR c) (hx : InR x) (hBw : B ≤ w.heap.size) :
    RawRel B rb a n cap w m v2 (.int .i64 ((k : Int) + 1)) w2 := by
  obtain ⟨a2, c2, rfl, _, _⟩ := h2.shape
  refine ⟨k + 1, pos, ps ++ [⟨c, x⟩], a2, c2, hk, by go_num, rfl, by simp [hl], hw.snoc hc hx, by rw [sCells_app]; exact h2, ?_, ?_⟩
  · exact (hr.below ((Below.refl _ _).alloc (Nat.le_refl _) o)).grown hgr2 (fun j hj => Nat.le_trans hBw (hg.owns j hj)) (hg.ne hr.blk (by decide))
  · have g1 : w.grownBy (wr.alloc o) (some rb) := grown_alloc hgr o
    refine ⟨hgr2.os.trans g1.os, hgr2.tape.trans g1.tape, hgr2.output.trans g1.output, Nat.le_trans g1.size hgr2.size, fun i hi hne => (hgr2.block i (Nat.lt_of_lt_of_le hi g1.size) ?_).trans (g1.block i hi hne)⟩
    intro e
    have := hg.owns i e.symm
    omega

set_option maxRecDepth 100000 in
set_option maxHeartbeats 4000000 in
theorem rawProg_any (B rb : Nat) (a : Option Addr) (n cap pos : Nat) (w : World) (hr : Rd B rb a n cap pos w) :
    Calls Yaav.prog 42 #[.pointer (some ⟨rb, 0, none⟩)] w fun e w' => ∃ (ps : List SO) (ao : Option Addr) (co : Nat), e = .returned (.slice ao ps.length co) ∧ ps.length ≤ n ∧ WfS ps ∧ Grow w' w.heap.size 73 2 (.slice ao ps.length co) ps.length (sCells ps) ∧ w.grownBy w' (some rb) := by
  obtain ⟨c0, c1, _⟩ := hr.cells
  have hn := hr.len
  have hp := hr.le
  have hrb := hr.blk.lt
  have hbB := hr.bB
  have hmk := mk_run Yaav.underlying23 Yaav.info73 0 ((n - pos) / 2) (by omega) (by omega) (by omega)
  have hm : wrap64 ((wrap64 ((n : Int) - pos)).tdiv 2) = (((n - pos) / 2 : Nat) : Int) := by
    rw [w64 ((n : Int) - pos) (by omega), Int.tdiv_eq_ediv_of_nonneg (by omega), w64 _ (by omega)]; omega
  generalize hmm : (n - pos) / 2 = m at *
  have hmn : m ≤ n := by omega
  have hmn : m ≤ 1048576 := by omega
  have hmk : ∀ w : World, (Instr.makeSlice 23 (.int .i64 0) (.int .i64 m)).run Yaav.prog w = .ok (.slice (some ⟨w.heap.size, 0, none⟩) 0 m) (w.alloc (.cells (zc #[.int .i64 0, .int .i64 0] (m * 2)) 73)) := fun w => hmk w
  have HM := hideP hmm
  have HR := hideP hr
  have HP := hideP hp
  clear hr hmm hp
  go_enter Yaav.func42, Yaav.ntmps42
  go_wp2_with fail
  go_quiet (fail)
  simp only [hm]
  go_wp2_with fail
  clear hmk hm
  go_loopw [4, 5] (RawRel B rb a n cap w m) (fun o i _ => m - (intOf i).toNat)
  case atStart =>
    refine ⟨0, pos, [], _, _, by omega, rfl, rfl, rfl, (fun p hp => by cases hp), ?_, (HR.out.drewN _).below ((Below.refl _ _).alloc (Nat.le_refl _) _), grown_alloc (grown_drewN (grown_refl _ _) _) _⟩
    exact Grow.made (w.drewN _) _ 73 2 m _ (Nat.le_refl _) (by rw [zc_len])
  case round =>
    obtain ⟨k, pos1, ps, ao, co, hk, rfl, rfl, hl, hwf, hg, hr1, hgr1⟩ := hrel
    have HG := hideP hg
    have HR1 := hideP hr1
    have HGR1 := hideP hgr1
    have HW := hideP hwf
    have HL := hideP hl
    clear hg hr1 hgr1 hwf hl
    by_cases hlt : k < m
    · go_wp2_with fail
      refine (next_any B rb a n cap pos1 wr HR1.out).mono ?_
      rintro e w2 ⟨c, hc, rfl, pos2, hp2, _, hr2, hg2⟩
      have HR2 := hideP hr2
      have HG2 := hideP hg2
      clear hr2 hg2
      go_wp2_with fail
      refine (next_any B rb a n cap pos2 w2 HR2.out).mono ?_
      rintro e w3 ⟨d, hd, rfl, pos3, hp3, _, hr3, hg3⟩
      have hGW : Grow w3 w.heap.size 73 2 (.slice ao k co) k (sCells ps) := by
        have hne : ∀ k', some rb = some k' → (Value.slice ao k co).ownBlock ≠ some k' := fun k' e1 e2 => by cases e1; exact HG.out.ne HR1.out.blk (by decide) e2.symm
        exact (HG.out.grown HG2.out hne).grown hg3 hne
      have hGR : w.grownBy w3 (some rb) := grown_trans (grown_trans HGR1.out HG2.out) hg3
      have hsz : w.heap.size ≤ w3.heap.size := hGR.size
      have HGW := hideP hGW
      have HGR := hideP hGR
      have HR3 := hideP hr3
      have HSZ := hideP hsz
      clear hr3 hg3 hGW hGR hsz HG2 HR2 HG HGR1 HR1
      have hcode : ((c : Int) < 64) ∨ (¬ ((c : Int) < 64) ∧ ((c : Int) % 13 == 0) = true ∧ ((c : Int) % 13 == 9) = false ∧ ((c : Int) % 13 == 10) = false) ∨ (¬ ((c : Int) < 64) ∧ ((c : Int) % 13 == 0) = false ∧ ((c : Int) % 13 == 9) = true) ∨ (¬ ((c : Int) < 64) ∧ ((c : Int) % 13 == 0) = false ∧ ((c : Int) % 13 == 9) = false ∧ ((c : Int) % 13 == 10) = true) ∨ (¬ ((c : Int) < 64) ∧ ((c : Int) % 13 == 0) = false ∧ ((c : Int) % 13 == 9) = false ∧ ((c : Int) % 13 == 10) = false) := by
        simp only [beq_iff_eq, beq_eq_false_iff_ne]; omega
      rcases hcode with h1 | ⟨h1, h2, h3, h4⟩ | ⟨h1, h2, h3⟩ | ⟨h1, h2, h3, h4⟩ | ⟨h1, h2, h3, h4⟩
      · go_wp2_with (at_builtin; refine wpApp_s rfl (.tmp 55) (.tmp 59) rfl rfl rfl HGW.out (by omega) HSZ.out ?_; intro v2 w4 hg4 hgr4; have HG4 := hideP hg4; have HGR4 := hideP hgr4; clear hg4 hgr4)
        refine ⟨RawRel.app hlt HL.out HW.out HGW.out HR3.out HGR.out _ HG4.out HGR4.out ⟨by omega, by omega⟩ (inR_wrap _) (by omega), ?_⟩
        simp [intOf]; omega
      · go_wp2_with (at_builtin; refine wpApp_s rfl (.tmp 55) (.tmp 59) rfl rfl rfl HGW.out (by omega) HSZ.out ?_; intro v2 w4 hg4 hgr4; have HG4 := hideP hg4; have HGR4 := hideP hgr4; clear hg4 hgr4)
        refine ⟨RawRel.app hlt HL.out HW.out HGW.out HR3.out HGR.out _ HG4.out HGR4.out ⟨by omega, by omega⟩ (inR_wrap _) (by omega), ?_⟩
        simp [intOf]; omega
      · go_wp2_with (at_builtin; refine wpApp_s rfl (.tmp 55) (.tmp 59) rfl rfl rfl HGW.out (by omega) HSZ.out ?_; intro v2 w4 hg4 hgr4; have HG4 := hideP hg4; have HGR4 := hideP hgr4; clear hg4 hgr4)
        refine ⟨RawRel.app hlt HL.out HW.out HGW.out HR3.out HGR.out _ HG4.out HGR4.out ⟨by omega, by omega⟩ (inR_mod _ (by omega) (by omega)) (by omega), ?_⟩
        simp [intOf]; omega
      · go_wp2_with (at_builtin; refine wpApp_s rfl (.tmp 55) (.tmp 59) rfl rfl rfl HGW.out (by omega) HSZ.out ?_; intro v2 w4 hg4 hgr4; have HG4 := hideP hg4; have HGR4 := hideP hgr4; clear hg4 hgr4)
        refine ⟨RawRel.app hlt HL.out HW.out HGW.out HR3.out HGR.out _ HG4.out HGR4.out ⟨by omega, by omega⟩ (inR_mod _ (by omega) (by omega)) (by omega), ?_⟩
        simp [intOf]; omega
      · go_wp2_with (at_builtin; refine wpApp_s rfl (.tmp 55) (.tmp 59) rfl rfl rfl HGW.out (by omega) HSZ.out ?_; intro v2 w4 hg4 hgr4; have HG4 := hideP hg4; have HGR4 := hideP hgr4; clear hg4 hgr4)
        refine ⟨RawRel.app hlt HL.out HW.out HGW.out HR3.out HGR.out _ HG4.out HGR4.out ⟨by omega, by omega⟩ ⟨by omega, by omega⟩ (by omega), ?_⟩
        simp [intOf]; omega
    · go_wp2
      go_ret
      have hl := HL.out
      subst hl
      exact ⟨ps, ao, co, rfl, by omega, HW.out, HG.out, HGR1.out⟩

end Go.Proofs.Yahaaw
