/-
  DERIVED. WALKS: DecodeReg (39).
-/
import Derived.Test.YahaawDecR0
import Derived.Deep.DeepCutAuto
import Derived.Deep.CutBlock
namespace Go.Proofs.Yahaaw
open Go.RowKit
set_option linter.unusedVariables false
set_option linter.unusedSimpArgs false

/-- What a decoded register program is. -/
def DecRPost (w : World) (e : Ending) (w' : World) : Prop :=
  ∃ (ps : List RO) (z : Int) (xs : List Int) (a1 a2 : Option Addr) (c1 c2 : Nat), e = .returned (.tuple #[.slice a1 ps.length c1, .int .i64 z, .slice a2 xs.length c2]) ∧ ps.length ≤ 8388609 ∧ xs.length ≤ 5 ∧ InR z ∧ WfR ps ∧ WfI xs ∧ Seg w' a1 (rCells ps) ∧ Seg w' a2 (iCells xs) ∧ Below w.heap.size w w'

theorem WfR.snoc {ps : List RO} (h : WfR ps) {q : RO} (hq : RW q) : WfR (ps ++ [q]) := by
  intro p hp
  rcases List.mem_append.1 hp with hp | hp
  · exact h p hp
  · simp at hp; subst hp; exact hq

theorem Grow.rdx {B rb : Nat} {a : Option Addr} {n cap pos : Nat} {wr w' : World} {e : TypeId} {size : Nat} {v : Value} {k : Nat} {xs : List Value} (he : (64 : TypeId) ≠ e) (hg : Grow wr B e size v k xs) (hr : Rd B rb a n cap pos wr) (h : wr.grownBy w' (some rb)) : Grow w' B e size v k xs :=
  hg.grown h (fun k' e1 e2 => by cases e1; exact hg.ne hr.blk he e2.symm)

/-- Two rows of different types: writing one leaves the other. -/
theorem Grow.other {B : Nat} {w w' : World} {e e' : TypeId} {size size' : Nat} {v v' : Value} {k k' : Nat} {xs xs' : List Value} (he : e ≠ e') (hg : Grow w B e size v k xs) (hg' : Grow w B e' size' v' k' xs') (h : w.grownBy w' v'.ownBlock) : Grow w' B e size v k xs := by
  refine hg.grown h (fun b e1 e2 => ?_)
  obtain ⟨_, hh⟩ := hg
  rcases hh with ⟨rfl, _⟩ | ⟨g, c, rest, rfl, _, _, _, hk⟩
  · simp [Value.ownBlock] at e2
  · simp [Value.ownBlock] at e2
    subst e2
    exact hg'.ne hk he e1.symm

/-- The state of the loop that reads the operations. -/
def OpsRel (B rb : Nat) (a : Option Addr) (n cap : Nat) (w : World) (ax : Option Addr) (cx : Nat) (xs : List Int) (m : Nat) (o i : Value) (wr : World) : Prop :=
  ∃ (k pos : Nat) (ps : List RO) (ao : Option Addr) (co : Nat), k ≤ m ∧ i = .int .i64 k ∧ o = .slice ao k co ∧ ps.length = k ∧ WfR ps ∧ Grow wr B 81 5 (.slice ao k co) k (rCells ps) ∧ Grow wr B 2 1 (.slice ax xs.length cx) xs.length (iCells xs) ∧ Rd B rb a n cap pos wr ∧ Below B w wr

theorem OpsRel.app {B rb : Nat} {a : Option Addr} {n cap : Nat} {w wr w2 : World} {ax : Option Addr} {cx : Nat} {xs : List Int} {m k pos : Nat} {ps : List RO} {ao : Option Addr} {co : Nat} {v2 : Value} {q0 q1 q2 q3 q4 : Int} (hk : k < m) (hl : ps.length = k) (hw : WfR ps)
    (hg : Grow wr B 81 5 (.slice ao k co) k (rCells ps)) (hgx : Grow wr B 2 1 (.slice ax xs.length cx) xs.length (iCells xs)) (hr : Rd B rb a n cap pos wr) (hb : Below B w wr) (o o' : Obj)
    (h2 : Grow w2 B 81 5 v2 (k + 1) (rCells ps ++ [.int .i64 q0, .int .i64 q1, .int .i64 q2, .int .i64 q3, .int .i64 q4])) (hgr2 : ((wr.alloc o).alloc o').grownBy w2 (Value.slice ao k co).ownBlock) (hq : RW ⟨q0, q1, q2, q3, q4⟩) :
    OpsRel B rb a n cap w ax cx xs m v2 (.int .i64 ((k : Int) + 1)) w2 := by
  obtain ⟨a2, c2, rfl, _, _⟩ := h2.shape
  have hB : B ≤ wr.heap.size := by have := hr.blk.lt; have := hr.bB; omega
  have bal : Below wr.heap.size wr ((wr.alloc o).alloc o') := ((Below.refl _ _).alloc (Nat.le_refl _) o).alloc (by simp) o'
  refine ⟨k + 1, pos, ps ++ [⟨q0, q1, q2, q3, q4⟩], a2, c2, hk, by go_num, rfl, by simp [hl], hw.snoc hq, by rw [rCells_app]; exact h2, ?_, ?_, ?_⟩
  · exact (hgx.below bal).other (by decide) (hg.below bal) hgr2
  · exact (hr.below bal).grown hgr2 hg.owns (hg.ne hr.blk (by decide))
  · exact ((hb.alloc hB o).alloc (by simp; omega) o').grown hgr2 (by simp; omega) hg.owns

theorem addr_add' (b off i : Nat) : (⟨b, off, none⟩ : Addr).add i = ⟨b, off + i, none⟩ := by unfold Addr.add; split <;> simp_all

theorem Byt.from {B : Nat} {w : World} {b off n pos : Nat} (h : Byt B w (some ⟨b, off, none⟩) n) (hp : pos ≤ n) : Byt B w (some ⟨b, off + pos, none⟩) (n - pos) := by
  by_cases h0 : n - pos = 0
  · exact .inl h0
  rcases h with h | ⟨b', off', ha, hB, hc⟩
  · omega
  · cases ha
    refine .inr ⟨b, off + pos, rfl, hB, fun i hi => ?_⟩
    rw [Nat.add_assoc]
    exact hc (pos + i) (by omega)

set_option maxRecDepth 100000 in
set_option maxHeartbeats 8000000 in
theorem decodeReg_any (a : Option Addr) (n cap : Nat) (w : World) (hn : n ≤ 1048576) (hcap : n ≤ cap) (hc63 : cap ≤ 9223372036854775807) (hb : Byt w.heap.size w a n) :
    Calls Yaav.prog 39 #[.slice a n cap] w (DecRPost w) := by
  have hr0 : Rd w.heap.size w.heap.size a n cap 0 (w.alloc (.cells #[.slice a n cap, .int .i64 0] 64)) :=
    ⟨Nat.le_refl _, hb.keep fun k hk => Below.heap_alloc _ _ _ hk, Blk.new w [.slice a n cap, .int .i64 0] 64, Nat.zero_le _, hn⟩
  have hb0 : Below w.heap.size w (w.alloc (.cells #[.slice a n cap, .int .i64 0] 64)) := (Below.refl _ _).alloc (Nat.le_refl _) _
  have HR0 := hideP hr0
  have HB0 := hideP hb0
  clear hr0 hb0 hb
  go_enter Yaav.func39, Yaav.ntmps39
  go_wp2_with fail
  refine (next_any w.heap.size w.heap.size a n cap 0 _ HR0.out).mono ?_
  rintro e w1 ⟨c1, hc1, rfl, pos1, hp1, _, hr1, hg1⟩
  obtain ⟨_, rc1, _⟩ := hr1.cells
  have hpn1 := hr1.le
  have hsz1 := hr1.blk.lt
  have HR1 := hideP hr1
  have HB1 := hideP (Rd.belowAt HB0.out HR0.out hg1)
  clear hr1 hg1 HR0 HB0
  go_upto_if 32 with fail
  go_cut [6] (fun sv wx => sv = .int .u8 c1 ∧ ∃ pos, Rd w.heap.size w.heap.size a n cap pos wx ∧ Below w.heap.size w wx)
  case first =>
    by_cases h4 : ((c1 : Int) % 4 == 0) = true
    · by_cases hcp : cap = pos1
      · subst hcp
        go_wp2_with fail
        refine (decode_any a 0 0 w1 (by omega) (.inl rfl)).mono ?_
        rintro e w2 ⟨ps, xs, a1, a2, d1, d2, rfl, hpl, hxl, hpw, hxw, hps, hxs, hb2⟩
        have S2 := hideP hps
        have X2 := hideP hxs
        have HPW := hideP hpw
        have HXW := hideP hxw
        have HR2 := hideP (HR1.out.below hb2)
        have HB2 := hideP (Below.both HB1.out (hb2.mono (Nat.le_refl _)))
        clear hps hxs hb2 hpw hxw
        go_wp2_with fail
        refine (sTranslate a1 ps.length d1 ps _ rfl (by omega) S2.out).mono ?_
        rintro e w3 ⟨htp, hb3⟩
        obtain ⟨ops, d, ok, b3, k3, ht, rfl, hs3⟩ := htp
        have hwf := ht.wf HPW.out hpl
        have HT := hideP hwf
        have X3 := hideP (X2.out.below hb3)
        have R3 := hideP hs3
        have HR3 := hideP (HR2.out.below hb3)
        have HB3 := hideP (Below.both HB2.out hb3)
        clear hb3 ht hs3 hwf HR2 HB2 X2
        cases ok with
        | true =>
          go_wp2
          go_ret3
          obtain ⟨t1, t2, t3, t4⟩ := HT.out
          exact ⟨ops, d, xs, b3, a2, k3, d2, rfl, by omega, hxl, ⟨by omega, by omega⟩, t1, HXW.out, R3.out, X3.out, HB3.out⟩
        | false =>
          go_wp2
          go_meet
          case rel => exact ⟨rfl, cap, HR3.out, HB3.out⟩
      · have HBY : Hid (Byt w1.heap.size w1 (Option.map (fun x => x.add pos1) a) (n - pos1)) := by
          by_cases h0 : n - pos1 = 0
          · exact .inl h0
          · have hby := HR1.out.byt
            rcases hby with hby | ⟨b', off', rfl, hB', hc'⟩
            · omega
            · refine .inr ⟨b', off' + pos1, congrArg some (addr_add' b' off' pos1), by omega, fun i hi => ?_⟩
              rw [Nat.add_assoc]
              exact hc' (pos1 + i) (by omega)
        go_wp2_with fail
        refine (decode_any _ (n - pos1) (cap - pos1) w1 (by omega) HBY.out).mono ?_
        rintro e w2 ⟨ps, xs, a1, a2, d1, d2, rfl, hpl, hxl, hpw, hxw, hps, hxs, hb2⟩
        have S2 := hideP hps
        have X2 := hideP hxs
        have HPW := hideP hpw
        have HXW := hideP hxw
        have HR2 := hideP (HR1.out.below hb2)
        have HB2 := hideP (Below.both HB1.out (hb2.mono (Nat.le_refl _)))
        clear hps hxs hb2 hpw hxw
        go_wp2_with fail
        refine (sTranslate a1 ps.length d1 ps _ rfl (by omega) S2.out).mono ?_
        rintro e w3 ⟨htp, hb3⟩
        obtain ⟨ops, d, ok, b3, k3, ht, rfl, hs3⟩ := htp
        have hwf := ht.wf HPW.out hpl
        have HT := hideP hwf
        have X3 := hideP (X2.out.below hb3)
        have R3 := hideP hs3
        have HR3 := hideP (HR2.out.below hb3)
        have HB3 := hideP (Below.both HB2.out hb3)
        clear hb3 ht hs3 hwf HR2 HB2 X2
        cases ok with
        | true =>
          go_wp2
          go_ret3
          obtain ⟨t1, t2, t3, t4⟩ := HT.out
          exact ⟨ops, d, xs, b3, a2, k3, d2, rfl, by omega, hxl, ⟨by omega, by omega⟩, t1, HXW.out, R3.out, X3.out, HB3.out⟩
        | false =>
          go_wp2
          go_meet
          case rel => exact ⟨rfl, pos1, HR3.out, HB3.out⟩
    · have h4 : ((c1 : Int) % 4 == 0) = false := by simpa using h4
      go_wp2
      go_meet
      case rel => exact ⟨rfl, pos1, HR1.out, HB1.out⟩
  case rest =>
    obtain ⟨rfl, pos2, hr2, hb2⟩ := hcut
    have HR2 := hideP hr2
    have HB2 := hideP hb2
    clear hr2 hb2 HR1 HB1 rc1 hpn1 hsz1
    go_wp2_with fail
    refine (next_any w.heap.size w.heap.size a n cap pos2 _ HR2.out).mono ?_
    rintro e w3 ⟨c3, hc3, rfl, pos3, hp3, _, hr3, hg3⟩
    have HR3 := hideP hr3
    have HB3 := hideP (Rd.belowAt HB2.out HR2.out hg3)
    clear hr3 hg3 HR2 HB2
    go_upto_block 0 with fail
    go_cut [12] (fun zv wx => ∃ z : Int, zv = .int .i64 z ∧ InR z ∧ ∃ pos, Rd w.heap.size w.heap.size a n cap pos wx ∧ Below w.heap.size w wx)
    case first =>
      have h16 : ((c1 : Int) % 16 == 1) = true ∨ (((c1 : Int) % 16 == 1) = false ∧ ((c1 : Int) % 16 == 5) = true) ∨ (((c1 : Int) % 16 == 1) = false ∧ ((c1 : Int) % 16 == 5) = false) := by
        simp only [beq_iff_eq, beq_eq_false_iff_ne]; omega
      rcases h16 with k1 | ⟨k1, k5⟩ | ⟨k1, k5⟩
      · go_wp2_with fail
        refine (next_any w.heap.size w.heap.size a n cap pos3 _ HR3.out).mono ?_
        rintro e w4 ⟨c4, hc4, rfl, pos4, hp4, _, hr4, hg4⟩
        have HR4 := hideP hr4
        have HB4 := hideP (Rd.belowAt HB3.out HR3.out hg4)
        clear hr4 hg4
        go_wp2
        go_meet
        case rel => exact ⟨_, rfl, ⟨by omega, by omega⟩, pos4, HR4.out, HB4.out⟩
      · go_wp2_with fail
        refine (next_any w.heap.size w.heap.size a n cap pos3 _ HR3.out).mono ?_
        rintro e w4 ⟨c4, hc4, rfl, pos4, hp4, _, hr4, hg4⟩
        have HR4 := hideP hr4
        have HB4 := hideP (Rd.belowAt HB3.out HR3.out hg4)
        clear hr4 hg4
        go_wp2
        go_meet
        case rel => exact ⟨_, rfl, ⟨by omega, by omega⟩, pos4, HR4.out, HB4.out⟩
      · go_wp2
        go_meet
        case rel => exact ⟨_, rfl, ⟨by omega, by omega⟩, pos3, HR3.out, HB3.out⟩
    case rest =>
      obtain ⟨z, rfl, hz, pos4, hr4, hb4⟩ := hcut
      have HR4 := hideP hr4
      have HB4 := hideP hb4
      have HZ := hideP hz
      clear hr4 hb4 hz HR3 HB3
      go_wp2_with fail
      refine (next_any w.heap.size w.heap.size a n cap pos4 _ HR4.out).mono ?_
      rintro e w5 ⟨c5, hc5, rfl, pos5, hp5, _, hr5, hg5⟩
      have HR5 := hideP hr5
      have HB5 := hideP (Rd.belowAt HB4.out HR4.out hg5)
      have hmk : ∀ w' : World, (Instr.makeSlice 24 (.int .i64 0) (.int .i64 ((c5 : Int) % 6))).run Yaav.prog w' = .ok (.slice (some ⟨w'.heap.size, 0, none⟩) 0 (c5 % 6)) (w'.alloc (.cells (zc #[.int .i64 0] (c5 % 6)) 2)) := by
        intro w'
        have := mk_run Yaav.underlying24 Yaav.info2 0 (c5 % 6) (by omega) (by omega) (by omega) w'
        simpa [Value.cells] using this
      have hB5 : w.heap.size ≤ w5.heap.size := by have := hr5.blk.lt; omega
      have hst5 : ArgRel w.heap.size w.heap.size a n cap w (c5 % 6) (.slice (some ⟨w5.heap.size, 0, none⟩) 0 (c5 % 6)) (.int .i64 0) (w5.alloc (.cells (zc #[.int .i64 0] (c5 % 6)) 2)) :=
        ⟨0, pos5, [], _, _, by omega, rfl, rfl, rfl, (fun p hp => by cases hp), Grow.made w5 _ 2 1 (c5 % 6) _ hB5 (by rw [zc_len]; omega), HR5.out.below ((Below.refl _ _).alloc (Nat.le_refl _) _), HB5.out.alloc hB5 _⟩
      have HST5 := hideP hst5
      clear hr5 hg5 HR4 HB4 hst5
      go_wp2_with fail
      clear hmk
      go_loopw [14, 15] (ArgRel w.heap.size w.heap.size a n cap w (c5 % 6)) (fun o i _ => 6 - (intOf i).toNat)
      case atStart => exact HST5.out
      case round =>
        obtain ⟨k, pos6, xs, ao, co, hk, rfl, rfl, hl, hwf, hg, hr6, hb6⟩ := hrel
        obtain ⟨_, rc6, _⟩ := hr6.cells
        have hpn6 := hr6.le
        have hsz6 := hr6.blk.lt
        have HG := hideP hg
        have HR6 := hideP hr6
        have HB6 := hideP hb6
        have HW := hideP hwf
        have HL := hideP hl
        clear hg hr6 hb6 hwf hl HR5 HB5 HST5
        by_cases hlt : k < c5 % 6
        · go_wp2_with (first | (go_at_call 41; refine (value_any w.heap.size w.heap.size a n cap pos6 wr HR6.out).mono ?_; rintro e w7 ⟨c, hc, rfl, pos7, hp7, hr7, hg7⟩; have hszz : w.heap.size ≤ w7.heap.size := (by have := hr7.blk.lt; omega); have HR7 := hideP hr7; have HG7 := hideP (HG.out.rd HR6.out hg7); have HB7 := hideP (Rd.belowAt HB6.out HR6.out hg7); clear hr7 hg7) | (at_builtin; refine wpApp_i rfl (.tmp 83) (.tmp 86) rfl rfl rfl HG7.out (by omega) hszz ?_; intro v2 w8 hg8 hgr8; have HG8 := hideP hg8; have HGR8 := hideP hgr8; clear hg8 hgr8))
          refine ⟨ArgRel.app hlt HL.out HW.out HG7.out HR7.out HB7.out _ HG8.out HGR8.out hc, ?_⟩
          simp [intOf]; omega
        · obtain ⟨m, hmm⟩ : ∃ m, (n - pos6) / 4 = m := ⟨_, rfl⟩
          have hm1 : wrap64 ((wrap64 ((n : Int) - pos6)).tdiv 4) = (m : Int) := by
            rw [w64 ((n : Int) - pos6) (by omega), Int.tdiv_eq_ediv_of_nonneg (by omega), w64 _ (by omega)]; omega
          have hm2 : ((n : Int) - pos6).tdiv 4 = (m : Int) := by
            rw [Int.tdiv_eq_ediv_of_nonneg (by omega)]; omega
          have hm3 : ((n : Int) - pos6) / 4 = (m : Int) := by omega
          have hmn : m ≤ n := by omega
          have hm20 : m ≤ 1048576 := by omega
          have hm0 : ¬ ((m : Int) < 0) := by omega
          have hmk : ∀ w' : World, (Instr.makeSlice 32 (.int .i64 0) (.int .i64 (m : Int))).run Yaav.prog w' = .ok (.slice (some ⟨w'.heap.size, 0, none⟩) 0 m) (w'.alloc (.cells (zc #[.int .i64 0, .int .i64 0, .int .i64 0, .int .i64 0, .int .i64 0] (m * 5)) 81)) := by
            intro w'
            have := mk_run Yaav.underlying32 Yaav.info81 0 m (by omega) (by omega) (by omega) w'
            simpa [Value.cells] using this
          have hlk := HL.out
          subst hlk
          have hst6 : OpsRel w.heap.size w.heap.size a n cap w ao co xs m (.slice (some ⟨wr.heap.size, 0, none⟩) 0 m) (.int .i64 0) (wr.alloc (.cells (zc #[.int .i64 0, .int .i64 0, .int .i64 0, .int .i64 0, .int .i64 0] (m * 5)) 81)) :=
            ⟨0, pos6, [], _, _, by omega, rfl, rfl, rfl, (fun p hp => by cases hp), Grow.made wr _ 81 5 m _ (by omega) (by rw [zc_len]), HG.out.alloc _, HR6.out.below ((Below.refl _ _).alloc (Nat.le_refl _) _), HB6.out.alloc (by omega) _⟩
          have HST6 := hideP hst6
          have HMM := hideP hmm
          have HXL := hideP hk
          clear hst6 hmm HG HR6 HB6 hk
          go_wp2_with fail
          clear hmk hm1 hm2 hm3 rc6
          go_loopw [17, 18] (OpsRel w.heap.size w.heap.size a n cap w ao co xs m) (fun o i _ => m - (intOf i).toNat)
          case atStart => exact HST6.out
          case round =>
            obtain ⟨k, pos7, ps, ap, cp, hk, rfl, rfl, hl, hwf, hg, hgx, hr7, hb7⟩ := hrel
            have G0 := hideP hg
            have X0 := hideP hgx
            have R0 := hideP hr7
            have B0 := hideP hb7
            have HWP := hideP hwf
            have HLP := hideP hl
            clear hg hgx hr7 hb7 hwf hl HST6
            by_cases hlt2 : k < m
            · go_wp2_with fail
              refine (next_any w.heap.size w.heap.size a n cap _ _ R0.out).mono ?_
              rintro e y1 ⟨e0, he0, rfl, q1, _, _, hrr, hgg⟩
              have R1 := hideP hrr
              have B1 := hideP (Rd.belowAt B0.out R0.out hgg)
              have G1 := hideP (G0.out.rdx (by decide) R0.out hgg)
              have X1 := hideP (X0.out.rdx (by decide) R0.out hgg)
              clear hrr hgg R0 B0 G0 X0
              go_wp2_with fail
              refine (next_any w.heap.size w.heap.size a n cap _ _ R1.out).mono ?_
              rintro e y2 ⟨e1, he1, rfl, q2, _, _, hrr, hgg⟩
              have R2 := hideP hrr
              have B2 := hideP (Rd.belowAt B1.out R1.out hgg)
              have G2 := hideP (G1.out.rdx (by decide) R1.out hgg)
              have X2 := hideP (X1.out.rdx (by decide) R1.out hgg)
              clear hrr hgg R1 B1 G1 X1
              go_wp2_with fail
              refine (next_any w.heap.size w.heap.size a n cap _ _ R2.out).mono ?_
              rintro e y3 ⟨e2, he2, rfl, q3, _, _, hrr, hgg⟩
              have R3 := hideP hrr
              have B3 := hideP (Rd.belowAt B2.out R2.out hgg)
              have G3 := hideP (G2.out.rdx (by decide) R2.out hgg)
              have X3 := hideP (X2.out.rdx (by decide) R2.out hgg)
              clear hrr hgg R2 B2 G2 X2
              go_wp2_with fail
              refine (next_any w.heap.size w.heap.size a n cap _ _ R3.out).mono ?_
              rintro e y4 ⟨e3, he3, rfl, q4, _, _, hrr, hgg⟩
              have R4 := hideP hrr
              have B4 := hideP (Rd.belowAt B3.out R3.out hgg)
              have G4 := hideP (G3.out.rdx (by decide) R3.out hgg)
              have X4 := hideP (X3.out.rdx (by decide) R3.out hgg)
              clear hrr hgg R3 B3 G3 X3
              have hszz : w.heap.size ≤ y4.heap.size := by have := R4.out.blk.lt; omega
              go_wp2_with fail
              refine (regField_any e1 z _ he1 HZ.out).mono ?_
              rintro e w' ⟨f1, lo1, hi1, rfl, hw'⟩
              subst w'
              go_wp2_with fail
              refine (regField_any e2 z _ he2 HZ.out).mono ?_
              rintro e w' ⟨f2, lo2, hi2, rfl, hw'⟩
              subst w'
              go_wp2_with fail
              refine (regField_any e3 z _ he3 HZ.out).mono ?_
              rintro e w' ⟨f3, lo3, hi3, rfl, hw'⟩
              subst w'
              have hcode : (((e0 : Int) % 12 == 0) = true ∧ ((e1 : Int) % 2 == 0) = true) ∨ (((e0 : Int) % 12 == 0) = true ∧ ((e1 : Int) % 2 == 0) = false) ∨ (((e0 : Int) % 12 == 0) = false ∧ ((e0 : Int) % 12 == 1) = true) ∨ (((e0 : Int) % 12 == 0) = false ∧ ((e0 : Int) % 12 == 1) = false ∧ ((e0 : Int) % 12 == 8) = true) ∨ (((e0 : Int) % 12 == 0) = false ∧ ((e0 : Int) % 12 == 1) = false ∧ ((e0 : Int) % 12 == 8) = false ∧ ((e0 : Int) % 12 == 9) = true) ∨ (((e0 : Int) % 12 == 0) = false ∧ ((e0 : Int) % 12 == 1) = false ∧ ((e0 : Int) % 12 == 8) = false ∧ ((e0 : Int) % 12 == 9) = false) := by
                simp only [beq_iff_eq, beq_eq_false_iff_ne]; omega
              rcases hcode with ⟨s1, s2⟩ | ⟨s1, s2⟩ | ⟨s1, s2⟩ | ⟨s1, s2, s3⟩ | ⟨s1, s2, s3, s4⟩ | ⟨s1, s2, s3, s4⟩
              · go_wp2_with (at_builtin; refine wpApp_r rfl (.tmp 160) (.tmp 162) rfl (M := y4.heap.size + 1) (by simp) rfl rfl (G4.out.alloc _) (by omega) (by simp; omega) ?_; intro v2 w8 hg8 hgr8; have HG8 := hideP hg8; have HGR8 := hideP hgr8; clear hg8 hgr8)
                refine ⟨OpsRel.app hlt2 HLP.out HWP.out G4.out X4.out R4.out B4.out _ _ HG8.out HGR8.out (rw_mk (by omega) (inR_wrap _)), ?_⟩
                simp [intOf]; omega
              · go_wp2_with (at_builtin; refine wpApp_r rfl (.tmp 160) (.tmp 162) rfl (M := y4.heap.size + 1) (by simp) rfl rfl (G4.out.alloc _) (by omega) (by simp; omega) ?_; intro v2 w8 hg8 hgr8; have HG8 := hideP hg8; have HGR8 := hideP hgr8; clear hg8 hgr8)
                refine ⟨OpsRel.app hlt2 HLP.out HWP.out G4.out X4.out R4.out B4.out _ _ HG8.out HGR8.out (rw_mk (by omega) (inR_wrap _)), ?_⟩
                simp [intOf]; omega
              · go_wp2_with (at_builtin; refine wpApp_r rfl (.tmp 160) (.tmp 162) rfl (M := y4.heap.size + 1) (by simp) rfl rfl (G4.out.alloc _) (by omega) (by simp; omega) ?_; intro v2 w8 hg8 hgr8; have HG8 := hideP hg8; have HGR8 := hideP hgr8; clear hg8 hgr8)
                refine ⟨OpsRel.app hlt2 HLP.out HWP.out G4.out X4.out R4.out B4.out _ _ HG8.out HGR8.out (rw_mk (by omega) ⟨by omega, by omega⟩), ?_⟩
                simp [intOf]; omega
              · go_wp2_with (at_builtin; refine wpApp_r rfl (.tmp 160) (.tmp 162) rfl (M := y4.heap.size + 1) (by simp) rfl rfl (G4.out.alloc _) (by omega) (by simp; omega) ?_; intro v2 w8 hg8 hgr8; have HG8 := hideP hg8; have HGR8 := hideP hgr8; clear hg8 hgr8)
                refine ⟨OpsRel.app hlt2 HLP.out HWP.out G4.out X4.out R4.out B4.out _ _ HG8.out HGR8.out (rw_mk (by omega) (inR_mod _ (by omega) (by omega))), ?_⟩
                simp [intOf]; omega
              · go_wp2_with (at_builtin; refine wpApp_r rfl (.tmp 160) (.tmp 162) rfl (M := y4.heap.size + 1) (by simp) rfl rfl (G4.out.alloc _) (by omega) (by simp; omega) ?_; intro v2 w8 hg8 hgr8; have HG8 := hideP hg8; have HGR8 := hideP hgr8; clear hg8 hgr8)
                refine ⟨OpsRel.app hlt2 HLP.out HWP.out G4.out X4.out R4.out B4.out _ _ HG8.out HGR8.out (rw_mk (by omega) (inR_mod _ (by omega) (by omega))), ?_⟩
                simp [intOf]; omega
              · go_wp2_with (at_builtin; refine wpApp_r rfl (.tmp 160) (.tmp 162) rfl (M := y4.heap.size + 1) (by simp) rfl rfl (G4.out.alloc _) (by omega) (by simp; omega) ?_; intro v2 w8 hg8 hgr8; have HG8 := hideP hg8; have HGR8 := hideP hgr8; clear hg8 hgr8)
                refine ⟨OpsRel.app hlt2 HLP.out HWP.out G4.out X4.out R4.out B4.out _ _ HG8.out HGR8.out (rw_mk (by omega) ⟨by omega, by omega⟩), ?_⟩
                simp [intOf]; omega
            · go_wp2
              go_ret3
              have hlp := HLP.out
              subst hlp
              obtain ⟨_, _, e1, s1, _⟩ := G0.out.shape
              obtain ⟨_, _, e2, s2, _⟩ := X0.out.shape
              cases e1
              cases e2
              have hx5 := HXL.out
              exact ⟨ps, z, xs, ap, ao, cp, co, rfl, by omega, by omega, HZ.out, HWP.out, HW.out, s1, s2, B0.out⟩

end Go.Proofs.Yahaaw
