/-
  DERIVED. WALKS: Decode (15).
-/
import Derived.Test.YahaawGen
import Derived.Test.YahaawRaw
namespace Go.Proofs.Yahaaw
open Go.RowKit
set_option linter.unusedVariables false
set_option linter.unusedSimpArgs false

/-- What a decoded stack program is: some well-formed lists, new in memory. -/
def DecPost (w : World) (e : Ending) (w' : World) : Prop :=
  ∃ (ps : List SO) (xs : List Int) (a1 a2 : Option Addr) (c1 c2 : Nat), e = .returned (.tuple #[.slice a1 ps.length c1, .slice a2 xs.length c2]) ∧ ps.length ≤ 8388608 ∧ xs.length ≤ 5 ∧ WfS ps ∧ WfI xs ∧ Seg w' a1 (sCells ps) ∧ Seg w' a2 (iCells xs) ∧ Below w.heap.size w w'

/-- The state of the loop that reads the arguments. -/
def ArgRel (B rb : Nat) (a : Option Addr) (n cap : Nat) (w : World) (m : Nat) (o i : Value) (wr : World) : Prop :=
  ∃ (k pos : Nat) (xs : List Int) (ao : Option Addr) (co : Nat), k ≤ m ∧ i = .int .i64 k ∧ o = .slice ao k co ∧ xs.length = k ∧ WfI xs ∧ Grow wr B 2 1 (.slice ao k co) k (iCells xs) ∧ Rd B rb a n cap pos wr ∧ Below B w wr

theorem WfI.snoc {xs : List Int} (h : WfI xs) {c : Int} (hc : InR c) : WfI (xs ++ [c]) := by
  intro p hp
  rcases List.mem_append.1 hp with hp | hp
  · exact h p hp
  · simp at hp; subst hp; exact hc

theorem ArgRel.app {B rb : Nat} {a : Option Addr} {n cap : Nat} {w wr w2 : World} {m k pos : Nat} {xs : List Int} {ao : Option Addr} {co : Nat} {v2 : Value} {c : Int} (hk : k < m) (hl : xs.length = k) (hw : WfI xs)
    (hg : Grow wr B 2 1 (.slice ao k co) k (iCells xs)) (hr : Rd B rb a n cap pos wr) (hb : Below B w wr) (o : Obj) (h2 : Grow w2 B 2 1 v2 (k + 1) (iCells xs ++ [.int .i64 c])) (hgr2 : (wr.alloc o).grownBy w2 (Value.slice ao k co).ownBlock) (hc : InR c) :
    ArgRel B rb a n cap w m v2 (.int .i64 ((k : Int) + 1)) w2 := by
  obtain ⟨a2, c2, rfl, _, _⟩ := h2.shape
  have hB : B ≤ wr.heap.size := by have := hr.blk.lt; have := hr.bB; omega
  refine ⟨k + 1, pos, xs ++ [c], a2, c2, hk, by go_num, rfl, by simp [hl], hw.snoc hc, by rw [iCells_app]; exact h2, ?_, ?_⟩
  · exact (hr.below ((Below.refl _ _).alloc (Nat.le_refl _) o)).grown hgr2 hg.owns (hg.ne hr.blk (by decide))
  · exact (hb.alloc hB o).grown hgr2 (by simp; omega) hg.owns

theorem Grow.rd {B rb : Nat} {a : Option Addr} {n cap pos : Nat} {wr w' : World} {v : Value} {k : Nat} {xs : List Value} (hg : Grow wr B 2 1 v k xs) (hr : Rd B rb a n cap pos wr) (h : wr.grownBy w' (some rb)) : Grow w' B 2 1 v k xs :=
  hg.grown h (fun k' e1 e2 => by cases e1; exact hg.ne hr.blk (by decide) e2.symm)

theorem St.args {B : Nat} {w0 : World} {rb gb : Nat} {a : Option Addr} {n cap pos : Nat} {ps : List SO} {w : World} (h : St B w0 rb gb a n cap pos ps w) {v : Value} {k : Nat} {xs : List Value} (hg : Grow w0 B 2 1 v k xs) : Grow w B 2 1 v k xs := by
  obtain ⟨hl, hg⟩ := hg
  refine ⟨hl, ?_⟩
  rcases hg with hg | ⟨g, c, rest, hv, hB, hc, hr, hk⟩
  · exact .inl hg
  · exact .inr ⟨g, c, rest, hv, hB, hc, hr, h.keep _ _ hk⟩

theorem St.seg {B : Nat} {w0 : World} {rb gb : Nat} {a : Option Addr} {n cap pos : Nat} {ps : List SO} {w : World} (h : St B w0 rb gb a n cap pos ps w) : ∃ a' c', w.cell? ⟨gb, 0, none⟩ = some (.slice a' ps.length c') ∧ Seg w a' (sCells ps) := by
  obtain ⟨v, hv, hg⟩ := h.bd
  obtain ⟨a', c', rfl, hs, _⟩ := hg.shape
  have d0 := hv.cell 0
  simp at d0
  exact ⟨a', c', d0, hs⟩

theorem St.bigger {B : Nat} {w0 : World} {rb gb : Nat} {a : Option Addr} {n cap pos : Nat} {ps : List SO} {w : World} (h : St B w0 rb gb a n cap pos ps w) {g m c : Nat} (hc : w.cell? ⟨gb, 0, none⟩ = some (.slice (some ⟨g, 0, none⟩) m c)) : B ≤ g := by
  obtain ⟨v, hv, hg⟩ := h.bd
  have d0 := hv.cell 0
  simp at d0
  rw [hc] at d0
  simp at d0
  subst d0
  exact hg.owns g rfl

theorem Rd.belowAt {B rb : Nat} {a : Option Addr} {n cap pos : Nat} {w wr w' : World} (hb : Below B w wr) (hr : Rd B rb a n cap pos wr) (h : wr.grownBy w' (some rb)) : Below B w w' :=
  Below.grownAt hb h (by have := hr.blk.lt; have := hr.bB; omega) hr.bB

set_option maxRecDepth 100000 in
set_option maxHeartbeats 4000000 in
theorem decode_any (a : Option Addr) (n cap : Nat) (w : World) (hn : n ≤ 1048576) (hb : Byt w.heap.size w a n) :
    Calls Yaav.prog 15 #[.slice a n cap] w (DecPost w) := by
  have hr0 : Rd w.heap.size w.heap.size a n cap 0 (w.alloc (.cells #[.slice a n cap, .int .i64 0] 64)) :=
    ⟨Nat.le_refl _, hb.keep fun k hk => Below.heap_alloc _ _ _ hk, Blk.new w [.slice a n cap, .int .i64 0] 64, Nat.zero_le _, hn⟩
  have hb0 : Below w.heap.size w (w.alloc (.cells #[.slice a n cap, .int .i64 0] 64)) := (Below.refl _ _).alloc (Nat.le_refl _) _
  have HR0 := hideP hr0
  have HB0 := hideP hb0
  clear hr0 hb0 hb
  go_enter Yaav.func15, Yaav.ntmps15
  go_wp2_with fail
  refine (next_any w.heap.size w.heap.size a n cap 0 _ HR0.out).mono ?_
  rintro e w1 ⟨c1, hc1, rfl, pos1, hp1, _, hr1, hg1⟩
  have HR1 := hideP hr1
  have HB1 := hideP (Rd.belowAt HB0.out HR0.out hg1)
  clear hr1 hg1
  go_wp2_with fail
  refine (next_any w.heap.size w.heap.size a n cap pos1 _ HR1.out).mono ?_
  rintro e w2 ⟨c2, hc2, rfl, pos2, hp2, _, hr2, hg2⟩
  have HR2 := hideP hr2
  have HB2 := hideP (Rd.belowAt HB1.out HR1.out hg2)
  clear hr2 hg2 HR0 HB0 HR1 HB1
  go_wp2_with fail
  refine (next_any w.heap.size w.heap.size a n cap pos2 _ HR2.out).mono ?_
  rintro e w3 ⟨c3, hc3, rfl, pos3, hp3, _, hr3, hg3⟩
  have HR3 := hideP hr3
  have HB3 := hideP (Rd.belowAt HB2.out HR2.out hg3)
  clear hr3 hg3 HR2 HB2
  go_wp2_with fail
  refine (next_any w.heap.size w.heap.size a n cap pos3 _ HR3.out).mono ?_
  rintro e w4 ⟨c4, hc4, rfl, pos4, hp4, _, hr4, hg4⟩
  have HR4 := hideP hr4
  have HB4 := hideP (Rd.belowAt HB3.out HR3.out hg4)
  clear hr4 hg4 HR3 HB3
  go_wp2_with fail
  refine (next_any w.heap.size w.heap.size a n cap pos4 _ HR4.out).mono ?_
  rintro e w5 ⟨c5, hc5, rfl, pos5, hp5, _, hr5, hg5⟩
  have HR5 := hideP hr5
  have HB5 := hideP (Rd.belowAt HB4.out HR4.out hg5)
  have hmk : ∀ w' : World, (Instr.makeSlice 24 (.int .i64 0) (.int .i64 ((c2 : Int) % 6))).run Yaav.prog w' = .ok (.slice (some ⟨w'.heap.size, 0, none⟩) 0 (c2 % 6)) (w'.alloc (.cells (zc #[.int .i64 0] (c2 % 6)) 2)) := by
    intro w'
    have := mk_run Yaav.underlying24 Yaav.info2 0 (c2 % 6) (by omega) (by omega) (by omega) w'
    simpa [Value.cells] using this
  have hB5 : w.heap.size ≤ w5.heap.size := by have := hr5.blk.lt; omega
  have hst5 : ArgRel w.heap.size w.heap.size a n cap w (c2 % 6) (.slice (some ⟨w5.heap.size, 0, none⟩) 0 (c2 % 6)) (.int .i64 0) (w5.alloc (.cells (zc #[.int .i64 0] (c2 % 6)) 2)) :=
    ⟨0, pos5, [], _, _, by omega, rfl, rfl, rfl, (fun p hp => by cases hp), Grow.made w5 _ 2 1 (c2 % 6) _ hB5 (by rw [zc_len]; omega), HR5.out.below ((Below.refl _ _).alloc (Nat.le_refl _) _), HB5.out.alloc hB5 _⟩
  have HST5 := hideP hst5
  clear hr5 hg5 HR4 HB4 hst5
  go_wp2_with fail
  clear hmk
  go_loopw [11, 12] (ArgRel w.heap.size w.heap.size a n cap w (c2 % 6)) (fun o i _ => 6 - (intOf i).toNat)
  case atStart => exact HST5.out
  case round =>
    obtain ⟨k, pos6, xs, ao, co, hk, rfl, rfl, hl, hwf, hg, hr6, hb6⟩ := hrel
    have HG := hideP hg
    have HR6 := hideP hr6
    have HB6 := hideP hb6
    have HW := hideP hwf
    have HL := hideP hl
    clear hg hr6 hb6 hwf hl HR5 HB5 HST5
    by_cases hlt : k < c2 % 6
    · go_wp2_with (first | (go_at_call 41; refine (value_any w.heap.size w.heap.size a n cap pos6 wr HR6.out).mono ?_; rintro e w7 ⟨c, hc, rfl, pos7, hp7, hr7, hg7⟩; have hszz : w.heap.size ≤ w7.heap.size := (by have := hr7.blk.lt; omega); have HR7 := hideP hr7; have HG7 := hideP (HG.out.rd HR6.out hg7); have HB7 := hideP (Rd.belowAt HB6.out HR6.out hg7); clear hr7 hg7) | (at_builtin; refine wpApp_i rfl (.tmp 45) (.tmp 48) rfl rfl rfl HG7.out (by omega) hszz ?_; intro v2 w8 hg8 hgr8; have HG8 := hideP hg8; have HGR8 := hideP hgr8; clear hg8 hgr8))
      refine ⟨ArgRel.app hlt HL.out HW.out HG7.out HR7.out HB7.out _ HG8.out HGR8.out hc, ?_⟩
      simp [intOf]; omega
    · by_cases hm0 : ((c1 : Int) % 8 == 0) = true
      · go_wp2_with fail
        refine (rawProg_any w.heap.size w.heap.size a n cap pos6 wr HR6.out).mono ?_
        rintro e w7 ⟨ps, ap, cp, rfl, hpl, hpw, hpg, hg7⟩
        have HPL := hideP hpl
        have HPW := hideP hpw
        have HPG := hideP hpg
        have HG7 := hideP hg7
        clear hpl hpw hpg hg7
        go_wp2
        go_ret2
        obtain ⟨_, _, e1, s1, _⟩ := HPG.out.shape
        obtain ⟨_, _, e2, s2, _⟩ := (HG.out.rd HR6.out HG7.out).shape
        cases e1
        cases e2
        have hlk := HL.out
        subst hlk
        exact ⟨ps, xs, ap, ao, cp, co, rfl, by have := HPL.out; omega, by omega, HPW.out, HW.out, s1, s2, Rd.belowAt HB6.out HR6.out HG7.out⟩
      · have hm0 : ((c1 : Int) % 8 == 0) = false := by simpa using hm0
        have hB6 : w.heap.size ≤ wr.heap.size := by have := HR6.out.blk.lt; omega
        have hst : St w.heap.size (wr.alloc (.cells #[.slice none 0 0] 70)) w.heap.size wr.heap.size a n cap pos6 [] (wr.alloc (.cells #[.slice none 0 0] 70)) :=
          ⟨Below.refl _ _, HR6.out.below ((Below.refl _ _).alloc (Nat.le_refl _) _), hB6, ⟨.slice none 0 0, Blk.new wr [.slice none 0 0] 70, Grow.nil _ _ _ _⟩, (fun p hp => by cases hp), fun b cs hb => hb⟩
        have hg1 := HG.out.alloc (.cells #[.slice none 0 0] 70)
        have hb1 := HB6.out.alloc hB6 (.cells #[.slice none 0 0] 70)
        have HST := hideP hst
        have HG1 := hideP hg1
        have HB1 := hideP hb1
        clear hst hg1 hb1 HG HB6
        go_wp2_with fail
        refine (genBlock_all 10 0 rfl pos6 0 [] 0 0 _ HST.out rfl rfl (by omega) (by simp; omega)).mono ?_
        rintro e w7 ⟨d7, pos7, ps, rfl, hs7, hp7, hq7, _, _, hl7, _⟩
        have hpl : ps.length ≤ 8388608 := by simp at hl7; omega
        have hb7 := Below.trans HB1.out hs7.bel
        have hg7 := hs7.args HG1.out
        have HS7 := hideP hs7
        have HB7 := hideP hb7
        have HG7 := hideP hg7
        clear hs7 hb7 hg7 hl7 hp7 hq7 HST HB1
        by_cases hm1 : ((c1 : Int) % 8 == 1) = true
        · by_cases hpos : 0 < ps.length
          · obtain ⟨j, hj⟩ : ∃ j, (c3 * 256 + c4) % ps.length = j := ⟨_, rfl⟩
            have hjl : j < ps.length := by rw [← hj]; exact Nat.mod_lt _ hpos
            have hji : ((c3 : Int) * 256 + c4) % ps.length = (j : Int) := by rw [← hj]; simp
            clear hj
            have h4 : ((c5 : Int) % 4 == 0) = true ∨ (((c5 : Int) % 4 == 0) = false ∧ ((c5 : Int) % 4 == 1) = true) ∨ (((c5 : Int) % 4 == 0) = false ∧ ((c5 : Int) % 4 == 1) = false ∧ ((c5 : Int) % 4 == 2) = true) ∨ (((c5 : Int) % 4 == 0) = false ∧ ((c5 : Int) % 4 == 1) = false ∧ ((c5 : Int) % 4 == 2) = false) := by
              simp only [beq_iff_eq, beq_eq_false_iff_ne]; omega
            rcases h4 with k0 | ⟨k0, k1⟩ | ⟨k0, k1, k2⟩ | ⟨k0, k1, k2⟩
            · obtain ⟨g, cc, q0, ⟨u, q1⟩, q2, ps', hlen, hst8, hseg8⟩ := HS7.out.patched0 hjl ((c5 : Int) / 4 % 13) ⟨by omega, by omega⟩
              have HS8 := hideP hst8
              have HSEG := hideP hseg8
              have HLEN := hideP hlen
              clear hst8 hseg8 hlen
              go_wp2
              go_ret2
              obtain ⟨_, _, e2, s2, _⟩ := (HS8.out.args HG1.out).shape
              cases e2
              have hlk := HL.out
              subst hlk
              have hll := HLEN.out
              exact ⟨ps', xs, _, ao, cc, co, (by rw [hll]; rfl), by omega, by omega, HS8.out.wf, HW.out, HSEG.out, s2, HB7.out.setCell (p := ⟨g, _, none⟩) (HS7.out.bigger q0) _⟩
            · obtain ⟨g, cc, q0, ⟨u, q1⟩, q2, ps', hlen, hst8, hseg8⟩ := HS7.out.patched hjl ((c5 : Int) - 128) ⟨by omega, by omega⟩
              have HS8 := hideP hst8
              have HSEG := hideP hseg8
              have HLEN := hideP hlen
              clear hst8 hseg8 hlen
              go_wp2
              go_ret2
              obtain ⟨_, _, e2, s2, _⟩ := (HS8.out.args HG1.out).shape
              cases e2
              have hlk := HL.out
              subst hlk
              have hll := HLEN.out
              exact ⟨ps', xs, _, ao, cc, co, (by rw [hll]; rfl), by omega, by omega, HS8.out.wf, HW.out, HSEG.out, s2, HB7.out.setCell (p := ⟨g, _, none⟩) (HS7.out.bigger q0) _⟩
            · obtain ⟨g, cc, q0, ⟨u, q1⟩, q2, ps', hlen, hst8, hseg8⟩ := HS7.out.patched0 hjl 7 ⟨by omega, by omega⟩
              have HS8 := hideP hst8
              have HSEG := hideP hseg8
              have HLEN := hideP hlen
              clear hst8 hseg8 hlen
              go_wp2
              go_ret2
              obtain ⟨_, _, e2, s2, _⟩ := (HS8.out.args HG1.out).shape
              cases e2
              have hlk := HL.out
              subst hlk
              have hll := HLEN.out
              exact ⟨ps', xs, _, ao, cc, co, (by rw [hll]; rfl), by omega, by omega, HS8.out.wf, HW.out, HSEG.out, s2, HB7.out.setCell (p := ⟨g, _, none⟩) (HS7.out.bigger q0) _⟩
            · obtain ⟨g, cc, q0, ⟨u, q1⟩, q2, ps', hlen, hst8, hseg8⟩ := HS7.out.patched0 hjl 5 ⟨by omega, by omega⟩
              have HS8 := hideP hst8
              have HSEG := hideP hseg8
              have HLEN := hideP hlen
              clear hst8 hseg8 hlen
              go_wp2
              go_ret2
              obtain ⟨_, _, e2, s2, _⟩ := (HS8.out.args HG1.out).shape
              cases e2
              have hlk := HL.out
              subst hlk
              have hll := HLEN.out
              exact ⟨ps', xs, _, ao, cc, co, (by rw [hll]; rfl), by omega, by omega, HS8.out.wf, HW.out, HSEG.out, s2, HB7.out.setCell (p := ⟨g, _, none⟩) (HS7.out.bigger q0) _⟩
          · obtain ⟨a', c', q0, hseg⟩ := HS7.out.seg
            have HSEG := hideP hseg
            clear hseg
            go_wp2
            go_ret2
            obtain ⟨_, _, e2, s2, _⟩ := HG7.out.shape
            cases e2
            have hlk := HL.out
            subst hlk
            exact ⟨ps, xs, a', ao, c', co, rfl, hpl, by omega, HS7.out.wf, HW.out, HSEG.out, s2, HB7.out⟩
        · have hm1 : ((c1 : Int) % 8 == 1) = false := by simpa using hm1
          obtain ⟨a', c', q0, hseg⟩ := HS7.out.seg
          have HSEG := hideP hseg
          clear hseg
          go_wp2
          go_ret2
          obtain ⟨_, _, e2, s2, _⟩ := HG7.out.shape
          cases e2
          have hlk := HL.out
          subst hlk
          exact ⟨ps, xs, a', ao, c', co, rfl, hpl, by omega, HS7.out.wf, HW.out, HSEG.out, s2, HB7.out⟩

end Go.Proofs.Yahaaw
