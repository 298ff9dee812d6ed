/-
  DERIVED. WALK: impl.RunStack (24).
-/
import Derived.Test.YahaawStk
import Derived.Test.YahaawTrI
namespace Go.Proofs.Yahaaw
open Go.RowKit
set_option linter.unusedVariables false
set_option linter.unusedSimpArgs false

theorem RS.halt {w wr : World} {st : List Int} {a0 : Option Addr} {cp : Nat} (h : RS w (.slice a0 st.length cp) st wr) :
    ∃ w2, (Builtin.copy_ #[24, 24] 3 #[.slice (some ⟨wr.heap.size, 0, none⟩) st.length st.length, .slice a0 st.length cp]).run Yaav.prog (wr.alloc (.cells (zc #[.int .i64 0] st.length) 2)) = .ok (.int .i64 st.length) w2 ∧
      Blk w2 wr.heap.size (iCells st) 2 ∧ Below w.heap.size w w2 ∧ Blk w2 w.heap.size [.int .i64 0, .slice none 0 0, .int .i64 0] 38 := by
  obtain ⟨a1, c1, he, hseg, _⟩ := h.gr.shape
  cases he
  have hb0 : Below wr.heap.size wr (wr.alloc (.cells (zc #[.int .i64 0] st.length) 2)) := (Below.refl _ _).alloc (Nat.le_refl _) _
  obtain ⟨w2, hrun, hk2, hg2⟩ := copy_run (c := st.length) (sc := cp) (Blk.new' wr (zc #[.int .i64 0] st.length) 2) (by rw [zc_len]) (hseg.below hb0) rfl
  have hl := h.res.lt
  refine ⟨w2, hrun, hk2, (Below.both h.bel hb0).grown hg2 (by have := h.bel.size; simp; omega) (fun k hk => by cases hk; omega), ?_⟩
  have := h.res.alloc (.cells (zc #[.int .i64 0] st.length) 2)
  unfold Blk at *
  rw [hg2.block _ (by simp; omega) (by simp; omega)]; exact this

set_option maxRecDepth 100000 in
set_option maxHeartbeats 8000000 in
theorem iRunStack (ap ax : Option Addr) (n cap nx capx : Nat) (ps : List SO) (xs : List Int) (w : World) (hn : ps.length = n) (hn2 : n ≤ 1099511627776) (hs : Seg w ap (sCells ps)) (hnx : xs.length = nx) (hnx2 : nx ≤ 1099511627776) (hxs : Seg w ax (iCells xs)) :
    Calls Yaav.prog 24 #[.slice ap n cap, .slice ax nx capx] w fun e w' => RunPost (runS ps xs 20000 0 []) w.heap.size e w' ∧ Below w.heap.size w w' := by
  have HS := hideP hs
  have HN := hideP hn
  have HXS := hideP hxs
  have HNX := hideP hnx
  have hmk0 := mk_run Yaav.underlying24 Yaav.info2 0 16 (by omega) (by omega) (by omega)
  simp only [Value.cells, Nat.mul_one, Int.natCast_zero, Int.cast_ofNat_Int] at hmk0
  generalize hR : runS ps xs 20000 0 [] = RES
  have HR := hideP hR
  clear hs hn hxs hnx hR
  go_enter Yaav.func24, Yaav.ntmps24
  go_wp2
  clear hmk0
  go_loopw [6, 7, 8] (fun pcv tv sv wr => ∃ (pc stp f : Nat) (st : List Int), pcv = .int .i64 pc ∧ tv = .int .i64 stp ∧ stp + f = 20000 ∧ pc ≤ n ∧ st.length ≤ stp ∧ RS w sv st wr ∧ runS ps xs f pc st = RES) (fun _ tv _ _ => 20000 - (intOf tv).toNat)
  case atStart =>
    refine ⟨0, 0, 20000, [], rfl, rfl, rfl, Nat.zero_le _, by simp, ⟨((Below.refl _ _).alloc (Nat.le_refl _) _).alloc (by simp) _, (Blk.new' w #[.int .i64 0, .slice none 0 0, .int .i64 0] 38).alloc _, ?_⟩, HR.out⟩
    have := Grow.made (w.alloc (.cells #[.int .i64 0, .slice none 0 0, .int .i64 0] 38)) (w.heap.size + 1) 2 1 16 (zc #[.int .i64 0] 16) (by simp) (by rw [zc_len])
    simpa [iCells] using this
  case round =>
    clear HR
    obtain ⟨pc, stp, f, st, rfl, rfl, hsf, hpc, hsl, hrs, hrun⟩ := hrel
    have hst : stp ≤ 20000 := by omega
    have HSF := hideP hsf
    have HRS := hideP hrs
    have HRUN := hideP hrun
    have hgl0 := hrs.res.lt
    have hsz0 := hrs.bel.size
    clear hsf hrs hrun
    by_cases hpn : pc = n
    · have hpb : ((pc : Int) == (n : Int)) = true := by simp [hpn]
      have HRES : Hid (RES = ⟨0, st, (stp : Int)⟩) := by
        show _ = _
        rw [← HRUN.out, runS_end (by rw [List.getElem?_eq_none]; rw [HN.out]; omega)]
        have := HSF.out
        simp; omega
      clear hpn HRUN
      as_aux_lemma =>
      obtain ⟨a0, cp, rfl, hseg, _⟩ := HRS.out.gr.shape
      have hmk := mk_run Yaav.underlying24 Yaav.info2 st.length st.length (Nat.le_refl _) (by omega) (by omega)
      simp only [Value.cells, Nat.mul_one] at hmk
      obtain ⟨w2, hcp, hk2, hB2, hR2⟩ := HRS.out.halt
      have c0 := hR2.cell 0
      have c1 := hR2.cell 1
      have c2 := hR2.cell 2
      simp at c0 c1 c2
      have f0 := hR2.frozen 0
      have f1 := hR2.frozen 1
      have f2 := hR2.frozen 2
      have HB2 := hideP hB2
      have HK2 := hideP hk2
      have HR2 := hideP hR2
      clear hseg hk2 hB2 hR2 HRS
      go_wp2
      have hW := ((HR2.out.set 0 (.int .i64 0)).set 1 (.slice (some ⟨wr.heap.size, 0, none⟩) st.length st.length)).set 2 (.int .i64 stp)
      have d0 := hW.cell 0
      have d1 := hW.cell 1
      have d2 := hW.cell 2
      simp at d0 d1 d2
      refine bodyPost_ret (v := .agg #[.int .i64 0, .slice (some ⟨wr.heap.size, 0, none⟩) st.length st.length, .int .i64 stp]) (by simp [results, Yaav.results24, go_sem, d0, d1, d2]) rfl ⟨?_, ?_⟩
      · rw [HRES.out]
        exact ⟨_, rfl, .inr ⟨wr.heap.size, by omega, rfl, ((HK2.out.far (p := ⟨_, _, none⟩) (by simp; omega) _).far (p := ⟨_, _, none⟩) (by simp; omega) _).far (p := ⟨_, _, none⟩) (by simp; omega) _⟩⟩
      · exact ((HB2.out.setCell (p := ⟨_, _, none⟩) (Nat.le_refl _) _).setCell (p := ⟨_, _, none⟩) (Nat.le_refl _) _).setCell (p := ⟨_, _, none⟩) (Nat.le_refl _) _
    have hpb : ((pc : Int) == (n : Int)) = false := by simp; omega
    obtain ⟨p, hp⟩ := some_at (ps := ps) (k := pc) (by have := HN.out; omega)
    obtain ⟨bb, off, rfl, hbb, h1', h2'⟩ := HS.out.s hp
    have h1 := keepC HRS.out.bel h1'
    have h2 := keepC HRS.out.bel h2'
    have hbb2 : bb < wr.heap.size := by omega
    obtain ⟨c, a⟩ := p
    simp only at h1 h2
    have HX := hideP hp
    clear hp h1' h2'
    by_cases h11 : c = 11
    · subst h11
      have HRES : Hid (RES = ⟨0, st, (stp : Int)⟩) := by
        show _ = _
        rw [← HRUN.out, runS_halt HX.out rfl]
        have := HSF.out
        simp; omega
      clear HRUN
      as_aux_lemma =>
      obtain ⟨a0, cp, rfl, hseg, _⟩ := HRS.out.gr.shape
      have hmk := mk_run Yaav.underlying24 Yaav.info2 st.length st.length (Nat.le_refl _) (by omega) (by omega)
      simp only [Value.cells, Nat.mul_one] at hmk
      obtain ⟨w2, hcp, hk2, hB2, hR2⟩ := HRS.out.halt
      have c0 := hR2.cell 0
      have c1 := hR2.cell 1
      have c2 := hR2.cell 2
      simp at c0 c1 c2
      have f0 := hR2.frozen 0
      have f1 := hR2.frozen 1
      have f2 := hR2.frozen 2
      have HB2 := hideP hB2
      have HK2 := hideP hk2
      have HR2 := hideP hR2
      clear hseg hk2 hB2 hR2 HRS
      go_wp2
      have hW := ((HR2.out.set 0 (.int .i64 0)).set 1 (.slice (some ⟨wr.heap.size, 0, none⟩) st.length st.length)).set 2 (.int .i64 stp)
      have d0 := hW.cell 0
      have d1 := hW.cell 1
      have d2 := hW.cell 2
      simp at d0 d1 d2
      refine bodyPost_ret (v := .agg #[.int .i64 0, .slice (some ⟨wr.heap.size, 0, none⟩) st.length st.length, .int .i64 stp]) (by simp [results, Yaav.results24, go_sem, d0, d1, d2]) rfl ⟨?_, ?_⟩
      · rw [HRES.out]
        exact ⟨_, rfl, .inr ⟨wr.heap.size, by omega, rfl, ((HK2.out.far (p := ⟨_, _, none⟩) (by simp; omega) _).far (p := ⟨_, _, none⟩) (by simp; omega) _).far (p := ⟨_, _, none⟩) (by simp; omega) _⟩⟩
      · exact ((HB2.out.setCell (p := ⟨_, _, none⟩) (Nat.le_refl _) _).setCell (p := ⟨_, _, none⟩) (Nat.le_refl _) _).setCell (p := ⟨_, _, none⟩) (Nat.le_refl _) _
    have hb11 : (c == 11) = false := beq_eq_false_iff_ne.2 h11
    cases f with
    | zero =>
      have hstp : stp = 20000 := by have := HSF.out; omega
      have hfb : ((stp : Int) == 20000) = true := by simp [hstp]
      have HRES : Hid (RES = ⟨1, [], 20000⟩) := by show _ = _; rw [← HRUN.out, runS_fuel HX.out h11]
      clear hstp HRUN
      as_aux_lemma =>
      have c0 := HRS.out.res.cell 0
      have c1 := HRS.out.res.cell 1
      have c2 := HRS.out.res.cell 2
      simp at c0 c1 c2
      have f0 := HRS.out.res.frozen 0
      have f1 := HRS.out.res.frozen 1
      have f2 := HRS.out.res.frozen 2
      go_wp2_with (go_at_call 54; refine (needs_any _ _).mono ?_; rintro e w' ⟨rfl, rfl⟩)
      have hW := (((HRS.out.res.set 0 (.int .i64 1)).set 1 (.slice none 0 0)).set 2 (.int .i64 20000))
      have d0 := hW.cell 0
      have d1 := hW.cell 1
      have d2 := hW.cell 2
      simp at d0 d1 d2
      refine bodyPost_ret (v := .agg #[.int .i64 1, .slice none 0 0, .int .i64 20000]) (by simp [results, Yaav.results24, go_sem, d0, d1, d2]) rfl ⟨?_, ?_⟩
      · rw [HRES.out]
        exact ⟨none, rfl, .inl rfl⟩
      · exact ((HRS.out.bel.setCell (p := ⟨_, _, none⟩) (Nat.le_refl _) _).setCell (p := ⟨_, _, none⟩) (Nat.le_refl _) _).setCell (p := ⟨_, _, none⟩) (Nat.le_refl _) _
    | succ f =>
      have hstl : stp < 20000 := by have := HSF.out; omega
      have hfb : ((stp : Int) == 20000) = false := by simp; omega
      by_cases hn1 : needs c < 0
      · have hft : stepS ps.length xs pc ⟨c, a⟩ st = none := stepS_fault (.inl hn1)
        have HRES : Hid (RES = ⟨2, [], (stp : Int)⟩) := by
          show _ = _
          rw [← HRUN.out, runS_fault HX.out h11 hft]
          have := HSF.out
          simp; omega
        clear HRUN
        as_aux_lemma =>
        obtain ⟨a0, cp, rfl, _, _⟩ := HRS.out.gr.shape
        have c0 := HRS.out.res.cell 0
        have c1 := HRS.out.res.cell 1
        have c2 := HRS.out.res.cell 2
        simp at c0 c1 c2
        have f0 := HRS.out.res.frozen 0
        have f1 := HRS.out.res.frozen 1
        have f2 := HRS.out.res.frozen 2
        go_wp2_with (go_at_call 54; refine (needs_any _ _).mono ?_; rintro e w' ⟨rfl, rfl⟩)
        have hW := (((HRS.out.res.set 0 (.int .i64 2)).set 1 (.slice none 0 0)).set 2 (.int .i64 stp)).alloc (.cells #[.int .i64 c, .int .i64 a] 73)
        have d0 := hW.cell 0
        have d1 := hW.cell 1
        have d2 := hW.cell 2
        simp at d0 d1 d2
        refine bodyPost_ret (v := .agg #[.int .i64 2, .slice none 0 0, .int .i64 stp]) (by simp [results, Yaav.results24, go_sem, d0, d1, d2]) rfl ⟨?_, ?_⟩
        · rw [HRES.out]
          exact ⟨none, rfl, .inl rfl⟩
        · exact (((HRS.out.bel.setCell (p := ⟨_, _, none⟩) (Nat.le_refl _) _).setCell (p := ⟨_, _, none⟩) (Nat.le_refl _) _).setCell (p := ⟨_, _, none⟩) (Nat.le_refl _) _).alloc (by simp; omega) _
      by_cases hn3 : (st.length : Int) < needs c
      · have hft : stepS ps.length xs pc ⟨c, a⟩ st = none := stepS_fault (.inr hn3)
        have HRES : Hid (RES = ⟨2, [], (stp : Int)⟩) := by
          show _ = _
          rw [← HRUN.out, runS_fault HX.out h11 hft]
          have := HSF.out
          simp; omega
        clear HRUN
        as_aux_lemma =>
        obtain ⟨a0, cp, rfl, _, _⟩ := HRS.out.gr.shape
        have c0 := HRS.out.res.cell 0
        have c1 := HRS.out.res.cell 1
        have c2 := HRS.out.res.cell 2
        simp at c0 c1 c2
        have f0 := HRS.out.res.frozen 0
        have f1 := HRS.out.res.frozen 1
        have f2 := HRS.out.res.frozen 2
        go_wp2_with (go_at_call 54; refine (needs_any _ _).mono ?_; rintro e w' ⟨rfl, rfl⟩)
        have hW := (((HRS.out.res.set 0 (.int .i64 2)).set 1 (.slice none 0 0)).set 2 (.int .i64 stp)).alloc (.cells #[.int .i64 c, .int .i64 a] 73)
        have d0 := hW.cell 0
        have d1 := hW.cell 1
        have d2 := hW.cell 2
        simp at d0 d1 d2
        refine bodyPost_ret (v := .agg #[.int .i64 2, .slice none 0 0, .int .i64 stp]) (by simp [results, Yaav.results24, go_sem, d0, d1, d2]) rfl ⟨?_, ?_⟩
        · rw [HRES.out]
          exact ⟨none, rfl, .inl rfl⟩
        · exact (((HRS.out.bel.setCell (p := ⟨_, _, none⟩) (Nat.le_refl _) _).setCell (p := ⟨_, _, none⟩) (Nat.le_refl _) _).setCell (p := ⟨_, _, none⟩) (Nat.le_refl _) _).alloc (by simp; omega) _
      have hsf2 := HSF.out
      rcases needs_codes (by omega : 0 ≤ needs c) with rfl | rfl | rfl | rfl | rfl | rfl | rfl | rfl | rfl | rfl | rfl | rfl
      · as_aux_lemma =>
          have hnd : needs 0 = 0 := rfl
          obtain ⟨a0, cp, rfl, _, _⟩ := HRS.out.gr.shape
          have HSTEP : Hid (runS ps xs f ((pc + 1, st ++ [a])).1 ((pc + 1, st ++ [a])).2 = RES) := by show _ = _; rw [← HRUN.out]; exact (runS_step (q := (pc + 1, st ++ [a])) HX.out (by simp) (by simp [stepS, pop1])).symm
          have GRW : Hid (Grow (wr.alloc (.cells #[.int .i64 0, .int .i64 a] 73)) (w.heap.size + 1) 2 1 (.slice a0 st.length cp) (st.length) (iCells (st))) := by simpa [Hid] using (HRS.out.alloc (.cells #[.int .i64 0, .int .i64 a] 73)).gr
          have R1 := hideP ((HRS.out.alloc (.cells #[.int .i64 0, .int .i64 a] 73)).alloc (.cells #[.int .i64 a] 2))
          clear HRS
          go_wp2_with (first | (go_at_call 54; refine (needs_any _ _).mono ?_; rintro e w' ⟨rfl, rfl⟩) | (at_builtin; refine wpList_app Yaav.underlying24 Yaav.info2 rfl rfl (.tmp 95) (.tmp 98) rfl (v := .slice a0 st.length cp) rfl rfl (GRW.out.alloc _) (Src.ofSlice _ Yaav.underlying24 ⟨wr.heap.size + 1, 0, none⟩ 1 1 [.int .i64 a] rfl (by have := cell_one_new (wr.alloc (.cells #[.int .i64 0, .int .i64 a] 73)) (.int .i64 a) 2; simpa using this) (by simp; rfl)) (by omega) (by omega) (by simp; omega) ?_; intro v2 w2 hg2 hgr2 hat2))
          have R2 := hideP (R1.out.app (x := a) (by simpa using hg2) hgr2 hat2)
          clear hg2 hgr2 hat2 R1 GRW
          go_wp2
          go_roundw
          case rel => exact ⟨pc + 1, stp + 1, f, st ++ [a], by go_num, by go_num, by omega, by omega, by (try simp only [List.length_append, List.length_cons, List.length_nil]); omega, R2.out, HSTEP.out⟩
          case measure => simp [intOf]; omega
      · as_aux_lemma =>
          have hnd : needs 1 = 0 := rfl
          by_cases ha0 : a < 0
          · have HARG := hideP (argAt_out (xs := xs) (.inl ha0))
            have hdd : decide (0 ≤ a) = false := by simp; omega
            obtain ⟨a0, cp, rfl, _, _⟩ := HRS.out.gr.shape
            have HSTEP : Hid (runS ps xs f ((pc + 1, st ++ [0])).1 ((pc + 1, st ++ [0])).2 = RES) := by show _ = _; rw [← HRUN.out]; exact (runS_step (q := (pc + 1, st ++ [0])) HX.out (by simp) (by simp [stepS, HARG.out])).symm
            have GRW : Hid (Grow (wr.alloc (.cells #[.int .i64 1, .int .i64 a] 73)) (w.heap.size + 1) 2 1 (.slice a0 st.length cp) (st.length) (iCells (st))) := by simpa [Hid] using (HRS.out.alloc (.cells #[.int .i64 1, .int .i64 a] 73)).gr
            have R1 := hideP ((HRS.out.alloc (.cells #[.int .i64 1, .int .i64 a] 73)).alloc (.cells #[.int .i64 0] 2))
            clear HRS
            go_wp2_with (first | (go_at_call 54; refine (needs_any _ _).mono ?_; rintro e w' ⟨rfl, rfl⟩) | (at_builtin; refine wpList_app Yaav.underlying24 Yaav.info2 rfl rfl (.tmp 117) (.tmp 119) rfl (v := .slice a0 st.length cp) rfl rfl (GRW.out.alloc _) (Src.ofSlice _ Yaav.underlying24 ⟨wr.heap.size + 1, 0, none⟩ 1 1 [.int .i64 0] rfl (by have := cell_one_new (wr.alloc (.cells #[.int .i64 1, .int .i64 a] 73)) (.int .i64 0) 2; simpa using this) (by simp; rfl)) (by omega) (by omega) (by simp; omega) ?_; intro v2 w2 hg2 hgr2 hat2))
            have R2 := hideP (R1.out.app (x := 0) (by simpa using hg2) hgr2 hat2)
            clear hg2 hgr2 hat2 R1 GRW
            go_wp2
            go_roundw
            case rel => exact ⟨pc + 1, stp + 1, f, st ++ [0], by go_num, by go_num, by omega, by omega, by (try simp only [List.length_append, List.length_cons, List.length_nil]); omega, R2.out, HSTEP.out⟩
            case measure => simp [intOf]; omega
          by_cases ha1 : (nx : Int) ≤ a
          · have HARG := hideP (argAt_out (xs := xs) (k := a) (.inr (by have := HNX.out; omega)))
            obtain ⟨a0, cp, rfl, _, _⟩ := HRS.out.gr.shape
            have HSTEP : Hid (runS ps xs f ((pc + 1, st ++ [0])).1 ((pc + 1, st ++ [0])).2 = RES) := by show _ = _; rw [← HRUN.out]; exact (runS_step (q := (pc + 1, st ++ [0])) HX.out (by simp) (by simp [stepS, HARG.out])).symm
            have GRW : Hid (Grow (wr.alloc (.cells #[.int .i64 1, .int .i64 a] 73)) (w.heap.size + 1) 2 1 (.slice a0 st.length cp) (st.length) (iCells (st))) := by simpa [Hid] using (HRS.out.alloc (.cells #[.int .i64 1, .int .i64 a] 73)).gr
            have R1 := hideP ((HRS.out.alloc (.cells #[.int .i64 1, .int .i64 a] 73)).alloc (.cells #[.int .i64 0] 2))
            clear HRS
            go_wp2_with (first | (go_at_call 54; refine (needs_any _ _).mono ?_; rintro e w' ⟨rfl, rfl⟩) | (at_builtin; refine wpList_app Yaav.underlying24 Yaav.info2 rfl rfl (.tmp 117) (.tmp 119) rfl (v := .slice a0 st.length cp) rfl rfl (GRW.out.alloc _) (Src.ofSlice _ Yaav.underlying24 ⟨wr.heap.size + 1, 0, none⟩ 1 1 [.int .i64 0] rfl (by have := cell_one_new (wr.alloc (.cells #[.int .i64 1, .int .i64 a] 73)) (.int .i64 0) 2; simpa using this) (by simp; rfl)) (by omega) (by omega) (by simp; omega) ?_; intro v2 w2 hg2 hgr2 hat2))
            have R2 := hideP (R1.out.app (x := 0) (by simpa using hg2) hgr2 hat2)
            clear hg2 hgr2 hat2 R1 GRW
            go_wp2
            go_roundw
            case rel => exact ⟨pc + 1, stp + 1, f, st ++ [0], by go_num, by go_num, by omega, by omega, by (try simp only [List.length_append, List.length_cons, List.length_nil]); omega, R2.out, HSTEP.out⟩
            case measure => simp [intOf]; omega
          · obtain ⟨A, rfl⟩ := Int.eq_ofNat_of_zero_le (by omega : 0 ≤ a)
            obtain ⟨v, hv⟩ := some_at (ps := xs) (k := A) (by have := HNX.out; omega)
            obtain ⟨bx, ox, rfl, hbx, hcx'⟩ := HXS.out.i hv
            have hcx := keepC HRS.out.bel hcx'
            have hbx2 : bx < wr.heap.size := by omega
            have HARG := hideP (argAt_in hv)
            clear hv hcx'
            obtain ⟨a0, cp, rfl, _, _⟩ := HRS.out.gr.shape
            have HSTEP : Hid (runS ps xs f ((pc + 1, st ++ [v])).1 ((pc + 1, st ++ [v])).2 = RES) := by show _ = _; rw [← HRUN.out]; exact (runS_step (q := (pc + 1, st ++ [v])) HX.out (by simp) (by simp [stepS, HARG.out])).symm
            have GRW : Hid (Grow (wr.alloc (.cells #[.int .i64 1, .int .i64 (A : Int)] 73)) (w.heap.size + 1) 2 1 (.slice a0 st.length cp) (st.length) (iCells (st))) := by simpa [Hid] using (HRS.out.alloc (.cells #[.int .i64 1, .int .i64 (A : Int)] 73)).gr
            have R1 := hideP ((HRS.out.alloc (.cells #[.int .i64 1, .int .i64 (A : Int)] 73)).alloc (.cells #[.int .i64 v] 2))
            clear HRS
            go_wp2_with (first | (go_at_call 54; refine (needs_any _ _).mono ?_; rintro e w' ⟨rfl, rfl⟩) | (at_builtin; refine wpList_app Yaav.underlying24 Yaav.info2 rfl rfl (.tmp 117) (.tmp 119) rfl (v := .slice a0 st.length cp) rfl rfl (GRW.out.alloc _) (Src.ofSlice _ Yaav.underlying24 ⟨wr.heap.size + 1, 0, none⟩ 1 1 [.int .i64 v] rfl (by have := cell_one_new (wr.alloc (.cells #[.int .i64 1, .int .i64 (A : Int)] 73)) (.int .i64 v) 2; simpa using this) (by simp; rfl)) (by omega) (by omega) (by simp; omega) ?_; intro v2 w2 hg2 hgr2 hat2))
            have R2 := hideP (R1.out.app (x := v) (by simpa using hg2) hgr2 hat2)
            clear hg2 hgr2 hat2 R1 GRW
            go_wp2
            go_roundw
            case rel => exact ⟨pc + 1, stp + 1, f, st ++ [v], by go_num, by go_num, by omega, by omega, by (try simp only [List.length_append, List.length_cons, List.length_nil]); omega, R2.out, HSTEP.out⟩
            case measure => simp [intOf]; omega
      · as_aux_lemma =>
          have hnd : needs 2 = 2 := rfl
          obtain ⟨r, x, y, rfl⟩ := split2 (st := st) (by omega)
          obtain ⟨g, cp, rfl, hcp, hgB, hgl, k1, k2, fz1, fz2, hG1, hG2, hG0⟩ := HRS.out.gr.top2
          simp only [List.length_append, List.length_cons, List.length_nil, Nat.zero_add] at hsl
          have HG0 := hideP hG0
          have HG1 := hideP hG1
          have HG2 := hideP hG2
          clear hG0 hG1 hG2
          have HSTEP : Hid (runS ps xs f ((pc + 1, r ++ [wrap64 (x + y)])).1 ((pc + 1, r ++ [wrap64 (x + y)])).2 = RES) := by show _ = _; rw [← HRUN.out]; exact (runS_step (q := (pc + 1, r ++ [wrap64 (x + y)])) HX.out (by simp) (by simp [stepS, pop2_some])).symm
          clear HG0 HG1 HG2
          go_wp2_with (go_at_call 54; refine (needs_any _ _).mono ?_; rintro e w' ⟨rfl, rfl⟩)
          go_quiet (fail)
          go_wp2
          have R0 := (HRS.out.alloc (.cells #[.int .i64 2, .int .i64 a] 73)).drewN nq
          obtain ⟨g2, cp2, he2, _, hgB2, _, _, _, _, _, hG1, _, _⟩ := R0.gr.top2
          cases he2
          have R1 := hideP (R0.set (st' := r ++ [wrap64 (x + y)]) hgB2 (by simpa using hG1 (wrap64 (x + y))))
          clear R0 hG1
          go_roundw
          case rel => exact ⟨pc + 1, stp + 1, f, r ++ [wrap64 (x + y)], by go_num, by go_num, by omega, by omega, by (try simp only [List.length_append, List.length_cons, List.length_nil]); omega, R1.out, HSTEP.out⟩
          case measure => simp [intOf]; omega
      · as_aux_lemma =>
          have hnd : needs 3 = 2 := rfl
          obtain ⟨r, x, y, rfl⟩ := split2 (st := st) (by omega)
          obtain ⟨g, cp, rfl, hcp, hgB, hgl, k1, k2, fz1, fz2, hG1, hG2, hG0⟩ := HRS.out.gr.top2
          simp only [List.length_append, List.length_cons, List.length_nil, Nat.zero_add] at hsl
          have HG0 := hideP hG0
          have HG1 := hideP hG1
          have HG2 := hideP hG2
          clear hG0 hG1 hG2
          have HSTEP : Hid (runS ps xs f ((pc + 1, r ++ [wrap64 (x - y)])).1 ((pc + 1, r ++ [wrap64 (x - y)])).2 = RES) := by show _ = _; rw [← HRUN.out]; exact (runS_step (q := (pc + 1, r ++ [wrap64 (x - y)])) HX.out (by simp) (by simp [stepS, pop2_some])).symm
          clear HG0 HG1 HG2
          go_wp2_with (go_at_call 54; refine (needs_any _ _).mono ?_; rintro e w' ⟨rfl, rfl⟩)
          go_quiet (fail)
          go_wp2
          have R0 := (HRS.out.alloc (.cells #[.int .i64 3, .int .i64 a] 73)).drewN nq
          obtain ⟨g2, cp2, he2, _, hgB2, _, _, _, _, _, hG1, _, _⟩ := R0.gr.top2
          cases he2
          have R1 := hideP (R0.set (st' := r ++ [wrap64 (x - y)]) hgB2 (by simpa using hG1 (wrap64 (x - y))))
          clear R0 hG1
          go_roundw
          case rel => exact ⟨pc + 1, stp + 1, f, r ++ [wrap64 (x - y)], by go_num, by go_num, by omega, by omega, by (try simp only [List.length_append, List.length_cons, List.length_nil]); omega, R1.out, HSTEP.out⟩
          case measure => simp [intOf]; omega
      · as_aux_lemma =>
          have hnd : needs 4 = 2 := rfl
          obtain ⟨r, x, y, rfl⟩ := split2 (st := st) (by omega)
          obtain ⟨g, cp, rfl, hcp, hgB, hgl, k1, k2, fz1, fz2, hG1, hG2, hG0⟩ := HRS.out.gr.top2
          simp only [List.length_append, List.length_cons, List.length_nil, Nat.zero_add] at hsl
          have HG0 := hideP hG0
          have HG1 := hideP hG1
          have HG2 := hideP hG2
          clear hG0 hG1 hG2
          have HSTEP : Hid (runS ps xs f ((pc + 1, r ++ [wrap64 (x * y)])).1 ((pc + 1, r ++ [wrap64 (x * y)])).2 = RES) := by show _ = _; rw [← HRUN.out]; exact (runS_step (q := (pc + 1, r ++ [wrap64 (x * y)])) HX.out (by simp) (by simp [stepS, pop2_some])).symm
          clear HG0 HG1 HG2
          go_wp2_with (go_at_call 54; refine (needs_any _ _).mono ?_; rintro e w' ⟨rfl, rfl⟩)
          go_quiet (fail)
          go_wp2
          have R0 := (HRS.out.alloc (.cells #[.int .i64 4, .int .i64 a] 73)).drewN nq
          obtain ⟨g2, cp2, he2, _, hgB2, _, _, _, _, _, hG1, _, _⟩ := R0.gr.top2
          cases he2
          have R1 := hideP (R0.set (st' := r ++ [wrap64 (x * y)]) hgB2 (by simpa using hG1 (wrap64 (x * y))))
          clear R0 hG1
          go_roundw
          case rel => exact ⟨pc + 1, stp + 1, f, r ++ [wrap64 (x * y)], by go_num, by go_num, by omega, by omega, by (try simp only [List.length_append, List.length_cons, List.length_nil]); omega, R1.out, HSTEP.out⟩
          case measure => simp [intOf]; omega
      · as_aux_lemma =>
          have hnd : needs 5 = 1 := rfl
          obtain ⟨r, y, rfl⟩ := split1 (st := st) (by omega)
          obtain ⟨g, cp, rfl, hcp, hgB, hgl, k1, fz1, hG0⟩ := HRS.out.gr.top1
          simp only [List.length_append, List.length_cons, List.length_nil, Nat.zero_add] at hsl
          have HG0 := hideP hG0
          clear hG0
          have HSTEP : Hid (runS ps xs f ((pc + 1, (r ++ [y]) ++ [y])).1 ((pc + 1, (r ++ [y]) ++ [y])).2 = RES) := by show _ = _; rw [← HRUN.out]; exact (runS_step (q := (pc + 1, (r ++ [y]) ++ [y])) HX.out (by simp) (by simp [stepS, pop1_some])).symm
          have GRW : Hid (Grow (wr.alloc (.cells #[.int .i64 5, .int .i64 a] 73)) (w.heap.size + 1) 2 1 (.slice (some ⟨g, 0, none⟩) (r.length + 1) cp) (r.length + 1) (iCells ((r ++ [y])))) := by simpa [Hid] using (HRS.out.alloc (.cells #[.int .i64 5, .int .i64 a] 73)).gr
          have R1 := hideP ((HRS.out.alloc (.cells #[.int .i64 5, .int .i64 a] 73)).alloc (.cells #[.int .i64 y] 2))
          clear HRS
          go_wp2_with (first | (go_at_call 54; refine (needs_any _ _).mono ?_; rintro e w' ⟨rfl, rfl⟩) | (at_builtin; refine wpList_app Yaav.underlying24 Yaav.info2 rfl rfl (.tmp 194) (.tmp 196) rfl (v := .slice (some ⟨g, 0, none⟩) (r.length + 1) cp) rfl rfl (GRW.out.alloc _) (Src.ofSlice _ Yaav.underlying24 ⟨wr.heap.size + 1, 0, none⟩ 1 1 [.int .i64 y] rfl (by have := cell_one_new (wr.alloc (.cells #[.int .i64 5, .int .i64 a] 73)) (.int .i64 y) 2; simpa using this) (by simp; rfl)) (by omega) (by omega) (by simp; omega) ?_; intro v2 w2 hg2 hgr2 hat2))
          have R2 := hideP (R1.out.app (x := y) (by simpa using hg2) hgr2 hat2)
          clear hg2 hgr2 hat2 R1 GRW
          go_wp2
          go_roundw
          case rel => exact ⟨pc + 1, stp + 1, f, (r ++ [y]) ++ [y], by go_num, by go_num, by omega, by omega, by (try simp only [List.length_append, List.length_cons, List.length_nil]); omega, R2.out, HSTEP.out⟩
          case measure => simp [intOf]; omega
      · as_aux_lemma =>
          have hnd : needs 6 = 2 := rfl
          obtain ⟨r, x, y, rfl⟩ := split2 (st := st) (by omega)
          obtain ⟨g, cp, rfl, hcp, hgB, hgl, k1, k2, fz1, fz2, hG1, hG2, hG0⟩ := HRS.out.gr.top2
          simp only [List.length_append, List.length_cons, List.length_nil, Nat.zero_add] at hsl
          have HG0 := hideP hG0
          have HG1 := hideP hG1
          have HG2 := hideP hG2
          clear hG0 hG1 hG2
          have HSTEP : Hid (runS ps xs f ((pc + 1, (r ++ [x, y]) ++ [x])).1 ((pc + 1, (r ++ [x, y]) ++ [x])).2 = RES) := by show _ = _; rw [← HRUN.out]; exact (runS_step (q := (pc + 1, (r ++ [x, y]) ++ [x])) HX.out (by simp) (by simp [stepS, pop2_some])).symm
          have GRW : Hid (Grow (wr.alloc (.cells #[.int .i64 6, .int .i64 a] 73)) (w.heap.size + 1) 2 1 (.slice (some ⟨g, 0, none⟩) (r.length + 2) cp) (r.length + 2) (iCells ((r ++ [x, y])))) := by simpa [Hid] using (HRS.out.alloc (.cells #[.int .i64 6, .int .i64 a] 73)).gr
          have R1 := hideP ((HRS.out.alloc (.cells #[.int .i64 6, .int .i64 a] 73)).alloc (.cells #[.int .i64 x] 2))
          clear HRS
          go_wp2_with (first | (go_at_call 54; refine (needs_any _ _).mono ?_; rintro e w' ⟨rfl, rfl⟩) | (at_builtin; refine wpList_app Yaav.underlying24 Yaav.info2 rfl rfl (.tmp 205) (.tmp 207) rfl (v := .slice (some ⟨g, 0, none⟩) (r.length + 2) cp) rfl rfl (GRW.out.alloc _) (Src.ofSlice _ Yaav.underlying24 ⟨wr.heap.size + 1, 0, none⟩ 1 1 [.int .i64 x] rfl (by have := cell_one_new (wr.alloc (.cells #[.int .i64 6, .int .i64 a] 73)) (.int .i64 x) 2; simpa using this) (by simp; rfl)) (by omega) (by omega) (by simp; omega) ?_; intro v2 w2 hg2 hgr2 hat2))
          have R2 := hideP (R1.out.app (x := x) (by simpa using hg2) hgr2 hat2)
          clear hg2 hgr2 hat2 R1 GRW
          go_wp2
          go_roundw
          case rel => exact ⟨pc + 1, stp + 1, f, (r ++ [x, y]) ++ [x], by go_num, by go_num, by omega, by omega, by (try simp only [List.length_append, List.length_cons, List.length_nil]); omega, R2.out, HSTEP.out⟩
          case measure => simp [intOf]; omega
      · as_aux_lemma =>
          have hnd : needs 7 = 1 := rfl
          obtain ⟨r, y, rfl⟩ := split1 (st := st) (by omega)
          obtain ⟨g, cp, rfl, hcp, hgB, hgl, k1, fz1, hG0⟩ := HRS.out.gr.top1
          simp only [List.length_append, List.length_cons, List.length_nil, Nat.zero_add] at hsl
          have HG0 := hideP hG0
          clear hG0
          have HSTEP : Hid (runS ps xs f ((pc + 1, r)).1 ((pc + 1, r)).2 = RES) := by show _ = _; rw [← HRUN.out]; exact (runS_step (q := (pc + 1, r)) HX.out (by simp) (by simp [stepS, pop1_some])).symm
          have R1 := hideP (HRS.out.shrink HG0.out)
          clear HRS HG0
          go_wp2_with (go_at_call 54; refine (needs_any _ _).mono ?_; rintro e w' ⟨rfl, rfl⟩)
          go_roundw
          case rel => exact ⟨pc + 1, stp + 1, f, r, by go_num, by go_num, by omega, by omega, by (try simp only [List.length_append, List.length_cons, List.length_nil]); omega, R1.out.alloc _, HSTEP.out⟩
          case measure => simp [intOf]; omega
      · as_aux_lemma =>
          have hnd : needs 8 = 2 := rfl
          obtain ⟨r, x, y, rfl⟩ := split2 (st := st) (by omega)
          obtain ⟨g, cp, rfl, hcp, hgB, hgl, k1, k2, fz1, fz2, hG1, hG2, hG0⟩ := HRS.out.gr.top2
          simp only [List.length_append, List.length_cons, List.length_nil, Nat.zero_add] at hsl
          have HG0 := hideP hG0
          have HG1 := hideP hG1
          have HG2 := hideP hG2
          clear hG0 hG1 hG2
          have HSTEP : Hid (runS ps xs f ((pc + 1, r ++ [y, x])).1 ((pc + 1, r ++ [y, x])).2 = RES) := by show _ = _; rw [← HRUN.out]; exact (runS_step (q := (pc + 1, r ++ [y, x])) HX.out (by simp) (by simp [stepS, pop2_some])).symm
          have R1 := hideP (HRS.out.set2 (st' := r ++ [y, x]) hgB (by simpa using HG2.out))
          clear HRS HG0 HG1 HG2
          go_wp2_with (go_at_call 54; refine (needs_any _ _).mono ?_; rintro e w' ⟨rfl, rfl⟩)
          go_roundw
          case rel => exact ⟨pc + 1, stp + 1, f, r ++ [y, x], by go_num, by go_num, by omega, by omega, by (try simp only [List.length_append, List.length_cons, List.length_nil]); omega, R1.out.alloc _, HSTEP.out⟩
          case measure => simp [intOf]; omega
      · as_aux_lemma =>
          have hnd : needs 9 = 0 := rfl
          by_cases ha0 : a < 0
          · have hft : stepS ps.length xs pc ⟨9, a⟩ st = none := by rw [HN.out]; simp [stepS, ha0]
            have HRES : Hid (RES = ⟨2, [], (stp : Int)⟩) := by show _ = _; rw [← HRUN.out, runS_fault HX.out (by simp) hft]; simp; omega
            obtain ⟨a0, cp, rfl, _, _⟩ := HRS.out.gr.shape
            have c0 := HRS.out.res.cell 0
            have c1 := HRS.out.res.cell 1
            have c2 := HRS.out.res.cell 2
            simp at c0 c1 c2
            have f0 := HRS.out.res.frozen 0
            have f1 := HRS.out.res.frozen 1
            have f2 := HRS.out.res.frozen 2
            go_wp2_with (go_at_call 54; refine (needs_any _ _).mono ?_; rintro e w' ⟨rfl, rfl⟩)
            have hW := (((HRS.out.res.set 0 (.int .i64 2)).set 1 (.slice none 0 0)).set 2 (.int .i64 stp)).alloc (.cells #[.int .i64 9, .int .i64 a] 73)
            have d0 := hW.cell 0
            have d1 := hW.cell 1
            have d2 := hW.cell 2
            simp at d0 d1 d2
            refine bodyPost_ret (v := .agg #[.int .i64 2, .slice none 0 0, .int .i64 stp]) (by simp [results, Yaav.results24, go_sem, d0, d1, d2]) rfl ⟨?_, ?_⟩
            · rw [HRES.out]
              exact ⟨none, rfl, .inl rfl⟩
            · exact (((HRS.out.bel.setCell (p := ⟨_, _, none⟩) (Nat.le_refl _) _).setCell (p := ⟨_, _, none⟩) (Nat.le_refl _) _).setCell (p := ⟨_, _, none⟩) (Nat.le_refl _) _).alloc (by simp; omega) _
          by_cases ha1 : (n : Int) < a
          · have hft : stepS ps.length xs pc ⟨9, a⟩ st = none := by rw [HN.out]; simp [stepS, ha1]
            have HRES : Hid (RES = ⟨2, [], (stp : Int)⟩) := by show _ = _; rw [← HRUN.out, runS_fault HX.out (by simp) hft]; simp; omega
            obtain ⟨a0, cp, rfl, _, _⟩ := HRS.out.gr.shape
            have c0 := HRS.out.res.cell 0
            have c1 := HRS.out.res.cell 1
            have c2 := HRS.out.res.cell 2
            simp at c0 c1 c2
            have f0 := HRS.out.res.frozen 0
            have f1 := HRS.out.res.frozen 1
            have f2 := HRS.out.res.frozen 2
            go_wp2_with (go_at_call 54; refine (needs_any _ _).mono ?_; rintro e w' ⟨rfl, rfl⟩)
            have hW := (((HRS.out.res.set 0 (.int .i64 2)).set 1 (.slice none 0 0)).set 2 (.int .i64 stp)).alloc (.cells #[.int .i64 9, .int .i64 a] 73)
            have d0 := hW.cell 0
            have d1 := hW.cell 1
            have d2 := hW.cell 2
            simp at d0 d1 d2
            refine bodyPost_ret (v := .agg #[.int .i64 2, .slice none 0 0, .int .i64 stp]) (by simp [results, Yaav.results24, go_sem, d0, d1, d2]) rfl ⟨?_, ?_⟩
            · rw [HRES.out]
              exact ⟨none, rfl, .inl rfl⟩
            · exact (((HRS.out.bel.setCell (p := ⟨_, _, none⟩) (Nat.le_refl _) _).setCell (p := ⟨_, _, none⟩) (Nat.le_refl _) _).setCell (p := ⟨_, _, none⟩) (Nat.le_refl _) _).alloc (by simp; omega) _
          obtain ⟨A, rfl⟩ := Int.eq_ofNat_of_zero_le (by omega : 0 ≤ a)
          have hA : A ≤ ps.length := by rw [HN.out]; omega
          obtain ⟨a0, cp, rfl, _, _⟩ := HRS.out.gr.shape
          have HSTEP : Hid (runS ps xs f ((A, st)).1 ((A, st)).2 = RES) := by show _ = _; rw [← HRUN.out]; exact (runS_step (q := (A, st)) HX.out (by simp) (by simp [stepS, hA])).symm
          go_wp2_with (go_at_call 54; refine (needs_any _ _).mono ?_; rintro e w' ⟨rfl, rfl⟩)
          go_roundw
          case rel => exact ⟨A, stp + 1, f, st, rfl, by go_num, by omega, by omega, by (try simp only [List.length_append, List.length_cons, List.length_nil]); omega, HRS.out.alloc _, HSTEP.out⟩
          case measure => simp [intOf]; omega
      · as_aux_lemma =>
          have hnd : needs 10 = 1 := rfl
          by_cases ha0 : a < 0
          · have hft : stepS ps.length xs pc ⟨10, a⟩ st = none := by rw [HN.out]; simp [stepS, ha0]
            have HRES : Hid (RES = ⟨2, [], (stp : Int)⟩) := by show _ = _; rw [← HRUN.out, runS_fault HX.out (by simp) hft]; simp; omega
            obtain ⟨a0, cp, rfl, _, _⟩ := HRS.out.gr.shape
            have c0 := HRS.out.res.cell 0
            have c1 := HRS.out.res.cell 1
            have c2 := HRS.out.res.cell 2
            simp at c0 c1 c2
            have f0 := HRS.out.res.frozen 0
            have f1 := HRS.out.res.frozen 1
            have f2 := HRS.out.res.frozen 2
            go_wp2_with (go_at_call 54; refine (needs_any _ _).mono ?_; rintro e w' ⟨rfl, rfl⟩)
            have hW := (((HRS.out.res.set 0 (.int .i64 2)).set 1 (.slice none 0 0)).set 2 (.int .i64 stp)).alloc (.cells #[.int .i64 10, .int .i64 a] 73)
            have d0 := hW.cell 0
            have d1 := hW.cell 1
            have d2 := hW.cell 2
            simp at d0 d1 d2
            refine bodyPost_ret (v := .agg #[.int .i64 2, .slice none 0 0, .int .i64 stp]) (by simp [results, Yaav.results24, go_sem, d0, d1, d2]) rfl ⟨?_, ?_⟩
            · rw [HRES.out]
              exact ⟨none, rfl, .inl rfl⟩
            · exact (((HRS.out.bel.setCell (p := ⟨_, _, none⟩) (Nat.le_refl _) _).setCell (p := ⟨_, _, none⟩) (Nat.le_refl _) _).setCell (p := ⟨_, _, none⟩) (Nat.le_refl _) _).alloc (by simp; omega) _
          by_cases ha1 : (n : Int) < a
          · have hft : stepS ps.length xs pc ⟨10, a⟩ st = none := by rw [HN.out]; simp [stepS, ha1]
            have HRES : Hid (RES = ⟨2, [], (stp : Int)⟩) := by show _ = _; rw [← HRUN.out, runS_fault HX.out (by simp) hft]; simp; omega
            obtain ⟨a0, cp, rfl, _, _⟩ := HRS.out.gr.shape
            have c0 := HRS.out.res.cell 0
            have c1 := HRS.out.res.cell 1
            have c2 := HRS.out.res.cell 2
            simp at c0 c1 c2
            have f0 := HRS.out.res.frozen 0
            have f1 := HRS.out.res.frozen 1
            have f2 := HRS.out.res.frozen 2
            go_wp2_with (go_at_call 54; refine (needs_any _ _).mono ?_; rintro e w' ⟨rfl, rfl⟩)
            have hW := (((HRS.out.res.set 0 (.int .i64 2)).set 1 (.slice none 0 0)).set 2 (.int .i64 stp)).alloc (.cells #[.int .i64 10, .int .i64 a] 73)
            have d0 := hW.cell 0
            have d1 := hW.cell 1
            have d2 := hW.cell 2
            simp at d0 d1 d2
            refine bodyPost_ret (v := .agg #[.int .i64 2, .slice none 0 0, .int .i64 stp]) (by simp [results, Yaav.results24, go_sem, d0, d1, d2]) rfl ⟨?_, ?_⟩
            · rw [HRES.out]
              exact ⟨none, rfl, .inl rfl⟩
            · exact (((HRS.out.bel.setCell (p := ⟨_, _, none⟩) (Nat.le_refl _) _).setCell (p := ⟨_, _, none⟩) (Nat.le_refl _) _).setCell (p := ⟨_, _, none⟩) (Nat.le_refl _) _).alloc (by simp; omega) _
          obtain ⟨A, rfl⟩ := Int.eq_ofNat_of_zero_le (by omega : 0 ≤ a)
          have hA : A ≤ ps.length := by rw [HN.out]; omega
          obtain ⟨r, y, rfl⟩ := split1 (st := st) (by omega)
          obtain ⟨g, cp, rfl, hcp, hgB, hgl, k1, fz1, hG0⟩ := HRS.out.gr.top1
          simp only [List.length_append, List.length_cons, List.length_nil, Nat.zero_add] at hsl
          have HG0 := hideP hG0
          clear hG0
          have R1 := hideP (HRS.out.shrink HG0.out)
          clear HRS HG0
          by_cases hy : y = 0
          · subst hy
            have HSTEP : Hid (runS ps xs f ((A, r)).1 ((A, r)).2 = RES) := by show _ = _; rw [← HRUN.out]; exact (runS_step (q := (A, r)) HX.out (by simp) (by simp [stepS, pop1_some, hA])).symm
            go_wp2_with (go_at_call 54; refine (needs_any _ _).mono ?_; rintro e w' ⟨rfl, rfl⟩)
            go_roundw
            case rel => exact ⟨A, stp + 1, f, r, rfl, by go_num, by omega, by omega, by (try simp only [List.length_append, List.length_cons, List.length_nil]); omega, R1.out.alloc _, HSTEP.out⟩
            case measure => simp [intOf]; omega
          · have hyb : (y == 0) = false := beq_eq_false_iff_ne.2 hy
            have HSTEP : Hid (runS ps xs f ((pc + 1, r)).1 ((pc + 1, r)).2 = RES) := by show _ = _; rw [← HRUN.out]; exact (runS_step (q := (pc + 1, r)) HX.out (by simp) (by simp [stepS, pop1_some, hA, hy])).symm
            go_wp2_with (go_at_call 54; refine (needs_any _ _).mono ?_; rintro e w' ⟨rfl, rfl⟩)
            go_roundw
            case rel => exact ⟨pc + 1, stp + 1, f, r, by go_num, by go_num, by omega, by omega, by (try simp only [List.length_append, List.length_cons, List.length_nil]); omega, R1.out.alloc _, HSTEP.out⟩
            case measure => simp [intOf]; omega
      · exact absurd rfl h11

end Go.Proofs.Yahaaw
