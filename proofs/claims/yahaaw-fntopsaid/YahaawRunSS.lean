/-
  DERIVED. WALKS: spec.stepStack (52) whole, spec.RunStack (22).
-/
import Derived.Test.YahaawStepD
namespace Go.Proofs.Yahaaw
open Go.RowKit
set_option linter.unusedVariables false
set_option linter.unusedSimpArgs false

/-- Where the model's run stands. -/
structure RM (w : World) (pc stp : Nat) (sv : Value) (st : List Int) (wr : World) : Prop where
  bel : Below w.heap.size w wr
  res : Blk wr w.heap.size [.int .i64 0, .slice none 0 0, .int .i64 0] 38
  cfg : Blk wr (w.heap.size + 1) [.int .i64 pc, sv, .int .i64 stp] 90
  gr : Grow wr (w.heap.size + 2) 2 1 sv st.length (iCells st)

set_option maxRecDepth 100000 in
set_option maxHeartbeats 4000000 in
theorem sRunStack (ap ax : Option Addr) (n cap nx capx : Nat) (ps : List SO) (xs : List Int) (w : World) (hn : ps.length = n) (hn2 : n ≤ 1099511627776) (hs : Seg w ap (sCells ps)) (hnx : xs.length = nx) (hnx2 : nx ≤ 1099511627776) (hxs : Seg w ax (iCells xs)) :
    Calls Yaav.prog 22 #[.slice ap n cap, .slice ax nx capx] w fun e w' => RunPost (runS ps xs 20000 0 []) w.heap.size e w' ∧ Below w.heap.size w w' := by
  have HS := hideP hs
  have HN := hideP hn
  have HXS := hideP hxs
  have HNX := hideP hnx
  generalize hR : runS ps xs 20000 0 [] = RES
  have HR := hideP hR
  clear hs hn hxs hnx hR
  go_enter Yaav.func22, Yaav.ntmps22
  go_wp2
  go_loopw [7] (fun tv wr => ∃ (pc stp f : Nat) (st : List Int) (sv : Value), tv = .int .i64 stp ∧ stp + f = 20000 ∧ pc ≤ n ∧ st.length ≤ stp ∧ RM w pc stp sv st wr ∧ runS ps xs f pc st = RES) (fun tv _ => 20000 - (intOf tv).toNat)
  case atStart =>
    refine ⟨0, 0, 20000, [], .slice none 0 0, rfl, rfl, Nat.zero_le _, by simp, ⟨((Below.refl _ _).alloc (Nat.le_refl _) _).alloc (by simp) _, (Blk.new' w #[.int .i64 0, .slice none 0 0, .int .i64 0] 38).alloc _, ?_, Grow.nil _ _ _ _⟩, HR.out⟩
    have := Blk.new' (w.alloc (.cells #[.int .i64 0, .slice none 0 0, .int .i64 0] 38)) #[.int .i64 0, .slice none 0 0, .int .i64 0] 90
    simpa using this
  case round =>
    clear HR
    obtain ⟨pc, stp, f, st, sv, rfl, hsf, hpc, hsl, hrm, hrun⟩ := hrel
    have hst : stp ≤ 20000 := by omega
    have HSF := hideP hsf
    have HRUN := hideP hrun
    have hgl0 := hrm.res.lt
    have hgl1 := hrm.cfg.lt
    have hsz0 := hrm.bel.size
    obtain ⟨a0, cp, rfl, hseg, hcp⟩ := hrm.gr.shape
    have q0 := hrm.cfg.cell 0
    have q1 := hrm.cfg.cell 1
    have q2 := hrm.cfg.cell 2
    simp at q0 q1 q2
    have g0 := hrm.cfg.frozen 0
    have g1 := hrm.cfg.frozen 1
    have g2 := hrm.cfg.frozen 2
    have HRM := hideP hrm
    have HSEG := hideP hseg
    clear hsf hrm hrun hseg
    by_cases hpn : pc = n
    · have hpb : ((pc : Int) == (n : Int)) = true := by simp [hpn]
      have HRES : Hid (RES = ⟨0, st, (stp : Int)⟩) := by
        show _ = _
        rw [← HRUN.out, runS_end (by rw [List.getElem?_eq_none]; rw [HN.out]; omega)]
        have := HSF.out
        simp; omega
      clear hpn HRUN
      go_wp2_with (go_at_call 49; refine (halted_any a0 st.length cp st stp _ rfl (by omega) HSEG.out).mono ?_; rintro e w1 ⟨b, rfl, ho, hb⟩; have HO := hideP ho; clear ho; have hres := HRM.out.res.below hb HRM.out.res.lt; have c0 := hres.cell 0; have c1 := hres.cell 1; have c2 := hres.cell 2; simp at c0 c1 c2; have f0 := hres.frozen 0; have f1 := hres.frozen 1; have f2 := hres.frozen 2; have HRES2 := hideP hres; have HB2 := hideP (Below.both HRM.out.bel hb); clear hres)
      have hW := ((HRES2.out.set 0 (.int .i64 0)).set 1 (.slice b st.length st.length)).set 2 (.int .i64 stp)
      have d0 := hW.cell 0
      have d1 := hW.cell 1
      have d2 := hW.cell 2
      simp at d0 d1 d2
      refine bodyPost_ret (v := .agg #[.int .i64 0, .slice b st.length st.length, .int .i64 stp]) (by simp [results, Yaav.results22, go_sem, d0, d1, d2]) rfl ⟨?_, ?_⟩
      · rw [HRES.out]
        exact ⟨b, rfl, (((HO.out.set (p := ⟨_, _, none⟩) hgl0 _).set (p := ⟨_, _, none⟩) hgl0 _).set (p := ⟨_, _, none⟩) hgl0 _).mono hsz0⟩
      · exact ((HB2.out.setCell (p := ⟨_, _, none⟩) (Nat.le_refl _) _).setCell (p := ⟨_, _, none⟩) (Nat.le_refl _) _).setCell (p := ⟨_, _, none⟩) (Nat.le_refl _) _
    have hpb : ((pc : Int) == (n : Int)) = false := by simp; omega
    obtain ⟨p, hp⟩ := some_at (ps := ps) (k := pc) (by have := HN.out; omega)
    obtain ⟨bb, off, rfl, hbb, h1', h2'⟩ := HS.out.s hp
    have h1 := keepC HRM.out.bel h1'
    have h2 := keepC HRM.out.bel h2'
    have hbb2 : bb < wr.heap.size := by omega
    have HX := hideP hp
    clear hp h1' h2'
    by_cases h11 : p.c = 11
    · have hb11 : (p.c == 11) = true := by simp [h11]
      have HRES : Hid (RES = ⟨0, st, (stp : Int)⟩) := by
        show _ = _
        rw [← HRUN.out, runS_halt HX.out h11]
        have := HSF.out
        simp; omega
      clear HRUN h11
      go_wp2_with (go_at_call 49; refine (halted_any a0 st.length cp st stp _ rfl (by omega) HSEG.out).mono ?_; rintro e w1 ⟨b, rfl, ho, hb⟩; have HO := hideP ho; clear ho; have hres := HRM.out.res.below hb HRM.out.res.lt; have c0 := hres.cell 0; have c1 := hres.cell 1; have c2 := hres.cell 2; simp at c0 c1 c2; have f0 := hres.frozen 0; have f1 := hres.frozen 1; have f2 := hres.frozen 2; have HRES2 := hideP hres; have HB2 := hideP (Below.both HRM.out.bel hb); clear hres)
      have hW := ((HRES2.out.set 0 (.int .i64 0)).set 1 (.slice b st.length st.length)).set 2 (.int .i64 stp)
      have d0 := hW.cell 0
      have d1 := hW.cell 1
      have d2 := hW.cell 2
      simp at d0 d1 d2
      refine bodyPost_ret (v := .agg #[.int .i64 0, .slice b st.length st.length, .int .i64 stp]) (by simp [results, Yaav.results22, go_sem, d0, d1, d2]) rfl ⟨?_, ?_⟩
      · rw [HRES.out]
        exact ⟨b, rfl, (((HO.out.set (p := ⟨_, _, none⟩) hgl0 _).set (p := ⟨_, _, none⟩) hgl0 _).set (p := ⟨_, _, none⟩) hgl0 _).mono hsz0⟩
      · exact ((HB2.out.setCell (p := ⟨_, _, none⟩) (Nat.le_refl _) _).setCell (p := ⟨_, _, none⟩) (Nat.le_refl _) _).setCell (p := ⟨_, _, none⟩) (Nat.le_refl _) _
    have hb11 : (p.c == 11) = false := beq_eq_false_iff_ne.2 h11
    cases f with
    | zero =>
      have hstp : stp = 20000 := by have := HSF.out; omega
      have hfb : ((stp : Int) == 20000) = true := by simp [hstp]
      have HRES : Hid (RES = ⟨1, [], 20000⟩) := by show _ = _; rw [← HRUN.out, runS_fuel HX.out h11]
      clear hstp HRUN
      go_wp2_with (go_at_call 50; refine (outOfFuel_any _).mono ?_; rintro e w1 ⟨rfl, hb⟩; have hres := HRM.out.res.below hb HRM.out.res.lt; have c0 := hres.cell 0; have c1 := hres.cell 1; have c2 := hres.cell 2; simp at c0 c1 c2; have f0 := hres.frozen 0; have f1 := hres.frozen 1; have f2 := hres.frozen 2; have HRES2 := hideP hres; have HB2 := hideP (Below.both HRM.out.bel hb); clear hres)
      have hW := ((HRES2.out.set 0 (.int .i64 1)).set 1 (.slice none 0 0)).set 2 (.int .i64 20000)
      have d0 := hW.cell 0
      have d1 := hW.cell 1
      have d2 := hW.cell 2
      simp at d0 d1 d2
      refine bodyPost_ret (v := .agg #[.int .i64 1, .slice none 0 0, .int .i64 20000]) (by simp [results, Yaav.results22, go_sem, d0, d1, d2]) rfl ⟨?_, ?_⟩
      · rw [HRES.out]
        exact ⟨none, rfl, .inl rfl⟩
      · exact ((HB2.out.setCell (p := ⟨_, _, none⟩) (Nat.le_refl _) _).setCell (p := ⟨_, _, none⟩) (Nat.le_refl _) _).setCell (p := ⟨_, _, none⟩) (Nat.le_refl _) _
    | succ f =>
      have hstl : stp < 20000 := by have := HSF.out; omega
      have hfb : ((stp : Int) == 20000) = false := by simp; omega
      have K1 := hideP h1
      have K2 := hideP h2
      cases hss : stepS n xs pc p st with
      | none =>
        have HRES : Hid (RES = ⟨2, [], (stp : Int)⟩) := by
          show _ = _
          rw [← HRUN.out, runS_fault HX.out h11 (by rw [HN.out]; exact hss)]
          have := HSF.out
          simp; omega
        have HSS := hideP hss
        clear hss HRUN
        go_wp2_with (first
          | (go_at_call 52; refine (stepStack_any bb off n cap nx capx pc stp (w.heap.size + 2) ax p st xs _ _ hn2 (by omega) hst (by omega) K1.out K2.out hbb2 (by omega) HRM.out.gr (HXS.out.below HRM.out.bel) HNX.out hnx2 h11).mono ?_; rintro e w1 ⟨hsp, hb1⟩; rw [HSS.out] at hsp; simp only [StepPost] at hsp; subst hsp; have bC := HRM.out.cfg.below hb1 (Nat.lt_succ_self _); have bR := HRM.out.res.below hb1 (by omega); have z0 := bC.cell 0; have z1 := bC.cell 1; have z2 := bC.cell 2; simp at z0 z1 z2; have lC := bC.lt; have lR := bR.lt; have BR := hideP bR; have BB := hideP (HRM.out.bel.trans (hb1.mono (by omega))); clear bC bR)
          | (go_at_call 48; refine (faulted_any _ _).mono ?_; rintro e w2 ⟨rfl, hb⟩; have hres := (BR.out.alloc (.cells #[.int .i64 pc, .slice a0 st.length cp, .int .i64 stp] 90)).below hb (by simp; omega); have c0 := hres.cell 0; have c1 := hres.cell 1; have c2 := hres.cell 2; simp at c0 c1 c2; have f0 := hres.frozen 0; have f1 := hres.frozen 1; have f2 := hres.frozen 2; have HRES2 := hideP hres; have HB2 := hideP (Below.both (BB.out.alloc BB.out.size _) hb); clear hres))
        have hW := ((HRES2.out.set 0 (.int .i64 2)).set 1 (.slice none 0 0)).set 2 (.int .i64 stp)
        have d0 := hW.cell 0
        have d1 := hW.cell 1
        have d2 := hW.cell 2
        simp at d0 d1 d2
        refine bodyPost_ret (v := .agg #[.int .i64 2, .slice none 0 0, .int .i64 stp]) (by simp [results, Yaav.results22, go_sem, d0, d1, d2]) rfl ⟨?_, ?_⟩
        · rw [HRES.out]
          exact ⟨none, rfl, .inl rfl⟩
        · exact ((HB2.out.setCell (p := ⟨_, _, none⟩) (Nat.le_refl _) _).setCell (p := ⟨_, _, none⟩) (Nat.le_refl _) _).setCell (p := ⟨_, _, none⟩) (Nat.le_refl _) _
      | some q =>
        have HSTEP : Hid (runS ps xs f q.1 q.2 = RES) := by show _ = _; rw [← HRUN.out]; exact (runS_step HX.out h11 (by rw [HN.out]; exact hss)).symm
        obtain ⟨hql, hqn⟩ := stepS_len hss (by omega)
        have HSS := hideP hss
        clear hss HRUN
        go_wp2_with (go_at_call 52; refine (stepStack_any bb off n cap nx capx pc stp (w.heap.size + 2) ax p st xs _ _ hn2 (by omega) hst (by omega) K1.out K2.out hbb2 (by omega) HRM.out.gr (HXS.out.below HRM.out.bel) HNX.out hnx2 h11).mono ?_; rintro e w1 ⟨hsp, hb1⟩; rw [HSS.out] at hsp; simp only [StepPost] at hsp; obtain ⟨sv2, rfl, hgq⟩ := hsp; obtain ⟨a2, c2, rfl, _, _⟩ := hgq.shape; have bC := HRM.out.cfg.below hb1 (Nat.lt_succ_self _); have bR := HRM.out.res.below hb1 (by omega); have z0 := bC.cell 0; have z1 := bC.cell 1; have z2 := bC.cell 2; simp at z0 z1 z2; have y0 := bC.frozen 0; have y1 := bC.frozen 1; have y2 := bC.frozen 2; have lC := bC.lt; have BR := hideP bR; have BC := hideP bC; have BQ := hideP hgq; have BB := hideP (HRM.out.bel.trans (hb1.mono (by omega))); clear bC bR hgq)
        go_roundw
        case rel =>
          refine ⟨q.1, stp + 1, f, q.2, .slice a2 q.2.length c2, by go_num, by have := HSF.out; omega, by omega, by omega, ⟨?_, ?_, ?_, ?_⟩, HSTEP.out⟩
          rotate_left 3
          · exact (((BQ.out.setFar (p := ⟨_, _, none⟩) (Nat.lt_succ_self _) _).setFar (p := ⟨_, _, none⟩) (Nat.lt_succ_self _) _).setFar (p := ⟨_, _, none⟩) (Nat.lt_succ_self _) _).alloc _
          · exact (((BB.out.setCell (p := ⟨_, _, none⟩) (by simp) _).setCell (p := ⟨_, _, none⟩) (by simp) _).setCell (p := ⟨_, _, none⟩) (by simp) _).alloc (by simp; omega) _
          · exact (((BR.out.far (p := ⟨_, _, none⟩) (by simp) _).far (p := ⟨_, _, none⟩) (by simp) _).far (p := ⟨_, _, none⟩) (by simp) _).alloc _
          · have := (((BC.out.set 0 (.int .i64 (q.1 : Int))).set 1 (.slice a2 q.2.length c2)).set 2 (.int .i64 ((stp : Int) + 1))).alloc (.cells #[.int .i64 (q.1 : Int), .slice a2 q.2.length c2, .int .i64 ((stp : Int) + 1)] 90)
            simpa using this
        case measure => simp [intOf]; omega

end Go.Proofs.Yahaaw
