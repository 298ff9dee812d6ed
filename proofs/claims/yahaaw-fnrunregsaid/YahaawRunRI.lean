/-
  DERIVED. WALK: impl.RunReg (23).
-/
import Derived.Test.YahaawReg
import Derived.Test.YahaawTrI
import Derived.Laws.OwnMore
import Derived.Deep.LoopGhost
import Derived.Deep.DeepCutAuto
import Derived.Deep.CutBlock
namespace Go.Proofs.Yahaaw
open Go.RowKit
set_option linter.unusedVariables false
set_option linter.unusedSimpArgs false

theorem zc_ints (N : Nat) : (zc #[.int .i64 0] N).toList = iCells (List.replicate N 0) := by
  unfold zc iCells
  rw [toList_madeCells_one]
  simp

theorem RR.halt {w wr : World} {rg : List Int} {A N : Nat} {op : Obj} (h : RR w rg wr) (hl : rg.length = N) (hA : A ≤ N) :
    ∃ w2, (Builtin.copy_ #[24, 24] 3 #[.slice (some ⟨wr.heap.size + 1, 0, none⟩) A A, .slice (some ⟨w.heap.size + 1, 0, none⟩) A N]).run Yaav.prog ((wr.alloc op).alloc (.cells (zc #[.int .i64 0] A) 2)) = .ok (.int .i64 A) w2 ∧
      Blk w2 (wr.heap.size + 1) (iCells (rg.take A)) 2 ∧ Below w.heap.size w w2 ∧ Blk w2 w.heap.size [.int .i64 0, .slice none 0 0, .int .i64 0] 38 := by
  have hrl := h.reg.lt
  have hb0 : Below wr.heap.size wr ((wr.alloc op).alloc (.cells (zc #[.int .i64 0] A) 2)) := ((Below.refl _ _).alloc (Nat.le_refl _) _).alloc (by simp) _
  have hz : Blk ((wr.alloc op).alloc (.cells (zc #[.int .i64 0] A) 2)) (wr.heap.size + 1) (zc #[.int .i64 0] A).toList 2 := by
    have := Blk.new' (wr.alloc op) (zc #[.int .i64 0] A) 2
    simpa using this
  have hseg : Seg wr (some ⟨w.heap.size + 1, 0, none⟩) (iCells (rg.take A)) := by
    by_cases h0 : iCells (rg.take A) = []
    · exact .inl h0
    · right
      refine ⟨_, _, rfl, hrl, fun i hi => ?_⟩
      rw [iCells_len] at hi
      simp at hi
      rw [Nat.zero_add, h.reg.cell]
      unfold iCells
      rw [List.getElem?_map, List.getElem?_map, List.getElem?_take, if_pos (by omega)]
  obtain ⟨w2, hrun, hk2, hg2⟩ := copy_run (c := A) (sc := N) (n := A) hz (by rw [zc_len]) (hseg.below hb0) (by simp; omega)
  refine ⟨w2, hrun, hk2, (Below.both h.bel hb0).grown hg2 (by have := h.bel.size; simp; omega) (fun k hk => by cases hk; omega), ?_⟩
  have := (h.res.alloc op).alloc (.cells (zc #[.int .i64 0] A) 2)
  unfold Blk at *
  rw [hg2.block _ (by simp; omega) (by simp; omega)]; exact this

set_option maxRecDepth 100000 in
set_option maxHeartbeats 8000000 in
theorem iRunReg_in (ap ax : Option Addr) (n cap nx capx N : Nat) (ps : List RO) (xs : List Int) (w : World) (hn : ps.length = n) (hn2 : n ≤ 1099511627776) (hs : Seg w ap (rCells ps)) (hnr : N ≤ 65536) (hnx : xs.length = nx) (hnx2 : nx ≤ 1099511627776) (hxs : Seg w ax (iCells xs)) :
    Calls Yaav.prog 23 #[.slice ap n cap, .int .i64 N, .slice ax nx capx] w fun e w' => RunPost (runR ps xs 20000 0 (List.replicate N 0)) w.heap.size e w' ∧ Below w.heap.size w w' := by
  have HS := hideP hs
  have HN := hideP hn
  have HXS := hideP hxs
  have HNX := hideP hnx
  have hmk0 := mk_run Yaav.underlying24 Yaav.info2 N N (Nat.le_refl _) (by omega) (by omega)
  simp only [Value.cells, Nat.mul_one, Int.natCast_zero, Int.cast_ofNat_Int] at hmk0
  generalize hR : runR ps xs 20000 0 (List.replicate N 0) = RES
  have HR := hideP hR
  clear hs hn hxs hnx hR
  go_enter Yaav.func23, Yaav.ntmps23
  go_wp2
  clear hmk0
  go_loopg [9, 10] 20000 (fun gk pcv tv wr => ∃ (pc stp : Nat) (rg : List Int), pcv = .int .i64 pc ∧ tv = .int .i64 stp ∧ stp + gk = 20000 ∧ pc ≤ n ∧ rg.length = N ∧ RR w rg wr ∧ runR ps xs gk pc rg = RES)
  case atStart =>
    refine ⟨0, 0, List.replicate N 0, rfl, rfl, rfl, Nat.zero_le _, by simp, ⟨((Below.refl _ _).alloc (Nat.le_refl _) _).alloc (by simp) _, (Blk.new' w #[.int .i64 0, .slice none 0 0, .int .i64 0] 38).alloc _, ?_⟩, HR.out⟩
    have := Blk.new' (w.alloc (.cells #[.int .i64 0, .slice none 0 0, .int .i64 0] 38)) (zc #[.int .i64 0] N) 2
    have e : (zc #[.int .i64 0] N).toList = iCells (List.replicate N 0) := zc_ints N
    rw [e] at this
    simpa using this
  case round =>
    clear HR
    obtain ⟨pc, stp, rg, rfl, rfl, hsf, hpc, hlen, hrr, hrun⟩ := hrel
    have hst : stp ≤ 20000 := by omega
    have HSF := hideP hsf
    have HRR := hideP hrr
    have HRUN := hideP hrun
    have HLEN := hideP hlen
    have hgl0 := hrr.res.lt
    have hgl1 := hrr.reg.lt
    have hsz0 := hrr.bel.size
    clear hsf hrr hrun hlen
    by_cases hpn : pc = n
    · have hpb : ((pc : Int) == (n : Int)) = true := by simp [hpn]
      have HRES : Hid (RES = ⟨0, [], (stp : Int)⟩) := by
        show _ = _
        rw [← HRUN.out, runR_end (by rw [List.getElem?_eq_none]; rw [HN.out]; omega)]
        have := HSF.out
        simp; omega
      clear hpn HRUN
      as_aux_lemma =>
      have c0 := HRR.out.res.cell 0
      have c1 := HRR.out.res.cell 1
      have c2 := HRR.out.res.cell 2
      simp at c0 c1 c2
      have f0 := HRR.out.res.frozen 0
      have f1 := HRR.out.res.frozen 1
      have f2 := HRR.out.res.frozen 2
      go_wp2_with (go_at_call 53; refine (inReg_any _ _ _ hnr).mono ?_; rintro e w' ⟨rfl, rfl⟩)
      have hW := (((HRR.out.res.set 0 (.int .i64 0)).set 1 (.slice none 0 0)).set 2 (.int .i64 stp))
      have d0 := hW.cell 0
      have d1 := hW.cell 1
      have d2 := hW.cell 2
      simp at d0 d1 d2
      refine bodyPost_ret (v := .agg #[.int .i64 0, .slice none 0 0, .int .i64 stp]) (by simp [results, Yaav.results23, go_sem, d0, d1, d2]) rfl ⟨?_, ?_⟩
      · rw [HRES.out]
        exact ⟨none, rfl, .inl rfl⟩
      · exact ((HRR.out.bel.setCell (p := ⟨_, _, none⟩) (Nat.le_refl _) _).setCell (p := ⟨_, _, none⟩) (Nat.le_refl _) _).setCell (p := ⟨_, _, none⟩) (Nat.le_refl _) _
    have hpb : ((pc : Int) == (n : Int)) = false := by simp; omega
    obtain ⟨p, hp⟩ := some_at (ps := ps) (k := pc) (by have := HN.out; omega)
    obtain ⟨bb, off, rfl, hbb, h1', h2', h3', h4', h5'⟩ := HS.out.r hp
    have h1 := keepC HRR.out.bel h1'
    have h2 := keepC HRR.out.bel h2'
    have h3 := keepC HRR.out.bel h3'
    have h4 := keepC HRR.out.bel h4'
    have h5 := keepC HRR.out.bel h5'
    have hbb2 : bb < wr.heap.size := by omega
    obtain ⟨c, r, a, b, k⟩ := p
    simp only at h1 h2 h3 h4 h5
    have HX := hideP hp
    clear hp h1' h2' h3' h4' h5'
    by_cases h10 : c = 10
    · subst h10
      by_cases ha0 : a < 0
      · have HRES : Hid (RES = ⟨2, [], (stp : Int)⟩) := by
          show _ = _
          rw [← HRUN.out, runR_hfault HX.out rfl (by rw [HLEN.out]; simp only; omega)]
          have := HSF.out
          simp; omega
        clear HRUN
        as_aux_lemma =>
        have c0 := HRR.out.res.cell 0
        have c1 := HRR.out.res.cell 1
        have c2 := HRR.out.res.cell 2
        simp at c0 c1 c2
        have f0 := HRR.out.res.frozen 0
        have f1 := HRR.out.res.frozen 1
        have f2 := HRR.out.res.frozen 2
        go_wp2_with (go_at_call 53; refine (inReg_any _ _ _ hnr).mono ?_; rintro e w' ⟨rfl, rfl⟩)
        have hW := (((HRR.out.res.set 0 (.int .i64 2)).set 1 (.slice none 0 0)).set 2 (.int .i64 stp)).alloc (.cells #[.int .i64 10, .int .i64 r, .int .i64 a, .int .i64 b, .int .i64 k] 81)
        have d0 := hW.cell 0
        have d1 := hW.cell 1
        have d2 := hW.cell 2
        simp at d0 d1 d2
        refine bodyPost_ret (v := .agg #[.int .i64 2, .slice none 0 0, .int .i64 stp]) (by simp [results, Yaav.results23, go_sem, d0, d1, d2]) rfl ⟨?_, ?_⟩
        · rw [HRES.out]
          exact ⟨none, rfl, .inl rfl⟩
        · exact (((HRR.out.bel.setCell (p := ⟨_, _, none⟩) (Nat.le_refl _) _).setCell (p := ⟨_, _, none⟩) (Nat.le_refl _) _).setCell (p := ⟨_, _, none⟩) (Nat.le_refl _) _).alloc (by simp; omega) _
      by_cases ha1 : (N : Int) < a
      · have HRES : Hid (RES = ⟨2, [], (stp : Int)⟩) := by
          show _ = _
          rw [← HRUN.out, runR_hfault HX.out rfl (by rw [HLEN.out]; simp only; omega)]
          have := HSF.out
          simp; omega
        clear HRUN
        as_aux_lemma =>
        have c0 := HRR.out.res.cell 0
        have c1 := HRR.out.res.cell 1
        have c2 := HRR.out.res.cell 2
        simp at c0 c1 c2
        have f0 := HRR.out.res.frozen 0
        have f1 := HRR.out.res.frozen 1
        have f2 := HRR.out.res.frozen 2
        go_wp2_with (go_at_call 53; refine (inReg_any _ _ _ hnr).mono ?_; rintro e w' ⟨rfl, rfl⟩)
        have hW := (((HRR.out.res.set 0 (.int .i64 2)).set 1 (.slice none 0 0)).set 2 (.int .i64 stp)).alloc (.cells #[.int .i64 10, .int .i64 r, .int .i64 a, .int .i64 b, .int .i64 k] 81)
        have d0 := hW.cell 0
        have d1 := hW.cell 1
        have d2 := hW.cell 2
        simp at d0 d1 d2
        refine bodyPost_ret (v := .agg #[.int .i64 2, .slice none 0 0, .int .i64 stp]) (by simp [results, Yaav.results23, go_sem, d0, d1, d2]) rfl ⟨?_, ?_⟩
        · rw [HRES.out]
          exact ⟨none, rfl, .inl rfl⟩
        · exact (((HRR.out.bel.setCell (p := ⟨_, _, none⟩) (Nat.le_refl _) _).setCell (p := ⟨_, _, none⟩) (Nat.le_refl _) _).setCell (p := ⟨_, _, none⟩) (Nat.le_refl _) _).alloc (by simp; omega) _
      obtain ⟨A, rfl⟩ := Int.eq_ofNat_of_zero_le (by omega : 0 ≤ a)
      have HRES : Hid (RES = ⟨0, rg.take A, (stp : Int)⟩) := by
        show _ = _
        rw [← HRUN.out, runR_halt HX.out rfl ⟨by simp, by rw [HLEN.out]; simp only; omega⟩]
        have := HSF.out
        simp; omega
      clear HRUN
      as_aux_lemma =>
      have hmk := mk_run Yaav.underlying24 Yaav.info2 A A (Nat.le_refl _) (by omega) (by omega)
      simp only [Value.cells, Nat.mul_one] at hmk
      obtain ⟨w2, hcp, hk2, hB2, hR2⟩ := HRR.out.halt (A := A) (N := N) (op := .cells #[.int .i64 10, .int .i64 r, .int .i64 (A : Int), .int .i64 b, .int .i64 k] 81) HLEN.out (by omega)
      have c0 := hR2.cell 0
      have c1 := hR2.cell 1
      have c2 := hR2.cell 2
      simp at c0 c1 c2
      have f0 := hR2.frozen 0
      have f1 := hR2.frozen 1
      have f2 := hR2.frozen 2
      have HB2 := hideP hB2
      have HK2 := hideP hk2
      have HR2 := hideP hR2
      have hlt := HLEN.out
      clear hk2 hB2 hR2 HRR
      go_wp2
      have hW := ((HR2.out.set 0 (.int .i64 0)).set 1 (.slice (some ⟨wr.heap.size + 1, 0, none⟩) A A)).set 2 (.int .i64 stp)
      have d0 := hW.cell 0
      have d1 := hW.cell 1
      have d2 := hW.cell 2
      simp at d0 d1 d2
      refine bodyPost_ret (v := .agg #[.int .i64 0, .slice (some ⟨wr.heap.size + 1, 0, none⟩) A A, .int .i64 stp]) (by simp [results, Yaav.results23, go_sem, d0, d1, d2]) rfl ⟨?_, ?_⟩
      · rw [HRES.out]
        have hAl : (rg.take A).length = A := by simp; omega
        refine ⟨some ⟨wr.heap.size + 1, 0, none⟩, by simp only [hAl], .inr ⟨wr.heap.size + 1, by omega, rfl, ((HK2.out.far (p := ⟨_, _, none⟩) (by simp; omega) _).far (p := ⟨_, _, none⟩) (by simp; omega) _).far (p := ⟨_, _, none⟩) (by simp; omega) _⟩⟩
      · exact ((HB2.out.setCell (p := ⟨_, _, none⟩) (Nat.le_refl _) _).setCell (p := ⟨_, _, none⟩) (Nat.le_refl _) _).setCell (p := ⟨_, _, none⟩) (Nat.le_refl _) _
    have hb10 : (c == 10) = false := beq_eq_false_iff_ne.2 h10
    cases gk with
    | zero =>
      have hstp : stp = 20000 := by have := HSF.out; omega
      have hfb : ((stp : Int) == 20000) = true := by simp [hstp]
      have HRES : Hid (RES = ⟨1, [], 20000⟩) := by show _ = _; rw [← HRUN.out, runR_fuel HX.out h10]
      clear hstp HRUN
      as_aux_lemma =>
      have c0 := HRR.out.res.cell 0
      have c1 := HRR.out.res.cell 1
      have c2 := HRR.out.res.cell 2
      simp at c0 c1 c2
      have f0 := HRR.out.res.frozen 0
      have f1 := HRR.out.res.frozen 1
      have f2 := HRR.out.res.frozen 2
      go_wp2_with (go_at_call 53; refine (inReg_any _ _ _ hnr).mono ?_; rintro e w' ⟨rfl, rfl⟩)
      have hW := (((HRR.out.res.set 0 (.int .i64 1)).set 1 (.slice none 0 0)).set 2 (.int .i64 20000)).alloc (.cells #[.int .i64 c, .int .i64 r, .int .i64 a, .int .i64 b, .int .i64 k] 81)
      have d0 := hW.cell 0
      have d1 := hW.cell 1
      have d2 := hW.cell 2
      simp at d0 d1 d2
      refine bodyPost_ret (v := .agg #[.int .i64 1, .slice none 0 0, .int .i64 20000]) (by simp [results, Yaav.results23, go_sem, d0, d1, d2]) rfl ⟨?_, ?_⟩
      · rw [HRES.out]
        exact ⟨none, rfl, .inl rfl⟩
      · exact (((HRR.out.bel.setCell (p := ⟨_, _, none⟩) (Nat.le_refl _) _).setCell (p := ⟨_, _, none⟩) (Nat.le_refl _) _).setCell (p := ⟨_, _, none⟩) (Nat.le_refl _) _).alloc (by simp; omega) _
    | succ f =>
      have hstl : stp < 20000 := by have := HSF.out; omega
      have hfb : ((stp : Int) == 20000) = false := by simp; omega
      have hsf2 := HSF.out
      go_upto_block 2 with fail
      go_cut [13] (fun bv wx => bv = .bool (stepR ps.length xs pc ⟨c, r, a, b, k⟩ rg).isNone ∧ wr.alloc (.cells #[.int .i64 c, .int .i64 r, .int .i64 a, .int .i64 b, .int .i64 k] 81) = wx)
      case first =>
        clear HRUN
        by_cases e0 : c = 0
        · subst e0
          cases hr : okR r N with
          | false =>
            as_aux_lemma =>
            go_wp2_with (go_at_call 53; refine (inReg_any _ _ _ hnr).mono ?_; rintro e w' ⟨rfl, rfl⟩)
            go_meet
            case rel => exact ⟨by simp [stepR, HLEN.out, hr], rfl⟩
            
          | true =>
            as_aux_lemma =>
            go_wp2_with (go_at_call 53; refine (inReg_any _ _ _ hnr).mono ?_; rintro e w' ⟨rfl, rfl⟩)
            go_meet
            case rel => exact ⟨by simp [stepR, HLEN.out, hr], rfl⟩
            
        by_cases e1 : c = 1
        · subst e1
          cases hr : okR r N with
          | false =>
            as_aux_lemma =>
            go_wp2_with (go_at_call 53; refine (inReg_any _ _ _ hnr).mono ?_; rintro e w' ⟨rfl, rfl⟩)
            go_meet
            case rel => exact ⟨by simp [stepR, HLEN.out, hr], rfl⟩
            
          | true =>
            as_aux_lemma =>
            go_wp2_with (go_at_call 53; refine (inReg_any _ _ _ hnr).mono ?_; rintro e w' ⟨rfl, rfl⟩)
            go_meet
            case rel => exact ⟨by simp [stepR, HLEN.out, hr], rfl⟩
            
        by_cases e2 : c = 2
        · subst e2
          cases hr : okR r N with
          | false =>
            as_aux_lemma =>
            go_wp2_with (go_at_call 53; refine (inReg_any _ _ _ hnr).mono ?_; rintro e w' ⟨rfl, rfl⟩)
            go_meet
            case rel => exact ⟨by simp [stepR, HLEN.out, hr], rfl⟩
            
          | true =>
            cases ha : okR a N with
            | false =>
              as_aux_lemma =>
              go_wp2_with (go_at_call 53; refine (inReg_any _ _ _ hnr).mono ?_; rintro e w' ⟨rfl, rfl⟩)
              go_meet
              case rel => exact ⟨by simp [stepR, HLEN.out, hr, ha], rfl⟩
              
            | true =>
              cases hb : okR b N with
              | false =>
                as_aux_lemma =>
                go_wp2_with (go_at_call 53; refine (inReg_any _ _ _ hnr).mono ?_; rintro e w' ⟨rfl, rfl⟩)
                go_meet
                case rel => exact ⟨by simp [stepR, HLEN.out, hr, ha, hb], rfl⟩
                
              | true =>
                as_aux_lemma =>
                go_wp2_with (go_at_call 53; refine (inReg_any _ _ _ hnr).mono ?_; rintro e w' ⟨rfl, rfl⟩)
                go_meet
                case rel => exact ⟨by simp [stepR, HLEN.out, hr, ha, hb], rfl⟩
                
        by_cases e3 : c = 3
        · subst e3
          cases hr : okR r N with
          | false =>
            as_aux_lemma =>
            go_wp2_with (go_at_call 53; refine (inReg_any _ _ _ hnr).mono ?_; rintro e w' ⟨rfl, rfl⟩)
            go_meet
            case rel => exact ⟨by simp [stepR, HLEN.out, hr], rfl⟩
            
          | true =>
            cases ha : okR a N with
            | false =>
              as_aux_lemma =>
              go_wp2_with (go_at_call 53; refine (inReg_any _ _ _ hnr).mono ?_; rintro e w' ⟨rfl, rfl⟩)
              go_meet
              case rel => exact ⟨by simp [stepR, HLEN.out, hr, ha], rfl⟩
              
            | true =>
              cases hb : okR b N with
              | false =>
                as_aux_lemma =>
                go_wp2_with (go_at_call 53; refine (inReg_any _ _ _ hnr).mono ?_; rintro e w' ⟨rfl, rfl⟩)
                go_meet
                case rel => exact ⟨by simp [stepR, HLEN.out, hr, ha, hb], rfl⟩
                
              | true =>
                as_aux_lemma =>
                go_wp2_with (go_at_call 53; refine (inReg_any _ _ _ hnr).mono ?_; rintro e w' ⟨rfl, rfl⟩)
                go_meet
                case rel => exact ⟨by simp [stepR, HLEN.out, hr, ha, hb], rfl⟩
                
        by_cases e4 : c = 4
        · subst e4
          cases hr : okR r N with
          | false =>
            as_aux_lemma =>
            go_wp2_with (go_at_call 53; refine (inReg_any _ _ _ hnr).mono ?_; rintro e w' ⟨rfl, rfl⟩)
            go_meet
            case rel => exact ⟨by simp [stepR, HLEN.out, hr], rfl⟩
            
          | true =>
            cases ha : okR a N with
            | false =>
              as_aux_lemma =>
              go_wp2_with (go_at_call 53; refine (inReg_any _ _ _ hnr).mono ?_; rintro e w' ⟨rfl, rfl⟩)
              go_meet
              case rel => exact ⟨by simp [stepR, HLEN.out, hr, ha], rfl⟩
              
            | true =>
              cases hb : okR b N with
              | false =>
                as_aux_lemma =>
                go_wp2_with (go_at_call 53; refine (inReg_any _ _ _ hnr).mono ?_; rintro e w' ⟨rfl, rfl⟩)
                go_meet
                case rel => exact ⟨by simp [stepR, HLEN.out, hr, ha, hb], rfl⟩
                
              | true =>
                as_aux_lemma =>
                go_wp2_with (go_at_call 53; refine (inReg_any _ _ _ hnr).mono ?_; rintro e w' ⟨rfl, rfl⟩)
                go_meet
                case rel => exact ⟨by simp [stepR, HLEN.out, hr, ha, hb], rfl⟩
                
        by_cases e5 : c = 5
        · subst e5
          cases hr : okR r N with
          | false =>
            as_aux_lemma =>
            go_wp2_with (go_at_call 53; refine (inReg_any _ _ _ hnr).mono ?_; rintro e w' ⟨rfl, rfl⟩)
            go_meet
            case rel => exact ⟨by simp [stepR, HLEN.out, hr], rfl⟩
            
          | true =>
            cases ha : okR a N with
            | false =>
              as_aux_lemma =>
              go_wp2_with (go_at_call 53; refine (inReg_any _ _ _ hnr).mono ?_; rintro e w' ⟨rfl, rfl⟩)
              go_meet
              case rel => exact ⟨by simp [stepR, HLEN.out, hr, ha], rfl⟩
              
            | true =>
              as_aux_lemma =>
              go_wp2_with (go_at_call 53; refine (inReg_any _ _ _ hnr).mono ?_; rintro e w' ⟨rfl, rfl⟩)
              go_meet
              case rel => exact ⟨by simp [stepR, HLEN.out, hr, ha], rfl⟩
              
        by_cases e6 : c = 6
        · subst e6
          cases ha : okR a N with
          | false =>
            as_aux_lemma =>
            go_wp2_with (go_at_call 53; refine (inReg_any _ _ _ hnr).mono ?_; rintro e w' ⟨rfl, rfl⟩)
            go_meet
            case rel => exact ⟨by simp [stepR, HLEN.out, ha], rfl⟩
            
          | true =>
            cases hb : okR b N with
            | false =>
              as_aux_lemma =>
              go_wp2_with (go_at_call 53; refine (inReg_any _ _ _ hnr).mono ?_; rintro e w' ⟨rfl, rfl⟩)
              go_meet
              case rel => exact ⟨by simp [stepR, HLEN.out, ha, hb], rfl⟩
              
            | true =>
              as_aux_lemma =>
              go_wp2_with (go_at_call 53; refine (inReg_any _ _ _ hnr).mono ?_; rintro e w' ⟨rfl, rfl⟩)
              go_meet
              case rel => exact ⟨by simp [stepR, HLEN.out, ha, hb], rfl⟩
              
        by_cases e7 : c = 7
        · subst e7
          as_aux_lemma =>
          go_wp2_with (go_at_call 53; refine (inReg_any _ _ _ hnr).mono ?_; rintro e w' ⟨rfl, rfl⟩)
          go_meet
          case rel => exact ⟨by simp [stepR, HLEN.out, okR], rfl⟩
          
        by_cases e8 : c = 8
        · subst e8
          by_cases hk0 : k < 0
          · as_aux_lemma =>
            have hk0' : ¬ 0 ≤ k := by omega
            go_wp2_with (go_at_call 53; refine (inReg_any _ _ _ hnr).mono ?_; rintro e w' ⟨rfl, rfl⟩)
            go_meet
            case rel => exact ⟨by have hNN := HN.out; simp [stepR, HLEN.out, okR] <;> omega, rfl⟩
            
          by_cases hk1 : (n : Int) < k
          · as_aux_lemma =>
            have hk1' : ¬ k ≤ (n : Int) := by omega
            go_wp2_with (go_at_call 53; refine (inReg_any _ _ _ hnr).mono ?_; rintro e w' ⟨rfl, rfl⟩)
            go_meet
            case rel => exact ⟨by have hNN := HN.out; simp [stepR, HLEN.out, okR] <;> omega, rfl⟩
            
          as_aux_lemma =>
          have hk0' : 0 ≤ k := by omega
          have hk1' : k ≤ (ps.length : Int) := by have := HN.out; omega
          have HK0 := hideP hk0'
          have HK1 := hideP hk1'
          clear hk1'
          go_wp2_with (go_at_call 53; refine (inReg_any _ _ _ hnr).mono ?_; rintro e w' ⟨rfl, rfl⟩)
          go_meet
          case rel => exact ⟨by have hNN := HN.out; simp [stepR, HLEN.out, HK0.out, HK1.out] <;> omega, rfl⟩
          
        by_cases e9 : c = 9
        · subst e9
          cases ha : okR a N with
          | false =>
            as_aux_lemma =>
            go_wp2_with (go_at_call 53; refine (inReg_any _ _ _ hnr).mono ?_; rintro e w' ⟨rfl, rfl⟩)
            go_meet
            case rel => exact ⟨by simp [stepR, HLEN.out, ha], rfl⟩
            
          | true =>
            by_cases hk0 : k < 0
            · as_aux_lemma =>
              have hk0' : ¬ 0 ≤ k := by omega
              go_wp2_with (go_at_call 53; refine (inReg_any _ _ _ hnr).mono ?_; rintro e w' ⟨rfl, rfl⟩)
              go_meet
              case rel => exact ⟨by have hNN := HN.out; simp [stepR, HLEN.out, ha] <;> omega, rfl⟩
              
            by_cases hk1 : (n : Int) < k
            · as_aux_lemma =>
              have hk1' : ¬ k ≤ (n : Int) := by omega
              go_wp2_with (go_at_call 53; refine (inReg_any _ _ _ hnr).mono ?_; rintro e w' ⟨rfl, rfl⟩)
              go_meet
              case rel => exact ⟨by have hNN := HN.out; simp [stepR, HLEN.out, ha] <;> omega, rfl⟩
              
            as_aux_lemma =>
            have hk0' : 0 ≤ k := by omega
            have hk1' : k ≤ (ps.length : Int) := by have := HN.out; omega
            have HK0 := hideP hk0'
            have HK1 := hideP hk1'
            clear hk1'
            go_wp2_with (go_at_call 53; refine (inReg_any _ _ _ hnr).mono ?_; rintro e w' ⟨rfl, rfl⟩)
            go_meet
            case rel => exact ⟨by have hNN := HN.out; simp [stepR, HLEN.out, ha, HK0.out, HK1.out] <;> omega, rfl⟩
            
        have b0 : (c == 0) = false := beq_eq_false_iff_ne.2 e0
        have b1 : (c == 1) = false := beq_eq_false_iff_ne.2 e1
        have b2 : (c == 2) = false := beq_eq_false_iff_ne.2 e2
        have b3 : (c == 3) = false := beq_eq_false_iff_ne.2 e3
        have b4 : (c == 4) = false := beq_eq_false_iff_ne.2 e4
        have b5 : (c == 5) = false := beq_eq_false_iff_ne.2 e5
        have b6 : (c == 6) = false := beq_eq_false_iff_ne.2 e6
        have b7 : (c == 7) = false := beq_eq_false_iff_ne.2 e7
        have b8 : (c == 8) = false := beq_eq_false_iff_ne.2 e8
        have b9 : (c == 9) = false := beq_eq_false_iff_ne.2 e9
        as_aux_lemma =>
        have hft : stepR ps.length xs pc ⟨c, r, a, b, k⟩ rg = none := by simp [stepR, e0, e1, e2, e3, e4, e5, e6, e7, e8, e9]
        have HFT := hideP hft
        clear hft
        go_wp2_with (go_at_call 53; refine (inReg_any _ _ _ hnr).mono ?_; rintro e w' ⟨rfl, rfl⟩)
        go_meet
        case rel => exact ⟨by rw [HFT.out]; rfl, rfl⟩
        
      case rest =>
        obtain ⟨rfl, rfl⟩ := hcut
        cases hsr : stepR ps.length xs pc ⟨c, r, a, b, k⟩ rg with
        | none =>
          have HRES : Hid (RES = ⟨2, [], (stp : Int)⟩) := by
            show _ = _
            rw [← HRUN.out, runR_fault HX.out h10 hsr]
            simp; omega
          simp only [Option.isNone_none]
          clear HRUN hsr
          as_aux_lemma =>
          have c0 := HRR.out.res.cell 0
          have c1 := HRR.out.res.cell 1
          have c2 := HRR.out.res.cell 2
          simp at c0 c1 c2
          have f0 := HRR.out.res.frozen 0
          have f1 := HRR.out.res.frozen 1
          have f2 := HRR.out.res.frozen 2
          go_wp2_with (go_at_call 53; refine (inReg_any _ _ _ hnr).mono ?_; rintro e w' ⟨rfl, rfl⟩)
          have hW := (((HRR.out.res.set 0 (.int .i64 2)).set 1 (.slice none 0 0)).set 2 (.int .i64 stp)).alloc (.cells #[.int .i64 c, .int .i64 r, .int .i64 a, .int .i64 b, .int .i64 k] 81)
          have d0 := hW.cell 0
          have d1 := hW.cell 1
          have d2 := hW.cell 2
          simp at d0 d1 d2
          refine bodyPost_ret (v := .agg #[.int .i64 2, .slice none 0 0, .int .i64 stp]) (by simp [results, Yaav.results23, go_sem, d0, d1, d2]) rfl ⟨?_, ?_⟩
          · rw [HRES.out]
            exact ⟨none, rfl, .inl rfl⟩
          · exact (((HRR.out.bel.setCell (p := ⟨_, _, none⟩) (Nat.le_refl _) _).setCell (p := ⟨_, _, none⟩) (Nat.le_refl _) _).setCell (p := ⟨_, _, none⟩) (Nat.le_refl _) _).alloc (by simp; omega) _
        | some q =>
          simp only [Option.isNone_some]
          have HST := hideP hsr
          clear hsr
          by_cases e0 : c = 0
          · subst e0
            as_aux_lemma =>
            have hr : okR r N = true := by cases h : okR r N with | true => rfl | false => (exfalso; have hq := HST.out; simp [stepR, HLEN.out, h] at hq)
            obtain ⟨R, rfl, hR⟩ := okR_nat hr
            obtain ⟨u, hvu⟩ := some_at (ps := rg) (k := R) (by have := HLEN.out; omega)
            have ku := HRR.out.cell hvu
            have zu := HRR.out.reg.frozen R
            have HVu := hideP (rget_at hvu)
            clear hvu
            have HSTEP : Hid (runR ps xs f ((pc + 1, rg.set R k)).1 ((pc + 1, rg.set R k)).2 = RES) := by show _ = _; rw [← HRUN.out]; exact (runR_step (q := (pc + 1, rg.set R k)) HX.out (by simp) (by simp [stepR, HLEN.out, hr])).symm
            go_wp2_with fail
            go_roundg f
            case measure => omega
            case rel => exact ⟨pc + 1, stp + 1, rg.set R k, by go_num, by go_num, by omega, by omega, by (try simp only [List.length_set]); exact HLEN.out, (HRR.out.set R k).alloc _, HSTEP.out⟩
            
          by_cases e1 : c = 1
          · subst e1
            have hr : okR r N = true := by cases h : okR r N with | true => rfl | false => (exfalso; have hq := HST.out; simp [stepR, HLEN.out, h] at hq)
            by_cases ha0 : k < 0
            · as_aux_lemma =>
              have HARG := hideP (argAt_out (xs := xs) (.inl ha0))
              have hdd : decide (0 ≤ k) = false := by simp; omega
              obtain ⟨R, rfl, hR⟩ := okR_nat hr
              obtain ⟨u, hvu⟩ := some_at (ps := rg) (k := R) (by have := HLEN.out; omega)
              have ku := HRR.out.cell hvu
              have zu := HRR.out.reg.frozen R
              have HVu := hideP (rget_at hvu)
              clear hvu
              have HSTEP : Hid (runR ps xs f ((pc + 1, rg.set R 0)).1 ((pc + 1, rg.set R 0)).2 = RES) := by show _ = _; rw [← HRUN.out]; exact (runR_step (q := (pc + 1, rg.set R 0)) HX.out (by simp) (by simp [stepR, HLEN.out, hr, HARG.out])).symm
              go_wp2_with fail
              go_roundg f
              case measure => omega
              case rel => exact ⟨pc + 1, stp + 1, rg.set R 0, by go_num, by go_num, by omega, by omega, by (try simp only [List.length_set]); exact HLEN.out, (HRR.out.set R 0).alloc _, HSTEP.out⟩
              
            by_cases ha1 : (nx : Int) ≤ k
            · as_aux_lemma =>
              have HARG := hideP (argAt_out (xs := xs) (k := k) (.inr (by have := HNX.out; omega)))
              obtain ⟨R, rfl, hR⟩ := okR_nat hr
              obtain ⟨u, hvu⟩ := some_at (ps := rg) (k := R) (by have := HLEN.out; omega)
              have ku := HRR.out.cell hvu
              have zu := HRR.out.reg.frozen R
              have HVu := hideP (rget_at hvu)
              clear hvu
              have HSTEP : Hid (runR ps xs f ((pc + 1, rg.set R 0)).1 ((pc + 1, rg.set R 0)).2 = RES) := by show _ = _; rw [← HRUN.out]; exact (runR_step (q := (pc + 1, rg.set R 0)) HX.out (by simp) (by simp [stepR, HLEN.out, hr, HARG.out])).symm
              go_wp2_with fail
              go_roundg f
              case measure => omega
              case rel => exact ⟨pc + 1, stp + 1, rg.set R 0, by go_num, by go_num, by omega, by omega, by (try simp only [List.length_set]); exact HLEN.out, (HRR.out.set R 0).alloc _, HSTEP.out⟩
              
            · as_aux_lemma =>
              obtain ⟨A, rfl⟩ := Int.eq_ofNat_of_zero_le (by omega : 0 ≤ k)
              obtain ⟨v, hv⟩ := some_at (ps := xs) (k := A) (by have := HNX.out; omega)
              obtain ⟨bx, ox, rfl, hbx, hcx'⟩ := HXS.out.i hv
              have hcx := keepC HRR.out.bel hcx'
              have hbx2 : bx < wr.heap.size := by omega
              have HARG := hideP (argAt_in hv)
              clear hv hcx'
              obtain ⟨R, rfl, hR⟩ := okR_nat hr
              obtain ⟨u, hvu⟩ := some_at (ps := rg) (k := R) (by have := HLEN.out; omega)
              have ku := HRR.out.cell hvu
              have zu := HRR.out.reg.frozen R
              have HVu := hideP (rget_at hvu)
              clear hvu
              have HSTEP : Hid (runR ps xs f ((pc + 1, rg.set R v)).1 ((pc + 1, rg.set R v)).2 = RES) := by show _ = _; rw [← HRUN.out]; exact (runR_step (q := (pc + 1, rg.set R v)) HX.out (by simp) (by simp [stepR, HLEN.out, hr, HARG.out])).symm
              go_wp2_with fail
              go_roundg f
              case measure => omega
              case rel => exact ⟨pc + 1, stp + 1, rg.set R v, by go_num, by go_num, by omega, by omega, by (try simp only [List.length_set]); exact HLEN.out, (HRR.out.set R v).alloc _, HSTEP.out⟩
              
          by_cases e2 : c = 2
          · subst e2
            as_aux_lemma =>
            have hr : okR r N = true := by cases h : okR r N with | true => rfl | false => (exfalso; have hq := HST.out; simp [stepR, HLEN.out, h] at hq)
            have ha : okR a N = true := by cases h : okR a N with | true => rfl | false => (exfalso; have hq := HST.out; simp [stepR, HLEN.out, h] at hq)
            have hb : okR b N = true := by cases h : okR b N with | true => rfl | false => (exfalso; have hq := HST.out; simp [stepR, HLEN.out, h] at hq)
            obtain ⟨R, rfl, hR⟩ := okR_nat hr
            obtain ⟨A, rfl, hA⟩ := okR_nat ha
            obtain ⟨B, rfl, hB⟩ := okR_nat hb
            obtain ⟨u, hvu⟩ := some_at (ps := rg) (k := R) (by have := HLEN.out; omega)
            have ku := HRR.out.cell hvu
            have zu := HRR.out.reg.frozen R
            have HVu := hideP (rget_at hvu)
            clear hvu
            obtain ⟨x, hvx⟩ := some_at (ps := rg) (k := A) (by have := HLEN.out; omega)
            have kx := HRR.out.cell hvx
            have zx := HRR.out.reg.frozen A
            have HVx := hideP (rget_at hvx)
            clear hvx
            obtain ⟨y, hvy⟩ := some_at (ps := rg) (k := B) (by have := HLEN.out; omega)
            have ky := HRR.out.cell hvy
            have zy := HRR.out.reg.frozen B
            have HVy := hideP (rget_at hvy)
            clear hvy
            have HSTEP : Hid (runR ps xs f ((pc + 1, rg.set R (wrap64 (x + y)))).1 ((pc + 1, rg.set R (wrap64 (x + y)))).2 = RES) := by show _ = _; rw [← HRUN.out]; exact (runR_step (q := (pc + 1, rg.set R (wrap64 (x + y)))) HX.out (by simp) (by simp [stepR, HLEN.out, hr, ha, hb, HVx.out, HVy.out])).symm
            go_wp2_with fail
            go_quiet (fail)
            go_wp2
            go_roundg f
            case measure => omega
            case rel => exact ⟨pc + 1, stp + 1, rg.set R (wrap64 (x + y)), by go_num, by go_num, by omega, by omega, by (try simp only [List.length_set]); exact HLEN.out, ((HRR.out.alloc (.cells #[.int .i64 2, .int .i64 (R : Int), .int .i64 (A : Int), .int .i64 (B : Int), .int .i64 k] 81)).drewN nq).set R (wrap64 (x + y)), HSTEP.out⟩
            
          by_cases e3 : c = 3
          · subst e3
            as_aux_lemma =>
            have hr : okR r N = true := by cases h : okR r N with | true => rfl | false => (exfalso; have hq := HST.out; simp [stepR, HLEN.out, h] at hq)
            have ha : okR a N = true := by cases h : okR a N with | true => rfl | false => (exfalso; have hq := HST.out; simp [stepR, HLEN.out, h] at hq)
            have hb : okR b N = true := by cases h : okR b N with | true => rfl | false => (exfalso; have hq := HST.out; simp [stepR, HLEN.out, h] at hq)
            obtain ⟨R, rfl, hR⟩ := okR_nat hr
            obtain ⟨A, rfl, hA⟩ := okR_nat ha
            obtain ⟨B, rfl, hB⟩ := okR_nat hb
            obtain ⟨u, hvu⟩ := some_at (ps := rg) (k := R) (by have := HLEN.out; omega)
            have ku := HRR.out.cell hvu
            have zu := HRR.out.reg.frozen R
            have HVu := hideP (rget_at hvu)
            clear hvu
            obtain ⟨x, hvx⟩ := some_at (ps := rg) (k := A) (by have := HLEN.out; omega)
            have kx := HRR.out.cell hvx
            have zx := HRR.out.reg.frozen A
            have HVx := hideP (rget_at hvx)
            clear hvx
            obtain ⟨y, hvy⟩ := some_at (ps := rg) (k := B) (by have := HLEN.out; omega)
            have ky := HRR.out.cell hvy
            have zy := HRR.out.reg.frozen B
            have HVy := hideP (rget_at hvy)
            clear hvy
            have HSTEP : Hid (runR ps xs f ((pc + 1, rg.set R (wrap64 (x - y)))).1 ((pc + 1, rg.set R (wrap64 (x - y)))).2 = RES) := by show _ = _; rw [← HRUN.out]; exact (runR_step (q := (pc + 1, rg.set R (wrap64 (x - y)))) HX.out (by simp) (by simp [stepR, HLEN.out, hr, ha, hb, HVx.out, HVy.out])).symm
            go_wp2_with fail
            go_quiet (fail)
            go_wp2
            go_roundg f
            case measure => omega
            case rel => exact ⟨pc + 1, stp + 1, rg.set R (wrap64 (x - y)), by go_num, by go_num, by omega, by omega, by (try simp only [List.length_set]); exact HLEN.out, ((HRR.out.alloc (.cells #[.int .i64 3, .int .i64 (R : Int), .int .i64 (A : Int), .int .i64 (B : Int), .int .i64 k] 81)).drewN nq).set R (wrap64 (x - y)), HSTEP.out⟩
            
          by_cases e4 : c = 4
          · subst e4
            as_aux_lemma =>
            have hr : okR r N = true := by cases h : okR r N with | true => rfl | false => (exfalso; have hq := HST.out; simp [stepR, HLEN.out, h] at hq)
            have ha : okR a N = true := by cases h : okR a N with | true => rfl | false => (exfalso; have hq := HST.out; simp [stepR, HLEN.out, h] at hq)
            have hb : okR b N = true := by cases h : okR b N with | true => rfl | false => (exfalso; have hq := HST.out; simp [stepR, HLEN.out, h] at hq)
            obtain ⟨R, rfl, hR⟩ := okR_nat hr
            obtain ⟨A, rfl, hA⟩ := okR_nat ha
            obtain ⟨B, rfl, hB⟩ := okR_nat hb
            obtain ⟨u, hvu⟩ := some_at (ps := rg) (k := R) (by have := HLEN.out; omega)
            have ku := HRR.out.cell hvu
            have zu := HRR.out.reg.frozen R
            have HVu := hideP (rget_at hvu)
            clear hvu
            obtain ⟨x, hvx⟩ := some_at (ps := rg) (k := A) (by have := HLEN.out; omega)
            have kx := HRR.out.cell hvx
            have zx := HRR.out.reg.frozen A
            have HVx := hideP (rget_at hvx)
            clear hvx
            obtain ⟨y, hvy⟩ := some_at (ps := rg) (k := B) (by have := HLEN.out; omega)
            have ky := HRR.out.cell hvy
            have zy := HRR.out.reg.frozen B
            have HVy := hideP (rget_at hvy)
            clear hvy
            have HSTEP : Hid (runR ps xs f ((pc + 1, rg.set R (wrap64 (x * y)))).1 ((pc + 1, rg.set R (wrap64 (x * y)))).2 = RES) := by show _ = _; rw [← HRUN.out]; exact (runR_step (q := (pc + 1, rg.set R (wrap64 (x * y)))) HX.out (by simp) (by simp [stepR, HLEN.out, hr, ha, hb, HVx.out, HVy.out])).symm
            go_wp2_with fail
            go_quiet (fail)
            go_wp2
            go_roundg f
            case measure => omega
            case rel => exact ⟨pc + 1, stp + 1, rg.set R (wrap64 (x * y)), by go_num, by go_num, by omega, by omega, by (try simp only [List.length_set]); exact HLEN.out, ((HRR.out.alloc (.cells #[.int .i64 4, .int .i64 (R : Int), .int .i64 (A : Int), .int .i64 (B : Int), .int .i64 k] 81)).drewN nq).set R (wrap64 (x * y)), HSTEP.out⟩
            
          by_cases e5 : c = 5
          · subst e5
            as_aux_lemma =>
            have hr : okR r N = true := by cases h : okR r N with | true => rfl | false => (exfalso; have hq := HST.out; simp [stepR, HLEN.out, h] at hq)
            have ha : okR a N = true := by cases h : okR a N with | true => rfl | false => (exfalso; have hq := HST.out; simp [stepR, HLEN.out, h] at hq)
            obtain ⟨R, rfl, hR⟩ := okR_nat hr
            obtain ⟨A, rfl, hA⟩ := okR_nat ha
            obtain ⟨u, hvu⟩ := some_at (ps := rg) (k := R) (by have := HLEN.out; omega)
            have ku := HRR.out.cell hvu
            have zu := HRR.out.reg.frozen R
            have HVu := hideP (rget_at hvu)
            clear hvu
            obtain ⟨x, hvx⟩ := some_at (ps := rg) (k := A) (by have := HLEN.out; omega)
            have kx := HRR.out.cell hvx
            have zx := HRR.out.reg.frozen A
            have HVx := hideP (rget_at hvx)
            clear hvx
            have HSTEP : Hid (runR ps xs f ((pc + 1, rg.set R x)).1 ((pc + 1, rg.set R x)).2 = RES) := by show _ = _; rw [← HRUN.out]; exact (runR_step (q := (pc + 1, rg.set R x)) HX.out (by simp) (by simp [stepR, HLEN.out, hr, ha, HVx.out])).symm
            go_wp2_with fail
            go_roundg f
            case measure => omega
            case rel => exact ⟨pc + 1, stp + 1, rg.set R x, by go_num, by go_num, by omega, by omega, by (try simp only [List.length_set]); exact HLEN.out, (HRR.out.set R x).alloc _, HSTEP.out⟩
            
          by_cases e6 : c = 6
          · subst e6
            as_aux_lemma =>
            have ha : okR a N = true := by cases h : okR a N with | true => rfl | false => (exfalso; have hq := HST.out; simp [stepR, HLEN.out, h] at hq)
            have hb : okR b N = true := by cases h : okR b N with | true => rfl | false => (exfalso; have hq := HST.out; simp [stepR, HLEN.out, h] at hq)
            obtain ⟨A, rfl, hA⟩ := okR_nat ha
            obtain ⟨B, rfl, hB⟩ := okR_nat hb
            by_cases hAB : A = B
            · subst hAB
              obtain ⟨x, hvx⟩ := some_at (ps := rg) (k := A) (by have := HLEN.out; omega)
              have kx := HRR.out.cell hvx
              have zx := HRR.out.reg.frozen A
              have HVx := hideP (rget_at hvx)
              clear hvx
              have HSTEP : Hid (runR ps xs f ((pc + 1, (rg.set A x).set A x)).1 ((pc + 1, (rg.set A x).set A x)).2 = RES) := by show _ = _; rw [← HRUN.out]; exact (runR_step (q := (pc + 1, (rg.set A x).set A x)) HX.out (by simp) (by simp [stepR, HLEN.out, ha, HVx.out])).symm
              go_wp2_with fail
              go_roundg f
              case measure => omega
              case rel => exact ⟨pc + 1, stp + 1, (rg.set A x).set A x, by go_num, by go_num, by omega, by omega, by (try simp only [List.length_set]); exact HLEN.out, ((HRR.out.set A x).set A x).alloc _, HSTEP.out⟩
              
            · have hBA : ¬ B = A := fun e => hAB e.symm
              obtain ⟨x, hvx⟩ := some_at (ps := rg) (k := A) (by have := HLEN.out; omega)
              have kx := HRR.out.cell hvx
              have zx := HRR.out.reg.frozen A
              have HVx := hideP (rget_at hvx)
              clear hvx
              obtain ⟨y, hvy⟩ := some_at (ps := rg) (k := B) (by have := HLEN.out; omega)
              have ky := HRR.out.cell hvy
              have zy := HRR.out.reg.frozen B
              have HVy := hideP (rget_at hvy)
              clear hvy
              have HSTEP : Hid (runR ps xs f ((pc + 1, (rg.set A y).set B x)).1 ((pc + 1, (rg.set A y).set B x)).2 = RES) := by show _ = _; rw [← HRUN.out]; exact (runR_step (q := (pc + 1, (rg.set A y).set B x)) HX.out (by simp) (by simp [stepR, HLEN.out, ha, hb, HVx.out, HVy.out])).symm
              go_wp2_with fail
              go_roundg f
              case measure => omega
              case rel => exact ⟨pc + 1, stp + 1, (rg.set A y).set B x, by go_num, by go_num, by omega, by omega, by (try simp only [List.length_set]); exact HLEN.out, ((HRR.out.set A y).set B x).alloc _, HSTEP.out⟩
              
          by_cases e7 : c = 7
          · subst e7
            as_aux_lemma =>
            have HSTEP : Hid (runR ps xs f ((pc + 1, rg)).1 ((pc + 1, rg)).2 = RES) := by show _ = _; rw [← HRUN.out]; exact (runR_step (q := (pc + 1, rg)) HX.out (by simp) (by simp [stepR, HLEN.out, okR])).symm
            go_wp2_with fail
            go_roundg f
            case measure => omega
            case rel => exact ⟨pc + 1, stp + 1, rg, by go_num, by go_num, by omega, by omega, by (try simp only [List.length_set]); exact HLEN.out, HRR.out.alloc _, HSTEP.out⟩
            
          by_cases e8 : c = 8
          · subst e8
            as_aux_lemma =>
            have hk0 : 0 ≤ k := by by_cases h : 0 ≤ k; exact h; (exfalso; have hq := HST.out; simp [stepR, HLEN.out, h] at hq)
            have hk1 : k ≤ (n : Int) := by by_cases h : k ≤ (n : Int); exact h; (exfalso; have hq := HST.out; simp [stepR, HLEN.out, HN.out, h] at hq)
            obtain ⟨K, rfl⟩ := Int.eq_ofNat_of_zero_le hk0
            have hK : K ≤ ps.length := by rw [HN.out]; omega
            have HSTEP : Hid (runR ps xs f ((K, rg)).1 ((K, rg)).2 = RES) := by show _ = _; rw [← HRUN.out]; exact (runR_step (q := (K, rg)) HX.out (by simp) (by simp [stepR, HLEN.out, hK])).symm
            go_wp2_with fail
            go_roundg f
            case measure => omega
            case rel => exact ⟨K, stp + 1, rg, rfl, by go_num, by omega, by omega, by (try simp only [List.length_set]); exact HLEN.out, HRR.out.alloc _, HSTEP.out⟩
            
          by_cases e9 : c = 9
          · subst e9
            as_aux_lemma =>
            have ha : okR a N = true := by cases h : okR a N with | true => rfl | false => (exfalso; have hq := HST.out; simp [stepR, HLEN.out, h] at hq)
            have hk0 : 0 ≤ k := by by_cases h : 0 ≤ k; exact h; (exfalso; have hq := HST.out; simp [stepR, HLEN.out, h] at hq)
            have hk1 : k ≤ (n : Int) := by by_cases h : k ≤ (n : Int); exact h; (exfalso; have hq := HST.out; simp [stepR, HLEN.out, HN.out, h] at hq)
            obtain ⟨K, rfl⟩ := Int.eq_ofNat_of_zero_le hk0
            have hK : K ≤ ps.length := by rw [HN.out]; omega
            obtain ⟨A, rfl, hA⟩ := okR_nat ha
            obtain ⟨x, hvx⟩ := some_at (ps := rg) (k := A) (by have := HLEN.out; omega)
            have kx := HRR.out.cell hvx
            have zx := HRR.out.reg.frozen A
            have HVx := hideP (rget_at hvx)
            clear hvx
            by_cases hx0 : x = 0
            · subst hx0
              have HSTEP : Hid (runR ps xs f ((K, rg)).1 ((K, rg)).2 = RES) := by show _ = _; rw [← HRUN.out]; exact (runR_step (q := (K, rg)) HX.out (by simp) (by simp [stepR, HLEN.out, ha, hK, HVx.out])).symm
              go_wp2_with fail
              go_roundg f
              case measure => omega
              case rel => exact ⟨K, stp + 1, rg, rfl, by go_num, by omega, by omega, by (try simp only [List.length_set]); exact HLEN.out, HRR.out.alloc _, HSTEP.out⟩
              
            · have hxb : (x == 0) = false := beq_eq_false_iff_ne.2 hx0
              have HSTEP : Hid (runR ps xs f ((pc + 1, rg)).1 ((pc + 1, rg)).2 = RES) := by show _ = _; rw [← HRUN.out]; exact (runR_step (q := (pc + 1, rg)) HX.out (by simp) (by simp [stepR, HLEN.out, ha, hK, HVx.out, hx0])).symm
              go_wp2_with fail
              go_roundg f
              case measure => omega
              case rel => exact ⟨pc + 1, stp + 1, rg, by go_num, by go_num, by omega, by omega, by (try simp only [List.length_set]); exact HLEN.out, HRR.out.alloc _, HSTEP.out⟩
              
          exfalso
          have hq := HST.out
          simp [stepR, e0, e1, e2, e3, e4, e5, e6, e7, e8, e9] at hq

set_option maxRecDepth 100000 in
set_option maxHeartbeats 1000000 in
theorem iRunReg_out (ap ax : Option Addr) (n cap nx capx : Nat) (z : Int) (w : World) (hz : z < 0 ∨ 65536 < z) :
    Calls Yaav.prog 23 #[.slice ap n cap, .int .i64 z, .slice ax nx capx] w fun e w' => RunPost ⟨2, [], 0⟩ w.heap.size e w' ∧ Below w.heap.size w w' := by
  by_cases h0 : z < 0
  all_goals
    go_enter Yaav.func23, Yaav.ntmps23
    go_wp2
    exact bodyPost_ret (v := .agg #[.int .i64 2, .slice none 0 0, .int .i64 0]) (by simp [results, Yaav.results23, go_sem]) rfl ⟨⟨none, rfl, .inl rfl⟩, (Below.refl _ _).alloc (Nat.le_refl _) _⟩

end Go.Proofs.Yahaaw
