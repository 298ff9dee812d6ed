/-
  DERIVED. WALK: impl.RunReg (23): one round, a part of the codes.
-/
import Derived.Test.YahaawRunI0
namespace Go.Proofs.Yahaaw
open Go.RowKit
set_option linter.unusedVariables false
set_option linter.unusedSimpArgs false

set_option maxRecDepth 100000 in
set_option maxHeartbeats 20000000 in
theorem iRunA (ap ax : Option Addr) (n cap nx capx N : Nat) (ps : List RO) (xs : List Int) (w : World) (HN : Hid (ps.length = n)) (hn2 : n ≤ 1099511627776) (HS : Hid (Seg w ap (rCells ps))) (hnr : N ≤ 65536) (HNX : Hid (xs.length = nx)) (hnx2 : nx ≤ 1099511627776) (HXS : Hid (Seg w ax (iCells xs))) : (iSkel ap ax n cap nx capx N ps xs w HN hn2 HS hnr HNX hnx2 HXS).1.1 := by
  intro RES Q0 h0 wr u11 u12 u13 u14 u15 u16 u17 u18 u19 u20 u21 u33 u34 u35 u36 u37 u38 u39 u40 u41 u42 u43 u44 u45 u46 u47 u48 u49 u50 u51 u52 u53 u54 u55 u56 u57 u58 u59 u60 u61 u62 u63 u64 u65 u66 u67 u68 u69 u70 u71 u72 u73 u74 u75 u76 u77 u78 u79 u80 u81 u82 u83 u84 u85 u86 u87 u88 u89 u90 u91 u92 u93 u94 u95 u96 u97 u98 u99 u100 u101 u102 u103 u104 u105 u106 u107 u108 u109 u110 u111 u112 u113 u114 u115 u116 u117 u118 u119 u120 u121 u122 u123 u124 u125 u126 u127 u128 u129 u130 u131 u132 u133 u134 u135 u136 u137 u138 u139 u140 u141 u142 u143 u144 u145 u146 u147 u148 u149 u150 u151 u152 u153 u154 u155 u156 u157 u158 u159 u160 u161 u162 u163 u164 u165 u166 u167 u168 u169 u170 u171 u172 u173 u174 u175 u176 u177 u178 u179 u180 u181 u182 u183 u184 u185 u186 u187 u188 u189 u190 u191 u192 u193 u194 u195 u196 u197 u198 u199 u200 u201 u202 u203 u204 u205 u206 u207 u208 u209 u210 u211 u212 u213 u214 u215 u216 u217 u218 u219 u220 u221 u222 u223 u224 u225 u226 u227 u228 u229 u230 u231 u232 u233 u234 u235 u236 u237 u238 u239 u240 u241 u242 u243 u244 u245 u246 u247 u248 u249 u250 u251 u252 u253 u254 u255 u256 u257 u258 u259 u260 u261 u262 u263 u264 u265 u266 u267 u268 u269 u270 u271 u272 u273 u274 u275 u276 u277 u278 u279 u280 u281 u282 u283 u284 u285 u286 u287 u288 u289 u290 u291 u292 u293 u294 u295 u296 u297 u298 u299 u300 u301 u302 u303 u304 pc stp f rg hpc hst HSF HRR HRUN HLEN hgl0 hgl1 hsz0 hcA
  obtain ⟨hf0, p, hp, hcls⟩ := hcA
  have hpl := lt_of_get hp
  have hpn : ¬ pc = n := by have := HN.out; omega
  clear hpl
  have hpb : ((pc : Int) == (n : Int)) = false := by simp; omega
  obtain ⟨bb, off, rfl, hbb, h1', h2', h3', h4', h5'⟩ := HS.out.r hp
  have h1 := keepC HRR.out.bel h1'
  have h2 := keepC HRR.out.bel h2'
  have h3 := keepC HRR.out.bel h3'
  have h4 := keepC HRR.out.bel h4'
  have h5 := keepC HRR.out.bel h5'
  have hbb2 : bb < wr.heap.size := by omega
  obtain ⟨c, r, a, b, k⟩ := p
  simp only at h1 h2 h3 h4 h5
  have HX := hideP hp
  clear hp h1' h2' h3' h4' h5'
  simp only at hcls
  have h10 : ¬ c = 10 := by omega
  have HCLS := hideP hcls
  clear hcls
  have hb10 : (c == 10) = false := beq_eq_false_iff_ne.2 h10
  cases f with
  | zero => exact absurd hf0 (by omega)
  | succ f =>
    have hstl : stp < 20000 := by have := HSF.out; omega
    have hfb : ((stp : Int) == 20000) = false := by simp; omega
    have hsf2 := HSF.out
    clear hf0
    by_cases e0 : c = 0
    · subst e0
      cases hr : okR r N with
      | false =>
        have HRES : Hid (RES = ⟨2, [], (stp : Int)⟩) := by
          show _ = _
          rw [← HRUN.out, runR_fault HX.out (by simp) (by simp [stepR, HLEN.out, hr])]
          simp; omega
        clear HRUN
        as_aux_lemma =>
        have c0 := HRR.out.res.cell 0
        have c1 := HRR.out.res.cell 1
        have c2 := HRR.out.res.cell 2
        simp at c0 c1 c2
        have f0 := HRR.out.res.frozen 0
        have f1 := HRR.out.res.frozen 1
        have f2 := HRR.out.res.frozen 2
        go_wp2_with (go_at_call 53; refine (inReg_any _ _ _ hnr).mono ?_; rintro e w' ⟨rfl, rfl⟩)
        have hW := (((HRR.out.res.set 0 (.int .i64 2)).set 1 (.slice none 0 0)).set 2 (.int .i64 stp)).alloc (.cells #[.int .i64 0, .int .i64 r, .int .i64 a, .int .i64 b, .int .i64 k] 81)
        have d0 := hW.cell 0
        have d1 := hW.cell 1
        have d2 := hW.cell 2
        simp at d0 d1 d2
        refine bodyPost_ret (v := .agg #[.int .i64 2, .slice none 0 0, .int .i64 stp]) (by simp [results, Yaav.results23, go_sem, d0, d1, d2]) rfl ⟨?_, ?_⟩
        · rw [HRES.out]
          exact ⟨none, rfl, .inl rfl⟩
        · exact (((HRR.out.bel.setCell (p := ⟨_, _, none⟩) (Nat.le_refl _) _).setCell (p := ⟨_, _, none⟩) (Nat.le_refl _) _).setCell (p := ⟨_, _, none⟩) (Nat.le_refl _) _).alloc (by simp; omega) _
      | true =>
        as_aux_lemma =>
        obtain ⟨R, rfl, hR⟩ := okR_nat hr
        obtain ⟨u, hvu⟩ := some_at (ps := rg) (k := R) (by have := HLEN.out; omega)
        have ku := HRR.out.cell hvu
        have zu := HRR.out.reg.frozen R
        have HVu := hideP (rget_at hvu)
        clear hvu
        have HSTEP : Hid (runR ps xs f ((pc + 1, rg.set R k)).1 ((pc + 1, rg.set R k)).2 = RES) := by show _ = _; rw [← HRUN.out]; exact (runR_step (q := (pc + 1, rg.set R k)) HX.out (by simp) (by simp [stepR, HLEN.out, hr])).symm
        go_wp2_with (go_at_call 53; refine (inReg_any _ _ _ hnr).mono ?_; rintro e w' ⟨rfl, rfl⟩)
        go_roundw
        case rel => exact ⟨pc + 1, stp + 1, f, rg.set R k, by go_num, by go_num, by omega, by omega, by (try simp only [List.length_set]); exact HLEN.out, (HRR.out.set R k).alloc _, HSTEP.out⟩
        case measure => simp [intOf]; omega
    by_cases e1 : c = 1
    · subst e1
      cases hr : okR r N with
      | false =>
        have HRES : Hid (RES = ⟨2, [], (stp : Int)⟩) := by
          show _ = _
          rw [← HRUN.out, runR_fault HX.out (by simp) (by simp [stepR, HLEN.out, hr])]
          simp; omega
        clear HRUN
        as_aux_lemma =>
        have c0 := HRR.out.res.cell 0
        have c1 := HRR.out.res.cell 1
        have c2 := HRR.out.res.cell 2
        simp at c0 c1 c2
        have f0 := HRR.out.res.frozen 0
        have f1 := HRR.out.res.frozen 1
        have f2 := HRR.out.res.frozen 2
        go_wp2_with (go_at_call 53; refine (inReg_any _ _ _ hnr).mono ?_; rintro e w' ⟨rfl, rfl⟩)
        have hW := (((HRR.out.res.set 0 (.int .i64 2)).set 1 (.slice none 0 0)).set 2 (.int .i64 stp)).alloc (.cells #[.int .i64 1, .int .i64 r, .int .i64 a, .int .i64 b, .int .i64 k] 81)
        have d0 := hW.cell 0
        have d1 := hW.cell 1
        have d2 := hW.cell 2
        simp at d0 d1 d2
        refine bodyPost_ret (v := .agg #[.int .i64 2, .slice none 0 0, .int .i64 stp]) (by simp [results, Yaav.results23, go_sem, d0, d1, d2]) rfl ⟨?_, ?_⟩
        · rw [HRES.out]
          exact ⟨none, rfl, .inl rfl⟩
        · exact (((HRR.out.bel.setCell (p := ⟨_, _, none⟩) (Nat.le_refl _) _).setCell (p := ⟨_, _, none⟩) (Nat.le_refl _) _).setCell (p := ⟨_, _, none⟩) (Nat.le_refl _) _).alloc (by simp; omega) _
      | true =>
        by_cases ha0 : k < 0
        · as_aux_lemma =>
          have HARG := hideP (argAt_out (xs := xs) (.inl ha0))
          have hdd : decide (0 ≤ k) = false := by simp; omega
          obtain ⟨R, rfl, hR⟩ := okR_nat hr
          obtain ⟨u, hvu⟩ := some_at (ps := rg) (k := R) (by have := HLEN.out; omega)
          have ku := HRR.out.cell hvu
          have zu := HRR.out.reg.frozen R
          have HVu := hideP (rget_at hvu)
          clear hvu
          have HSTEP : Hid (runR ps xs f ((pc + 1, rg.set R 0)).1 ((pc + 1, rg.set R 0)).2 = RES) := by show _ = _; rw [← HRUN.out]; exact (runR_step (q := (pc + 1, rg.set R 0)) HX.out (by simp) (by simp [stepR, HLEN.out, hr, HARG.out])).symm
          go_wp2_with (go_at_call 53; refine (inReg_any _ _ _ hnr).mono ?_; rintro e w' ⟨rfl, rfl⟩)
          go_roundw
          case rel => exact ⟨pc + 1, stp + 1, f, rg.set R 0, by go_num, by go_num, by omega, by omega, by (try simp only [List.length_set]); exact HLEN.out, (HRR.out.set R 0).alloc _, HSTEP.out⟩
          case measure => simp [intOf]; omega
        by_cases ha1 : (nx : Int) ≤ k
        · as_aux_lemma =>
          have HARG := hideP (argAt_out (xs := xs) (k := k) (.inr (by have := HNX.out; omega)))
          obtain ⟨R, rfl, hR⟩ := okR_nat hr
          obtain ⟨u, hvu⟩ := some_at (ps := rg) (k := R) (by have := HLEN.out; omega)
          have ku := HRR.out.cell hvu
          have zu := HRR.out.reg.frozen R
          have HVu := hideP (rget_at hvu)
          clear hvu
          have HSTEP : Hid (runR ps xs f ((pc + 1, rg.set R 0)).1 ((pc + 1, rg.set R 0)).2 = RES) := by show _ = _; rw [← HRUN.out]; exact (runR_step (q := (pc + 1, rg.set R 0)) HX.out (by simp) (by simp [stepR, HLEN.out, hr, HARG.out])).symm
          go_wp2_with (go_at_call 53; refine (inReg_any _ _ _ hnr).mono ?_; rintro e w' ⟨rfl, rfl⟩)
          go_roundw
          case rel => exact ⟨pc + 1, stp + 1, f, rg.set R 0, by go_num, by go_num, by omega, by omega, by (try simp only [List.length_set]); exact HLEN.out, (HRR.out.set R 0).alloc _, HSTEP.out⟩
          case measure => simp [intOf]; omega
        · as_aux_lemma =>
          obtain ⟨A, rfl⟩ := Int.eq_ofNat_of_zero_le (by omega : 0 ≤ k)
          obtain ⟨v, hv⟩ := some_at (ps := xs) (k := A) (by have := HNX.out; omega)
          obtain ⟨bx, ox, rfl, hbx, hcx'⟩ := HXS.out.i hv
          have hcx := keepC HRR.out.bel hcx'
          have hbx2 : bx < wr.heap.size := by omega
          have HARG := hideP (argAt_in hv)
          clear hv hcx'
          obtain ⟨R, rfl, hR⟩ := okR_nat hr
          obtain ⟨u, hvu⟩ := some_at (ps := rg) (k := R) (by have := HLEN.out; omega)
          have ku := HRR.out.cell hvu
          have zu := HRR.out.reg.frozen R
          have HVu := hideP (rget_at hvu)
          clear hvu
          have HSTEP : Hid (runR ps xs f ((pc + 1, rg.set R v)).1 ((pc + 1, rg.set R v)).2 = RES) := by show _ = _; rw [← HRUN.out]; exact (runR_step (q := (pc + 1, rg.set R v)) HX.out (by simp) (by simp [stepR, HLEN.out, hr, HARG.out])).symm
          go_wp2_with (go_at_call 53; refine (inReg_any _ _ _ hnr).mono ?_; rintro e w' ⟨rfl, rfl⟩)
          go_roundw
          case rel => exact ⟨pc + 1, stp + 1, f, rg.set R v, by go_num, by go_num, by omega, by omega, by (try simp only [List.length_set]); exact HLEN.out, (HRR.out.set R v).alloc _, HSTEP.out⟩
          case measure => simp [intOf]; omega
    exfalso
    have hcls := HCLS.out
    omega

end Go.Proofs.Yahaaw
