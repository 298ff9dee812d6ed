/-
  DERIVED. WALK: impl.RunStack (24): one round, a part of the codes.
-/
import Derived.Test.YahaawRunS0
namespace Go.Proofs.Yahaaw
open Go.RowKit
set_option linter.unusedVariables false
set_option linter.unusedSimpArgs false

set_option maxRecDepth 100000 in
set_option maxHeartbeats 20000000 in
theorem iRunStkD (ap ax : Option Addr) (n cap nx capx : Nat) (ps : List SO) (xs : List Int) (w : World) (HN : Hid (ps.length = n)) (hn2 : n ≤ 1099511627776) (HS : Hid (Seg w ap (sCells ps))) (HNX : Hid (xs.length = nx)) (hnx2 : nx ≤ 1099511627776) (HXS : Hid (Seg w ax (iCells xs))) : (iSkelS ap ax n cap nx capx ps xs w HN hn2 HS HNX hnx2 HXS).1.2.2.2.1 := by
  intro RES X0 wr u8 u9 u10 u11 u12 u13 u14 u15 u16 u17 u18 u19 u20 u21 u22 u26 u27 u28 u29 u30 u31 u32 u33 u34 u35 u36 u37 u38 u39 u40 u41 u42 u43 u44 u45 u46 u47 u48 u49 u50 u51 u52 u53 u54 u55 u56 u57 u58 u59 u60 u61 u62 u63 u64 u65 u66 u67 u68 u69 u70 u71 u72 u73 u74 u75 u76 u77 u78 u79 u80 u81 u82 u83 u84 u85 u86 u87 u88 u89 u90 u91 u92 u93 u94 u95 u96 u97 u98 u99 u100 u101 u102 u103 u104 u105 u106 u107 u108 u109 u110 u111 u112 u113 u114 u115 u116 u117 u118 u119 u120 u121 u122 u123 u124 u125 u126 u127 u128 u129 u130 u131 u132 u133 u134 u135 u136 u137 u138 u139 u140 u141 u142 u143 u144 u145 u146 u147 u148 u149 u150 u151 u152 u153 u154 u155 u156 u157 u158 u159 u160 u161 u162 u163 u164 u165 u166 u167 u168 u169 u170 u171 u172 u173 u174 u175 u176 u177 u178 u179 u180 u181 u182 u183 u184 u185 u186 u187 u188 u189 u190 u191 u192 u193 u194 u195 u196 u197 u198 u199 u200 u201 u202 u203 u204 u205 u206 u207 u208 u209 u210 u211 u212 u213 u214 u215 u216 u217 u218 u219 u220 u221 u222 u223 u224 u225 u226 u227 u228 u229 u230 u231 u232 u233 u234 u235 u236 u237 u238 u239 u240 u241 u242 u243 u244 u245 u246 u247 u248 u249 u250 u251 u252 u253 u254 u255 u256 u257 u258 pc stp f st hpc hsl hst HSF HRS HRUN hgl0 hsz0 hcA hcB hcC hcD
  clear hcA
  clear hcB
  clear hcC
  obtain ⟨hf0, p, hp, hcls, hnn⟩ := hcD
  have hpl := lt_of_get hp
  have hpn : ¬ pc = n := by have := HN.out; omega
  clear hpl
  have hpb : ((pc : Int) == (n : Int)) = false := by simp; omega
  obtain ⟨bb, off, rfl, hbb, h1', h2'⟩ := HS.out.s hp
  have h1 := keepC HRS.out.bel h1'
  have h2 := keepC HRS.out.bel h2'
  have hbb2 : bb < wr.heap.size := by omega
  obtain ⟨c, a⟩ := p
  simp only at h1 h2
  have HX := hideP hp
  clear hp h1' h2'
  simp only at hcls hnn
  have h11 : ¬ c = 11 := by omega
  have HCLS := hideP hcls
  clear hcls
  have hb11 : (c == 11) = false := beq_eq_false_iff_ne.2 h11
  cases f with
  | zero => exact absurd hf0 (by omega)
  | succ f =>
    have hstl : stp < 20000 := by have := HSF.out; omega
    have hfb : ((stp : Int) == 20000) = false := by simp; omega
    clear hf0
    have hsf2 := HSF.out
    have hn3 : ¬ (st.length : Int) < needs c := by omega
    clear hnn
    have hcls := HCLS.out
    clear HCLS
    rcases hcls with rfl | rfl | rfl | rfl
    · as_aux_lemma =>
        have hnd : needs 7 = 1 := rfl
        obtain ⟨r, y, rfl⟩ := split1 (st := st) (by omega)
        obtain ⟨g, cp, rfl, hcp, hgB, hgl, k1, fz1, hG0⟩ := HRS.out.gr.top1
        simp only [List.length_append, List.length_cons, List.length_nil, Nat.zero_add] at hsl
        have HG0 := hideP hG0
        clear hG0
        have HSTEP : Hid (runS ps xs f ((pc + 1, r)).1 ((pc + 1, r)).2 = RES) := by show _ = _; rw [← HRUN.out]; exact (runS_step (q := (pc + 1, r)) HX.out (by simp) (by simp [stepS, pop1_some])).symm
        have R1 := hideP (HRS.out.shrink HG0.out)
        clear HRS HG0
        go_wp2_with (go_at_call 54; refine (needs_any _ _).mono ?_; rintro e w' ⟨rfl, rfl⟩)
        go_roundw
        case rel => exact ⟨pc + 1, stp + 1, f, r, by go_num, by go_num, by omega, by omega, by (try simp only [List.length_append, List.length_cons, List.length_nil]); omega, R1.out.alloc _, HSTEP.out⟩
        case measure => simp [intOf]; omega
    · as_aux_lemma =>
        have hnd : needs 8 = 2 := rfl
        obtain ⟨r, x, y, rfl⟩ := split2 (st := st) (by omega)
        obtain ⟨g, cp, rfl, hcp, hgB, hgl, k1, k2, fz1, fz2, hG1, hG2, hG0⟩ := HRS.out.gr.top2
        simp only [List.length_append, List.length_cons, List.length_nil, Nat.zero_add] at hsl
        have HG0 := hideP hG0
        have HG1 := hideP hG1
        have HG2 := hideP hG2
        clear hG0 hG1 hG2
        have HSTEP : Hid (runS ps xs f ((pc + 1, r ++ [y, x])).1 ((pc + 1, r ++ [y, x])).2 = RES) := by show _ = _; rw [← HRUN.out]; exact (runS_step (q := (pc + 1, r ++ [y, x])) HX.out (by simp) (by simp [stepS, pop2_some])).symm
        have R1 := hideP (HRS.out.set2 (st' := r ++ [y, x]) hgB (by simpa using HG2.out))
        clear HRS HG0 HG1 HG2
        go_wp2_with (go_at_call 54; refine (needs_any _ _).mono ?_; rintro e w' ⟨rfl, rfl⟩)
        go_roundw
        case rel => exact ⟨pc + 1, stp + 1, f, r ++ [y, x], by go_num, by go_num, by omega, by omega, by (try simp only [List.length_append, List.length_cons, List.length_nil]); omega, R1.out.alloc _, HSTEP.out⟩
        case measure => simp [intOf]; omega
    · as_aux_lemma =>
        have hnd : needs 9 = 0 := rfl
        by_cases ha0 : a < 0
        · have hft : stepS ps.length xs pc ⟨9, a⟩ st = none := by rw [HN.out]; simp [stepS, ha0]
          have HRES : Hid (RES = ⟨2, [], (stp : Int)⟩) := by show _ = _; rw [← HRUN.out, runS_fault HX.out (by simp) hft]; simp; omega
          obtain ⟨a0, cp, rfl, _, _⟩ := HRS.out.gr.shape
          have c0 := HRS.out.res.cell 0
          have c1 := HRS.out.res.cell 1
          have c2 := HRS.out.res.cell 2
          simp at c0 c1 c2
          have f0 := HRS.out.res.frozen 0
          have f1 := HRS.out.res.frozen 1
          have f2 := HRS.out.res.frozen 2
          go_wp2_with (go_at_call 54; refine (needs_any _ _).mono ?_; rintro e w' ⟨rfl, rfl⟩)
          have hW := (((HRS.out.res.set 0 (.int .i64 2)).set 1 (.slice none 0 0)).set 2 (.int .i64 stp)).alloc (.cells #[.int .i64 9, .int .i64 a] 73)
          have d0 := hW.cell 0
          have d1 := hW.cell 1
          have d2 := hW.cell 2
          simp at d0 d1 d2
          refine bodyPost_ret (v := .agg #[.int .i64 2, .slice none 0 0, .int .i64 stp]) (by simp [results, Yaav.results24, go_sem, d0, d1, d2]) rfl ⟨?_, ?_⟩
          · rw [HRES.out]
            exact ⟨none, rfl, .inl rfl⟩
          · exact (((HRS.out.bel.setCell (p := ⟨_, _, none⟩) (Nat.le_refl _) _).setCell (p := ⟨_, _, none⟩) (Nat.le_refl _) _).setCell (p := ⟨_, _, none⟩) (Nat.le_refl _) _).alloc (by simp; omega) _
        by_cases ha1 : (n : Int) < a
        · have hft : stepS ps.length xs pc ⟨9, a⟩ st = none := by rw [HN.out]; simp [stepS, ha1]
          have HRES : Hid (RES = ⟨2, [], (stp : Int)⟩) := by show _ = _; rw [← HRUN.out, runS_fault HX.out (by simp) hft]; simp; omega
          obtain ⟨a0, cp, rfl, _, _⟩ := HRS.out.gr.shape
          have c0 := HRS.out.res.cell 0
          have c1 := HRS.out.res.cell 1
          have c2 := HRS.out.res.cell 2
          simp at c0 c1 c2
          have f0 := HRS.out.res.frozen 0
          have f1 := HRS.out.res.frozen 1
          have f2 := HRS.out.res.frozen 2
          go_wp2_with (go_at_call 54; refine (needs_any _ _).mono ?_; rintro e w' ⟨rfl, rfl⟩)
          have hW := (((HRS.out.res.set 0 (.int .i64 2)).set 1 (.slice none 0 0)).set 2 (.int .i64 stp)).alloc (.cells #[.int .i64 9, .int .i64 a] 73)
          have d0 := hW.cell 0
          have d1 := hW.cell 1
          have d2 := hW.cell 2
          simp at d0 d1 d2
          refine bodyPost_ret (v := .agg #[.int .i64 2, .slice none 0 0, .int .i64 stp]) (by simp [results, Yaav.results24, go_sem, d0, d1, d2]) rfl ⟨?_, ?_⟩
          · rw [HRES.out]
            exact ⟨none, rfl, .inl rfl⟩
          · exact (((HRS.out.bel.setCell (p := ⟨_, _, none⟩) (Nat.le_refl _) _).setCell (p := ⟨_, _, none⟩) (Nat.le_refl _) _).setCell (p := ⟨_, _, none⟩) (Nat.le_refl _) _).alloc (by simp; omega) _
        obtain ⟨A, rfl⟩ := Int.eq_ofNat_of_zero_le (by omega : 0 ≤ a)
        have hA : A ≤ ps.length := by rw [HN.out]; omega
        obtain ⟨a0, cp, rfl, _, _⟩ := HRS.out.gr.shape
        have HSTEP : Hid (runS ps xs f ((A, st)).1 ((A, st)).2 = RES) := by show _ = _; rw [← HRUN.out]; exact (runS_step (q := (A, st)) HX.out (by simp) (by simp [stepS, hA])).symm
        go_wp2_with (go_at_call 54; refine (needs_any _ _).mono ?_; rintro e w' ⟨rfl, rfl⟩)
        go_roundw
        case rel => exact ⟨A, stp + 1, f, st, rfl, by go_num, by omega, by omega, by (try simp only [List.length_append, List.length_cons, List.length_nil]); omega, HRS.out.alloc _, HSTEP.out⟩
        case measure => simp [intOf]; omega
    · as_aux_lemma =>
        have hnd : needs 10 = 1 := rfl
        by_cases ha0 : a < 0
        · have hft : stepS ps.length xs pc ⟨10, a⟩ st = none := by rw [HN.out]; simp [stepS, ha0]
          have HRES : Hid (RES = ⟨2, [], (stp : Int)⟩) := by show _ = _; rw [← HRUN.out, runS_fault HX.out (by simp) hft]; simp; omega
          obtain ⟨a0, cp, rfl, _, _⟩ := HRS.out.gr.shape
          have c0 := HRS.out.res.cell 0
          have c1 := HRS.out.res.cell 1
          have c2 := HRS.out.res.cell 2
          simp at c0 c1 c2
          have f0 := HRS.out.res.frozen 0
          have f1 := HRS.out.res.frozen 1
          have f2 := HRS.out.res.frozen 2
          go_wp2_with (go_at_call 54; refine (needs_any _ _).mono ?_; rintro e w' ⟨rfl, rfl⟩)
          have hW := (((HRS.out.res.set 0 (.int .i64 2)).set 1 (.slice none 0 0)).set 2 (.int .i64 stp)).alloc (.cells #[.int .i64 10, .int .i64 a] 73)
          have d0 := hW.cell 0
          have d1 := hW.cell 1
          have d2 := hW.cell 2
          simp at d0 d1 d2
          refine bodyPost_ret (v := .agg #[.int .i64 2, .slice none 0 0, .int .i64 stp]) (by simp [results, Yaav.results24, go_sem, d0, d1, d2]) rfl ⟨?_, ?_⟩
          · rw [HRES.out]
            exact ⟨none, rfl, .inl rfl⟩
          · exact (((HRS.out.bel.setCell (p := ⟨_, _, none⟩) (Nat.le_refl _) _).setCell (p := ⟨_, _, none⟩) (Nat.le_refl _) _).setCell (p := ⟨_, _, none⟩) (Nat.le_refl _) _).alloc (by simp; omega) _
        by_cases ha1 : (n : Int) < a
        · have hft : stepS ps.length xs pc ⟨10, a⟩ st = none := by rw [HN.out]; simp [stepS, ha1]
          have HRES : Hid (RES = ⟨2, [], (stp : Int)⟩) := by show _ = _; rw [← HRUN.out, runS_fault HX.out (by simp) hft]; simp; omega
          obtain ⟨a0, cp, rfl, _, _⟩ := HRS.out.gr.shape
          have c0 := HRS.out.res.cell 0
          have c1 := HRS.out.res.cell 1
          have c2 := HRS.out.res.cell 2
          simp at c0 c1 c2
          have f0 := HRS.out.res.frozen 0
          have f1 := HRS.out.res.frozen 1
          have f2 := HRS.out.res.frozen 2
          go_wp2_with (go_at_call 54; refine (needs_any _ _).mono ?_; rintro e w' ⟨rfl, rfl⟩)
          have hW := (((HRS.out.res.set 0 (.int .i64 2)).set 1 (.slice none 0 0)).set 2 (.int .i64 stp)).alloc (.cells #[.int .i64 10, .int .i64 a] 73)
          have d0 := hW.cell 0
          have d1 := hW.cell 1
          have d2 := hW.cell 2
          simp at d0 d1 d2
          refine bodyPost_ret (v := .agg #[.int .i64 2, .slice none 0 0, .int .i64 stp]) (by simp [results, Yaav.results24, go_sem, d0, d1, d2]) rfl ⟨?_, ?_⟩
          · rw [HRES.out]
            exact ⟨none, rfl, .inl rfl⟩
          · exact (((HRS.out.bel.setCell (p := ⟨_, _, none⟩) (Nat.le_refl _) _).setCell (p := ⟨_, _, none⟩) (Nat.le_refl _) _).setCell (p := ⟨_, _, none⟩) (Nat.le_refl _) _).alloc (by simp; omega) _
        obtain ⟨A, rfl⟩ := Int.eq_ofNat_of_zero_le (by omega : 0 ≤ a)
        have hA : A ≤ ps.length := by rw [HN.out]; omega
        obtain ⟨r, y, rfl⟩ := split1 (st := st) (by omega)
        obtain ⟨g, cp, rfl, hcp, hgB, hgl, k1, fz1, hG0⟩ := HRS.out.gr.top1
        simp only [List.length_append, List.length_cons, List.length_nil, Nat.zero_add] at hsl
        have HG0 := hideP hG0
        clear hG0
        have R1 := hideP (HRS.out.shrink HG0.out)
        clear HRS HG0
        by_cases hy : y = 0
        · subst hy
          have HSTEP : Hid (runS ps xs f ((A, r)).1 ((A, r)).2 = RES) := by show _ = _; rw [← HRUN.out]; exact (runS_step (q := (A, r)) HX.out (by simp) (by simp [stepS, pop1_some, hA])).symm
          go_wp2_with (go_at_call 54; refine (needs_any _ _).mono ?_; rintro e w' ⟨rfl, rfl⟩)
          go_roundw
          case rel => exact ⟨A, stp + 1, f, r, rfl, by go_num, by omega, by omega, by (try simp only [List.length_append, List.length_cons, List.length_nil]); omega, R1.out.alloc _, HSTEP.out⟩
          case measure => simp [intOf]; omega
        · have hyb : (y == 0) = false := beq_eq_false_iff_ne.2 hy
          have HSTEP : Hid (runS ps xs f ((pc + 1, r)).1 ((pc + 1, r)).2 = RES) := by show _ = _; rw [← HRUN.out]; exact (runS_step (q := (pc + 1, r)) HX.out (by simp) (by simp [stepS, pop1_some, hA, hy])).symm
          go_wp2_with (go_at_call 54; refine (needs_any _ _).mono ?_; rintro e w' ⟨rfl, rfl⟩)
          go_roundw
          case rel => exact ⟨pc + 1, stp + 1, f, r, by go_num, by go_num, by omega, by omega, by (try simp only [List.length_append, List.length_cons, List.length_nil]); omega, R1.out.alloc _, HSTEP.out⟩
          case measure => simp [intOf]; omega

end Go.Proofs.Yahaaw
