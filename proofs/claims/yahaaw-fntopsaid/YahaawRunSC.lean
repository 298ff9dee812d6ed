/-
  DERIVED. WALK: impl.RunStack (24): one round, a part of the codes.
-/
import Derived.Test.YahaawRunS0
namespace Go.Proofs.Yahaaw
open Go.RowKit
set_option linter.unusedVariables false
set_option linter.unusedSimpArgs false

set_option maxRecDepth 100000 in
set_option maxHeartbeats 20000000 in
theorem iRunStkC (ap ax : Option Addr) (n cap nx capx : Nat) (ps : List SO) (xs : List Int) (w : World) (HN : Hid (ps.length = n)) (hn2 : n ≤ 1099511627776) (HS : Hid (Seg w ap (sCells ps))) (HNX : Hid (xs.length = nx)) (hnx2 : nx ≤ 1099511627776) (HXS : Hid (Seg w ax (iCells xs))) : (iSkelS ap ax n cap nx capx ps xs w HN hn2 HS HNX hnx2 HXS).1.2.2.1 := by
  intro RES X0 wr u8 u9 u10 u11 u12 u13 u14 u15 u16 u17 u18 u19 u20 u21 u22 u26 u27 u28 u29 u30 u31 u32 u33 u34 u35 u36 u37 u38 u39 u40 u41 u42 u43 u44 u45 u46 u47 u48 u49 u50 u51 u52 u53 u54 u55 u56 u57 u58 u59 u60 u61 u62 u63 u64 u65 u66 u67 u68 u69 u70 u71 u72 u73 u74 u75 u76 u77 u78 u79 u80 u81 u82 u83 u84 u85 u86 u87 u88 u89 u90 u91 u92 u93 u94 u95 u96 u97 u98 u99 u100 u101 u102 u103 u104 u105 u106 u107 u108 u109 u110 u111 u112 u113 u114 u115 u116 u117 u118 u119 u120 u121 u122 u123 u124 u125 u126 u127 u128 u129 u130 u131 u132 u133 u134 u135 u136 u137 u138 u139 u140 u141 u142 u143 u144 u145 u146 u147 u148 u149 u150 u151 u152 u153 u154 u155 u156 u157 u158 u159 u160 u161 u162 u163 u164 u165 u166 u167 u168 u169 u170 u171 u172 u173 u174 u175 u176 u177 u178 u179 u180 u181 u182 u183 u184 u185 u186 u187 u188 u189 u190 u191 u192 u193 u194 u195 u196 u197 u198 u199 u200 u201 u202 u203 u204 u205 u206 u207 u208 u209 u210 u211 u212 u213 u214 u215 u216 u217 u218 u219 u220 u221 u222 u223 u224 u225 u226 u227 u228 u229 u230 u231 u232 u233 u234 u235 u236 u237 u238 u239 u240 u241 u242 u243 u244 u245 u246 u247 u248 u249 u250 u251 u252 u253 u254 u255 u256 u257 u258 pc stp f st hpc hsl hst HSF HRS HRUN hgl0 hsz0 hcA hcB hcC
  clear hcA
  clear hcB
  obtain ⟨hf0, p, hp, hcls, hnn⟩ := hcC
  have hpl := lt_of_get hp
  have hpn : ¬ pc = n := by have := HN.out; omega
  clear hpl
  have hpb : ((pc : Int) == (n : Int)) = false := by simp; omega
  obtain ⟨bb, off, rfl, hbb, h1', h2'⟩ := HS.out.s hp
  have h1 := keepC HRS.out.bel h1'
  have h2 := keepC HRS.out.bel h2'
  have hbb2 : bb < wr.heap.size := by omega
  obtain ⟨c, a⟩ := p
  simp only at h1 h2
  have HX := hideP hp
  clear hp h1' h2'
  simp only at hcls hnn
  have h11 : ¬ c = 11 := by omega
  have HCLS := hideP hcls
  clear hcls
  have hb11 : (c == 11) = false := beq_eq_false_iff_ne.2 h11
  cases f with
  | zero => exact absurd hf0 (by omega)
  | succ f =>
    have hstl : stp < 20000 := by have := HSF.out; omega
    have hfb : ((stp : Int) == 20000) = false := by simp; omega
    clear hf0
    have hsf2 := HSF.out
    have hn3 : ¬ (st.length : Int) < needs c := by omega
    clear hnn
    have hcls := HCLS.out
    clear HCLS
    rcases hcls with rfl | rfl | rfl
    · as_aux_lemma =>
        have hnd : needs 4 = 2 := rfl
        obtain ⟨r, x, y, rfl⟩ := split2 (st := st) (by omega)
        obtain ⟨g, cp, rfl, hcp, hgB, hgl, k1, k2, fz1, fz2, hG1, hG2, hG0⟩ := HRS.out.gr.top2
        simp only [List.length_append, List.length_cons, List.length_nil, Nat.zero_add] at hsl
        have HG0 := hideP hG0
        have HG1 := hideP hG1
        have HG2 := hideP hG2
        clear hG0 hG1 hG2
        have HSTEP : Hid (runS ps xs f ((pc + 1, r ++ [wrap64 (x * y)])).1 ((pc + 1, r ++ [wrap64 (x * y)])).2 = RES) := by show _ = _; rw [← HRUN.out]; exact (runS_step (q := (pc + 1, r ++ [wrap64 (x * y)])) HX.out (by simp) (by simp [stepS, pop2_some])).symm
        clear HG0 HG1 HG2
        go_wp2_with (go_at_call 54; refine (needs_any _ _).mono ?_; rintro e w' ⟨rfl, rfl⟩)
        go_quiet (fail)
        go_wp2
        have R0 := (HRS.out.alloc (.cells #[.int .i64 4, .int .i64 a] 73)).drewN nq
        obtain ⟨g2, cp2, he2, _, hgB2, _, _, _, _, _, hG1, _, _⟩ := R0.gr.top2
        cases he2
        have R1 := hideP (R0.set (st' := r ++ [wrap64 (x * y)]) hgB2 (by simpa using hG1 (wrap64 (x * y))))
        clear R0 hG1
        go_roundw
        case rel => exact ⟨pc + 1, stp + 1, f, r ++ [wrap64 (x * y)], by go_num, by go_num, by omega, by omega, by (try simp only [List.length_append, List.length_cons, List.length_nil]); omega, R1.out, HSTEP.out⟩
        case measure => simp [intOf]; omega
    · as_aux_lemma =>
        have hnd : needs 5 = 1 := rfl
        obtain ⟨r, y, rfl⟩ := split1 (st := st) (by omega)
        obtain ⟨g, cp, rfl, hcp, hgB, hgl, k1, fz1, hG0⟩ := HRS.out.gr.top1
        simp only [List.length_append, List.length_cons, List.length_nil, Nat.zero_add] at hsl
        have HG0 := hideP hG0
        clear hG0
        have HSTEP : Hid (runS ps xs f ((pc + 1, (r ++ [y]) ++ [y])).1 ((pc + 1, (r ++ [y]) ++ [y])).2 = RES) := by show _ = _; rw [← HRUN.out]; exact (runS_step (q := (pc + 1, (r ++ [y]) ++ [y])) HX.out (by simp) (by simp [stepS, pop1_some])).symm
        have GRW : Hid (Grow (wr.alloc (.cells #[.int .i64 5, .int .i64 a] 73)) (w.heap.size + 1) 2 1 (.slice (some ⟨g, 0, none⟩) (r.length + 1) cp) (r.length + 1) (iCells ((r ++ [y])))) := by simpa [Hid] using (HRS.out.alloc (.cells #[.int .i64 5, .int .i64 a] 73)).gr
        have R1 := hideP ((HRS.out.alloc (.cells #[.int .i64 5, .int .i64 a] 73)).alloc (.cells #[.int .i64 y] 2))
        clear HRS
        go_wp2_with (first | (go_at_call 54; refine (needs_any _ _).mono ?_; rintro e w' ⟨rfl, rfl⟩) | (at_builtin; refine wpList_app Yaav.underlying24 Yaav.info2 rfl rfl (.tmp 194) (.tmp 196) rfl (v := .slice (some ⟨g, 0, none⟩) (r.length + 1) cp) rfl rfl (GRW.out.alloc _) (Src.ofSlice _ Yaav.underlying24 ⟨wr.heap.size + 1, 0, none⟩ 1 1 [.int .i64 y] rfl (by have := cell_one_new (wr.alloc (.cells #[.int .i64 5, .int .i64 a] 73)) (.int .i64 y) 2; simpa using this) (by simp; rfl)) (by omega) (by omega) (by simp; omega) ?_; intro v2 w2 hg2 hgr2 hat2))
        have R2 := hideP (R1.out.app (x := y) (by simpa using hg2) hgr2 hat2)
        clear hg2 hgr2 hat2 R1 GRW
        go_wp2
        go_roundw
        case rel => exact ⟨pc + 1, stp + 1, f, (r ++ [y]) ++ [y], by go_num, by go_num, by omega, by omega, by (try simp only [List.length_append, List.length_cons, List.length_nil]); omega, R2.out, HSTEP.out⟩
        case measure => simp [intOf]; omega
    · as_aux_lemma =>
        have hnd : needs 6 = 2 := rfl
        obtain ⟨r, x, y, rfl⟩ := split2 (st := st) (by omega)
        obtain ⟨g, cp, rfl, hcp, hgB, hgl, k1, k2, fz1, fz2, hG1, hG2, hG0⟩ := HRS.out.gr.top2
        simp only [List.length_append, List.length_cons, List.length_nil, Nat.zero_add] at hsl
        have HG0 := hideP hG0
        have HG1 := hideP hG1
        have HG2 := hideP hG2
        clear hG0 hG1 hG2
        have HSTEP : Hid (runS ps xs f ((pc + 1, (r ++ [x, y]) ++ [x])).1 ((pc + 1, (r ++ [x, y]) ++ [x])).2 = RES) := by show _ = _; rw [← HRUN.out]; exact (runS_step (q := (pc + 1, (r ++ [x, y]) ++ [x])) HX.out (by simp) (by simp [stepS, pop2_some])).symm
        have GRW : Hid (Grow (wr.alloc (.cells #[.int .i64 6, .int .i64 a] 73)) (w.heap.size + 1) 2 1 (.slice (some ⟨g, 0, none⟩) (r.length + 2) cp) (r.length + 2) (iCells ((r ++ [x, y])))) := by simpa [Hid] using (HRS.out.alloc (.cells #[.int .i64 6, .int .i64 a] 73)).gr
        have R1 := hideP ((HRS.out.alloc (.cells #[.int .i64 6, .int .i64 a] 73)).alloc (.cells #[.int .i64 x] 2))
        clear HRS
        go_wp2_with (first | (go_at_call 54; refine (needs_any _ _).mono ?_; rintro e w' ⟨rfl, rfl⟩) | (at_builtin; refine wpList_app Yaav.underlying24 Yaav.info2 rfl rfl (.tmp 205) (.tmp 207) rfl (v := .slice (some ⟨g, 0, none⟩) (r.length + 2) cp) rfl rfl (GRW.out.alloc _) (Src.ofSlice _ Yaav.underlying24 ⟨wr.heap.size + 1, 0, none⟩ 1 1 [.int .i64 x] rfl (by have := cell_one_new (wr.alloc (.cells #[.int .i64 6, .int .i64 a] 73)) (.int .i64 x) 2; simpa using this) (by simp; rfl)) (by omega) (by omega) (by simp; omega) ?_; intro v2 w2 hg2 hgr2 hat2))
        have R2 := hideP (R1.out.app (x := x) (by simpa using hg2) hgr2 hat2)
        clear hg2 hgr2 hat2 R1 GRW
        go_wp2
        go_roundw
        case rel => exact ⟨pc + 1, stp + 1, f, (r ++ [x, y]) ++ [x], by go_num, by go_num, by omega, by omega, by (try simp only [List.length_append, List.length_cons, List.length_nil]); omega, R2.out, HSTEP.out⟩
        case measure => simp [intOf]; omega

end Go.Proofs.Yahaaw
