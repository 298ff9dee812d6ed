/-
  DERIVED. WALK: impl.RunStack (24): one round, a part of the codes.
-/
import Derived.Test.YahaawRunS0
namespace Go.Proofs.Yahaaw
open Go.RowKit
set_option linter.unusedVariables false
set_option linter.unusedSimpArgs false

set_option maxRecDepth 100000 in
set_option maxHeartbeats 20000000 in
theorem iRunStkZ (ap ax : Option Addr) (n cap nx capx : Nat) (ps : List SO) (xs : List Int) (w : World) (HN : Hid (ps.length = n)) (hn2 : n ≤ 1099511627776) (HS : Hid (Seg w ap (sCells ps))) (HNX : Hid (xs.length = nx)) (hnx2 : nx ≤ 1099511627776) (HXS : Hid (Seg w ax (iCells xs))) : (iSkelS ap ax n cap nx capx ps xs w HN hn2 HS HNX hnx2 HXS).1.2.2.2.2 := by
  intro RES X0 wr u8 u9 u10 u11 u12 u13 u14 u15 u16 u17 u18 u19 u20 u21 u22 u26 u27 u28 u29 u30 u31 u32 u33 u34 u35 u36 u37 u38 u39 u40 u41 u42 u43 u44 u45 u46 u47 u48 u49 u50 u51 u52 u53 u54 u55 u56 u57 u58 u59 u60 u61 u62 u63 u64 u65 u66 u67 u68 u69 u70 u71 u72 u73 u74 u75 u76 u77 u78 u79 u80 u81 u82 u83 u84 u85 u86 u87 u88 u89 u90 u91 u92 u93 u94 u95 u96 u97 u98 u99 u100 u101 u102 u103 u104 u105 u106 u107 u108 u109 u110 u111 u112 u113 u114 u115 u116 u117 u118 u119 u120 u121 u122 u123 u124 u125 u126 u127 u128 u129 u130 u131 u132 u133 u134 u135 u136 u137 u138 u139 u140 u141 u142 u143 u144 u145 u146 u147 u148 u149 u150 u151 u152 u153 u154 u155 u156 u157 u158 u159 u160 u161 u162 u163 u164 u165 u166 u167 u168 u169 u170 u171 u172 u173 u174 u175 u176 u177 u178 u179 u180 u181 u182 u183 u184 u185 u186 u187 u188 u189 u190 u191 u192 u193 u194 u195 u196 u197 u198 u199 u200 u201 u202 u203 u204 u205 u206 u207 u208 u209 u210 u211 u212 u213 u214 u215 u216 u217 u218 u219 u220 u221 u222 u223 u224 u225 u226 u227 u228 u229 u230 u231 u232 u233 u234 u235 u236 u237 u238 u239 u240 u241 u242 u243 u244 u245 u246 u247 u248 u249 u250 u251 u252 u253 u254 u255 u256 u257 u258 pc stp f st hpc hsl hst HSF HRS HRUN hgl0 hsz0 hcA hcB hcC hcD
  have HhcA := hideP hcA
  clear hcA
  have HhcB := hideP hcB
  clear hcB
  have HhcC := hideP hcC
  clear hcC
  have HhcD := hideP hcD
  clear hcD
  by_cases hpn : pc = n
  · have hpb : ((pc : Int) == (n : Int)) = true := by simp [hpn]
    have HRES : Hid (RES = ⟨0, st, (stp : Int)⟩) := by
      show _ = _
      rw [← HRUN.out, runS_end (by rw [List.getElem?_eq_none]; rw [HN.out]; omega)]
      have := HSF.out
      simp; omega
    clear hpn HRUN
    as_aux_lemma =>
    obtain ⟨a0, cp, rfl, hseg, _⟩ := HRS.out.gr.shape
    have hmk := mk_run Yaav.underlying24 Yaav.info2 st.length st.length (Nat.le_refl _) (by omega) (by omega)
    simp only [Value.cells, Nat.mul_one] at hmk
    obtain ⟨w2, hcp, hk2, hB2, hR2⟩ := HRS.out.halt
    have c0 := hR2.cell 0
    have c1 := hR2.cell 1
    have c2 := hR2.cell 2
    simp at c0 c1 c2
    have f0 := hR2.frozen 0
    have f1 := hR2.frozen 1
    have f2 := hR2.frozen 2
    have HB2 := hideP hB2
    have HK2 := hideP hk2
    have HR2 := hideP hR2
    clear hseg hk2 hB2 hR2 HRS
    go_wp2
    have hW := ((HR2.out.set 0 (.int .i64 0)).set 1 (.slice (some ⟨wr.heap.size, 0, none⟩) st.length st.length)).set 2 (.int .i64 stp)
    have d0 := hW.cell 0
    have d1 := hW.cell 1
    have d2 := hW.cell 2
    simp at d0 d1 d2
    refine bodyPost_ret (v := .agg #[.int .i64 0, .slice (some ⟨wr.heap.size, 0, none⟩) st.length st.length, .int .i64 stp]) (by simp [results, Yaav.results24, go_sem, d0, d1, d2]) rfl ⟨?_, ?_⟩
    · rw [HRES.out]
      exact ⟨_, rfl, .inr ⟨wr.heap.size, by omega, rfl, ((HK2.out.far (p := ⟨_, _, none⟩) (by simp; omega) _).far (p := ⟨_, _, none⟩) (by simp; omega) _).far (p := ⟨_, _, none⟩) (by simp; omega) _⟩⟩
    · exact ((HB2.out.setCell (p := ⟨_, _, none⟩) (Nat.le_refl _) _).setCell (p := ⟨_, _, none⟩) (Nat.le_refl _) _).setCell (p := ⟨_, _, none⟩) (Nat.le_refl _) _
  have hpb : ((pc : Int) == (n : Int)) = false := by simp; omega
  obtain ⟨p, hp⟩ := some_at (ps := ps) (k := pc) (by have := HN.out; omega)
  obtain ⟨bb, off, rfl, hbb, h1', h2'⟩ := HS.out.s hp
  have h1 := keepC HRS.out.bel h1'
  have h2 := keepC HRS.out.bel h2'
  have hbb2 : bb < wr.heap.size := by omega
  obtain ⟨c, a⟩ := p
  simp only at h1 h2
  have HX := hideP hp
  clear hp h1' h2'
  by_cases h11 : c = 11
  · subst h11
    have HRES : Hid (RES = ⟨0, st, (stp : Int)⟩) := by
      show _ = _
      rw [← HRUN.out, runS_halt HX.out rfl]
      have := HSF.out
      simp; omega
    clear HRUN
    as_aux_lemma =>
    obtain ⟨a0, cp, rfl, hseg, _⟩ := HRS.out.gr.shape
    have hmk := mk_run Yaav.underlying24 Yaav.info2 st.length st.length (Nat.le_refl _) (by omega) (by omega)
    simp only [Value.cells, Nat.mul_one] at hmk
    obtain ⟨w2, hcp, hk2, hB2, hR2⟩ := HRS.out.halt
    have c0 := hR2.cell 0
    have c1 := hR2.cell 1
    have c2 := hR2.cell 2
    simp at c0 c1 c2
    have f0 := hR2.frozen 0
    have f1 := hR2.frozen 1
    have f2 := hR2.frozen 2
    have HB2 := hideP hB2
    have HK2 := hideP hk2
    have HR2 := hideP hR2
    clear hseg hk2 hB2 hR2 HRS
    go_wp2
    have hW := ((HR2.out.set 0 (.int .i64 0)).set 1 (.slice (some ⟨wr.heap.size, 0, none⟩) st.length st.length)).set 2 (.int .i64 stp)
    have d0 := hW.cell 0
    have d1 := hW.cell 1
    have d2 := hW.cell 2
    simp at d0 d1 d2
    refine bodyPost_ret (v := .agg #[.int .i64 0, .slice (some ⟨wr.heap.size, 0, none⟩) st.length st.length, .int .i64 stp]) (by simp [results, Yaav.results24, go_sem, d0, d1, d2]) rfl ⟨?_, ?_⟩
    · rw [HRES.out]
      exact ⟨_, rfl, .inr ⟨wr.heap.size, by omega, rfl, ((HK2.out.far (p := ⟨_, _, none⟩) (by simp; omega) _).far (p := ⟨_, _, none⟩) (by simp; omega) _).far (p := ⟨_, _, none⟩) (by simp; omega) _⟩⟩
    · exact ((HB2.out.setCell (p := ⟨_, _, none⟩) (Nat.le_refl _) _).setCell (p := ⟨_, _, none⟩) (Nat.le_refl _) _).setCell (p := ⟨_, _, none⟩) (Nat.le_refl _) _
  have hb11 : (c == 11) = false := beq_eq_false_iff_ne.2 h11
  cases f with
  | zero =>
    have hstp : stp = 20000 := by have := HSF.out; omega
    have hfb : ((stp : Int) == 20000) = true := by simp [hstp]
    have HRES : Hid (RES = ⟨1, [], 20000⟩) := by show _ = _; rw [← HRUN.out, runS_fuel HX.out h11]
    clear hstp HRUN
    as_aux_lemma =>
    have c0 := HRS.out.res.cell 0
    have c1 := HRS.out.res.cell 1
    have c2 := HRS.out.res.cell 2
    simp at c0 c1 c2
    have f0 := HRS.out.res.frozen 0
    have f1 := HRS.out.res.frozen 1
    have f2 := HRS.out.res.frozen 2
    go_wp2_with (go_at_call 54; refine (needs_any _ _).mono ?_; rintro e w' ⟨rfl, rfl⟩)
    have hW := (((HRS.out.res.set 0 (.int .i64 1)).set 1 (.slice none 0 0)).set 2 (.int .i64 20000))
    have d0 := hW.cell 0
    have d1 := hW.cell 1
    have d2 := hW.cell 2
    simp at d0 d1 d2
    refine bodyPost_ret (v := .agg #[.int .i64 1, .slice none 0 0, .int .i64 20000]) (by simp [results, Yaav.results24, go_sem, d0, d1, d2]) rfl ⟨?_, ?_⟩
    · rw [HRES.out]
      exact ⟨none, rfl, .inl rfl⟩
    · exact ((HRS.out.bel.setCell (p := ⟨_, _, none⟩) (Nat.le_refl _) _).setCell (p := ⟨_, _, none⟩) (Nat.le_refl _) _).setCell (p := ⟨_, _, none⟩) (Nat.le_refl _) _
  | succ f =>
    have hstl : stp < 20000 := by have := HSF.out; omega
    have hfb : ((stp : Int) == 20000) = false := by simp; omega
    by_cases hn1 : needs c < 0
    · have hft : stepS ps.length xs pc ⟨c, a⟩ st = none := stepS_fault (.inl hn1)
      have HRES : Hid (RES = ⟨2, [], (stp : Int)⟩) := by
        show _ = _
        rw [← HRUN.out, runS_fault HX.out h11 hft]
        have := HSF.out
        simp; omega
      clear HRUN
      as_aux_lemma =>
      obtain ⟨a0, cp, rfl, _, _⟩ := HRS.out.gr.shape
      have c0 := HRS.out.res.cell 0
      have c1 := HRS.out.res.cell 1
      have c2 := HRS.out.res.cell 2
      simp at c0 c1 c2
      have f0 := HRS.out.res.frozen 0
      have f1 := HRS.out.res.frozen 1
      have f2 := HRS.out.res.frozen 2
      go_wp2_with (go_at_call 54; refine (needs_any _ _).mono ?_; rintro e w' ⟨rfl, rfl⟩)
      have hW := (((HRS.out.res.set 0 (.int .i64 2)).set 1 (.slice none 0 0)).set 2 (.int .i64 stp)).alloc (.cells #[.int .i64 c, .int .i64 a] 73)
      have d0 := hW.cell 0
      have d1 := hW.cell 1
      have d2 := hW.cell 2
      simp at d0 d1 d2
      refine bodyPost_ret (v := .agg #[.int .i64 2, .slice none 0 0, .int .i64 stp]) (by simp [results, Yaav.results24, go_sem, d0, d1, d2]) rfl ⟨?_, ?_⟩
      · rw [HRES.out]
        exact ⟨none, rfl, .inl rfl⟩
      · exact (((HRS.out.bel.setCell (p := ⟨_, _, none⟩) (Nat.le_refl _) _).setCell (p := ⟨_, _, none⟩) (Nat.le_refl _) _).setCell (p := ⟨_, _, none⟩) (Nat.le_refl _) _).alloc (by simp; omega) _
    by_cases hn3 : (st.length : Int) < needs c
    · have hft : stepS ps.length xs pc ⟨c, a⟩ st = none := stepS_fault (.inr hn3)
      have HRES : Hid (RES = ⟨2, [], (stp : Int)⟩) := by
        show _ = _
        rw [← HRUN.out, runS_fault HX.out h11 hft]
        have := HSF.out
        simp; omega
      clear HRUN
      as_aux_lemma =>
      obtain ⟨a0, cp, rfl, _, _⟩ := HRS.out.gr.shape
      have c0 := HRS.out.res.cell 0
      have c1 := HRS.out.res.cell 1
      have c2 := HRS.out.res.cell 2
      simp at c0 c1 c2
      have f0 := HRS.out.res.frozen 0
      have f1 := HRS.out.res.frozen 1
      have f2 := HRS.out.res.frozen 2
      go_wp2_with (go_at_call 54; refine (needs_any _ _).mono ?_; rintro e w' ⟨rfl, rfl⟩)
      have hW := (((HRS.out.res.set 0 (.int .i64 2)).set 1 (.slice none 0 0)).set 2 (.int .i64 stp)).alloc (.cells #[.int .i64 c, .int .i64 a] 73)
      have d0 := hW.cell 0
      have d1 := hW.cell 1
      have d2 := hW.cell 2
      simp at d0 d1 d2
      refine bodyPost_ret (v := .agg #[.int .i64 2, .slice none 0 0, .int .i64 stp]) (by simp [results, Yaav.results24, go_sem, d0, d1, d2]) rfl ⟨?_, ?_⟩
      · rw [HRES.out]
        exact ⟨none, rfl, .inl rfl⟩
      · exact (((HRS.out.bel.setCell (p := ⟨_, _, none⟩) (Nat.le_refl _) _).setCell (p := ⟨_, _, none⟩) (Nat.le_refl _) _).setCell (p := ⟨_, _, none⟩) (Nat.le_refl _) _).alloc (by simp; omega) _
    have hsf2 := HSF.out
    rcases needs_codes (by omega : 0 ≤ needs c) with rfl | rfl | rfl | rfl | rfl | rfl | rfl | rfl | rfl | rfl | rfl | rfl
    · exact absurd ⟨by omega, _, HX.out, by simp, by simp only; omega⟩ HhcA.out
    · exact absurd ⟨by omega, _, HX.out, by simp, by simp only; omega⟩ HhcA.out
    · exact absurd ⟨by omega, _, HX.out, by simp, by simp only; omega⟩ HhcB.out
    · exact absurd ⟨by omega, _, HX.out, by simp, by simp only; omega⟩ HhcB.out
    · exact absurd ⟨by omega, _, HX.out, by simp, by simp only; omega⟩ HhcC.out
    · exact absurd ⟨by omega, _, HX.out, by simp, by simp only; omega⟩ HhcC.out
    · exact absurd ⟨by omega, _, HX.out, by simp, by simp only; omega⟩ HhcC.out
    · exact absurd ⟨by omega, _, HX.out, by simp, by simp only; omega⟩ HhcD.out
    · exact absurd ⟨by omega, _, HX.out, by simp, by simp only; omega⟩ HhcD.out
    · exact absurd ⟨by omega, _, HX.out, by simp, by simp only; omega⟩ HhcD.out
    · exact absurd ⟨by omega, _, HX.out, by simp, by simp only; omega⟩ HhcD.out
    · exact absurd rfl h11

end Go.Proofs.Yahaaw
