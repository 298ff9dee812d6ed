/-
  DERIVED. WALK: impl.RunStack (24).
-/
import Derived.Test.YahaawStk
import Derived.Test.YahaawTrI
namespace Go.Proofs.Yahaaw
open Go.RowKit
set_option linter.unusedVariables false
set_option linter.unusedSimpArgs false

/-- A part of a proof that another text brings. -/
structure HoleS (G : Prop) : Prop where
  out : G

theorem RS.halt {w wr : World} {st : List Int} {a0 : Option Addr} {cp : Nat} (h : RS w (.slice a0 st.length cp) st wr) :
    ∃ w2, (Builtin.copy_ #[24, 24] 3 #[.slice (some ⟨wr.heap.size, 0, none⟩) st.length st.length, .slice a0 st.length cp]).run Yaav.prog (wr.alloc (.cells (zc #[.int .i64 0] st.length) 2)) = .ok (.int .i64 st.length) w2 ∧
      Blk w2 wr.heap.size (iCells st) 2 ∧ Below w.heap.size w w2 ∧ Blk w2 w.heap.size [.int .i64 0, .slice none 0 0, .int .i64 0] 38 := by
  obtain ⟨a1, c1, he, hseg, _⟩ := h.gr.shape
  cases he
  have hb0 : Below wr.heap.size wr (wr.alloc (.cells (zc #[.int .i64 0] st.length) 2)) := (Below.refl _ _).alloc (Nat.le_refl _) _
  obtain ⟨w2, hrun, hk2, hg2⟩ := copy_run (c := st.length) (sc := cp) (Blk.new' wr (zc #[.int .i64 0] st.length) 2) (by rw [zc_len]) (hseg.below hb0) rfl
  have hl := h.res.lt
  refine ⟨w2, hrun, hk2, (Below.both h.bel hb0).grown hg2 (by have := h.bel.size; simp; omega) (fun k hk => by cases hk; omega), ?_⟩
  have := h.res.alloc (.cells (zc #[.int .i64 0] st.length) 2)
  unfold Blk at *
  rw [hg2.block _ (by simp; omega) (by simp; omega)]; exact this

set_option maxRecDepth 100000 in
set_option maxHeartbeats 8000000 in
def iSkelS (ap ax : Option Addr) (n cap nx capx : Nat) (ps : List SO) (xs : List Int) (w : World) (HN : Hid (ps.length = n)) (hn2 : n ≤ 1099511627776) (HS : Hid (Seg w ap (sCells ps))) (HNX : Hid (xs.length = nx)) (hnx2 : nx ≤ 1099511627776) (HXS : Hid (Seg w ax (iCells xs))) :
    { G : Prop × Prop × Prop × Prop × Prop // HoleS G.1 → HoleS G.2.1 → HoleS G.2.2.1 → HoleS G.2.2.2.1 → HoleS G.2.2.2.2 → Calls Yaav.prog 24 #[.slice ap n cap, .slice ax nx capx] w fun e w' => RunPost (runS ps xs 20000 0 []) w.heap.size e w' ∧ Below w.heap.size w w' } := by
  refine ⟨(?G0, ?G1, ?G2, ?G3, ?G4), fun k0 k1 k2 k3 k4 => ?main⟩
  case main =>
    have hmk0 := mk_run Yaav.underlying24 Yaav.info2 0 16 (by omega) (by omega) (by omega)
    simp only [Value.cells, Nat.mul_one, Int.natCast_zero, Int.cast_ofNat_Int] at hmk0
    generalize hR : runS ps xs 20000 0 [] = RES
    have HR := hideP hR
    clear hR
    go_enter Yaav.func24, Yaav.ntmps24
    go_wp2
    clear hmk0
    go_loopw [6, 7, 8] (fun pcv tv sv wr => ∃ (pc stp f : Nat) (st : List Int), pcv = .int .i64 pc ∧ tv = .int .i64 stp ∧ stp + f = 20000 ∧ pc ≤ n ∧ st.length ≤ stp ∧ RS w sv st wr ∧ runS ps xs f pc st = RES) (fun _ tv _ _ => 20000 - (intOf tv).toNat)
    case atStart =>
      refine ⟨0, 0, 20000, [], rfl, rfl, rfl, Nat.zero_le _, by simp, ⟨((Below.refl _ _).alloc (Nat.le_refl _) _).alloc (by simp) _, (Blk.new' w #[.int .i64 0, .slice none 0 0, .int .i64 0] 38).alloc _, ?_⟩, HR.out⟩
      have := Grow.made (w.alloc (.cells #[.int .i64 0, .slice none 0 0, .int .i64 0] 38)) (w.heap.size + 1) 2 1 16 (zc #[.int .i64 0] 16) (by simp) (by rw [zc_len])
      simpa [iCells] using this
    case round =>
      clear HR
      obtain ⟨pc, stp, f, st, rfl, rfl, hsf, hpc, hsl, hrs, hrun⟩ := hrel
      have hst : stp ≤ 20000 := by omega
      have HSF := hideP hsf
      have HRS := hideP hrs
      have HRUN := hideP hrun
      have hgl0 := hrs.res.lt
      have hsz0 := hrs.bel.size
      clear hsf hrs hrun
      by_cases hcA : 0 < f ∧ ∃ p, ps[pc]? = some p ∧ (p.c = 0 ∨ p.c = 1) ∧ needs p.c ≤ (st.length : Int)
      · rename_i X0
        revert RES X0 wr u8 u9 u10 u11 u12 u13 u14 u15 u16 u17 u18 u19 u20 u21 u22 u26 u27 u28 u29 u30 u31 u32 u33 u34 u35 u36 u37 u38 u39 u40 u41 u42 u43 u44 u45 u46 u47 u48 u49 u50 u51 u52 u53 u54 u55 u56 u57 u58 u59 u60 u61 u62 u63 u64 u65 u66 u67 u68 u69 u70 u71 u72 u73 u74 u75 u76 u77 u78 u79 u80 u81 u82 u83 u84 u85 u86 u87 u88 u89 u90 u91 u92 u93 u94 u95 u96 u97 u98 u99 u100 u101 u102 u103 u104 u105 u106 u107 u108 u109 u110 u111 u112 u113 u114 u115 u116 u117 u118 u119 u120 u121 u122 u123 u124 u125 u126 u127 u128 u129 u130 u131 u132 u133 u134 u135 u136 u137 u138 u139 u140 u141 u142 u143 u144 u145 u146 u147 u148 u149 u150 u151 u152 u153 u154 u155 u156 u157 u158 u159 u160 u161 u162 u163 u164 u165 u166 u167 u168 u169 u170 u171 u172 u173 u174 u175 u176 u177 u178 u179 u180 u181 u182 u183 u184 u185 u186 u187 u188 u189 u190 u191 u192 u193 u194 u195 u196 u197 u198 u199 u200 u201 u202 u203 u204 u205 u206 u207 u208 u209 u210 u211 u212 u213 u214 u215 u216 u217 u218 u219 u220 u221 u222 u223 u224 u225 u226 u227 u228 u229 u230 u231 u232 u233 u234 u235 u236 u237 u238 u239 u240 u241 u242 u243 u244 u245 u246 u247 u248 u249 u250 u251 u252 u253 u254 u255 u256 u257 u258 pc stp f st hpc hsl hst HSF HRS HRUN hgl0 hsz0 hcA
        exact k0.out
      by_cases hcB : 0 < f ∧ ∃ p, ps[pc]? = some p ∧ (p.c = 2 ∨ p.c = 3) ∧ needs p.c ≤ (st.length : Int)
      · rename_i X0
        revert RES X0 wr u8 u9 u10 u11 u12 u13 u14 u15 u16 u17 u18 u19 u20 u21 u22 u26 u27 u28 u29 u30 u31 u32 u33 u34 u35 u36 u37 u38 u39 u40 u41 u42 u43 u44 u45 u46 u47 u48 u49 u50 u51 u52 u53 u54 u55 u56 u57 u58 u59 u60 u61 u62 u63 u64 u65 u66 u67 u68 u69 u70 u71 u72 u73 u74 u75 u76 u77 u78 u79 u80 u81 u82 u83 u84 u85 u86 u87 u88 u89 u90 u91 u92 u93 u94 u95 u96 u97 u98 u99 u100 u101 u102 u103 u104 u105 u106 u107 u108 u109 u110 u111 u112 u113 u114 u115 u116 u117 u118 u119 u120 u121 u122 u123 u124 u125 u126 u127 u128 u129 u130 u131 u132 u133 u134 u135 u136 u137 u138 u139 u140 u141 u142 u143 u144 u145 u146 u147 u148 u149 u150 u151 u152 u153 u154 u155 u156 u157 u158 u159 u160 u161 u162 u163 u164 u165 u166 u167 u168 u169 u170 u171 u172 u173 u174 u175 u176 u177 u178 u179 u180 u181 u182 u183 u184 u185 u186 u187 u188 u189 u190 u191 u192 u193 u194 u195 u196 u197 u198 u199 u200 u201 u202 u203 u204 u205 u206 u207 u208 u209 u210 u211 u212 u213 u214 u215 u216 u217 u218 u219 u220 u221 u222 u223 u224 u225 u226 u227 u228 u229 u230 u231 u232 u233 u234 u235 u236 u237 u238 u239 u240 u241 u242 u243 u244 u245 u246 u247 u248 u249 u250 u251 u252 u253 u254 u255 u256 u257 u258 pc stp f st hpc hsl hst HSF HRS HRUN hgl0 hsz0 hcA hcB
        exact k1.out
      by_cases hcC : 0 < f ∧ ∃ p, ps[pc]? = some p ∧ (p.c = 4 ∨ p.c = 5 ∨ p.c = 6) ∧ needs p.c ≤ (st.length : Int)
      · rename_i X0
        revert RES X0 wr u8 u9 u10 u11 u12 u13 u14 u15 u16 u17 u18 u19 u20 u21 u22 u26 u27 u28 u29 u30 u31 u32 u33 u34 u35 u36 u37 u38 u39 u40 u41 u42 u43 u44 u45 u46 u47 u48 u49 u50 u51 u52 u53 u54 u55 u56 u57 u58 u59 u60 u61 u62 u63 u64 u65 u66 u67 u68 u69 u70 u71 u72 u73 u74 u75 u76 u77 u78 u79 u80 u81 u82 u83 u84 u85 u86 u87 u88 u89 u90 u91 u92 u93 u94 u95 u96 u97 u98 u99 u100 u101 u102 u103 u104 u105 u106 u107 u108 u109 u110 u111 u112 u113 u114 u115 u116 u117 u118 u119 u120 u121 u122 u123 u124 u125 u126 u127 u128 u129 u130 u131 u132 u133 u134 u135 u136 u137 u138 u139 u140 u141 u142 u143 u144 u145 u146 u147 u148 u149 u150 u151 u152 u153 u154 u155 u156 u157 u158 u159 u160 u161 u162 u163 u164 u165 u166 u167 u168 u169 u170 u171 u172 u173 u174 u175 u176 u177 u178 u179 u180 u181 u182 u183 u184 u185 u186 u187 u188 u189 u190 u191 u192 u193 u194 u195 u196 u197 u198 u199 u200 u201 u202 u203 u204 u205 u206 u207 u208 u209 u210 u211 u212 u213 u214 u215 u216 u217 u218 u219 u220 u221 u222 u223 u224 u225 u226 u227 u228 u229 u230 u231 u232 u233 u234 u235 u236 u237 u238 u239 u240 u241 u242 u243 u244 u245 u246 u247 u248 u249 u250 u251 u252 u253 u254 u255 u256 u257 u258 pc stp f st hpc hsl hst HSF HRS HRUN hgl0 hsz0 hcA hcB hcC
        exact k2.out
      by_cases hcD : 0 < f ∧ ∃ p, ps[pc]? = some p ∧ (p.c = 7 ∨ p.c = 8 ∨ p.c = 9 ∨ p.c = 10) ∧ needs p.c ≤ (st.length : Int)
      · rename_i X0
        revert RES X0 wr u8 u9 u10 u11 u12 u13 u14 u15 u16 u17 u18 u19 u20 u21 u22 u26 u27 u28 u29 u30 u31 u32 u33 u34 u35 u36 u37 u38 u39 u40 u41 u42 u43 u44 u45 u46 u47 u48 u49 u50 u51 u52 u53 u54 u55 u56 u57 u58 u59 u60 u61 u62 u63 u64 u65 u66 u67 u68 u69 u70 u71 u72 u73 u74 u75 u76 u77 u78 u79 u80 u81 u82 u83 u84 u85 u86 u87 u88 u89 u90 u91 u92 u93 u94 u95 u96 u97 u98 u99 u100 u101 u102 u103 u104 u105 u106 u107 u108 u109 u110 u111 u112 u113 u114 u115 u116 u117 u118 u119 u120 u121 u122 u123 u124 u125 u126 u127 u128 u129 u130 u131 u132 u133 u134 u135 u136 u137 u138 u139 u140 u141 u142 u143 u144 u145 u146 u147 u148 u149 u150 u151 u152 u153 u154 u155 u156 u157 u158 u159 u160 u161 u162 u163 u164 u165 u166 u167 u168 u169 u170 u171 u172 u173 u174 u175 u176 u177 u178 u179 u180 u181 u182 u183 u184 u185 u186 u187 u188 u189 u190 u191 u192 u193 u194 u195 u196 u197 u198 u199 u200 u201 u202 u203 u204 u205 u206 u207 u208 u209 u210 u211 u212 u213 u214 u215 u216 u217 u218 u219 u220 u221 u222 u223 u224 u225 u226 u227 u228 u229 u230 u231 u232 u233 u234 u235 u236 u237 u238 u239 u240 u241 u242 u243 u244 u245 u246 u247 u248 u249 u250 u251 u252 u253 u254 u255 u256 u257 u258 pc stp f st hpc hsl hst HSF HRS HRUN hgl0 hsz0 hcA hcB hcC hcD
        exact k3.out
      rename_i X0
      revert RES X0 wr u8 u9 u10 u11 u12 u13 u14 u15 u16 u17 u18 u19 u20 u21 u22 u26 u27 u28 u29 u30 u31 u32 u33 u34 u35 u36 u37 u38 u39 u40 u41 u42 u43 u44 u45 u46 u47 u48 u49 u50 u51 u52 u53 u54 u55 u56 u57 u58 u59 u60 u61 u62 u63 u64 u65 u66 u67 u68 u69 u70 u71 u72 u73 u74 u75 u76 u77 u78 u79 u80 u81 u82 u83 u84 u85 u86 u87 u88 u89 u90 u91 u92 u93 u94 u95 u96 u97 u98 u99 u100 u101 u102 u103 u104 u105 u106 u107 u108 u109 u110 u111 u112 u113 u114 u115 u116 u117 u118 u119 u120 u121 u122 u123 u124 u125 u126 u127 u128 u129 u130 u131 u132 u133 u134 u135 u136 u137 u138 u139 u140 u141 u142 u143 u144 u145 u146 u147 u148 u149 u150 u151 u152 u153 u154 u155 u156 u157 u158 u159 u160 u161 u162 u163 u164 u165 u166 u167 u168 u169 u170 u171 u172 u173 u174 u175 u176 u177 u178 u179 u180 u181 u182 u183 u184 u185 u186 u187 u188 u189 u190 u191 u192 u193 u194 u195 u196 u197 u198 u199 u200 u201 u202 u203 u204 u205 u206 u207 u208 u209 u210 u211 u212 u213 u214 u215 u216 u217 u218 u219 u220 u221 u222 u223 u224 u225 u226 u227 u228 u229 u230 u231 u232 u233 u234 u235 u236 u237 u238 u239 u240 u241 u242 u243 u244 u245 u246 u247 u248 u249 u250 u251 u252 u253 u254 u255 u256 u257 u258 pc stp f st hpc hsl hst HSF HRS HRUN hgl0 hsz0 hcA hcB hcC hcD
      exact k4.out

end Go.Proofs.Yahaaw
