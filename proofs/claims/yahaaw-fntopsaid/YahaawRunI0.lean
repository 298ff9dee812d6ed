/-
  DERIVED. WALK: impl.RunReg (23).
-/
import Derived.Test.YahaawReg
import Derived.Test.YahaawTrI
import Derived.Laws.OwnMore
namespace Go.Proofs.Yahaaw
open Go.RowKit
set_option linter.unusedVariables false
set_option linter.unusedSimpArgs false

/-- A part of a proof that another text brings. -/
structure HoleI (G : Prop) : Prop where
  out : G

theorem zc_ints (N : Nat) : (zc #[.int .i64 0] N).toList = iCells (List.replicate N 0) := by
  unfold zc iCells
  rw [toList_madeCells_one]
  simp

theorem RR.halt {w wr : World} {rg : List Int} {A N : Nat} {op : Obj} (h : RR w rg wr) (hl : rg.length = N) (hA : A ≤ N) :
    ∃ w2, (Builtin.copy_ #[24, 24] 3 #[.slice (some ⟨wr.heap.size + 1, 0, none⟩) A A, .slice (some ⟨w.heap.size + 1, 0, none⟩) A N]).run Yaav.prog ((wr.alloc op).alloc (.cells (zc #[.int .i64 0] A) 2)) = .ok (.int .i64 A) w2 ∧
      Blk w2 (wr.heap.size + 1) (iCells (rg.take A)) 2 ∧ Below w.heap.size w w2 ∧ Blk w2 w.heap.size [.int .i64 0, .slice none 0 0, .int .i64 0] 38 := by
  have hrl := h.reg.lt
  have hb0 : Below wr.heap.size wr ((wr.alloc op).alloc (.cells (zc #[.int .i64 0] A) 2)) := ((Below.refl _ _).alloc (Nat.le_refl _) _).alloc (by simp) _
  have hz : Blk ((wr.alloc op).alloc (.cells (zc #[.int .i64 0] A) 2)) (wr.heap.size + 1) (zc #[.int .i64 0] A).toList 2 := by
    have := Blk.new' (wr.alloc op) (zc #[.int .i64 0] A) 2
    simpa using this
  have hseg : Seg wr (some ⟨w.heap.size + 1, 0, none⟩) (iCells (rg.take A)) := by
    by_cases h0 : iCells (rg.take A) = []
    · exact .inl h0
    · right
      refine ⟨_, _, rfl, hrl, fun i hi => ?_⟩
      rw [iCells_len] at hi
      simp at hi
      rw [Nat.zero_add, h.reg.cell]
      unfold iCells
      rw [List.getElem?_map, List.getElem?_map, List.getElem?_take, if_pos (by omega)]
  obtain ⟨w2, hrun, hk2, hg2⟩ := copy_run (c := A) (sc := N) (n := A) hz (by rw [zc_len]) (hseg.below hb0) (by simp; omega)
  refine ⟨w2, hrun, hk2, (Below.both h.bel hb0).grown hg2 (by have := h.bel.size; simp; omega) (fun k hk => by cases hk; omega), ?_⟩
  have := (h.res.alloc op).alloc (.cells (zc #[.int .i64 0] A) 2)
  unfold Blk at *
  rw [hg2.block _ (by simp; omega) (by simp; omega)]; exact this

set_option maxRecDepth 100000 in
set_option maxHeartbeats 8000000 in
def iSkel (ap ax : Option Addr) (n cap nx capx N : Nat) (ps : List RO) (xs : List Int) (w : World) (HN : Hid (ps.length = n)) (hn2 : n ≤ 1099511627776) (HS : Hid (Seg w ap (rCells ps))) (hnr : N ≤ 65536) (HNX : Hid (xs.length = nx)) (hnx2 : nx ≤ 1099511627776) (HXS : Hid (Seg w ax (iCells xs))) :
    { G : Prop × Prop × Prop × Prop × Prop × Prop × Prop // HoleI G.1 → HoleI G.2.1 → HoleI G.2.2.1 → HoleI G.2.2.2.1 → HoleI G.2.2.2.2.1 → HoleI G.2.2.2.2.2.1 → HoleI G.2.2.2.2.2.2 → Calls Yaav.prog 23 #[.slice ap n cap, .int .i64 N, .slice ax nx capx] w fun e w' => RunPost (runR ps xs 20000 0 (List.replicate N 0)) w.heap.size e w' ∧ Below w.heap.size w w' } := by
  refine ⟨(?G0, ?G1, ?G2, ?G3, ?G4, ?G5, ?G6), fun k0 k1 k2 k3 k4 k5 k6 => ?main⟩
  case main =>
    have hmk0 := mk_run Yaav.underlying24 Yaav.info2 N N (Nat.le_refl _) (by omega) (by omega)
    simp only [Value.cells, Nat.mul_one, Int.natCast_zero, Int.cast_ofNat_Int] at hmk0
    generalize hR : runR ps xs 20000 0 (List.replicate N 0) = RES
    have HR := hideP hR
    clear hR
    go_enter Yaav.func23, Yaav.ntmps23
    go_wp2
    clear hmk0
    go_loopw [9, 10] (fun pcv tv wr => ∃ (pc stp f : Nat) (rg : List Int), pcv = .int .i64 pc ∧ tv = .int .i64 stp ∧ stp + f = 20000 ∧ pc ≤ n ∧ rg.length = N ∧ RR w rg wr ∧ runR ps xs f pc rg = RES) (fun _ tv _ => 20000 - (intOf tv).toNat)
    case atStart =>
      refine ⟨0, 0, 20000, List.replicate N 0, rfl, rfl, rfl, Nat.zero_le _, by simp, ⟨((Below.refl _ _).alloc (Nat.le_refl _) _).alloc (by simp) _, (Blk.new' w #[.int .i64 0, .slice none 0 0, .int .i64 0] 38).alloc _, ?_⟩, HR.out⟩
      have := Blk.new' (w.alloc (.cells #[.int .i64 0, .slice none 0 0, .int .i64 0] 38)) (zc #[.int .i64 0] N) 2
      have e : (zc #[.int .i64 0] N).toList = iCells (List.replicate N 0) := zc_ints N
      rw [e] at this
      simpa using this
    case round =>
      clear HR
      obtain ⟨pc, stp, f, rg, rfl, rfl, hsf, hpc, hlen, hrr, hrun⟩ := hrel
      have hst : stp ≤ 20000 := by omega
      have HSF := hideP hsf
      have HRR := hideP hrr
      have HRUN := hideP hrun
      have HLEN := hideP hlen
      have hgl0 := hrr.res.lt
      have hgl1 := hrr.reg.lt
      have hsz0 := hrr.bel.size
      clear hsf hrr hrun hlen
      by_cases hcA : 0 < f ∧ ∃ p, ps[pc]? = some p ∧ (p.op = 0 ∨ p.op = 1)
      · rename_i Q0 h0
        revert RES Q0 h0 wr u11 u12 u13 u14 u15 u16 u17 u18 u19 u20 u21 u33 u34 u35 u36 u37 u38 u39 u40 u41 u42 u43 u44 u45 u46 u47 u48 u49 u50 u51 u52 u53 u54 u55 u56 u57 u58 u59 u60 u61 u62 u63 u64 u65 u66 u67 u68 u69 u70 u71 u72 u73 u74 u75 u76 u77 u78 u79 u80 u81 u82 u83 u84 u85 u86 u87 u88 u89 u90 u91 u92 u93 u94 u95 u96 u97 u98 u99 u100 u101 u102 u103 u104 u105 u106 u107 u108 u109 u110 u111 u112 u113 u114 u115 u116 u117 u118 u119 u120 u121 u122 u123 u124 u125 u126 u127 u128 u129 u130 u131 u132 u133 u134 u135 u136 u137 u138 u139 u140 u141 u142 u143 u144 u145 u146 u147 u148 u149 u150 u151 u152 u153 u154 u155 u156 u157 u158 u159 u160 u161 u162 u163 u164 u165 u166 u167 u168 u169 u170 u171 u172 u173 u174 u175 u176 u177 u178 u179 u180 u181 u182 u183 u184 u185 u186 u187 u188 u189 u190 u191 u192 u193 u194 u195 u196 u197 u198 u199 u200 u201 u202 u203 u204 u205 u206 u207 u208 u209 u210 u211 u212 u213 u214 u215 u216 u217 u218 u219 u220 u221 u222 u223 u224 u225 u226 u227 u228 u229 u230 u231 u232 u233 u234 u235 u236 u237 u238 u239 u240 u241 u242 u243 u244 u245 u246 u247 u248 u249 u250 u251 u252 u253 u254 u255 u256 u257 u258 u259 u260 u261 u262 u263 u264 u265 u266 u267 u268 u269 u270 u271 u272 u273 u274 u275 u276 u277 u278 u279 u280 u281 u282 u283 u284 u285 u286 u287 u288 u289 u290 u291 u292 u293 u294 u295 u296 u297 u298 u299 u300 u301 u302 u303 u304 pc stp f rg hpc hst HSF HRR HRUN HLEN hgl0 hgl1 hsz0 hcA
        exact k0.out
      by_cases hcB : 0 < f ∧ ∃ p, ps[pc]? = some p ∧ (p.op = 2)
      · rename_i Q0 h0
        revert RES Q0 h0 wr u11 u12 u13 u14 u15 u16 u17 u18 u19 u20 u21 u33 u34 u35 u36 u37 u38 u39 u40 u41 u42 u43 u44 u45 u46 u47 u48 u49 u50 u51 u52 u53 u54 u55 u56 u57 u58 u59 u60 u61 u62 u63 u64 u65 u66 u67 u68 u69 u70 u71 u72 u73 u74 u75 u76 u77 u78 u79 u80 u81 u82 u83 u84 u85 u86 u87 u88 u89 u90 u91 u92 u93 u94 u95 u96 u97 u98 u99 u100 u101 u102 u103 u104 u105 u106 u107 u108 u109 u110 u111 u112 u113 u114 u115 u116 u117 u118 u119 u120 u121 u122 u123 u124 u125 u126 u127 u128 u129 u130 u131 u132 u133 u134 u135 u136 u137 u138 u139 u140 u141 u142 u143 u144 u145 u146 u147 u148 u149 u150 u151 u152 u153 u154 u155 u156 u157 u158 u159 u160 u161 u162 u163 u164 u165 u166 u167 u168 u169 u170 u171 u172 u173 u174 u175 u176 u177 u178 u179 u180 u181 u182 u183 u184 u185 u186 u187 u188 u189 u190 u191 u192 u193 u194 u195 u196 u197 u198 u199 u200 u201 u202 u203 u204 u205 u206 u207 u208 u209 u210 u211 u212 u213 u214 u215 u216 u217 u218 u219 u220 u221 u222 u223 u224 u225 u226 u227 u228 u229 u230 u231 u232 u233 u234 u235 u236 u237 u238 u239 u240 u241 u242 u243 u244 u245 u246 u247 u248 u249 u250 u251 u252 u253 u254 u255 u256 u257 u258 u259 u260 u261 u262 u263 u264 u265 u266 u267 u268 u269 u270 u271 u272 u273 u274 u275 u276 u277 u278 u279 u280 u281 u282 u283 u284 u285 u286 u287 u288 u289 u290 u291 u292 u293 u294 u295 u296 u297 u298 u299 u300 u301 u302 u303 u304 pc stp f rg hpc hst HSF HRR HRUN HLEN hgl0 hgl1 hsz0 hcA hcB
        exact k1.out
      by_cases hcC : 0 < f ∧ ∃ p, ps[pc]? = some p ∧ (p.op = 3)
      · rename_i Q0 h0
        revert RES Q0 h0 wr u11 u12 u13 u14 u15 u16 u17 u18 u19 u20 u21 u33 u34 u35 u36 u37 u38 u39 u40 u41 u42 u43 u44 u45 u46 u47 u48 u49 u50 u51 u52 u53 u54 u55 u56 u57 u58 u59 u60 u61 u62 u63 u64 u65 u66 u67 u68 u69 u70 u71 u72 u73 u74 u75 u76 u77 u78 u79 u80 u81 u82 u83 u84 u85 u86 u87 u88 u89 u90 u91 u92 u93 u94 u95 u96 u97 u98 u99 u100 u101 u102 u103 u104 u105 u106 u107 u108 u109 u110 u111 u112 u113 u114 u115 u116 u117 u118 u119 u120 u121 u122 u123 u124 u125 u126 u127 u128 u129 u130 u131 u132 u133 u134 u135 u136 u137 u138 u139 u140 u141 u142 u143 u144 u145 u146 u147 u148 u149 u150 u151 u152 u153 u154 u155 u156 u157 u158 u159 u160 u161 u162 u163 u164 u165 u166 u167 u168 u169 u170 u171 u172 u173 u174 u175 u176 u177 u178 u179 u180 u181 u182 u183 u184 u185 u186 u187 u188 u189 u190 u191 u192 u193 u194 u195 u196 u197 u198 u199 u200 u201 u202 u203 u204 u205 u206 u207 u208 u209 u210 u211 u212 u213 u214 u215 u216 u217 u218 u219 u220 u221 u222 u223 u224 u225 u226 u227 u228 u229 u230 u231 u232 u233 u234 u235 u236 u237 u238 u239 u240 u241 u242 u243 u244 u245 u246 u247 u248 u249 u250 u251 u252 u253 u254 u255 u256 u257 u258 u259 u260 u261 u262 u263 u264 u265 u266 u267 u268 u269 u270 u271 u272 u273 u274 u275 u276 u277 u278 u279 u280 u281 u282 u283 u284 u285 u286 u287 u288 u289 u290 u291 u292 u293 u294 u295 u296 u297 u298 u299 u300 u301 u302 u303 u304 pc stp f rg hpc hst HSF HRR HRUN HLEN hgl0 hgl1 hsz0 hcA hcB hcC
        exact k2.out
      by_cases hcD : 0 < f ∧ ∃ p, ps[pc]? = some p ∧ (p.op = 4)
      · rename_i Q0 h0
        revert RES Q0 h0 wr u11 u12 u13 u14 u15 u16 u17 u18 u19 u20 u21 u33 u34 u35 u36 u37 u38 u39 u40 u41 u42 u43 u44 u45 u46 u47 u48 u49 u50 u51 u52 u53 u54 u55 u56 u57 u58 u59 u60 u61 u62 u63 u64 u65 u66 u67 u68 u69 u70 u71 u72 u73 u74 u75 u76 u77 u78 u79 u80 u81 u82 u83 u84 u85 u86 u87 u88 u89 u90 u91 u92 u93 u94 u95 u96 u97 u98 u99 u100 u101 u102 u103 u104 u105 u106 u107 u108 u109 u110 u111 u112 u113 u114 u115 u116 u117 u118 u119 u120 u121 u122 u123 u124 u125 u126 u127 u128 u129 u130 u131 u132 u133 u134 u135 u136 u137 u138 u139 u140 u141 u142 u143 u144 u145 u146 u147 u148 u149 u150 u151 u152 u153 u154 u155 u156 u157 u158 u159 u160 u161 u162 u163 u164 u165 u166 u167 u168 u169 u170 u171 u172 u173 u174 u175 u176 u177 u178 u179 u180 u181 u182 u183 u184 u185 u186 u187 u188 u189 u190 u191 u192 u193 u194 u195 u196 u197 u198 u199 u200 u201 u202 u203 u204 u205 u206 u207 u208 u209 u210 u211 u212 u213 u214 u215 u216 u217 u218 u219 u220 u221 u222 u223 u224 u225 u226 u227 u228 u229 u230 u231 u232 u233 u234 u235 u236 u237 u238 u239 u240 u241 u242 u243 u244 u245 u246 u247 u248 u249 u250 u251 u252 u253 u254 u255 u256 u257 u258 u259 u260 u261 u262 u263 u264 u265 u266 u267 u268 u269 u270 u271 u272 u273 u274 u275 u276 u277 u278 u279 u280 u281 u282 u283 u284 u285 u286 u287 u288 u289 u290 u291 u292 u293 u294 u295 u296 u297 u298 u299 u300 u301 u302 u303 u304 pc stp f rg hpc hst HSF HRR HRUN HLEN hgl0 hgl1 hsz0 hcA hcB hcC hcD
        exact k3.out
      by_cases hcE : 0 < f ∧ ∃ p, ps[pc]? = some p ∧ (p.op = 5 ∨ p.op = 6)
      · rename_i Q0 h0
        revert RES Q0 h0 wr u11 u12 u13 u14 u15 u16 u17 u18 u19 u20 u21 u33 u34 u35 u36 u37 u38 u39 u40 u41 u42 u43 u44 u45 u46 u47 u48 u49 u50 u51 u52 u53 u54 u55 u56 u57 u58 u59 u60 u61 u62 u63 u64 u65 u66 u67 u68 u69 u70 u71 u72 u73 u74 u75 u76 u77 u78 u79 u80 u81 u82 u83 u84 u85 u86 u87 u88 u89 u90 u91 u92 u93 u94 u95 u96 u97 u98 u99 u100 u101 u102 u103 u104 u105 u106 u107 u108 u109 u110 u111 u112 u113 u114 u115 u116 u117 u118 u119 u120 u121 u122 u123 u124 u125 u126 u127 u128 u129 u130 u131 u132 u133 u134 u135 u136 u137 u138 u139 u140 u141 u142 u143 u144 u145 u146 u147 u148 u149 u150 u151 u152 u153 u154 u155 u156 u157 u158 u159 u160 u161 u162 u163 u164 u165 u166 u167 u168 u169 u170 u171 u172 u173 u174 u175 u176 u177 u178 u179 u180 u181 u182 u183 u184 u185 u186 u187 u188 u189 u190 u191 u192 u193 u194 u195 u196 u197 u198 u199 u200 u201 u202 u203 u204 u205 u206 u207 u208 u209 u210 u211 u212 u213 u214 u215 u216 u217 u218 u219 u220 u221 u222 u223 u224 u225 u226 u227 u228 u229 u230 u231 u232 u233 u234 u235 u236 u237 u238 u239 u240 u241 u242 u243 u244 u245 u246 u247 u248 u249 u250 u251 u252 u253 u254 u255 u256 u257 u258 u259 u260 u261 u262 u263 u264 u265 u266 u267 u268 u269 u270 u271 u272 u273 u274 u275 u276 u277 u278 u279 u280 u281 u282 u283 u284 u285 u286 u287 u288 u289 u290 u291 u292 u293 u294 u295 u296 u297 u298 u299 u300 u301 u302 u303 u304 pc stp f rg hpc hst HSF HRR HRUN HLEN hgl0 hgl1 hsz0 hcA hcB hcC hcD hcE
        exact k4.out
      by_cases hcF : 0 < f ∧ ∃ p, ps[pc]? = some p ∧ (p.op = 7 ∨ p.op = 8 ∨ p.op = 9)
      · rename_i Q0 h0
        revert RES Q0 h0 wr u11 u12 u13 u14 u15 u16 u17 u18 u19 u20 u21 u33 u34 u35 u36 u37 u38 u39 u40 u41 u42 u43 u44 u45 u46 u47 u48 u49 u50 u51 u52 u53 u54 u55 u56 u57 u58 u59 u60 u61 u62 u63 u64 u65 u66 u67 u68 u69 u70 u71 u72 u73 u74 u75 u76 u77 u78 u79 u80 u81 u82 u83 u84 u85 u86 u87 u88 u89 u90 u91 u92 u93 u94 u95 u96 u97 u98 u99 u100 u101 u102 u103 u104 u105 u106 u107 u108 u109 u110 u111 u112 u113 u114 u115 u116 u117 u118 u119 u120 u121 u122 u123 u124 u125 u126 u127 u128 u129 u130 u131 u132 u133 u134 u135 u136 u137 u138 u139 u140 u141 u142 u143 u144 u145 u146 u147 u148 u149 u150 u151 u152 u153 u154 u155 u156 u157 u158 u159 u160 u161 u162 u163 u164 u165 u166 u167 u168 u169 u170 u171 u172 u173 u174 u175 u176 u177 u178 u179 u180 u181 u182 u183 u184 u185 u186 u187 u188 u189 u190 u191 u192 u193 u194 u195 u196 u197 u198 u199 u200 u201 u202 u203 u204 u205 u206 u207 u208 u209 u210 u211 u212 u213 u214 u215 u216 u217 u218 u219 u220 u221 u222 u223 u224 u225 u226 u227 u228 u229 u230 u231 u232 u233 u234 u235 u236 u237 u238 u239 u240 u241 u242 u243 u244 u245 u246 u247 u248 u249 u250 u251 u252 u253 u254 u255 u256 u257 u258 u259 u260 u261 u262 u263 u264 u265 u266 u267 u268 u269 u270 u271 u272 u273 u274 u275 u276 u277 u278 u279 u280 u281 u282 u283 u284 u285 u286 u287 u288 u289 u290 u291 u292 u293 u294 u295 u296 u297 u298 u299 u300 u301 u302 u303 u304 pc stp f rg hpc hst HSF HRR HRUN HLEN hgl0 hgl1 hsz0 hcA hcB hcC hcD hcE hcF
        exact k5.out
      rename_i Q0 h0
      revert RES Q0 h0 wr u11 u12 u13 u14 u15 u16 u17 u18 u19 u20 u21 u33 u34 u35 u36 u37 u38 u39 u40 u41 u42 u43 u44 u45 u46 u47 u48 u49 u50 u51 u52 u53 u54 u55 u56 u57 u58 u59 u60 u61 u62 u63 u64 u65 u66 u67 u68 u69 u70 u71 u72 u73 u74 u75 u76 u77 u78 u79 u80 u81 u82 u83 u84 u85 u86 u87 u88 u89 u90 u91 u92 u93 u94 u95 u96 u97 u98 u99 u100 u101 u102 u103 u104 u105 u106 u107 u108 u109 u110 u111 u112 u113 u114 u115 u116 u117 u118 u119 u120 u121 u122 u123 u124 u125 u126 u127 u128 u129 u130 u131 u132 u133 u134 u135 u136 u137 u138 u139 u140 u141 u142 u143 u144 u145 u146 u147 u148 u149 u150 u151 u152 u153 u154 u155 u156 u157 u158 u159 u160 u161 u162 u163 u164 u165 u166 u167 u168 u169 u170 u171 u172 u173 u174 u175 u176 u177 u178 u179 u180 u181 u182 u183 u184 u185 u186 u187 u188 u189 u190 u191 u192 u193 u194 u195 u196 u197 u198 u199 u200 u201 u202 u203 u204 u205 u206 u207 u208 u209 u210 u211 u212 u213 u214 u215 u216 u217 u218 u219 u220 u221 u222 u223 u224 u225 u226 u227 u228 u229 u230 u231 u232 u233 u234 u235 u236 u237 u238 u239 u240 u241 u242 u243 u244 u245 u246 u247 u248 u249 u250 u251 u252 u253 u254 u255 u256 u257 u258 u259 u260 u261 u262 u263 u264 u265 u266 u267 u268 u269 u270 u271 u272 u273 u274 u275 u276 u277 u278 u279 u280 u281 u282 u283 u284 u285 u286 u287 u288 u289 u290 u291 u292 u293 u294 u295 u296 u297 u298 u299 u300 u301 u302 u303 u304 pc stp f rg hpc hst HSF HRR HRUN HLEN hgl0 hgl1 hsz0 hcA hcB hcC hcD hcE hcF
      exact k6.out

end Go.Proofs.Yahaaw
