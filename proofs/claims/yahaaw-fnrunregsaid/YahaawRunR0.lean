/-
  DERIVED. WALKS: spec.uses (46), spec.RunReg (21).
-/
import Derived.Test.YahaawReg
import Derived.Test.YahaawTrI
import Derived.Laws.OwnMore
import Derived.Deep.RegionHeld
import Derived.Deep.DrawnRows
import Derived.BigRegion
namespace Go.Proofs.Yahaaw
open Go.RowKit
attribute [local go_sem ↓] Go.wp_at_zero Go.wp_at_succ
set_option linter.unusedVariables false
set_option linter.unusedSimpArgs false

def useR (c : Int) : Bool := c == 0 || c == 1 || c == 2 || c == 3 || c == 4 || c == 5
def useA (c : Int) : Bool := c == 2 || c == 3 || c == 4 || c == 5 || c == 6 || c == 9
def useB (c : Int) : Bool := c == 2 || c == 3 || c == 4 || c == 6
def useK (c : Int) : Bool := c == 0 || c == 1 || c == 2 || c == 3 || c == 4 || c == 5 || c == 6 || c == 7 || c == 8 || c == 9

theorem zc_intsS (N : Nat) : (zc #[.int .i64 0] N).toList = iCells (List.replicate N 0) := by
  unfold zc iCells
  rw [toList_madeCells_one]
  simp

/-- A part of a proof that another text brings. -/
structure Hole (G : Prop) : Prop where
  out : G

theorem RR.segTake {w wr : World} {rg : List Int} {A : Nat} (h : RR w rg wr) (hA : A ≤ rg.length) : Seg wr (some ⟨w.heap.size + 1, 0, none⟩) (iCells (rg.take A)) := by
  by_cases h0 : iCells (rg.take A) = []
  · exact .inl h0
  · right
    refine ⟨_, _, rfl, h.reg.lt, fun i hi => ?_⟩
    rw [iCells_len] at hi
    simp at hi
    rw [Nat.zero_add, h.reg.cell]
    unfold iCells
    rw [List.getElem?_map, List.getElem?_map, List.getElem?_take, if_pos (by omega)]

set_option maxRecDepth 100000 in
set_option maxHeartbeats 2000000 in
theorem res21 {tm : Array Value} {w : World} {b n c : Nat} {a : Option Addr} {s t : Int} (h6 : tm.getD 6 undef = .pointer (some ⟨b, 0, none⟩)) (c0 : w.cell? ⟨b, 0, none⟩ = some (.int .i64 s)) (c1 : w.cell? ⟨b, 1, none⟩ = some (.slice a n c)) (c2 : w.cell? ⟨b, 2, none⟩ = some (.int .i64 t)) :
    (results Yaav.f21 tm).run Yaav.prog w = .ok (.agg #[.int .i64 s, .slice a n c, .int .i64 t]) w := by
  simp only [results, Yaav.results21]
  have h6' : tm[6]?.getD undef = .pointer (some ⟨b, 0, none⟩) := by simpa using h6
  simp [go_sem, h6', c0, c1, c2]

theorem uses_any (c : Int) (w : World) : Calls Yaav.prog 46 #[.int .i64 c] w fun e w' => e = .returned (.tuple #[.bool (useR c), .bool (useA c), .bool (useB c), .bool (useK c)]) ∧ w' = w := by
  by_cases e0 : c = 0
  · subst e0
    go_enter Yaav.func46, Yaav.ntmps46
    go_wp2
    exact bodyPost_ret (v := .tuple #[.bool (useR 0), .bool (useA 0), .bool (useB 0), .bool (useK 0)]) (by simp [results, Yaav.results46, go_sem, useR, useA, useB, useK]) rfl ⟨rfl, rfl⟩
  by_cases e1 : c = 1
  · subst e1
    go_enter Yaav.func46, Yaav.ntmps46
    go_wp2
    exact bodyPost_ret (v := .tuple #[.bool (useR 1), .bool (useA 1), .bool (useB 1), .bool (useK 1)]) (by simp [results, Yaav.results46, go_sem, useR, useA, useB, useK]) rfl ⟨rfl, rfl⟩
  by_cases e2 : c = 2
  · subst e2
    go_enter Yaav.func46, Yaav.ntmps46
    go_wp2
    exact bodyPost_ret (v := .tuple #[.bool (useR 2), .bool (useA 2), .bool (useB 2), .bool (useK 2)]) (by simp [results, Yaav.results46, go_sem, useR, useA, useB, useK]) rfl ⟨rfl, rfl⟩
  by_cases e3 : c = 3
  · subst e3
    go_enter Yaav.func46, Yaav.ntmps46
    go_wp2
    exact bodyPost_ret (v := .tuple #[.bool (useR 3), .bool (useA 3), .bool (useB 3), .bool (useK 3)]) (by simp [results, Yaav.results46, go_sem, useR, useA, useB, useK]) rfl ⟨rfl, rfl⟩
  by_cases e4 : c = 4
  · subst e4
    go_enter Yaav.func46, Yaav.ntmps46
    go_wp2
    exact bodyPost_ret (v := .tuple #[.bool (useR 4), .bool (useA 4), .bool (useB 4), .bool (useK 4)]) (by simp [results, Yaav.results46, go_sem, useR, useA, useB, useK]) rfl ⟨rfl, rfl⟩
  by_cases e5 : c = 5
  · subst e5
    go_enter Yaav.func46, Yaav.ntmps46
    go_wp2
    exact bodyPost_ret (v := .tuple #[.bool (useR 5), .bool (useA 5), .bool (useB 5), .bool (useK 5)]) (by simp [results, Yaav.results46, go_sem, useR, useA, useB, useK]) rfl ⟨rfl, rfl⟩
  by_cases e6 : c = 6
  · subst e6
    go_enter Yaav.func46, Yaav.ntmps46
    go_wp2
    exact bodyPost_ret (v := .tuple #[.bool (useR 6), .bool (useA 6), .bool (useB 6), .bool (useK 6)]) (by simp [results, Yaav.results46, go_sem, useR, useA, useB, useK]) rfl ⟨rfl, rfl⟩
  by_cases e7 : c = 7
  · subst e7
    go_enter Yaav.func46, Yaav.ntmps46
    go_wp2
    exact bodyPost_ret (v := .tuple #[.bool (useR 7), .bool (useA 7), .bool (useB 7), .bool (useK 7)]) (by simp [results, Yaav.results46, go_sem, useR, useA, useB, useK]) rfl ⟨rfl, rfl⟩
  by_cases e8 : c = 8
  · subst e8
    go_enter Yaav.func46, Yaav.ntmps46
    go_wp2
    exact bodyPost_ret (v := .tuple #[.bool (useR 8), .bool (useA 8), .bool (useB 8), .bool (useK 8)]) (by simp [results, Yaav.results46, go_sem, useR, useA, useB, useK]) rfl ⟨rfl, rfl⟩
  by_cases e9 : c = 9
  · subst e9
    go_enter Yaav.func46, Yaav.ntmps46
    go_wp2
    exact bodyPost_ret (v := .tuple #[.bool (useR 9), .bool (useA 9), .bool (useB 9), .bool (useK 9)]) (by simp [results, Yaav.results46, go_sem, useR, useA, useB, useK]) rfl ⟨rfl, rfl⟩
  have b0 : (c == 0) = false := beq_eq_false_iff_ne.2 e0
  have b1 : (c == 1) = false := beq_eq_false_iff_ne.2 e1
  have b2 : (c == 2) = false := beq_eq_false_iff_ne.2 e2
  have b3 : (c == 3) = false := beq_eq_false_iff_ne.2 e3
  have b4 : (c == 4) = false := beq_eq_false_iff_ne.2 e4
  have b5 : (c == 5) = false := beq_eq_false_iff_ne.2 e5
  have b6 : (c == 6) = false := beq_eq_false_iff_ne.2 e6
  have b7 : (c == 7) = false := beq_eq_false_iff_ne.2 e7
  have b8 : (c == 8) = false := beq_eq_false_iff_ne.2 e8
  have b9 : (c == 9) = false := beq_eq_false_iff_ne.2 e9
  go_enter Yaav.func46, Yaav.ntmps46
  go_wp2
  exact bodyPost_ret (v := .tuple #[.bool false, .bool false, .bool false, .bool false]) (by simp [results, Yaav.results46, go_sem]) rfl ⟨by simp [useR, useA, useB, useK, b0, b1, b2, b3, b4, b5, b6, b7, b8, b9], rfl⟩

set_option maxRecDepth 100000 in
set_option maxHeartbeats 8000000 in
def sSkel (ap ax : Option Addr) (n cap nx capx N : Nat) (ps : List RO) (xs : List Int) (w : World) (HN : Hid (ps.length = n)) (hn2 : n ≤ 1099511627776) (HS : Hid (Seg w ap (rCells ps))) (hnr : N ≤ 65536) (HNX : Hid (xs.length = nx)) (hnx2 : nx ≤ 1099511627776) (HXS : Hid (Seg w ax (iCells xs))) :
    { G : Prop × Prop × Prop × Prop // Hole G.1 → Hole G.2.1 → Hole G.2.2.1 → Hole G.2.2.2 → Calls Yaav.prog 21 #[.slice ap n cap, .int .i64 N, .slice ax nx capx] w fun e w' => RunPost (runR ps xs 20000 0 (List.replicate N 0)) w.heap.size e w' ∧ Below w.heap.size w w' } := by
  refine ⟨(?G1, ?G2, ?G3, ?G4), fun k1 k2 k3 k4 => ?main⟩
  case main =>
    have hmk0 := mk_run Yaav.underlying24 Yaav.info2 N N (Nat.le_refl _) (by omega) (by omega)
    simp only [Value.cells, Nat.mul_one, Int.natCast_zero, Int.cast_ofNat_Int] at hmk0
    generalize hR : runR ps xs 20000 0 (List.replicate N 0) = RES
    have HR := hideP hR
    clear hR
    go_enter Yaav.func21, Yaav.ntmps21
    go_wp2
    clear hmk0
    go_loopw [9, 10, 11] (fun pcv tv gv wr => ∃ (pc stp f : Nat) (rg : List Int), pcv = .int .i64 pc ∧ tv = .int .i64 stp ∧ gv = .int .i64 stp ∧ stp + f = 20000 ∧ pc ≤ n ∧ rg.length = N ∧ RR w rg wr ∧ runR ps xs f pc rg = RES) (fun _ tv _ _ => 20000 - (intOf tv).toNat)
    case atStart =>
      refine ⟨0, 0, 20000, List.replicate N 0, rfl, rfl, rfl, rfl, Nat.zero_le _, by simp, ⟨((Below.refl _ _).alloc (Nat.le_refl _) _).alloc (by simp) _, (Blk.new' w #[.int .i64 0, .slice none 0 0, .int .i64 0] 38).alloc _, ?_⟩, HR.out⟩
      have := Blk.new' (w.alloc (.cells #[.int .i64 0, .slice none 0 0, .int .i64 0] 38)) (zc #[.int .i64 0] N) 2
      have e : (zc #[.int .i64 0] N).toList = iCells (List.replicate N 0) := zc_intsS N
      rw [e] at this
      simpa using this
    case round =>
      clear HR
      obtain ⟨pc, stp, f, rg, rfl, rfl, rfl, hsf, hpc, hlen, hrr, hrun⟩ := hrel
      have hst : stp ≤ 20000 := by omega
      have HSF := hideP hsf
      have HRR := hideP hrr
      have HRUN := hideP hrun
      have HLEN := hideP hlen
      have hgl0 := hrr.res.lt
      have hgl1 := hrr.reg.lt
      have hsz0 := hrr.bel.size
      clear hsf hrr hrun hlen
      by_cases hcA : 0 < f ∧ ∃ p, ps[pc]? = some p ∧ (p.op = 0 ∨ p.op = 1 ∨ p.op = 2)
      · rename_i Q0 h0 K0 a0
        revert RES Q0 h0 K0 a0 wr u12 u13 u14 u15 u16 u17 u18 u19 u31 u32 u33 u34 u35 u36 u37 u38 u39 u40 u41 u42 u43 u44 u45 u46 u47 u48 u49 u50 u51 u52 u53 u54 u55 u56 u57 u58 u59 u60 u61 u62 u63 u64 u65 u66 u67 u68 u69 u70 u71 u72 u73 u74 u75 u76 u77 u78 u79 u80 u81 u82 u83 u84 u85 u86 u87 u88 u89 u90 u91 u92 u93 u94 u95 u96 u97 u98 u99 u100 u101 u102 u103 u104 u105 u106 u107 u108 u109 u110 u111 u112 u113 u114 u115 u116 u117 u118 u119 u120 u121 u122 u123 u124 u125 u126 u127 u128 u129 u130 u131 u132 u133 u134 u135 u136 u137 u138 u139 u140 u141 u142 u143 u144 u145 u146 u147 u148 u149 u150 u151 u152 u153 u154 u155 u156 u157 u158 u159 u160 u161 u162 u163 u164 u165 u166 u167 u168 u169 u170 u171 u172 u173 u174 u175 u176 u177 u178 u179 u180 u181 u182 u183 u184 u185 u186 u187 u188 u189 u190 u191 u192 u193 u194 u195 u196 u197 u198 u199 u200 u201 u202 u203 u204 u205 u206 u207 u208 u209 u210 u211 u212 u213 u214 u215 u216 u217 u218 u219 u220 u221 u222 u223 u224 u225 u226 u227 u228 u229 u230 u231 u232 u233 u234 u235 u236 u237 u238 u239 u240 u241 u242 u243 u244 u245 u246 u247 u248 u249 u250 u251 u252 u253 pc stp f rg hpc hst HSF HRR HRUN HLEN hgl0 hgl1 hsz0 hcA
        exact k1.out
      by_cases hcB : 0 < f ∧ ∃ p, ps[pc]? = some p ∧ (p.op = 3 ∨ p.op = 4 ∨ p.op = 5)
      · rename_i Q0 h0 K0 a0
        revert RES Q0 h0 K0 a0 wr u12 u13 u14 u15 u16 u17 u18 u19 u31 u32 u33 u34 u35 u36 u37 u38 u39 u40 u41 u42 u43 u44 u45 u46 u47 u48 u49 u50 u51 u52 u53 u54 u55 u56 u57 u58 u59 u60 u61 u62 u63 u64 u65 u66 u67 u68 u69 u70 u71 u72 u73 u74 u75 u76 u77 u78 u79 u80 u81 u82 u83 u84 u85 u86 u87 u88 u89 u90 u91 u92 u93 u94 u95 u96 u97 u98 u99 u100 u101 u102 u103 u104 u105 u106 u107 u108 u109 u110 u111 u112 u113 u114 u115 u116 u117 u118 u119 u120 u121 u122 u123 u124 u125 u126 u127 u128 u129 u130 u131 u132 u133 u134 u135 u136 u137 u138 u139 u140 u141 u142 u143 u144 u145 u146 u147 u148 u149 u150 u151 u152 u153 u154 u155 u156 u157 u158 u159 u160 u161 u162 u163 u164 u165 u166 u167 u168 u169 u170 u171 u172 u173 u174 u175 u176 u177 u178 u179 u180 u181 u182 u183 u184 u185 u186 u187 u188 u189 u190 u191 u192 u193 u194 u195 u196 u197 u198 u199 u200 u201 u202 u203 u204 u205 u206 u207 u208 u209 u210 u211 u212 u213 u214 u215 u216 u217 u218 u219 u220 u221 u222 u223 u224 u225 u226 u227 u228 u229 u230 u231 u232 u233 u234 u235 u236 u237 u238 u239 u240 u241 u242 u243 u244 u245 u246 u247 u248 u249 u250 u251 u252 u253 pc stp f rg hpc hst HSF HRR HRUN HLEN hgl0 hgl1 hsz0 hcA hcB
        exact k2.out
      by_cases hcC : 0 < f ∧ ∃ p, ps[pc]? = some p ∧ (p.op = 6 ∨ p.op = 7 ∨ p.op = 8 ∨ p.op = 9)
      · rename_i Q0 h0 K0 a0
        revert RES Q0 h0 K0 a0 wr u12 u13 u14 u15 u16 u17 u18 u19 u31 u32 u33 u34 u35 u36 u37 u38 u39 u40 u41 u42 u43 u44 u45 u46 u47 u48 u49 u50 u51 u52 u53 u54 u55 u56 u57 u58 u59 u60 u61 u62 u63 u64 u65 u66 u67 u68 u69 u70 u71 u72 u73 u74 u75 u76 u77 u78 u79 u80 u81 u82 u83 u84 u85 u86 u87 u88 u89 u90 u91 u92 u93 u94 u95 u96 u97 u98 u99 u100 u101 u102 u103 u104 u105 u106 u107 u108 u109 u110 u111 u112 u113 u114 u115 u116 u117 u118 u119 u120 u121 u122 u123 u124 u125 u126 u127 u128 u129 u130 u131 u132 u133 u134 u135 u136 u137 u138 u139 u140 u141 u142 u143 u144 u145 u146 u147 u148 u149 u150 u151 u152 u153 u154 u155 u156 u157 u158 u159 u160 u161 u162 u163 u164 u165 u166 u167 u168 u169 u170 u171 u172 u173 u174 u175 u176 u177 u178 u179 u180 u181 u182 u183 u184 u185 u186 u187 u188 u189 u190 u191 u192 u193 u194 u195 u196 u197 u198 u199 u200 u201 u202 u203 u204 u205 u206 u207 u208 u209 u210 u211 u212 u213 u214 u215 u216 u217 u218 u219 u220 u221 u222 u223 u224 u225 u226 u227 u228 u229 u230 u231 u232 u233 u234 u235 u236 u237 u238 u239 u240 u241 u242 u243 u244 u245 u246 u247 u248 u249 u250 u251 u252 u253 pc stp f rg hpc hst HSF HRR HRUN HLEN hgl0 hgl1 hsz0 hcA hcB hcC
        exact k3.out
      rename_i Q0 h0 K0 a0
      revert RES Q0 h0 K0 a0 wr u12 u13 u14 u15 u16 u17 u18 u19 u31 u32 u33 u34 u35 u36 u37 u38 u39 u40 u41 u42 u43 u44 u45 u46 u47 u48 u49 u50 u51 u52 u53 u54 u55 u56 u57 u58 u59 u60 u61 u62 u63 u64 u65 u66 u67 u68 u69 u70 u71 u72 u73 u74 u75 u76 u77 u78 u79 u80 u81 u82 u83 u84 u85 u86 u87 u88 u89 u90 u91 u92 u93 u94 u95 u96 u97 u98 u99 u100 u101 u102 u103 u104 u105 u106 u107 u108 u109 u110 u111 u112 u113 u114 u115 u116 u117 u118 u119 u120 u121 u122 u123 u124 u125 u126 u127 u128 u129 u130 u131 u132 u133 u134 u135 u136 u137 u138 u139 u140 u141 u142 u143 u144 u145 u146 u147 u148 u149 u150 u151 u152 u153 u154 u155 u156 u157 u158 u159 u160 u161 u162 u163 u164 u165 u166 u167 u168 u169 u170 u171 u172 u173 u174 u175 u176 u177 u178 u179 u180 u181 u182 u183 u184 u185 u186 u187 u188 u189 u190 u191 u192 u193 u194 u195 u196 u197 u198 u199 u200 u201 u202 u203 u204 u205 u206 u207 u208 u209 u210 u211 u212 u213 u214 u215 u216 u217 u218 u219 u220 u221 u222 u223 u224 u225 u226 u227 u228 u229 u230 u231 u232 u233 u234 u235 u236 u237 u238 u239 u240 u241 u242 u243 u244 u245 u246 u247 u248 u249 u250 u251 u252 u253 pc stp f rg hpc hst HSF HRR HRUN HLEN hgl0 hgl1 hsz0 hcA hcB hcC
      exact k4.out

end Go.Proofs.Yahaaw
