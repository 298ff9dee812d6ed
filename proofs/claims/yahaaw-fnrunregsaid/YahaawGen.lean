/-
  DERIVED. WALKS: genIf (76), genLoop (77), genCount (78), genOne (68), genBlock (43): the operations they lay are well formed, and few.
-/
import Derived.Test.YahaawBd
namespace Go.Proofs.Yahaaw
open Go.RowKit
set_option linter.unusedVariables false
set_option linter.unusedSimpArgs false

theorem inR_small {x : Int} (h0 : -1000 ≤ x) (h1 : x ≤ 1073741824) : InR x := ⟨by omega, by omega⟩

section
variable {B : Nat} {w0 : World} {rb gb : Nat} {a : Option Addr} {n cap : Nat}

theorem emit_l (pos : Nat) (ps : List SO) (c x : Int) (w : World) (h : St B w0 rb gb a n cap pos ps w) (hc : InR c) (hx : InR x) (hl : ps.length ≤ 1073741824) :
    Calls Yaav.prog 75 #[.pointer (some ⟨gb, 0, none⟩), .int .i64 c, .int .i64 x] w fun e w' => e = .returned (.int .i64 ps.length) ∧ ∃ ps' : List SO, ps'.length = ps.length + 1 ∧ St B w0 rb gb a n cap pos ps' w' :=
  (emit_any B w0 rb gb a n cap pos ps c x w h hc hx hl).mono fun e w' ⟨h1, h2⟩ => ⟨h1, _, by simp, h2⟩

theorem balance_i (pos : Nat) (ps : List SO) (d0 d1 : Nat) (D0 D1 : Int) (e0 : D0 = d0) (e1 : D1 = d1) (w : World) (h : St B w0 rb gb a n cap pos ps w) (h0 : d0 ≤ 1073741824) (h1 : d1 ≤ 1073741824) (hl : ps.length + ((d0 - d1) + (d1 - d0)) ≤ 1073741824) :
    Calls Yaav.prog 79 #[.pointer (some ⟨gb, 0, none⟩), .int .i64 D0, .int .i64 D1] w fun e w' => e = .returned (.tuple #[]) ∧ ∃ ps' : List SO, ps'.length = ps.length + ((d0 - d1) + (d1 - d0)) ∧ St B w0 rb gb a n cap pos ps' w' := by
  subst e0 e1
  exact balance_any B w0 rb gb a n cap pos ps d0 d1 w h h0 h1 hl

theorem next_s (pos : Nat) (ps : List SO) (w : World) (h : St B w0 rb gb a n cap pos ps w) :
    Calls Yaav.prog 40 #[.pointer (some ⟨rb, 0, none⟩)] w fun e w' => ∃ c : Nat, c < 256 ∧ e = .returned (.int .u8 c) ∧ (∃ pos', pos ≤ pos' ∧ pos' ≤ n ∧ (pos < n → pos' = pos + 1) ∧ St B w0 rb gb a n cap pos' ps w') :=
  (next_any B rb a n cap pos w h.rd).mono fun e w' ⟨c, h1, h2, pos', h3, h4, h5, h6⟩ => ⟨c, h1, h2, pos', h3, h5.le, h4, h.next h5 h6⟩

theorem value_s (pos : Nat) (ps : List SO) (w : World) (h : St B w0 rb gb a n cap pos ps w) :
    Calls Yaav.prog 41 #[.pointer (some ⟨rb, 0, none⟩)] w fun e w' => ∃ c : Int, InR c ∧ e = .returned (.int .i64 c) ∧ (∃ pos', pos ≤ pos' ∧ pos' ≤ n ∧ St B w0 rb gb a n cap pos' ps w') :=
  (value_any B rb a n cap pos w h.rd).mono fun e w' ⟨c, h1, h2, pos', h3, h5, h6⟩ => ⟨c, h1, h2, pos', h3, h5.le, h.next h5 h6⟩

theorem done_s (pos : Nat) (ps : List SO) (w : World) (h : St B w0 rb gb a n cap pos ps w) :
    Calls Yaav.prog 67 #[.pointer (some ⟨rb, 0, none⟩)] w fun e w' => e = .returned (.bool (decide (n ≤ pos))) ∧ St B w0 rb gb a n cap pos ps w' :=
  (done_any B rb a n cap pos w h.rd).mono fun e w' ⟨h1, h5, h6⟩ => ⟨h1, h.next h5 h6⟩

theorem St.lenCell {pos : Nat} {ps : List SO} {w : World} (h : St B w0 rb gb a n cap pos ps w) : ∃ a' c', w.cell? ⟨gb, 0, none⟩ = some (.slice a' ps.length c') := by
  obtain ⟨v, hv, hg⟩ := h.bd
  obtain ⟨a', c', rfl, _, _⟩ := hg.shape
  have d0 := hv.cell 0
  simp at d0
  exact ⟨a', c', d0⟩

/-- The reader's place, as the world has it. -/
def posOf (rb : Nat) (w : World) : Nat := (intOf ((w.cell? ⟨rb, 1, none⟩).getD (.int .i64 0))).toNat
theorem St.posOf {pos : Nat} {ps : List SO} {w : World} (h : St B w0 rb gb a n cap pos ps w) : posOf rb w = pos := by
  obtain ⟨_, c1, _⟩ := h.rd.cells
  simp [Yahaaw.posOf, c1, intOf]

variable (B w0 rb gb a n cap) in
/-- What a block of operations leaves. -/
def BlkPost (pos d : Nat) (ps : List SO) (e : Ending) (w' : World) : Prop :=
  ∃ (d' pos' : Nat) (ps' : List SO), e = .returned (.int .i64 d') ∧ St B w0 rb gb a n cap pos' ps' w' ∧ pos ≤ pos' ∧ pos' ≤ n ∧ d' ≤ d + (pos' - pos) ∧ d ≤ d' + (pos' - pos) ∧ ps'.length + ((d' - d) + (d - d')) ≤ ps.length + 8 * (pos' - pos) ∧ ps.length ≤ ps'.length

variable (B w0 rb gb a n cap) in
/-- What one construct leaves. -/
def OnePost (pos d : Nat) (ps : List SO) (e : Ending) (w' : World) : Prop :=
  ∃ (d' pos' : Nat) (ps' : List SO), e = .returned (.int .i64 d') ∧ St B w0 rb gb a n cap pos' ps' w' ∧ pos ≤ pos' ∧ pos' ≤ n ∧ d' ≤ d + 1 ∧ d ≤ d' + 1 ∧ ps'.length ≤ ps.length + 8 * (pos' - pos) + 7 ∧ ps.length ≤ ps'.length

variable (B w0 rb gb a n cap) in
def BlkOk (nest : Nat) : Prop := ∀ (pos d : Nat) (ps : List SO) (D N : Int) (w : World), St B w0 rb gb a n cap pos ps w → D = d → N = nest → d + (n - pos) ≤ 536870912 → ps.length + 8 * (n - pos) ≤ 536870912 →
  Calls Yaav.prog 43 #[.pointer (some ⟨rb, 0, none⟩), .pointer (some ⟨gb, 0, none⟩), .int .i64 D, .int .i64 N] w (BlkPost B w0 rb gb a n cap pos d ps)

set_option maxRecDepth 100000 in
set_option maxHeartbeats 2000000 in
theorem genIf_any (nest : Nat) (hnest : nest < 10) (hblk : BlkOk B w0 rb gb a n cap (nest + 1)) (pos d : Nat) (ps : List SO) (D N : Int) (w : World) (h : St B w0 rb gb a n cap pos ps w) (hD : D = d + 1) (hN : N = nest) (hd : d + (n - pos) + 1 ≤ 536870912) (hl : ps.length + 8 * (n - pos) + 8 ≤ 536870912) :
    Calls Yaav.prog 76 #[.pointer (some ⟨rb, 0, none⟩), .pointer (some ⟨gb, 0, none⟩), .int .i64 D, .int .i64 N] w (OnePost B w0 rb gb a n cap pos (d + 1) ps) := by
  have hn := h.rd.len
  have hp := h.rd.le
  obtain ⟨la0, lc0, lcell0⟩ := h.lenCell
  have HS0 := hideP h
  have FA0 := hideP (And.intro hn (And.intro hp (And.intro hd (And.intro hl hnest))))
  have hblk := hideP hblk
  have r0 : d ≤ 536870912 := by omega
  clear h hn hp hd hl
  subst hD hN
  go_enter Yaav.func76, Yaav.ntmps76
  go_wp2_with fail
  refine (emit_l pos ps 10 0 _ HS0.out (inR_small (by have q0 := FA0.out; omega) (by have q0 := FA0.out; omega)) (inR_small (by have q0 := FA0.out; omega) (by have q0 := FA0.out; omega)) (by have q0 := FA0.out; omega)).mono ?_
  rintro e w1 ⟨rfl, ps1, hl1, hs1⟩
  try clear lcell0
  obtain ⟨la1, lc1, lcell1⟩ := hs1.lenCell
  have HS1 := hideP hs1
  have FA1 := hideP (hl1)
  clear hs1 hl1 HS0
  go_wp2_with fail
  refine (hblk.out pos d ps1 _ _ _ HS1.out (by have q0 := FA0.out; have q1 := FA1.out; omega) (by have q0 := FA0.out; have q1 := FA1.out; omega) (by have q0 := FA0.out; have q1 := FA1.out; omega) (by have q0 := FA0.out; have q1 := FA1.out; omega)).mono ?_
  rintro e w2 ⟨d2, pos2, ps2, rfl, hs2, hp2, hq2, hu2, hv2, hl2, hm2⟩
  try clear lcell1
  have r2 : d2 ≤ 1073741824 := (by have q0 := FA0.out; have q1 := FA1.out; omega)
  have HS2 := hideP hs2
  have FA2 := hideP (And.intro hp2 (And.intro hq2 (And.intro hu2 (And.intro hv2 (And.intro hl2 hm2)))))
  clear hs2 hp2 hq2 hu2 hv2 hl2 hm2 HS1
  go_wp2_with fail
  refine (balance_i pos2 ps2 d2 d _ _ (by have q0 := FA0.out; have q1 := FA1.out; have q2 := FA2.out; omega) (by have q0 := FA0.out; have q1 := FA1.out; have q2 := FA2.out; omega) _ HS2.out (by have q0 := FA0.out; have q1 := FA1.out; have q2 := FA2.out; omega) (by have q0 := FA0.out; have q1 := FA1.out; have q2 := FA2.out; omega) (by have q0 := FA0.out; have q1 := FA1.out; have q2 := FA2.out; omega)).mono ?_
  rintro e w3 ⟨rfl, ps3, hl3, hs3⟩
  obtain ⟨la3, lc3, lcell3⟩ := hs3.lenCell
  have HS3 := hideP hs3
  have FA3 := hideP (hl3)
  clear hs3 hl3 HS2
  go_wp2_with fail
  refine (emit_l pos2 ps3 9 0 _ HS3.out (inR_small (by have q0 := FA0.out; have q1 := FA1.out; have q2 := FA2.out; have q3 := FA3.out; omega) (by have q0 := FA0.out; have q1 := FA1.out; have q2 := FA2.out; have q3 := FA3.out; omega)) (inR_small (by have q0 := FA0.out; have q1 := FA1.out; have q2 := FA2.out; have q3 := FA3.out; omega) (by have q0 := FA0.out; have q1 := FA1.out; have q2 := FA2.out; have q3 := FA3.out; omega)) (by have q0 := FA0.out; have q1 := FA1.out; have q2 := FA2.out; have q3 := FA3.out; omega)).mono ?_
  rintro e w4 ⟨rfl, ps4, hl4, hs4⟩
  try clear lcell3
  obtain ⟨la4, lc4, lcell4⟩ := hs4.lenCell
  have HS4 := hideP hs4
  have FA4 := hideP (hl4)
  clear hs4 hl4 HS3
  go_wp2_with fail
  refine (patch_any B w0 rb gb a n cap pos2 ps4 ps.length (ps4.length : Int) _ HS4.out (by have q0 := FA0.out; have q1 := FA1.out; have q2 := FA2.out; have q3 := FA3.out; have q4 := FA4.out; omega) (inR_small (by have q0 := FA0.out; have q1 := FA1.out; have q2 := FA2.out; have q3 := FA3.out; have q4 := FA4.out; omega) (by have q0 := FA0.out; have q1 := FA1.out; have q2 := FA2.out; have q3 := FA3.out; have q4 := FA4.out; omega)) (by have q0 := FA0.out; have q1 := FA1.out; have q2 := FA2.out; have q3 := FA3.out; have q4 := FA4.out; omega)).mono ?_
  rintro e w5 ⟨rfl, ps5, hl5, hs5⟩
  try clear lcell4
  have HS5 := hideP hs5
  have FA5 := hideP (hl5)
  clear hs5 hl5 HS4
  go_wp2_with fail
  refine (hblk.out pos2 d ps5 _ _ _ HS5.out (by have q0 := FA0.out; have q1 := FA1.out; have q2 := FA2.out; have q3 := FA3.out; have q4 := FA4.out; have q5 := FA5.out; omega) (by have q0 := FA0.out; have q1 := FA1.out; have q2 := FA2.out; have q3 := FA3.out; have q4 := FA4.out; have q5 := FA5.out; omega) (by have q0 := FA0.out; have q1 := FA1.out; have q2 := FA2.out; have q3 := FA3.out; have q4 := FA4.out; have q5 := FA5.out; omega) (by have q0 := FA0.out; have q1 := FA1.out; have q2 := FA2.out; have q3 := FA3.out; have q4 := FA4.out; have q5 := FA5.out; omega)).mono ?_
  rintro e w6 ⟨d6, pos6, ps6, rfl, hs6, hp6, hq6, hu6, hv6, hl6, hm6⟩
  try clear lcell5
  have r6 : d6 ≤ 1073741824 := (by have q0 := FA0.out; have q1 := FA1.out; have q2 := FA2.out; have q3 := FA3.out; have q4 := FA4.out; have q5 := FA5.out; omega)
  have HS6 := hideP hs6
  have FA6 := hideP (And.intro hp6 (And.intro hq6 (And.intro hu6 (And.intro hv6 (And.intro hl6 hm6)))))
  clear hs6 hp6 hq6 hu6 hv6 hl6 hm6 HS5
  go_wp2_with fail
  refine (balance_i pos6 ps6 d6 d _ _ (by have q0 := FA0.out; have q1 := FA1.out; have q2 := FA2.out; have q3 := FA3.out; have q4 := FA4.out; have q5 := FA5.out; have q6 := FA6.out; omega) (by have q0 := FA0.out; have q1 := FA1.out; have q2 := FA2.out; have q3 := FA3.out; have q4 := FA4.out; have q5 := FA5.out; have q6 := FA6.out; omega) _ HS6.out (by have q0 := FA0.out; have q1 := FA1.out; have q2 := FA2.out; have q3 := FA3.out; have q4 := FA4.out; have q5 := FA5.out; have q6 := FA6.out; omega) (by have q0 := FA0.out; have q1 := FA1.out; have q2 := FA2.out; have q3 := FA3.out; have q4 := FA4.out; have q5 := FA5.out; have q6 := FA6.out; omega) (by have q0 := FA0.out; have q1 := FA1.out; have q2 := FA2.out; have q3 := FA3.out; have q4 := FA4.out; have q5 := FA5.out; have q6 := FA6.out; omega)).mono ?_
  rintro e w7 ⟨rfl, ps7, hl7, hs7⟩
  obtain ⟨la7, lc7, lcell7⟩ := hs7.lenCell
  have HS7 := hideP hs7
  have FA7 := hideP (hl7)
  clear hs7 hl7 HS6
  go_wp2_with fail
  refine (patch_any B w0 rb gb a n cap pos6 ps7 ps3.length (ps7.length : Int) _ HS7.out (by have q0 := FA0.out; have q1 := FA1.out; have q2 := FA2.out; have q3 := FA3.out; have q4 := FA4.out; have q5 := FA5.out; have q6 := FA6.out; have q7 := FA7.out; omega) (inR_small (by have q0 := FA0.out; have q1 := FA1.out; have q2 := FA2.out; have q3 := FA3.out; have q4 := FA4.out; have q5 := FA5.out; have q6 := FA6.out; have q7 := FA7.out; omega) (by have q0 := FA0.out; have q1 := FA1.out; have q2 := FA2.out; have q3 := FA3.out; have q4 := FA4.out; have q5 := FA5.out; have q6 := FA6.out; have q7 := FA7.out; omega)) (by have q0 := FA0.out; have q1 := FA1.out; have q2 := FA2.out; have q3 := FA3.out; have q4 := FA4.out; have q5 := FA5.out; have q6 := FA6.out; have q7 := FA7.out; omega)).mono ?_
  rintro e w8 ⟨rfl, ps8, hl8, hs8⟩
  try clear lcell7
  have HS8 := hideP hs8
  have FA8 := hideP (hl8)
  clear hs8 hl8 HS7
  go_wp2
  go_ret
  exact ⟨d, pos6, ps8, by go_num, HS8.out, (by have q0 := FA0.out; have q1 := FA1.out; have q2 := FA2.out; have q3 := FA3.out; have q4 := FA4.out; have q5 := FA5.out; have q6 := FA6.out; have q7 := FA7.out; have q8 := FA8.out; omega), (by have q0 := FA0.out; have q1 := FA1.out; have q2 := FA2.out; have q3 := FA3.out; have q4 := FA4.out; have q5 := FA5.out; have q6 := FA6.out; have q7 := FA7.out; have q8 := FA8.out; omega), (by have q0 := FA0.out; have q1 := FA1.out; have q2 := FA2.out; have q3 := FA3.out; have q4 := FA4.out; have q5 := FA5.out; have q6 := FA6.out; have q7 := FA7.out; have q8 := FA8.out; omega), (by have q0 := FA0.out; have q1 := FA1.out; have q2 := FA2.out; have q3 := FA3.out; have q4 := FA4.out; have q5 := FA5.out; have q6 := FA6.out; have q7 := FA7.out; have q8 := FA8.out; omega), (by have q0 := FA0.out; have q1 := FA1.out; have q2 := FA2.out; have q3 := FA3.out; have q4 := FA4.out; have q5 := FA5.out; have q6 := FA6.out; have q7 := FA7.out; have q8 := FA8.out; omega), (by have q0 := FA0.out; have q1 := FA1.out; have q2 := FA2.out; have q3 := FA3.out; have q4 := FA4.out; have q5 := FA5.out; have q6 := FA6.out; have q7 := FA7.out; have q8 := FA8.out; omega)⟩

set_option maxRecDepth 100000 in
set_option maxHeartbeats 2000000 in
theorem genLoop_any (nest : Nat) (hnest : nest < 10) (hblk : BlkOk B w0 rb gb a n cap (nest + 1)) (pos d : Nat) (ps : List SO) (D N : Int) (w : World) (h : St B w0 rb gb a n cap pos ps w) (hD : D = d) (hN : N = nest) (hd : d + (n - pos) + 1 ≤ 536870912) (hl : ps.length + 8 * (n - pos) + 8 ≤ 536870912) :
    Calls Yaav.prog 77 #[.pointer (some ⟨rb, 0, none⟩), .pointer (some ⟨gb, 0, none⟩), .int .i64 D, .int .i64 N] w (OnePost B w0 rb gb a n cap pos (d) ps) := by
  have hn := h.rd.len
  have hp := h.rd.le
  obtain ⟨la0, lc0, lcell0⟩ := h.lenCell
  have HS0 := hideP h
  have FA0 := hideP (And.intro hn (And.intro hp (And.intro hd (And.intro hl hnest))))
  have hblk := hideP hblk
  have r0 : d ≤ 536870912 := by omega
  clear h hn hp hd hl
  subst hD hN
  go_enter Yaav.func77, Yaav.ntmps77
  go_wp2_with fail
  refine (hblk.out pos d ps _ _ _ HS0.out (by have q0 := FA0.out; omega) (by have q0 := FA0.out; omega) (by have q0 := FA0.out; omega) (by have q0 := FA0.out; omega)).mono ?_
  rintro e w1 ⟨d1, pos1, ps1, rfl, hs1, hp1, hq1, hu1, hv1, hl1, hm1⟩
  try clear lcell0
  have r1 : d1 ≤ 1073741824 := (by have q0 := FA0.out; omega)
  have HS1 := hideP hs1
  have FA1 := hideP (And.intro hp1 (And.intro hq1 (And.intro hu1 (And.intro hv1 (And.intro hl1 hm1)))))
  clear hs1 hp1 hq1 hu1 hv1 hl1 hm1 HS0
  go_wp2_with fail
  refine (balance_i pos1 ps1 d1 d _ _ (by have q0 := FA0.out; have q1 := FA1.out; omega) (by have q0 := FA0.out; have q1 := FA1.out; omega) _ HS1.out (by have q0 := FA0.out; have q1 := FA1.out; omega) (by have q0 := FA0.out; have q1 := FA1.out; omega) (by have q0 := FA0.out; have q1 := FA1.out; omega)).mono ?_
  rintro e w2 ⟨rfl, ps2, hl2, hs2⟩
  obtain ⟨la2, lc2, lcell2⟩ := hs2.lenCell
  have HS2 := hideP hs2
  have FA2 := hideP (hl2)
  clear hs2 hl2 HS1
  go_wp2_with fail
  refine (next_s pos1 ps2 _ HS2.out).mono ?_
  rintro e w3 ⟨c3, hc3, rfl, pos3, hp3, hq3, _, hs3⟩
  try clear lcell2
  obtain ⟨la3, lc3, lcell3⟩ := hs3.lenCell
  have HS3 := hideP hs3
  have FA3 := hideP (And.intro hp3 hq3)
  clear hs3 hp3 hq3 HS2
  have h3 : ((c3 : Int) % 3 == 0) = true ∨ (((c3 : Int) % 3 == 0) = false ∧ ((c3 : Int) % 3 == 1) = true) ∨ (((c3 : Int) % 3 == 0) = false ∧ ((c3 : Int) % 3 == 1) = false) := by
    simp only [beq_iff_eq, beq_eq_false_iff_ne]; omega
  rcases h3 with k0 | ⟨k0, k1⟩ | ⟨k0, k1⟩
  · by_cases hd1 : 1 ≤ d
    · go_wp2_with fail
      refine (emit_l pos3 ps2 5 0 _ HS3.out (inR_small (by have q0 := FA0.out; have q1 := FA1.out; have q2 := FA2.out; have q3 := FA3.out; omega) (by have q0 := FA0.out; have q1 := FA1.out; have q2 := FA2.out; have q3 := FA3.out; omega)) (inR_small (by have q0 := FA0.out; have q1 := FA1.out; have q2 := FA2.out; have q3 := FA3.out; omega) (by have q0 := FA0.out; have q1 := FA1.out; have q2 := FA2.out; have q3 := FA3.out; omega)) (by have q0 := FA0.out; have q1 := FA1.out; have q2 := FA2.out; have q3 := FA3.out; omega)).mono ?_
      rintro e w4 ⟨rfl, ps4, hl4, hs4⟩
      try clear lcell3
      obtain ⟨la4, lc4, lcell4⟩ := hs4.lenCell
      have HS4 := hideP hs4
      have FA4 := hideP (hl4)
      clear hs4 hl4 HS3
      go_wp2_with fail
      refine (emit_l pos3 ps4 10 (ps.length : Int) _ HS4.out (inR_small (by have q0 := FA0.out; have q1 := FA1.out; have q2 := FA2.out; have q3 := FA3.out; have q4 := FA4.out; omega) (by have q0 := FA0.out; have q1 := FA1.out; have q2 := FA2.out; have q3 := FA3.out; have q4 := FA4.out; omega)) (inR_small (by have q0 := FA0.out; have q1 := FA1.out; have q2 := FA2.out; have q3 := FA3.out; have q4 := FA4.out; omega) (by have q0 := FA0.out; have q1 := FA1.out; have q2 := FA2.out; have q3 := FA3.out; have q4 := FA4.out; omega)) (by have q0 := FA0.out; have q1 := FA1.out; have q2 := FA2.out; have q3 := FA3.out; have q4 := FA4.out; omega)).mono ?_
      rintro e w5 ⟨rfl, ps5, hl5, hs5⟩
      try clear lcell4
      obtain ⟨la5, lc5, lcell5⟩ := hs5.lenCell
      have HS5 := hideP hs5
      have FA5 := hideP (hl5)
      clear hs5 hl5 HS4
      go_wp2
      go_ret
      exact ⟨d, pos3, ps5, by go_num, HS5.out, (by have q0 := FA0.out; have q1 := FA1.out; have q2 := FA2.out; have q3 := FA3.out; have q4 := FA4.out; have q5 := FA5.out; omega), (by have q0 := FA0.out; have q1 := FA1.out; have q2 := FA2.out; have q3 := FA3.out; have q4 := FA4.out; have q5 := FA5.out; omega), (by have q0 := FA0.out; have q1 := FA1.out; have q2 := FA2.out; have q3 := FA3.out; have q4 := FA4.out; have q5 := FA5.out; omega), (by have q0 := FA0.out; have q1 := FA1.out; have q2 := FA2.out; have q3 := FA3.out; have q4 := FA4.out; have q5 := FA5.out; omega), (by have q0 := FA0.out; have q1 := FA1.out; have q2 := FA2.out; have q3 := FA3.out; have q4 := FA4.out; have q5 := FA5.out; omega), (by have q0 := FA0.out; have q1 := FA1.out; have q2 := FA2.out; have q3 := FA3.out; have q4 := FA4.out; have q5 := FA5.out; omega)⟩
    · go_wp2_with fail
      refine (emit_l pos3 ps2 0 ((c3 : Int) % 2) _ HS3.out (inR_small (by have q0 := FA0.out; have q1 := FA1.out; have q2 := FA2.out; have q3 := FA3.out; omega) (by have q0 := FA0.out; have q1 := FA1.out; have q2 := FA2.out; have q3 := FA3.out; omega)) (inR_small (by have q0 := FA0.out; have q1 := FA1.out; have q2 := FA2.out; have q3 := FA3.out; omega) (by have q0 := FA0.out; have q1 := FA1.out; have q2 := FA2.out; have q3 := FA3.out; omega)) (by have q0 := FA0.out; have q1 := FA1.out; have q2 := FA2.out; have q3 := FA3.out; omega)).mono ?_
      rintro e w4 ⟨rfl, ps4, hl4, hs4⟩
      try clear lcell3
      obtain ⟨la4, lc4, lcell4⟩ := hs4.lenCell
      have HS4 := hideP hs4
      have FA4 := hideP (hl4)
      clear hs4 hl4 HS3
      go_wp2_with fail
      refine (emit_l pos3 ps4 10 (ps.length : Int) _ HS4.out (inR_small (by have q0 := FA0.out; have q1 := FA1.out; have q2 := FA2.out; have q3 := FA3.out; have q4 := FA4.out; omega) (by have q0 := FA0.out; have q1 := FA1.out; have q2 := FA2.out; have q3 := FA3.out; have q4 := FA4.out; omega)) (inR_small (by have q0 := FA0.out; have q1 := FA1.out; have q2 := FA2.out; have q3 := FA3.out; have q4 := FA4.out; omega) (by have q0 := FA0.out; have q1 := FA1.out; have q2 := FA2.out; have q3 := FA3.out; have q4 := FA4.out; omega)) (by have q0 := FA0.out; have q1 := FA1.out; have q2 := FA2.out; have q3 := FA3.out; have q4 := FA4.out; omega)).mono ?_
      rintro e w5 ⟨rfl, ps5, hl5, hs5⟩
      try clear lcell4
      obtain ⟨la5, lc5, lcell5⟩ := hs5.lenCell
      have HS5 := hideP hs5
      have FA5 := hideP (hl5)
      clear hs5 hl5 HS4
      go_wp2
      go_ret
      exact ⟨d, pos3, ps5, by go_num, HS5.out, (by have q0 := FA0.out; have q1 := FA1.out; have q2 := FA2.out; have q3 := FA3.out; have q4 := FA4.out; have q5 := FA5.out; omega), (by have q0 := FA0.out; have q1 := FA1.out; have q2 := FA2.out; have q3 := FA3.out; have q4 := FA4.out; have q5 := FA5.out; omega), (by have q0 := FA0.out; have q1 := FA1.out; have q2 := FA2.out; have q3 := FA3.out; have q4 := FA4.out; have q5 := FA5.out; omega), (by have q0 := FA0.out; have q1 := FA1.out; have q2 := FA2.out; have q3 := FA3.out; have q4 := FA4.out; have q5 := FA5.out; omega), (by have q0 := FA0.out; have q1 := FA1.out; have q2 := FA2.out; have q3 := FA3.out; have q4 := FA4.out; have q5 := FA5.out; omega), (by have q0 := FA0.out; have q1 := FA1.out; have q2 := FA2.out; have q3 := FA3.out; have q4 := FA4.out; have q5 := FA5.out; omega)⟩
  · go_wp2_with fail
    refine (emit_l pos3 ps2 1 ((c3 : Int) % 4) _ HS3.out (inR_small (by have q0 := FA0.out; have q1 := FA1.out; have q2 := FA2.out; have q3 := FA3.out; omega) (by have q0 := FA0.out; have q1 := FA1.out; have q2 := FA2.out; have q3 := FA3.out; omega)) (inR_small (by have q0 := FA0.out; have q1 := FA1.out; have q2 := FA2.out; have q3 := FA3.out; omega) (by have q0 := FA0.out; have q1 := FA1.out; have q2 := FA2.out; have q3 := FA3.out; omega)) (by have q0 := FA0.out; have q1 := FA1.out; have q2 := FA2.out; have q3 := FA3.out; omega)).mono ?_
    rintro e w4 ⟨rfl, ps4, hl4, hs4⟩
    try clear lcell3
    obtain ⟨la4, lc4, lcell4⟩ := hs4.lenCell
    have HS4 := hideP hs4
    have FA4 := hideP (hl4)
    clear hs4 hl4 HS3
    go_wp2_with fail
    refine (emit_l pos3 ps4 10 (ps.length : Int) _ HS4.out (inR_small (by have q0 := FA0.out; have q1 := FA1.out; have q2 := FA2.out; have q3 := FA3.out; have q4 := FA4.out; omega) (by have q0 := FA0.out; have q1 := FA1.out; have q2 := FA2.out; have q3 := FA3.out; have q4 := FA4.out; omega)) (inR_small (by have q0 := FA0.out; have q1 := FA1.out; have q2 := FA2.out; have q3 := FA3.out; have q4 := FA4.out; omega) (by have q0 := FA0.out; have q1 := FA1.out; have q2 := FA2.out; have q3 := FA3.out; have q4 := FA4.out; omega)) (by have q0 := FA0.out; have q1 := FA1.out; have q2 := FA2.out; have q3 := FA3.out; have q4 := FA4.out; omega)).mono ?_
    rintro e w5 ⟨rfl, ps5, hl5, hs5⟩
    try clear lcell4
    obtain ⟨la5, lc5, lcell5⟩ := hs5.lenCell
    have HS5 := hideP hs5
    have FA5 := hideP (hl5)
    clear hs5 hl5 HS4
    go_wp2
    go_ret
    exact ⟨d, pos3, ps5, by go_num, HS5.out, (by have q0 := FA0.out; have q1 := FA1.out; have q2 := FA2.out; have q3 := FA3.out; have q4 := FA4.out; have q5 := FA5.out; omega), (by have q0 := FA0.out; have q1 := FA1.out; have q2 := FA2.out; have q3 := FA3.out; have q4 := FA4.out; have q5 := FA5.out; omega), (by have q0 := FA0.out; have q1 := FA1.out; have q2 := FA2.out; have q3 := FA3.out; have q4 := FA4.out; have q5 := FA5.out; omega), (by have q0 := FA0.out; have q1 := FA1.out; have q2 := FA2.out; have q3 := FA3.out; have q4 := FA4.out; have q5 := FA5.out; omega), (by have q0 := FA0.out; have q1 := FA1.out; have q2 := FA2.out; have q3 := FA3.out; have q4 := FA4.out; have q5 := FA5.out; omega), (by have q0 := FA0.out; have q1 := FA1.out; have q2 := FA2.out; have q3 := FA3.out; have q4 := FA4.out; have q5 := FA5.out; omega)⟩
  · go_wp2_with fail
    refine (emit_l pos3 ps2 0 ((c3 : Int) % 2) _ HS3.out (inR_small (by have q0 := FA0.out; have q1 := FA1.out; have q2 := FA2.out; have q3 := FA3.out; omega) (by have q0 := FA0.out; have q1 := FA1.out; have q2 := FA2.out; have q3 := FA3.out; omega)) (inR_small (by have q0 := FA0.out; have q1 := FA1.out; have q2 := FA2.out; have q3 := FA3.out; omega) (by have q0 := FA0.out; have q1 := FA1.out; have q2 := FA2.out; have q3 := FA3.out; omega)) (by have q0 := FA0.out; have q1 := FA1.out; have q2 := FA2.out; have q3 := FA3.out; omega)).mono ?_
    rintro e w4 ⟨rfl, ps4, hl4, hs4⟩
    try clear lcell3
    obtain ⟨la4, lc4, lcell4⟩ := hs4.lenCell
    have HS4 := hideP hs4
    have FA4 := hideP (hl4)
    clear hs4 hl4 HS3
    go_wp2_with fail
    refine (emit_l pos3 ps4 10 (ps.length : Int) _ HS4.out (inR_small (by have q0 := FA0.out; have q1 := FA1.out; have q2 := FA2.out; have q3 := FA3.out; have q4 := FA4.out; omega) (by have q0 := FA0.out; have q1 := FA1.out; have q2 := FA2.out; have q3 := FA3.out; have q4 := FA4.out; omega)) (inR_small (by have q0 := FA0.out; have q1 := FA1.out; have q2 := FA2.out; have q3 := FA3.out; have q4 := FA4.out; omega) (by have q0 := FA0.out; have q1 := FA1.out; have q2 := FA2.out; have q3 := FA3.out; have q4 := FA4.out; omega)) (by have q0 := FA0.out; have q1 := FA1.out; have q2 := FA2.out; have q3 := FA3.out; have q4 := FA4.out; omega)).mono ?_
    rintro e w5 ⟨rfl, ps5, hl5, hs5⟩
    try clear lcell4
    obtain ⟨la5, lc5, lcell5⟩ := hs5.lenCell
    have HS5 := hideP hs5
    have FA5 := hideP (hl5)
    clear hs5 hl5 HS4
    go_wp2
    go_ret
    exact ⟨d, pos3, ps5, by go_num, HS5.out, (by have q0 := FA0.out; have q1 := FA1.out; have q2 := FA2.out; have q3 := FA3.out; have q4 := FA4.out; have q5 := FA5.out; omega), (by have q0 := FA0.out; have q1 := FA1.out; have q2 := FA2.out; have q3 := FA3.out; have q4 := FA4.out; have q5 := FA5.out; omega), (by have q0 := FA0.out; have q1 := FA1.out; have q2 := FA2.out; have q3 := FA3.out; have q4 := FA4.out; have q5 := FA5.out; omega), (by have q0 := FA0.out; have q1 := FA1.out; have q2 := FA2.out; have q3 := FA3.out; have q4 := FA4.out; have q5 := FA5.out; omega), (by have q0 := FA0.out; have q1 := FA1.out; have q2 := FA2.out; have q3 := FA3.out; have q4 := FA4.out; have q5 := FA5.out; omega), (by have q0 := FA0.out; have q1 := FA1.out; have q2 := FA2.out; have q3 := FA3.out; have q4 := FA4.out; have q5 := FA5.out; omega)⟩

set_option maxRecDepth 100000 in
set_option maxHeartbeats 2000000 in
theorem genCount_any (nest : Nat) (hnest : nest < 10) (hblk : BlkOk B w0 rb gb a n cap (nest + 1)) (pos d : Nat) (ps : List SO) (D N : Int) (w : World) (h : St B w0 rb gb a n cap pos ps w) (hD : D = d) (hN : N = nest) (hd : d + (n - pos) + 1 ≤ 536870912) (hl : ps.length + 8 * (n - pos) + 8 ≤ 536870912) :
    Calls Yaav.prog 78 #[.pointer (some ⟨rb, 0, none⟩), .pointer (some ⟨gb, 0, none⟩), .int .i64 D, .int .i64 N] w (OnePost B w0 rb gb a n cap pos (d) ps) := by
  have hn := h.rd.len
  have hp := h.rd.le
  obtain ⟨la0, lc0, lcell0⟩ := h.lenCell
  have HS0 := hideP h
  have FA0 := hideP (And.intro hn (And.intro hp (And.intro hd (And.intro hl hnest))))
  have hblk := hideP hblk
  have r0 : d ≤ 536870912 := by omega
  clear h hn hp hd hl
  subst hD hN
  go_enter Yaav.func78, Yaav.ntmps78
  go_wp2_with fail
  refine (next_s pos ps _ HS0.out).mono ?_
  rintro e w1 ⟨c1, hc1, rfl, pos1, hp1, hq1, _, hs1⟩
  try clear lcell0
  obtain ⟨la1, lc1, lcell1⟩ := hs1.lenCell
  have HS1 := hideP hs1
  have FA1 := hideP (And.intro hp1 hq1)
  clear hs1 hp1 hq1 HS0
  go_wp2_with fail
  refine (emit_l pos1 ps 0 ((c1 : Int) % 24) _ HS1.out (inR_small (by have q0 := FA0.out; have q1 := FA1.out; omega) (by have q0 := FA0.out; have q1 := FA1.out; omega)) (inR_small (by have q0 := FA0.out; have q1 := FA1.out; omega) (by have q0 := FA0.out; have q1 := FA1.out; omega)) (by have q0 := FA0.out; have q1 := FA1.out; omega)).mono ?_
  rintro e w2 ⟨rfl, ps2, hl2, hs2⟩
  try clear lcell1
  obtain ⟨la2, lc2, lcell2⟩ := hs2.lenCell
  have HS2 := hideP hs2
  have FA2 := hideP (hl2)
  clear hs2 hl2 HS1
  go_wp2_with fail
  refine (hblk.out pos1 (d + 1) ps2 _ _ _ HS2.out (by have q0 := FA0.out; have q1 := FA1.out; have q2 := FA2.out; omega) (by have q0 := FA0.out; have q1 := FA1.out; have q2 := FA2.out; omega) (by have q0 := FA0.out; have q1 := FA1.out; have q2 := FA2.out; omega) (by have q0 := FA0.out; have q1 := FA1.out; have q2 := FA2.out; omega)).mono ?_
  rintro e w3 ⟨d3, pos3, ps3, rfl, hs3, hp3, hq3, hu3, hv3, hl3, hm3⟩
  try clear lcell2
  have r3 : d3 ≤ 1073741824 := (by have q0 := FA0.out; have q1 := FA1.out; have q2 := FA2.out; omega)
  have HS3 := hideP hs3
  have FA3 := hideP (And.intro hp3 (And.intro hq3 (And.intro hu3 (And.intro hv3 (And.intro hl3 hm3)))))
  clear hs3 hp3 hq3 hu3 hv3 hl3 hm3 HS2
  go_wp2_with fail
  refine (balance_i pos3 ps3 d3 (d + 1) _ _ (by have q0 := FA0.out; have q1 := FA1.out; have q2 := FA2.out; have q3 := FA3.out; omega) (by have q0 := FA0.out; have q1 := FA1.out; have q2 := FA2.out; have q3 := FA3.out; omega) _ HS3.out (by have q0 := FA0.out; have q1 := FA1.out; have q2 := FA2.out; have q3 := FA3.out; omega) (by have q0 := FA0.out; have q1 := FA1.out; have q2 := FA2.out; have q3 := FA3.out; omega) (by have q0 := FA0.out; have q1 := FA1.out; have q2 := FA2.out; have q3 := FA3.out; omega)).mono ?_
  rintro e w4 ⟨rfl, ps4, hl4, hs4⟩
  obtain ⟨la4, lc4, lcell4⟩ := hs4.lenCell
  have HS4 := hideP hs4
  have FA4 := hideP (hl4)
  clear hs4 hl4 HS3
  go_wp2_with fail
  refine (emit_l pos3 ps4 5 0 _ HS4.out (inR_small (by have q0 := FA0.out; have q1 := FA1.out; have q2 := FA2.out; have q3 := FA3.out; have q4 := FA4.out; omega) (by have q0 := FA0.out; have q1 := FA1.out; have q2 := FA2.out; have q3 := FA3.out; have q4 := FA4.out; omega)) (inR_small (by have q0 := FA0.out; have q1 := FA1.out; have q2 := FA2.out; have q3 := FA3.out; have q4 := FA4.out; omega) (by have q0 := FA0.out; have q1 := FA1.out; have q2 := FA2.out; have q3 := FA3.out; have q4 := FA4.out; omega)) (by have q0 := FA0.out; have q1 := FA1.out; have q2 := FA2.out; have q3 := FA3.out; have q4 := FA4.out; omega)).mono ?_
  rintro e w5 ⟨rfl, ps5, hl5, hs5⟩
  try clear lcell4
  obtain ⟨la5, lc5, lcell5⟩ := hs5.lenCell
  have HS5 := hideP hs5
  have FA5 := hideP (hl5)
  clear hs5 hl5 HS4
  go_wp2_with fail
  refine (emit_l pos3 ps5 10 0 _ HS5.out (inR_small (by have q0 := FA0.out; have q1 := FA1.out; have q2 := FA2.out; have q3 := FA3.out; have q4 := FA4.out; have q5 := FA5.out; omega) (by have q0 := FA0.out; have q1 := FA1.out; have q2 := FA2.out; have q3 := FA3.out; have q4 := FA4.out; have q5 := FA5.out; omega)) (inR_small (by have q0 := FA0.out; have q1 := FA1.out; have q2 := FA2.out; have q3 := FA3.out; have q4 := FA4.out; have q5 := FA5.out; omega) (by have q0 := FA0.out; have q1 := FA1.out; have q2 := FA2.out; have q3 := FA3.out; have q4 := FA4.out; have q5 := FA5.out; omega)) (by have q0 := FA0.out; have q1 := FA1.out; have q2 := FA2.out; have q3 := FA3.out; have q4 := FA4.out; have q5 := FA5.out; omega)).mono ?_
  rintro e w6 ⟨rfl, ps6, hl6, hs6⟩
  try clear lcell5
  obtain ⟨la6, lc6, lcell6⟩ := hs6.lenCell
  have HS6 := hideP hs6
  have FA6 := hideP (hl6)
  clear hs6 hl6 HS5
  go_wp2_with fail
  refine (emit_l pos3 ps6 0 1 _ HS6.out (inR_small (by have q0 := FA0.out; have q1 := FA1.out; have q2 := FA2.out; have q3 := FA3.out; have q4 := FA4.out; have q5 := FA5.out; have q6 := FA6.out; omega) (by have q0 := FA0.out; have q1 := FA1.out; have q2 := FA2.out; have q3 := FA3.out; have q4 := FA4.out; have q5 := FA5.out; have q6 := FA6.out; omega)) (inR_small (by have q0 := FA0.out; have q1 := FA1.out; have q2 := FA2.out; have q3 := FA3.out; have q4 := FA4.out; have q5 := FA5.out; have q6 := FA6.out; omega) (by have q0 := FA0.out; have q1 := FA1.out; have q2 := FA2.out; have q3 := FA3.out; have q4 := FA4.out; have q5 := FA5.out; have q6 := FA6.out; omega)) (by have q0 := FA0.out; have q1 := FA1.out; have q2 := FA2.out; have q3 := FA3.out; have q4 := FA4.out; have q5 := FA5.out; have q6 := FA6.out; omega)).mono ?_
  rintro e w7 ⟨rfl, ps7, hl7, hs7⟩
  try clear lcell6
  obtain ⟨la7, lc7, lcell7⟩ := hs7.lenCell
  have HS7 := hideP hs7
  have FA7 := hideP (hl7)
  clear hs7 hl7 HS6
  go_wp2_with fail
  refine (emit_l pos3 ps7 3 0 _ HS7.out (inR_small (by have q0 := FA0.out; have q1 := FA1.out; have q2 := FA2.out; have q3 := FA3.out; have q4 := FA4.out; have q5 := FA5.out; have q6 := FA6.out; have q7 := FA7.out; omega) (by have q0 := FA0.out; have q1 := FA1.out; have q2 := FA2.out; have q3 := FA3.out; have q4 := FA4.out; have q5 := FA5.out; have q6 := FA6.out; have q7 := FA7.out; omega)) (inR_small (by have q0 := FA0.out; have q1 := FA1.out; have q2 := FA2.out; have q3 := FA3.out; have q4 := FA4.out; have q5 := FA5.out; have q6 := FA6.out; have q7 := FA7.out; omega) (by have q0 := FA0.out; have q1 := FA1.out; have q2 := FA2.out; have q3 := FA3.out; have q4 := FA4.out; have q5 := FA5.out; have q6 := FA6.out; have q7 := FA7.out; omega)) (by have q0 := FA0.out; have q1 := FA1.out; have q2 := FA2.out; have q3 := FA3.out; have q4 := FA4.out; have q5 := FA5.out; have q6 := FA6.out; have q7 := FA7.out; omega)).mono ?_
  rintro e w8 ⟨rfl, ps8, hl8, hs8⟩
  try clear lcell7
  obtain ⟨la8, lc8, lcell8⟩ := hs8.lenCell
  have HS8 := hideP hs8
  have FA8 := hideP (hl8)
  clear hs8 hl8 HS7
  go_wp2_with fail
  refine (emit_l pos3 ps8 9 (ps2.length : Int) _ HS8.out (inR_small (by have q0 := FA0.out; have q1 := FA1.out; have q2 := FA2.out; have q3 := FA3.out; have q4 := FA4.out; have q5 := FA5.out; have q6 := FA6.out; have q7 := FA7.out; have q8 := FA8.out; omega) (by have q0 := FA0.out; have q1 := FA1.out; have q2 := FA2.out; have q3 := FA3.out; have q4 := FA4.out; have q5 := FA5.out; have q6 := FA6.out; have q7 := FA7.out; have q8 := FA8.out; omega)) (inR_small (by have q0 := FA0.out; have q1 := FA1.out; have q2 := FA2.out; have q3 := FA3.out; have q4 := FA4.out; have q5 := FA5.out; have q6 := FA6.out; have q7 := FA7.out; have q8 := FA8.out; omega) (by have q0 := FA0.out; have q1 := FA1.out; have q2 := FA2.out; have q3 := FA3.out; have q4 := FA4.out; have q5 := FA5.out; have q6 := FA6.out; have q7 := FA7.out; have q8 := FA8.out; omega)) (by have q0 := FA0.out; have q1 := FA1.out; have q2 := FA2.out; have q3 := FA3.out; have q4 := FA4.out; have q5 := FA5.out; have q6 := FA6.out; have q7 := FA7.out; have q8 := FA8.out; omega)).mono ?_
  rintro e w9 ⟨rfl, ps9, hl9, hs9⟩
  try clear lcell8
  obtain ⟨la9, lc9, lcell9⟩ := hs9.lenCell
  have HS9 := hideP hs9
  have FA9 := hideP (hl9)
  clear hs9 hl9 HS8
  go_wp2_with fail
  refine (patch_any B w0 rb gb a n cap pos3 ps9 ps5.length (ps9.length : Int) _ HS9.out (by have q0 := FA0.out; have q1 := FA1.out; have q2 := FA2.out; have q3 := FA3.out; have q4 := FA4.out; have q5 := FA5.out; have q6 := FA6.out; have q7 := FA7.out; have q8 := FA8.out; have q9 := FA9.out; omega) (inR_small (by have q0 := FA0.out; have q1 := FA1.out; have q2 := FA2.out; have q3 := FA3.out; have q4 := FA4.out; have q5 := FA5.out; have q6 := FA6.out; have q7 := FA7.out; have q8 := FA8.out; have q9 := FA9.out; omega) (by have q0 := FA0.out; have q1 := FA1.out; have q2 := FA2.out; have q3 := FA3.out; have q4 := FA4.out; have q5 := FA5.out; have q6 := FA6.out; have q7 := FA7.out; have q8 := FA8.out; have q9 := FA9.out; omega)) (by have q0 := FA0.out; have q1 := FA1.out; have q2 := FA2.out; have q3 := FA3.out; have q4 := FA4.out; have q5 := FA5.out; have q6 := FA6.out; have q7 := FA7.out; have q8 := FA8.out; have q9 := FA9.out; omega)).mono ?_
  rintro e w10 ⟨rfl, ps10, hl10, hs10⟩
  try clear lcell9
  have HS10 := hideP hs10
  have FA10 := hideP (hl10)
  clear hs10 hl10 HS9
  go_wp2_with fail
  refine (emit_l pos3 ps10 7 0 _ HS10.out (inR_small (by have q0 := FA0.out; have q1 := FA1.out; have q2 := FA2.out; have q3 := FA3.out; have q4 := FA4.out; have q5 := FA5.out; have q6 := FA6.out; have q7 := FA7.out; have q8 := FA8.out; have q9 := FA9.out; have q10 := FA10.out; omega) (by have q0 := FA0.out; have q1 := FA1.out; have q2 := FA2.out; have q3 := FA3.out; have q4 := FA4.out; have q5 := FA5.out; have q6 := FA6.out; have q7 := FA7.out; have q8 := FA8.out; have q9 := FA9.out; have q10 := FA10.out; omega)) (inR_small (by have q0 := FA0.out; have q1 := FA1.out; have q2 := FA2.out; have q3 := FA3.out; have q4 := FA4.out; have q5 := FA5.out; have q6 := FA6.out; have q7 := FA7.out; have q8 := FA8.out; have q9 := FA9.out; have q10 := FA10.out; omega) (by have q0 := FA0.out; have q1 := FA1.out; have q2 := FA2.out; have q3 := FA3.out; have q4 := FA4.out; have q5 := FA5.out; have q6 := FA6.out; have q7 := FA7.out; have q8 := FA8.out; have q9 := FA9.out; have q10 := FA10.out; omega)) (by have q0 := FA0.out; have q1 := FA1.out; have q2 := FA2.out; have q3 := FA3.out; have q4 := FA4.out; have q5 := FA5.out; have q6 := FA6.out; have q7 := FA7.out; have q8 := FA8.out; have q9 := FA9.out; have q10 := FA10.out; omega)).mono ?_
  rintro e w11 ⟨rfl, ps11, hl11, hs11⟩
  try clear lcell10
  obtain ⟨la11, lc11, lcell11⟩ := hs11.lenCell
  have HS11 := hideP hs11
  have FA11 := hideP (hl11)
  clear hs11 hl11 HS10
  go_wp2
  go_ret
  exact ⟨d, pos3, ps11, by go_num, HS11.out, (by have q0 := FA0.out; have q1 := FA1.out; have q2 := FA2.out; have q3 := FA3.out; have q4 := FA4.out; have q5 := FA5.out; have q6 := FA6.out; have q7 := FA7.out; have q8 := FA8.out; have q9 := FA9.out; have q10 := FA10.out; have q11 := FA11.out; omega), (by have q0 := FA0.out; have q1 := FA1.out; have q2 := FA2.out; have q3 := FA3.out; have q4 := FA4.out; have q5 := FA5.out; have q6 := FA6.out; have q7 := FA7.out; have q8 := FA8.out; have q9 := FA9.out; have q10 := FA10.out; have q11 := FA11.out; omega), (by have q0 := FA0.out; have q1 := FA1.out; have q2 := FA2.out; have q3 := FA3.out; have q4 := FA4.out; have q5 := FA5.out; have q6 := FA6.out; have q7 := FA7.out; have q8 := FA8.out; have q9 := FA9.out; have q10 := FA10.out; have q11 := FA11.out; omega), (by have q0 := FA0.out; have q1 := FA1.out; have q2 := FA2.out; have q3 := FA3.out; have q4 := FA4.out; have q5 := FA5.out; have q6 := FA6.out; have q7 := FA7.out; have q8 := FA8.out; have q9 := FA9.out; have q10 := FA10.out; have q11 := FA11.out; omega), (by have q0 := FA0.out; have q1 := FA1.out; have q2 := FA2.out; have q3 := FA3.out; have q4 := FA4.out; have q5 := FA5.out; have q6 := FA6.out; have q7 := FA7.out; have q8 := FA8.out; have q9 := FA9.out; have q10 := FA10.out; have q11 := FA11.out; omega), (by have q0 := FA0.out; have q1 := FA1.out; have q2 := FA2.out; have q3 := FA3.out; have q4 := FA4.out; have q5 := FA5.out; have q6 := FA6.out; have q7 := FA7.out; have q8 := FA8.out; have q9 := FA9.out; have q10 := FA10.out; have q11 := FA11.out; omega)⟩

set_option maxRecDepth 100000 in
set_option maxHeartbeats 2000000 in
theorem genOne_any (nest : Nat) (hnest : nest ≤ 10) (hblk : nest < 10 → BlkOk B w0 rb gb a n cap (nest + 1)) (pos d k : Nat) (hk : k ≤ 15) (ps : List SO) (w : World) (h : St B w0 rb gb a n cap pos ps w) (hd : d + (n - pos) + 1 ≤ 536870912) (hl : ps.length + 8 * (n - pos) + 8 ≤ 536870912) :
    Calls Yaav.prog 68 #[.pointer (some ⟨rb, 0, none⟩), .pointer (some ⟨gb, 0, none⟩), .int .i64 d, .int .i64 nest, .int .i64 k] w (OnePost B w0 rb gb a n cap pos d ps) := by
  have hn := h.rd.len
  have hp := h.rd.le
  have hl2 : ps.length ≤ 1073741824 := by omega
  have hd2 : d ≤ 536870912 := by omega
  have HS0 := hideP h
  have hblk := hideP hblk
  have FA0 := hideP (And.intro hn (And.intro hp (And.intro hd hl)))
  clear h hn hp hd hl
  match k, hk with
  | 0, _ =>
    as_aux_lemma =>
      go_enter Yaav.func68, Yaav.ntmps68
      go_wp2_with fail
      refine (value_s pos ps _ HS0.out).mono ?_
      rintro e w1 ⟨c, hc, rfl, pos1, hp1, hq1, hs1⟩
      have HS1 := hideP hs1
      have FA1 := hideP (And.intro hp1 hq1)
      clear hs1 hp1 hq1
      go_wp2_with fail
      refine (emit_l pos1 ps 0 c _ HS1.out (inR_small (by omega) (by omega)) hc hl2).mono ?_
      rintro e w9 ⟨rfl, ps9, hl9, hs9⟩
      have HS9 := hideP hs9
      have HL9 := hideP hl9
      clear hs9 hl9
      go_wp2
      go_ret
      exact ⟨(d + 1), pos1, ps9, by go_num, HS9.out, (by have := HL9.out; have := FA0.out; have := FA1.out; omega), (by have := HL9.out; have := FA0.out; have := FA1.out; omega), (by have := HL9.out; have := FA0.out; have := FA1.out; omega), (by have := HL9.out; have := FA0.out; have := FA1.out; omega), (by have := HL9.out; have := FA0.out; have := FA1.out; omega), (by have := HL9.out; have := FA0.out; have := FA1.out; omega)⟩
  | 1, _ =>
    as_aux_lemma =>
      go_enter Yaav.func68, Yaav.ntmps68
      go_wp2_with fail
      refine (value_s pos ps _ HS0.out).mono ?_
      rintro e w1 ⟨c, hc, rfl, pos1, hp1, hq1, hs1⟩
      have HS1 := hideP hs1
      have FA1 := hideP (And.intro hp1 hq1)
      clear hs1 hp1 hq1
      go_wp2_with fail
      refine (emit_l pos1 ps 0 c _ HS1.out (inR_small (by omega) (by omega)) hc hl2).mono ?_
      rintro e w9 ⟨rfl, ps9, hl9, hs9⟩
      have HS9 := hideP hs9
      have HL9 := hideP hl9
      clear hs9 hl9
      go_wp2
      go_ret
      exact ⟨(d + 1), pos1, ps9, by go_num, HS9.out, (by have := HL9.out; have := FA0.out; have := FA1.out; omega), (by have := HL9.out; have := FA0.out; have := FA1.out; omega), (by have := HL9.out; have := FA0.out; have := FA1.out; omega), (by have := HL9.out; have := FA0.out; have := FA1.out; omega), (by have := HL9.out; have := FA0.out; have := FA1.out; omega), (by have := HL9.out; have := FA0.out; have := FA1.out; omega)⟩
  | 2, _ =>
    as_aux_lemma =>
      go_enter Yaav.func68, Yaav.ntmps68
      go_wp2_with fail
      refine (value_s pos ps _ HS0.out).mono ?_
      rintro e w1 ⟨c, hc, rfl, pos1, hp1, hq1, hs1⟩
      have HS1 := hideP hs1
      have FA1 := hideP (And.intro hp1 hq1)
      clear hs1 hp1 hq1
      go_wp2_with fail
      refine (emit_l pos1 ps 0 c _ HS1.out (inR_small (by omega) (by omega)) hc hl2).mono ?_
      rintro e w9 ⟨rfl, ps9, hl9, hs9⟩
      have HS9 := hideP hs9
      have HL9 := hideP hl9
      clear hs9 hl9
      go_wp2
      go_ret
      exact ⟨(d + 1), pos1, ps9, by go_num, HS9.out, (by have := HL9.out; have := FA0.out; have := FA1.out; omega), (by have := HL9.out; have := FA0.out; have := FA1.out; omega), (by have := HL9.out; have := FA0.out; have := FA1.out; omega), (by have := HL9.out; have := FA0.out; have := FA1.out; omega), (by have := HL9.out; have := FA0.out; have := FA1.out; omega), (by have := HL9.out; have := FA0.out; have := FA1.out; omega)⟩
  | 3, _ =>
    as_aux_lemma =>
      go_enter Yaav.func68, Yaav.ntmps68
      go_wp2_with fail
      refine (next_s pos ps _ HS0.out).mono ?_
      rintro e w1 ⟨c, hc, rfl, pos1, hp1, hq1, _, hs1⟩
      have HS1 := hideP hs1
      have FA1 := hideP (And.intro hp1 hq1)
      clear hs1 hp1 hq1
      go_wp2_with fail
      refine (emit_l pos1 ps 1 ((c : Int) % 7 - 1) _ HS1.out (inR_small (by omega) (by omega)) (inR_small (by omega) (by omega)) hl2).mono ?_
      rintro e w9 ⟨rfl, ps9, hl9, hs9⟩
      have HS9 := hideP hs9
      have HL9 := hideP hl9
      clear hs9 hl9
      go_wp2
      go_ret
      exact ⟨(d + 1), pos1, ps9, by go_num, HS9.out, (by have := HL9.out; have := FA0.out; have := FA1.out; omega), (by have := HL9.out; have := FA0.out; have := FA1.out; omega), (by have := HL9.out; have := FA0.out; have := FA1.out; omega), (by have := HL9.out; have := FA0.out; have := FA1.out; omega), (by have := HL9.out; have := FA0.out; have := FA1.out; omega), (by have := HL9.out; have := FA0.out; have := FA1.out; omega)⟩
  | 4, _ =>
    as_aux_lemma =>
      by_cases hd1 : 2 ≤ d
      · go_enter Yaav.func68, Yaav.ntmps68
        go_wp2_with fail
        refine (emit_l pos ps 2 0 _ HS0.out (inR_small (by omega) (by omega)) (inR_small (by omega) (by omega)) hl2).mono ?_
        rintro e w9 ⟨rfl, ps9, hl9, hs9⟩
        have HS9 := hideP hs9
        have HL9 := hideP hl9
        clear hs9 hl9
        go_wp2
        go_ret
        exact ⟨(d - 1), pos, ps9, by go_num, HS9.out, (by have := HL9.out; have := FA0.out; omega), (by have := HL9.out; have := FA0.out; omega), (by have := HL9.out; have := FA0.out; omega), (by have := HL9.out; have := FA0.out; omega), (by have := HL9.out; have := FA0.out; omega), (by have := HL9.out; have := FA0.out; omega)⟩
      · go_enter Yaav.func68, Yaav.ntmps68
        go_wp2_with fail
        refine (emit_l pos ps 0 (4 : Int) _ HS0.out (inR_small (by omega) (by omega)) (inR_small (by omega) (by omega)) hl2).mono ?_
        rintro e w9 ⟨rfl, ps9, hl9, hs9⟩
        have HS9 := hideP hs9
        have HL9 := hideP hl9
        clear hs9 hl9
        go_wp2
        go_ret
        exact ⟨(d + 1), pos, ps9, by go_num, HS9.out, (by have := HL9.out; have := FA0.out; omega), (by have := HL9.out; have := FA0.out; omega), (by have := HL9.out; have := FA0.out; omega), (by have := HL9.out; have := FA0.out; omega), (by have := HL9.out; have := FA0.out; omega), (by have := HL9.out; have := FA0.out; omega)⟩
  | 5, _ =>
    as_aux_lemma =>
      by_cases hd1 : 2 ≤ d
      · go_enter Yaav.func68, Yaav.ntmps68
        go_wp2_with fail
        refine (emit_l pos ps 3 0 _ HS0.out (inR_small (by omega) (by omega)) (inR_small (by omega) (by omega)) hl2).mono ?_
        rintro e w9 ⟨rfl, ps9, hl9, hs9⟩
        have HS9 := hideP hs9
        have HL9 := hideP hl9
        clear hs9 hl9
        go_wp2
        go_ret
        exact ⟨(d - 1), pos, ps9, by go_num, HS9.out, (by have := HL9.out; have := FA0.out; omega), (by have := HL9.out; have := FA0.out; omega), (by have := HL9.out; have := FA0.out; omega), (by have := HL9.out; have := FA0.out; omega), (by have := HL9.out; have := FA0.out; omega), (by have := HL9.out; have := FA0.out; omega)⟩
      · go_enter Yaav.func68, Yaav.ntmps68
        go_wp2_with fail
        refine (emit_l pos ps 0 (5 : Int) _ HS0.out (inR_small (by omega) (by omega)) (inR_small (by omega) (by omega)) hl2).mono ?_
        rintro e w9 ⟨rfl, ps9, hl9, hs9⟩
        have HS9 := hideP hs9
        have HL9 := hideP hl9
        clear hs9 hl9
        go_wp2
        go_ret
        exact ⟨(d + 1), pos, ps9, by go_num, HS9.out, (by have := HL9.out; have := FA0.out; omega), (by have := HL9.out; have := FA0.out; omega), (by have := HL9.out; have := FA0.out; omega), (by have := HL9.out; have := FA0.out; omega), (by have := HL9.out; have := FA0.out; omega), (by have := HL9.out; have := FA0.out; omega)⟩
  | 6, _ =>
    as_aux_lemma =>
      by_cases hd1 : 2 ≤ d
      · go_enter Yaav.func68, Yaav.ntmps68
        go_wp2_with fail
        refine (emit_l pos ps 4 0 _ HS0.out (inR_small (by omega) (by omega)) (inR_small (by omega) (by omega)) hl2).mono ?_
        rintro e w9 ⟨rfl, ps9, hl9, hs9⟩
        have HS9 := hideP hs9
        have HL9 := hideP hl9
        clear hs9 hl9
        go_wp2
        go_ret
        exact ⟨(d - 1), pos, ps9, by go_num, HS9.out, (by have := HL9.out; have := FA0.out; omega), (by have := HL9.out; have := FA0.out; omega), (by have := HL9.out; have := FA0.out; omega), (by have := HL9.out; have := FA0.out; omega), (by have := HL9.out; have := FA0.out; omega), (by have := HL9.out; have := FA0.out; omega)⟩
      · go_enter Yaav.func68, Yaav.ntmps68
        go_wp2_with fail
        refine (emit_l pos ps 0 (6 : Int) _ HS0.out (inR_small (by omega) (by omega)) (inR_small (by omega) (by omega)) hl2).mono ?_
        rintro e w9 ⟨rfl, ps9, hl9, hs9⟩
        have HS9 := hideP hs9
        have HL9 := hideP hl9
        clear hs9 hl9
        go_wp2
        go_ret
        exact ⟨(d + 1), pos, ps9, by go_num, HS9.out, (by have := HL9.out; have := FA0.out; omega), (by have := HL9.out; have := FA0.out; omega), (by have := HL9.out; have := FA0.out; omega), (by have := HL9.out; have := FA0.out; omega), (by have := HL9.out; have := FA0.out; omega), (by have := HL9.out; have := FA0.out; omega)⟩
  | 7, _ =>
    as_aux_lemma =>
      by_cases hd1 : 1 ≤ d
      · go_enter Yaav.func68, Yaav.ntmps68
        go_wp2_with fail
        refine (emit_l pos ps 5 0 _ HS0.out (inR_small (by omega) (by omega)) (inR_small (by omega) (by omega)) hl2).mono ?_
        rintro e w9 ⟨rfl, ps9, hl9, hs9⟩
        have HS9 := hideP hs9
        have HL9 := hideP hl9
        clear hs9 hl9
        go_wp2
        go_ret
        exact ⟨(d + 1), pos, ps9, by go_num, HS9.out, (by have := HL9.out; have := FA0.out; omega), (by have := HL9.out; have := FA0.out; omega), (by have := HL9.out; have := FA0.out; omega), (by have := HL9.out; have := FA0.out; omega), (by have := HL9.out; have := FA0.out; omega), (by have := HL9.out; have := FA0.out; omega)⟩
      · go_enter Yaav.func68, Yaav.ntmps68
        go_wp2_with fail
        refine (emit_l pos ps 0 (7 : Int) _ HS0.out (inR_small (by omega) (by omega)) (inR_small (by omega) (by omega)) hl2).mono ?_
        rintro e w9 ⟨rfl, ps9, hl9, hs9⟩
        have HS9 := hideP hs9
        have HL9 := hideP hl9
        clear hs9 hl9
        go_wp2
        go_ret
        exact ⟨(d + 1), pos, ps9, by go_num, HS9.out, (by have := HL9.out; have := FA0.out; omega), (by have := HL9.out; have := FA0.out; omega), (by have := HL9.out; have := FA0.out; omega), (by have := HL9.out; have := FA0.out; omega), (by have := HL9.out; have := FA0.out; omega), (by have := HL9.out; have := FA0.out; omega)⟩
  | 8, _ =>
    as_aux_lemma =>
      by_cases hd1 : 2 ≤ d
      · go_enter Yaav.func68, Yaav.ntmps68
        go_wp2_with fail
        refine (emit_l pos ps 6 0 _ HS0.out (inR_small (by omega) (by omega)) (inR_small (by omega) (by omega)) hl2).mono ?_
        rintro e w9 ⟨rfl, ps9, hl9, hs9⟩
        have HS9 := hideP hs9
        have HL9 := hideP hl9
        clear hs9 hl9
        go_wp2
        go_ret
        exact ⟨(d + 1), pos, ps9, by go_num, HS9.out, (by have := HL9.out; have := FA0.out; omega), (by have := HL9.out; have := FA0.out; omega), (by have := HL9.out; have := FA0.out; omega), (by have := HL9.out; have := FA0.out; omega), (by have := HL9.out; have := FA0.out; omega), (by have := HL9.out; have := FA0.out; omega)⟩
      · go_enter Yaav.func68, Yaav.ntmps68
        go_wp2_with fail
        refine (emit_l pos ps 0 (8 : Int) _ HS0.out (inR_small (by omega) (by omega)) (inR_small (by omega) (by omega)) hl2).mono ?_
        rintro e w9 ⟨rfl, ps9, hl9, hs9⟩
        have HS9 := hideP hs9
        have HL9 := hideP hl9
        clear hs9 hl9
        go_wp2
        go_ret
        exact ⟨(d + 1), pos, ps9, by go_num, HS9.out, (by have := HL9.out; have := FA0.out; omega), (by have := HL9.out; have := FA0.out; omega), (by have := HL9.out; have := FA0.out; omega), (by have := HL9.out; have := FA0.out; omega), (by have := HL9.out; have := FA0.out; omega), (by have := HL9.out; have := FA0.out; omega)⟩
  | 9, _ =>
    as_aux_lemma =>
      by_cases hd1 : 1 ≤ d
      · go_enter Yaav.func68, Yaav.ntmps68
        go_wp2_with fail
        refine (emit_l pos ps 7 0 _ HS0.out (inR_small (by omega) (by omega)) (inR_small (by omega) (by omega)) hl2).mono ?_
        rintro e w9 ⟨rfl, ps9, hl9, hs9⟩
        have HS9 := hideP hs9
        have HL9 := hideP hl9
        clear hs9 hl9
        go_wp2
        go_ret
        exact ⟨(d - 1), pos, ps9, by go_num, HS9.out, (by have := HL9.out; have := FA0.out; omega), (by have := HL9.out; have := FA0.out; omega), (by have := HL9.out; have := FA0.out; omega), (by have := HL9.out; have := FA0.out; omega), (by have := HL9.out; have := FA0.out; omega), (by have := HL9.out; have := FA0.out; omega)⟩
      · go_enter Yaav.func68, Yaav.ntmps68
        go_wp2_with fail
        refine (emit_l pos ps 0 (9 : Int) _ HS0.out (inR_small (by omega) (by omega)) (inR_small (by omega) (by omega)) hl2).mono ?_
        rintro e w9 ⟨rfl, ps9, hl9, hs9⟩
        have HS9 := hideP hs9
        have HL9 := hideP hl9
        clear hs9 hl9
        go_wp2
        go_ret
        exact ⟨(d + 1), pos, ps9, by go_num, HS9.out, (by have := HL9.out; have := FA0.out; omega), (by have := HL9.out; have := FA0.out; omega), (by have := HL9.out; have := FA0.out; omega), (by have := HL9.out; have := FA0.out; omega), (by have := HL9.out; have := FA0.out; omega), (by have := HL9.out; have := FA0.out; omega)⟩
  | 10, _ =>
    as_aux_lemma =>
      by_cases hd1 : 2 ≤ d
      · go_enter Yaav.func68, Yaav.ntmps68
        go_wp2_with fail
        refine (emit_l pos ps 8 0 _ HS0.out (inR_small (by omega) (by omega)) (inR_small (by omega) (by omega)) hl2).mono ?_
        rintro e w9 ⟨rfl, ps9, hl9, hs9⟩
        have HS9 := hideP hs9
        have HL9 := hideP hl9
        clear hs9 hl9
        go_wp2
        go_ret
        exact ⟨d, pos, ps9, by go_num, HS9.out, (by have := HL9.out; have := FA0.out; omega), (by have := HL9.out; have := FA0.out; omega), (by have := HL9.out; have := FA0.out; omega), (by have := HL9.out; have := FA0.out; omega), (by have := HL9.out; have := FA0.out; omega), (by have := HL9.out; have := FA0.out; omega)⟩
      · go_enter Yaav.func68, Yaav.ntmps68
        go_wp2_with fail
        refine (emit_l pos ps 0 (10 : Int) _ HS0.out (inR_small (by omega) (by omega)) (inR_small (by omega) (by omega)) hl2).mono ?_
        rintro e w9 ⟨rfl, ps9, hl9, hs9⟩
        have HS9 := hideP hs9
        have HL9 := hideP hl9
        clear hs9 hl9
        go_wp2
        go_ret
        exact ⟨(d + 1), pos, ps9, by go_num, HS9.out, (by have := HL9.out; have := FA0.out; omega), (by have := HL9.out; have := FA0.out; omega), (by have := HL9.out; have := FA0.out; omega), (by have := HL9.out; have := FA0.out; omega), (by have := HL9.out; have := FA0.out; omega), (by have := HL9.out; have := FA0.out; omega)⟩
  | 11, _ =>
    as_aux_lemma =>
      by_cases hd1 : 1 ≤ d
      · by_cases hnn : nest < 10
        · go_enter Yaav.func68, Yaav.ntmps68
          go_wp2_with fail
          refine (genIf_any nest hnn (hblk.out hnn) pos (d - 1) ps _ _ _ HS0.out (by omega) rfl (by have := FA0.out; omega) (by have := FA0.out; omega)).mono ?_
          rintro e w1 ⟨d1, pos1, ps1, rfl, hs1, h1, h2, h3, h4, h5, h6⟩
          have HS1 := hideP hs1
          have FA1 := hideP (And.intro h1 (And.intro h2 (And.intro h3 (And.intro h4 (And.intro h5 h6)))))
          clear hs1 h1 h2 h3 h4 h5 h6
          go_wp2
          go_ret
          exact ⟨d1, pos1, ps1, rfl, HS1.out, (by have := FA1.out; have := FA0.out; omega), (by have := FA1.out; have := FA0.out; omega), (by have := FA1.out; have := FA0.out; omega), (by have := FA1.out; have := FA0.out; omega), (by have := FA1.out; have := FA0.out; omega), (by have := FA1.out; have := FA0.out; omega)⟩
        · go_enter Yaav.func68, Yaav.ntmps68
          go_wp2_with fail
          refine (emit_l pos ps 0 (11 : Int) _ HS0.out (inR_small (by omega) (by omega)) (inR_small (by omega) (by omega)) hl2).mono ?_
          rintro e w9 ⟨rfl, ps9, hl9, hs9⟩
          have HS9 := hideP hs9
          have HL9 := hideP hl9
          clear hs9 hl9
          go_wp2
          go_ret
          exact ⟨(d + 1), pos, ps9, by go_num, HS9.out, (by have := HL9.out; have := FA0.out; omega), (by have := HL9.out; have := FA0.out; omega), (by have := HL9.out; have := FA0.out; omega), (by have := HL9.out; have := FA0.out; omega), (by have := HL9.out; have := FA0.out; omega), (by have := HL9.out; have := FA0.out; omega)⟩
      · go_enter Yaav.func68, Yaav.ntmps68
        go_wp2_with fail
        refine (emit_l pos ps 0 (11 : Int) _ HS0.out (inR_small (by omega) (by omega)) (inR_small (by omega) (by omega)) hl2).mono ?_
        rintro e w9 ⟨rfl, ps9, hl9, hs9⟩
        have HS9 := hideP hs9
        have HL9 := hideP hl9
        clear hs9 hl9
        go_wp2
        go_ret
        exact ⟨(d + 1), pos, ps9, by go_num, HS9.out, (by have := HL9.out; have := FA0.out; omega), (by have := HL9.out; have := FA0.out; omega), (by have := HL9.out; have := FA0.out; omega), (by have := HL9.out; have := FA0.out; omega), (by have := HL9.out; have := FA0.out; omega), (by have := HL9.out; have := FA0.out; omega)⟩
  | 12, _ =>
    as_aux_lemma =>
      by_cases hnn : nest < 10
      · go_enter Yaav.func68, Yaav.ntmps68
        go_wp2_with fail
        refine (genLoop_any nest hnn (hblk.out hnn) pos d ps _ _ _ HS0.out (by rfl) rfl (by have := FA0.out; omega) (by have := FA0.out; omega)).mono ?_
        rintro e w1 ⟨d1, pos1, ps1, rfl, hs1, h1, h2, h3, h4, h5, h6⟩
        have HS1 := hideP hs1
        have FA1 := hideP (And.intro h1 (And.intro h2 (And.intro h3 (And.intro h4 (And.intro h5 h6)))))
        clear hs1 h1 h2 h3 h4 h5 h6
        go_wp2
        go_ret
        exact ⟨d1, pos1, ps1, rfl, HS1.out, (by have := FA1.out; have := FA0.out; omega), (by have := FA1.out; have := FA0.out; omega), (by have := FA1.out; have := FA0.out; omega), (by have := FA1.out; have := FA0.out; omega), (by have := FA1.out; have := FA0.out; omega), (by have := FA1.out; have := FA0.out; omega)⟩
      · go_enter Yaav.func68, Yaav.ntmps68
        go_wp2_with fail
        refine (emit_l pos ps 0 (12 : Int) _ HS0.out (inR_small (by omega) (by omega)) (inR_small (by omega) (by omega)) hl2).mono ?_
        rintro e w9 ⟨rfl, ps9, hl9, hs9⟩
        have HS9 := hideP hs9
        have HL9 := hideP hl9
        clear hs9 hl9
        go_wp2
        go_ret
        exact ⟨(d + 1), pos, ps9, by go_num, HS9.out, (by have := HL9.out; have := FA0.out; omega), (by have := HL9.out; have := FA0.out; omega), (by have := HL9.out; have := FA0.out; omega), (by have := HL9.out; have := FA0.out; omega), (by have := HL9.out; have := FA0.out; omega), (by have := HL9.out; have := FA0.out; omega)⟩
  | 13, _ =>
    as_aux_lemma =>
      by_cases hnn : nest < 10
      · go_enter Yaav.func68, Yaav.ntmps68
        go_wp2_with fail
        refine (genCount_any nest hnn (hblk.out hnn) pos d ps _ _ _ HS0.out (by rfl) rfl (by have := FA0.out; omega) (by have := FA0.out; omega)).mono ?_
        rintro e w1 ⟨d1, pos1, ps1, rfl, hs1, h1, h2, h3, h4, h5, h6⟩
        have HS1 := hideP hs1
        have FA1 := hideP (And.intro h1 (And.intro h2 (And.intro h3 (And.intro h4 (And.intro h5 h6)))))
        clear hs1 h1 h2 h3 h4 h5 h6
        go_wp2
        go_ret
        exact ⟨d1, pos1, ps1, rfl, HS1.out, (by have := FA1.out; have := FA0.out; omega), (by have := FA1.out; have := FA0.out; omega), (by have := FA1.out; have := FA0.out; omega), (by have := FA1.out; have := FA0.out; omega), (by have := FA1.out; have := FA0.out; omega), (by have := FA1.out; have := FA0.out; omega)⟩
      · go_enter Yaav.func68, Yaav.ntmps68
        go_wp2_with fail
        refine (emit_l pos ps 0 (13 : Int) _ HS0.out (inR_small (by omega) (by omega)) (inR_small (by omega) (by omega)) hl2).mono ?_
        rintro e w9 ⟨rfl, ps9, hl9, hs9⟩
        have HS9 := hideP hs9
        have HL9 := hideP hl9
        clear hs9 hl9
        go_wp2
        go_ret
        exact ⟨(d + 1), pos, ps9, by go_num, HS9.out, (by have := HL9.out; have := FA0.out; omega), (by have := HL9.out; have := FA0.out; omega), (by have := HL9.out; have := FA0.out; omega), (by have := HL9.out; have := FA0.out; omega), (by have := HL9.out; have := FA0.out; omega), (by have := HL9.out; have := FA0.out; omega)⟩
  | 14, _ =>
    as_aux_lemma =>
      go_enter Yaav.func68, Yaav.ntmps68
      go_wp2_with fail
      refine (next_s pos ps _ HS0.out).mono ?_
      rintro e w1 ⟨c, hc, rfl, pos1, hp1, hq1, _, hs1⟩
      have HS1 := hideP hs1
      have FA1 := hideP (And.intro hp1 hq1)
      clear hs1 hp1 hq1
      by_cases h4 : ((c : Int) % 4 == 0) = true
      · go_wp2_with fail
        refine (emit_l pos1 ps 11 0 _ HS1.out (inR_small (by omega) (by omega)) (inR_small (by omega) (by omega)) hl2).mono ?_
        rintro e w9 ⟨rfl, ps9, hl9, hs9⟩
        have HS9 := hideP hs9
        have HL9 := hideP hl9
        clear hs9 hl9
        go_wp2
        go_ret
        exact ⟨d, pos1, ps9, by go_num, HS9.out, (by have := HL9.out; have := FA0.out; have := FA1.out; omega), (by have := HL9.out; have := FA0.out; have := FA1.out; omega), (by have := HL9.out; have := FA0.out; have := FA1.out; omega), (by have := HL9.out; have := FA0.out; have := FA1.out; omega), (by have := HL9.out; have := FA0.out; have := FA1.out; omega), (by have := HL9.out; have := FA0.out; have := FA1.out; omega)⟩
      · have h4 : ((c : Int) % 4 == 0) = false := by simpa using h4
        go_wp2_with fail
        refine (emit_l pos1 ps 0 14 _ HS1.out (inR_small (by omega) (by omega)) (inR_small (by omega) (by omega)) hl2).mono ?_
        rintro e w9 ⟨rfl, ps9, hl9, hs9⟩
        have HS9 := hideP hs9
        have HL9 := hideP hl9
        clear hs9 hl9
        go_wp2
        go_ret
        exact ⟨(d + 1), pos1, ps9, by go_num, HS9.out, (by have := HL9.out; have := FA0.out; have := FA1.out; omega), (by have := HL9.out; have := FA0.out; have := FA1.out; omega), (by have := HL9.out; have := FA0.out; have := FA1.out; omega), (by have := HL9.out; have := FA0.out; have := FA1.out; omega), (by have := HL9.out; have := FA0.out; have := FA1.out; omega), (by have := HL9.out; have := FA0.out; have := FA1.out; omega)⟩
  | 15, _ =>
    as_aux_lemma =>
      go_enter Yaav.func68, Yaav.ntmps68
      go_wp2_with fail
      refine (emit_l pos ps 0 (15 : Int) _ HS0.out (inR_small (by omega) (by omega)) (inR_small (by omega) (by omega)) hl2).mono ?_
      rintro e w9 ⟨rfl, ps9, hl9, hs9⟩
      have HS9 := hideP hs9
      have HL9 := hideP hl9
      clear hs9 hl9
      go_wp2
      go_ret
      exact ⟨(d + 1), pos, ps9, by go_num, HS9.out, (by have := HL9.out; have := FA0.out; omega), (by have := HL9.out; have := FA0.out; omega), (by have := HL9.out; have := FA0.out; omega), (by have := HL9.out; have := FA0.out; omega), (by have := HL9.out; have := FA0.out; omega), (by have := HL9.out; have := FA0.out; omega)⟩
  | k + 16, hk => omega

theorem genOne_i (nest : Nat) (hnest : nest ≤ 10) (hblk : nest < 10 → BlkOk B w0 rb gb a n cap (nest + 1)) (pos d k : Nat) (K : Int) (hK : K = k) (hk : k ≤ 15) (ps : List SO) (w : World) (h : St B w0 rb gb a n cap pos ps w) (hd : d + (n - pos) + 1 ≤ 536870912) (hl : ps.length + 8 * (n - pos) + 8 ≤ 536870912) :
    Calls Yaav.prog 68 #[.pointer (some ⟨rb, 0, none⟩), .pointer (some ⟨gb, 0, none⟩), .int .i64 d, .int .i64 nest, .int .i64 K] w (OnePost B w0 rb gb a n cap pos d ps) := by
  subst hK
  exact genOne_any nest hnest hblk pos d k hk ps w h hd hl

set_option maxRecDepth 100000 in
set_option maxHeartbeats 2000000 in
theorem genBlock_any (nest : Nat) (hnest : nest ≤ 10) (hblk : nest < 10 → BlkOk B w0 rb gb a n cap (nest + 1)) : BlkOk B w0 rb gb a n cap nest := by
  intro pos d ps D N w h hD hN hd hl
  have hn := h.rd.len
  have hp := h.rd.le
  subst hD hN
  have HS0 := hideP h
  have hblk := hideP hblk
  have FA0 := hideP (And.intro hn (And.intro hp (And.intro hd hl)))
  clear h hn hp hd hl
  go_enter Yaav.func43, Yaav.ntmps43
  go_wp2_with fail
  go_loopw [2] (fun i wr => ∃ (d' pos' : Nat) (qs : List SO), i = .int .i64 d' ∧ St B w0 rb gb a n cap pos' qs wr ∧ pos ≤ pos' ∧ pos' ≤ n ∧ d' ≤ d + (pos' - pos) ∧ d ≤ d' + (pos' - pos) ∧ qs.length + ((d' - d) + (d - d')) ≤ ps.length + 8 * (pos' - pos) ∧ ps.length ≤ qs.length) (fun i wr => n - posOf rb wr)
  case atStart => exact ⟨d, pos, ps, rfl, HS0.out, by have := FA0.out; omega, by have := FA0.out; omega, by omega, by omega, by omega, by omega⟩
  case round =>
    obtain ⟨d1, pos1, qs, rfl, hs1, h1, h2, h3, h4, h5, h6⟩ := hrel
    have HS1 := hideP hs1
    have FA1 := hideP (And.intro h1 (And.intro h2 (And.intro h3 (And.intro h4 (And.intro h5 h6)))))
    clear hs1 h1 h2 h3 h4 h5 h6
    go_wp2_with fail
    refine (done_s pos1 qs _ HS1.out).mono ?_
    rintro e w2 ⟨rfl, hs2⟩
    have HS2 := hideP hs2
    clear hs2
    by_cases hlt : n ≤ pos1
    · go_wp2
      go_ret
      have := FA1.out
      exact ⟨d1, pos1, qs, rfl, HS2.out, by omega, by omega, by omega, by omega, by omega, by omega⟩
    · go_wp2_with fail
      refine (next_s pos1 qs _ HS2.out).mono ?_
      rintro e w3 ⟨c, hc, rfl, pos3, hp3, hq3, hlt3, hs3⟩
      have hpos3 := hlt3 (by omega)
      subst hpos3
      have HS3 := hideP hs3
      clear hs3 hp3 hq3 hlt3
      by_cases h15 : ((c : Int) % 16 == 15) = true
      · by_cases hnn : 0 < nest
        · go_wp2
          go_ret
          have := FA1.out
          exact ⟨d1, pos1 + 1, qs, rfl, HS3.out, by omega, by omega, by omega, by omega, by omega, by omega⟩
        · go_wp2_with fail
          refine (genOne_i nest hnest hblk.out (pos1 + 1) d1 ((c / 16) % 11) _ (by omega) (by omega) qs _ HS3.out (by have := FA0.out; have := FA1.out; omega) (by have := FA0.out; have := FA1.out; omega)).mono ?_
          rintro e w4 ⟨d4, pos4, ps4, rfl, hs4, h1, h2, h3, h4, h5, h6⟩
          have HS4 := hideP hs4
          have FA4 := hideP (And.intro h1 (And.intro h2 (And.intro h3 (And.intro h4 (And.intro h5 h6)))))
          clear hs4 h1 h2 h3 h4 h5 h6
          go_wp2
          go_roundw
          case rel =>
            have := FA0.out
            have := FA1.out
            have := FA4.out
            exact ⟨d4, pos4, ps4, rfl, HS4.out, by omega, by omega, by omega, by omega, by omega, by omega⟩
          case measure =>
            rw [HS1.out.posOf, HS4.out.posOf]
            have := FA4.out
            omega
      · have h15 : ((c : Int) % 16 == 15) = false := by simpa using h15
        go_wp2_with fail
        refine (genOne_i nest hnest hblk.out (pos1 + 1) d1 (c % 16) _ (by omega) (by omega) qs _ HS3.out (by have := FA0.out; have := FA1.out; omega) (by have := FA0.out; have := FA1.out; omega)).mono ?_
        rintro e w4 ⟨d4, pos4, ps4, rfl, hs4, h1, h2, h3, h4, h5, h6⟩
        have HS4 := hideP hs4
        have FA4 := hideP (And.intro h1 (And.intro h2 (And.intro h3 (And.intro h4 (And.intro h5 h6)))))
        clear hs4 h1 h2 h3 h4 h5 h6
        go_wp2
        go_roundw
        case rel =>
          have := FA0.out
          have := FA1.out
          have := FA4.out
          exact ⟨d4, pos4, ps4, rfl, HS4.out, by omega, by omega, by omega, by omega, by omega, by omega⟩
        case measure =>
          rw [HS1.out.posOf, HS4.out.posOf]
          have := FA4.out
          omega

theorem genBlock_all : ∀ (j nest : Nat), nest + j = 10 → BlkOk B w0 rb gb a n cap nest
  | 0, nest, h => genBlock_any nest (by omega) (fun h' => by omega)
  | j + 1, nest, h => genBlock_any nest (by omega) (fun _ => genBlock_all j (nest + 1) (by omega))

end

end Go.Proofs.Yahaaw
