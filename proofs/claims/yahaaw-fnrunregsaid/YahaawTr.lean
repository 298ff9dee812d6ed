/-
  DERIVED. PLAIN: the translation. WALK: spec.regFor (57).
-/
import Derived.Test.YahaawDepS
namespace Go.Proofs.Yahaaw
open Go.RowKit
set_option linter.unusedVariables false

/-- The register operation for a stack operation at depth d. -/
def regFor (p : SO) (d : Int) : RO :=
  if d < 0 then ⟨7, 0, 0, 0, 0⟩ else
  if p.c = 0 then ⟨0, d, 0, 0, p.a⟩ else
  if p.c = 1 then ⟨1, d, 0, 0, p.a⟩ else
  if p.c = 2 then ⟨2, d - 2, d - 2, d - 1, 0⟩ else
  if p.c = 3 then ⟨3, d - 2, d - 2, d - 1, 0⟩ else
  if p.c = 4 then ⟨4, d - 2, d - 2, d - 1, 0⟩ else
  if p.c = 5 then ⟨5, d, d - 1, 0, 0⟩ else
  if p.c = 6 then ⟨5, d, d - 2, 0, 0⟩ else
  if p.c = 8 then ⟨6, 0, d - 2, d - 1, 0⟩ else
  if p.c = 9 then ⟨8, 0, 0, 0, p.a⟩ else
  if p.c = 10 then ⟨9, 0, d - 1, 0, p.a⟩ else
  if p.c = 11 then ⟨10, 0, d, 0, 0⟩ else ⟨7, 0, 0, 0, 0⟩

def trL (T : List Int) (i : Nat) : List SO → List RO
  | [] => []
  | p :: ps => regFor p (tg T i) :: trL T (i + 1) ps

theorem trL_len (T : List Int) (i : Nat) (ps : List SO) : (trL T i ps).length = ps.length := by
  induction ps generalizing i with
  | nil => rfl
  | cons p ps ih => simp [trL, ih]

theorem trL_get (T : List Int) (i : Nat) {ps : List SO} {k : Nat} {p : SO} (h : ps[k]? = some p) : (trL T i ps)[k]? = some (regFor p (tg T (i + k))) := by
  induction ps generalizing i k with
  | nil => simp at h
  | cons q ps ih =>
    cases k with
    | zero => simp at h; subst h; simp [trL]
    | succ k => simp at h; have := ih (i + 1) h; simp [trL, this, Nat.add_assoc, Nat.add_comm 1]

def lastR (d : Int) : RO := ⟨10, 0, if 0 ≤ d then d else 0, 0, 0⟩

/-- The translated program. -/
def trans (ps : List SO) (T : List Int) : List RO := trL T 0 ps ++ [lastR (tg T ps.length)]

theorem trans_len (ps : List SO) (T : List Int) : (trans ps T).length = ps.length + 1 := by simp [trans, trL_len]
theorem trans_get {ps : List SO} (T : List Int) {k : Nat} {p : SO} (h : ps[k]? = some p) : (trans ps T)[k]? = some (regFor p (tg T k)) := by
  unfold trans
  rw [List.getElem?_append_left (by rw [trL_len]; exact lt_of_get h), trL_get T 0 h, Nat.zero_add]
theorem trans_last (ps : List SO) (T : List Int) : (trans ps T)[ps.length]? = some (lastR (tg T ps.length)) := by
  unfold trans
  rw [List.getElem?_append_right (by rw [trL_len]; exact Nat.le_refl _), trL_len]; simp

/-- The value of a register operation. -/
def roV (x : RO) : Value := .agg #[.int .i64 x.op, .int .i64 x.r, .int .i64 x.a, .int .i64 x.b, .int .i64 x.k]

set_option maxRecDepth 100000 in
set_option maxHeartbeats 400000 in
theorem rf_u (c a d : Int) (w : World) (hd : -1 ≤ d) (hd2 : d ≤ 65536) (hu : d < 0) : Calls Yaav.prog 57 #[.agg #[.int .i64 c, .int .i64 a], .int .i64 d] w fun e w' => e = .returned (.agg #[.int .i64 7, .int .i64 0, .int .i64 0, .int .i64 0, .int .i64 0]) ∧ Below w.heap.size w w' := by
  go_enter Yaav.func57, Yaav.ntmps57
  go_wp2
  exact bodyPost_ret (v := .agg #[.int .i64 7, .int .i64 0, .int .i64 0, .int .i64 0, .int .i64 0]) (by simp [results, Yaav.results57, go_sem]) rfl ⟨rfl, ((Below.refl _ _).alloc (Nat.le_refl _) _).alloc (by simp) _⟩

set_option maxRecDepth 100000 in
set_option maxHeartbeats 400000 in
theorem rf_0 (a d : Int) (w : World) (hd : -1 ≤ d) (hd2 : d ≤ 65536) (hu : ¬ d < 0) : Calls Yaav.prog 57 #[.agg #[.int .i64 0, .int .i64 a], .int .i64 d] w fun e w' => e = .returned (.agg #[.int .i64 0, .int .i64 d, .int .i64 0, .int .i64 0, .int .i64 a]) ∧ Below w.heap.size w w' := by
  go_enter Yaav.func57, Yaav.ntmps57
  go_wp2
  exact bodyPost_ret (v := .agg #[.int .i64 0, .int .i64 d, .int .i64 0, .int .i64 0, .int .i64 a]) (by simp [results, Yaav.results57, go_sem]) rfl ⟨rfl, ((Below.refl _ _).alloc (Nat.le_refl _) _).alloc (by simp) _⟩

set_option maxRecDepth 100000 in
set_option maxHeartbeats 400000 in
theorem rf_1 (a d : Int) (w : World) (hd : -1 ≤ d) (hd2 : d ≤ 65536) (hu : ¬ d < 0) : Calls Yaav.prog 57 #[.agg #[.int .i64 1, .int .i64 a], .int .i64 d] w fun e w' => e = .returned (.agg #[.int .i64 1, .int .i64 d, .int .i64 0, .int .i64 0, .int .i64 a]) ∧ Below w.heap.size w w' := by
  go_enter Yaav.func57, Yaav.ntmps57
  go_wp2
  exact bodyPost_ret (v := .agg #[.int .i64 1, .int .i64 d, .int .i64 0, .int .i64 0, .int .i64 a]) (by simp [results, Yaav.results57, go_sem]) rfl ⟨rfl, ((Below.refl _ _).alloc (Nat.le_refl _) _).alloc (by simp) _⟩

set_option maxRecDepth 100000 in
set_option maxHeartbeats 400000 in
theorem rf_2 (a d : Int) (w : World) (hd : -1 ≤ d) (hd2 : d ≤ 65536) (hu : ¬ d < 0) : Calls Yaav.prog 57 #[.agg #[.int .i64 2, .int .i64 a], .int .i64 d] w fun e w' => e = .returned (.agg #[.int .i64 2, .int .i64 (d - 2), .int .i64 (d - 2), .int .i64 (d - 1), .int .i64 0]) ∧ Below w.heap.size w w' := by
  go_enter Yaav.func57, Yaav.ntmps57
  go_wp2
  exact bodyPost_ret (v := .agg #[.int .i64 2, .int .i64 (d - 2), .int .i64 (d - 2), .int .i64 (d - 1), .int .i64 0]) (by simp [results, Yaav.results57, go_sem]) rfl ⟨rfl, ((Below.refl _ _).alloc (Nat.le_refl _) _).alloc (by simp) _⟩

set_option maxRecDepth 100000 in
set_option maxHeartbeats 400000 in
theorem rf_3 (a d : Int) (w : World) (hd : -1 ≤ d) (hd2 : d ≤ 65536) (hu : ¬ d < 0) : Calls Yaav.prog 57 #[.agg #[.int .i64 3, .int .i64 a], .int .i64 d] w fun e w' => e = .returned (.agg #[.int .i64 3, .int .i64 (d - 2), .int .i64 (d - 2), .int .i64 (d - 1), .int .i64 0]) ∧ Below w.heap.size w w' := by
  go_enter Yaav.func57, Yaav.ntmps57
  go_wp2
  exact bodyPost_ret (v := .agg #[.int .i64 3, .int .i64 (d - 2), .int .i64 (d - 2), .int .i64 (d - 1), .int .i64 0]) (by simp [results, Yaav.results57, go_sem]) rfl ⟨rfl, ((Below.refl _ _).alloc (Nat.le_refl _) _).alloc (by simp) _⟩

set_option maxRecDepth 100000 in
set_option maxHeartbeats 400000 in
theorem rf_4 (a d : Int) (w : World) (hd : -1 ≤ d) (hd2 : d ≤ 65536) (hu : ¬ d < 0) : Calls Yaav.prog 57 #[.agg #[.int .i64 4, .int .i64 a], .int .i64 d] w fun e w' => e = .returned (.agg #[.int .i64 4, .int .i64 (d - 2), .int .i64 (d - 2), .int .i64 (d - 1), .int .i64 0]) ∧ Below w.heap.size w w' := by
  go_enter Yaav.func57, Yaav.ntmps57
  go_wp2
  exact bodyPost_ret (v := .agg #[.int .i64 4, .int .i64 (d - 2), .int .i64 (d - 2), .int .i64 (d - 1), .int .i64 0]) (by simp [results, Yaav.results57, go_sem]) rfl ⟨rfl, ((Below.refl _ _).alloc (Nat.le_refl _) _).alloc (by simp) _⟩

set_option maxRecDepth 100000 in
set_option maxHeartbeats 400000 in
theorem rf_5 (a d : Int) (w : World) (hd : -1 ≤ d) (hd2 : d ≤ 65536) (hu : ¬ d < 0) : Calls Yaav.prog 57 #[.agg #[.int .i64 5, .int .i64 a], .int .i64 d] w fun e w' => e = .returned (.agg #[.int .i64 5, .int .i64 d, .int .i64 (d - 1), .int .i64 0, .int .i64 0]) ∧ Below w.heap.size w w' := by
  go_enter Yaav.func57, Yaav.ntmps57
  go_wp2
  exact bodyPost_ret (v := .agg #[.int .i64 5, .int .i64 d, .int .i64 (d - 1), .int .i64 0, .int .i64 0]) (by simp [results, Yaav.results57, go_sem]) rfl ⟨rfl, ((Below.refl _ _).alloc (Nat.le_refl _) _).alloc (by simp) _⟩

set_option maxRecDepth 100000 in
set_option maxHeartbeats 400000 in
theorem rf_6 (a d : Int) (w : World) (hd : -1 ≤ d) (hd2 : d ≤ 65536) (hu : ¬ d < 0) : Calls Yaav.prog 57 #[.agg #[.int .i64 6, .int .i64 a], .int .i64 d] w fun e w' => e = .returned (.agg #[.int .i64 5, .int .i64 d, .int .i64 (d - 2), .int .i64 0, .int .i64 0]) ∧ Below w.heap.size w w' := by
  go_enter Yaav.func57, Yaav.ntmps57
  go_wp2
  exact bodyPost_ret (v := .agg #[.int .i64 5, .int .i64 d, .int .i64 (d - 2), .int .i64 0, .int .i64 0]) (by simp [results, Yaav.results57, go_sem]) rfl ⟨rfl, ((Below.refl _ _).alloc (Nat.le_refl _) _).alloc (by simp) _⟩

set_option maxRecDepth 100000 in
set_option maxHeartbeats 400000 in
theorem rf_8 (a d : Int) (w : World) (hd : -1 ≤ d) (hd2 : d ≤ 65536) (hu : ¬ d < 0) : Calls Yaav.prog 57 #[.agg #[.int .i64 8, .int .i64 a], .int .i64 d] w fun e w' => e = .returned (.agg #[.int .i64 6, .int .i64 0, .int .i64 (d - 2), .int .i64 (d - 1), .int .i64 0]) ∧ Below w.heap.size w w' := by
  go_enter Yaav.func57, Yaav.ntmps57
  go_wp2
  exact bodyPost_ret (v := .agg #[.int .i64 6, .int .i64 0, .int .i64 (d - 2), .int .i64 (d - 1), .int .i64 0]) (by simp [results, Yaav.results57, go_sem]) rfl ⟨rfl, ((Below.refl _ _).alloc (Nat.le_refl _) _).alloc (by simp) _⟩

set_option maxRecDepth 100000 in
set_option maxHeartbeats 400000 in
theorem rf_9 (a d : Int) (w : World) (hd : -1 ≤ d) (hd2 : d ≤ 65536) (hu : ¬ d < 0) : Calls Yaav.prog 57 #[.agg #[.int .i64 9, .int .i64 a], .int .i64 d] w fun e w' => e = .returned (.agg #[.int .i64 8, .int .i64 0, .int .i64 0, .int .i64 0, .int .i64 a]) ∧ Below w.heap.size w w' := by
  go_enter Yaav.func57, Yaav.ntmps57
  go_wp2
  exact bodyPost_ret (v := .agg #[.int .i64 8, .int .i64 0, .int .i64 0, .int .i64 0, .int .i64 a]) (by simp [results, Yaav.results57, go_sem]) rfl ⟨rfl, ((Below.refl _ _).alloc (Nat.le_refl _) _).alloc (by simp) _⟩

set_option maxRecDepth 100000 in
set_option maxHeartbeats 400000 in
theorem rf_10 (a d : Int) (w : World) (hd : -1 ≤ d) (hd2 : d ≤ 65536) (hu : ¬ d < 0) : Calls Yaav.prog 57 #[.agg #[.int .i64 10, .int .i64 a], .int .i64 d] w fun e w' => e = .returned (.agg #[.int .i64 9, .int .i64 0, .int .i64 (d - 1), .int .i64 0, .int .i64 a]) ∧ Below w.heap.size w w' := by
  go_enter Yaav.func57, Yaav.ntmps57
  go_wp2
  exact bodyPost_ret (v := .agg #[.int .i64 9, .int .i64 0, .int .i64 (d - 1), .int .i64 0, .int .i64 a]) (by simp [results, Yaav.results57, go_sem]) rfl ⟨rfl, ((Below.refl _ _).alloc (Nat.le_refl _) _).alloc (by simp) _⟩

set_option maxRecDepth 100000 in
set_option maxHeartbeats 400000 in
theorem rf_11 (a d : Int) (w : World) (hd : -1 ≤ d) (hd2 : d ≤ 65536) (hu : ¬ d < 0) : Calls Yaav.prog 57 #[.agg #[.int .i64 11, .int .i64 a], .int .i64 d] w fun e w' => e = .returned (.agg #[.int .i64 10, .int .i64 0, .int .i64 d, .int .i64 0, .int .i64 0]) ∧ Below w.heap.size w w' := by
  go_enter Yaav.func57, Yaav.ntmps57
  go_wp2
  exact bodyPost_ret (v := .agg #[.int .i64 10, .int .i64 0, .int .i64 d, .int .i64 0, .int .i64 0]) (by simp [results, Yaav.results57, go_sem]) rfl ⟨rfl, ((Below.refl _ _).alloc (Nat.le_refl _) _).alloc (by simp) _⟩

set_option maxRecDepth 100000 in
set_option maxHeartbeats 400000 in
theorem rf_x (c a d : Int) (w : World) (hd : -1 ≤ d) (hd2 : d ≤ 65536) (hu : ¬ d < 0) (n0 : (c == 0) = false) (n1 : (c == 1) = false) (n2 : (c == 2) = false) (n3 : (c == 3) = false) (n4 : (c == 4) = false) (n5 : (c == 5) = false) (n6 : (c == 6) = false) (n8 : (c == 8) = false) (n9 : (c == 9) = false) (n10 : (c == 10) = false) (n11 : (c == 11) = false) : Calls Yaav.prog 57 #[.agg #[.int .i64 c, .int .i64 a], .int .i64 d] w fun e w' => e = .returned (.agg #[.int .i64 7, .int .i64 0, .int .i64 0, .int .i64 0, .int .i64 0]) ∧ Below w.heap.size w w' := by
  go_enter Yaav.func57, Yaav.ntmps57
  go_wp2
  exact bodyPost_ret (v := .agg #[.int .i64 7, .int .i64 0, .int .i64 0, .int .i64 0, .int .i64 0]) (by simp [results, Yaav.results57, go_sem]) rfl ⟨rfl, ((Below.refl _ _).alloc (Nat.le_refl _) _).alloc (by simp) _⟩

theorem regFor_any (p : SO) (d : Int) (w : World) (hd : -1 ≤ d) (hd2 : d ≤ 65536) :
    Calls Yaav.prog 57 #[.agg #[.int .i64 p.c, .int .i64 p.a], .int .i64 d] w fun e w' => e = .returned (roV (regFor p d)) ∧ Below w.heap.size w w' := by
  obtain ⟨c, a⟩ := p
  unfold regFor
  simp only
  by_cases hu : d < 0
  · rw [if_pos hu]; exact rf_u c a d w hd hd2 hu
  rw [if_neg hu]
  by_cases n0 : c = 0
  · rw [if_pos n0, n0]; exact rf_0 a d w hd hd2 hu
  rw [if_neg n0]
  by_cases n1 : c = 1
  · rw [if_pos n1, n1]; exact rf_1 a d w hd hd2 hu
  rw [if_neg n1]
  by_cases n2 : c = 2
  · rw [if_pos n2, n2]; exact rf_2 a d w hd hd2 hu
  rw [if_neg n2]
  by_cases n3 : c = 3
  · rw [if_pos n3, n3]; exact rf_3 a d w hd hd2 hu
  rw [if_neg n3]
  by_cases n4 : c = 4
  · rw [if_pos n4, n4]; exact rf_4 a d w hd hd2 hu
  rw [if_neg n4]
  by_cases n5 : c = 5
  · rw [if_pos n5, n5]; exact rf_5 a d w hd hd2 hu
  rw [if_neg n5]
  by_cases n6 : c = 6
  · rw [if_pos n6, n6]; exact rf_6 a d w hd hd2 hu
  rw [if_neg n6]
  by_cases n8 : c = 8
  · rw [if_pos n8, n8]; exact rf_8 a d w hd hd2 hu
  rw [if_neg n8]
  by_cases n9 : c = 9
  · rw [if_pos n9, n9]; exact rf_9 a d w hd hd2 hu
  rw [if_neg n9]
  by_cases n10 : c = 10
  · rw [if_pos n10, n10]; exact rf_10 a d w hd hd2 hu
  rw [if_neg n10]
  by_cases n11 : c = 11
  · rw [if_pos n11, n11]; exact rf_11 a d w hd hd2 hu
  rw [if_neg n11]
  exact rf_x c a d w hd hd2 hu (beq_eq_false_iff_ne.2 n0) (beq_eq_false_iff_ne.2 n1) (beq_eq_false_iff_ne.2 n2) (beq_eq_false_iff_ne.2 n3) (beq_eq_false_iff_ne.2 n4) (beq_eq_false_iff_ne.2 n5) (beq_eq_false_iff_ne.2 n6) (beq_eq_false_iff_ne.2 n8) (beq_eq_false_iff_ne.2 n9) (beq_eq_false_iff_ne.2 n10) (beq_eq_false_iff_ne.2 n11)

end Go.Proofs.Yahaaw
