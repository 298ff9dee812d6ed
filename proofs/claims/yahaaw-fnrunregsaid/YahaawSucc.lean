/-
  DERIVED. WALKS: impl.needs (54), impl.delta (70), spec.effect (71), spec.successors (69).
-/
import Derived.Test.YahaawDep
import Derived.Test.YahaawFlip
namespace Go.Proofs.Yahaaw
open Go.RowKit

theorem ret1 {k : IntKind} {a b : Int} (h : a = b) : Ending.returned (.int k a) = .returned (.int k b) := by rw [h]
theorem ret2 {k : IntKind} {a b c d : Int} (h : a = b) (h' : c = d) : Ending.returned (.tuple #[.int k a, .int k c]) = .returned (.tuple #[.int k b, .int k d]) := by rw [h, h']

set_option maxRecDepth 100000 in
set_option maxHeartbeats 400000 in
theorem needs_any (c : Int) (w : World) :
    Calls Yaav.prog 54 #[.int .i64 c] w fun e w' => e = .returned (.int .i64 (needs c)) ∧ w' = w := by
  go_enter Yaav.func54, Yaav.ntmps54
  go_wp2
  all_goals
    go_ret
    refine ⟨ret1 ?_, rfl⟩
    simp_all [needs]

set_option maxRecDepth 100000 in
set_option maxHeartbeats 400000 in
theorem delta_any (c : Int) (w : World) :
    Calls Yaav.prog 70 #[.int .i64 c] w fun e w' => e = .returned (.int .i64 (delta c)) ∧ w' = w := by
  go_enter Yaav.func70, Yaav.ntmps70
  go_wp2
  all_goals
    go_ret
    refine ⟨ret1 ?_, rfl⟩
    simp_all [delta]

set_option maxRecDepth 100000 in
set_option maxHeartbeats 400000 in
theorem effect_any (c : Int) (w : World) :
    Calls Yaav.prog 71 #[.int .i64 c] w fun e w' => e = .returned (.tuple #[.int .i64 (needs c), .int .i64 (delta c)]) ∧ w' = w := by
  go_enter Yaav.func71, Yaav.ntmps71
  go_wp2
  all_goals
    go_ret2
    refine ⟨ret2 ?_ ?_, rfl⟩
    · simp_all [needs]
    · simp_all [delta]
/-- Edges as cells. -/
def eCells (es : List (Nat × Int)) : List Value := es.flatMap fun e => [.int .i64 (e.1 : Int), .int .i64 e.2]

/-- What successors hands back. -/
def SuccPost (o : Option (List (Nat × Int))) (B : Nat) (e : Ending) (w' : World) : Prop :=
  match o with
  | none => e = .returned (.tuple #[.slice none 0 0, .bool false])
  | some es => ∃ a, e = .returned (.tuple #[.slice a es.length es.length, .bool true]) ∧ Own w' B a (eCells es) 114

set_option maxRecDepth 100000 in
set_option maxHeartbeats 2000000 in
theorem succ_any (p : SO) (d : Int) (i n : Nat) (w : World) (hd : 0 ≤ d) (hd2 : d ≤ 65536) (hi : i < n) (hn : n ≤ 65536) :
    Calls Yaav.prog 69 #[.agg #[.int .i64 p.c, .int .i64 p.a], .int .i64 d, .int .i64 i, .int .i64 n] w fun e w' => SuccPost (succs p d i n) w.heap.size e w' ∧ Below w.heap.size w w' := by
  obtain ⟨c, a⟩ := p
  simp only
  have hdl := delta_le c
  have hnl := needs_le c
  by_cases h1 : needs c < 0
  · have hs : Hid (succs ⟨c, a⟩ d i n = none) := by show _ = _; simp [succs, h1]
    go_enter Yaav.func69, Yaav.ntmps69
    go_wp2_with (go_at_call 71; refine (effect_any _ _).mono ?_; rintro e w' ⟨rfl, rfl⟩)
    go_ret2
    rw [hs.out]
    exact ⟨rfl, (Below.refl _ _).alloc (Nat.le_refl _) _⟩
  by_cases h2 : d < needs c
  · have hs : Hid (succs ⟨c, a⟩ d i n = none) := by show _ = _; simp [succs, h2]
    go_enter Yaav.func69, Yaav.ntmps69
    go_wp2_with (go_at_call 71; refine (effect_any _ _).mono ?_; rintro e w' ⟨rfl, rfl⟩)
    go_ret2
    rw [hs.out]
    exact ⟨rfl, (Below.refl _ _).alloc (Nat.le_refl _) _⟩
  by_cases h3 : c = 11
  · subst h3
    have hs : Hid (succs ⟨11, a⟩ d i n = some []) := by show _ = _; simp [succs, h1, h2]
    go_enter Yaav.func69, Yaav.ntmps69
    go_wp2_with (go_at_call 71; refine (effect_any _ _).mono ?_; rintro e w' ⟨rfl, rfl⟩)
    go_ret2
    rw [hs.out]
    exact ⟨⟨none, rfl, Own.nil _ _ _ _⟩, (Below.refl _ _).alloc (Nat.le_refl _) _⟩
  have b3 : (c == 11) = false := beq_eq_false_iff_ne.2 h3
  by_cases g9 : c = 9
  · subst g9
    by_cases h5 : a < 0
    · have hs : Hid (succs ⟨9, a⟩ d i n = none) := by show _ = _; simp [succs, h1, h2, h5]
      go_enter Yaav.func69, Yaav.ntmps69
      go_wp2_with (go_at_call 71; refine (effect_any _ _).mono ?_; rintro e w' ⟨rfl, rfl⟩)
      go_ret2
      rw [hs.out]
      exact ⟨rfl, (Below.refl _ _).alloc (Nat.le_refl _) _⟩
    by_cases h6 : (n : Int) < a
    · have hs : Hid (succs ⟨9, a⟩ d i n = none) := by show _ = _; simp [succs, h1, h2, h6]
      go_enter Yaav.func69, Yaav.ntmps69
      go_wp2_with (go_at_call 71; refine (effect_any _ _).mono ?_; rintro e w' ⟨rfl, rfl⟩)
      go_ret2
      rw [hs.out]
      exact ⟨rfl, (Below.refl _ _).alloc (Nat.le_refl _) _⟩
    · obtain ⟨A, rfl⟩ := Int.eq_ofNat_of_zero_le (by omega : 0 ≤ a)
      have hs : Hid (succs ⟨9, (A : Int)⟩ d i n = some [(A, d)]) := by show _ = _; simp [succs, h1, h2, h5, h6]
      go_enter Yaav.func69, Yaav.ntmps69
      go_wp2_with (go_at_call 71; refine (effect_any _ _).mono ?_; rintro e w' ⟨rfl, rfl⟩)
      go_ret2
      rw [hs.out]
      exact ⟨⟨_, rfl, .inr ⟨w.heap.size + 1, by omega, rfl, by simpa [eCells] using Blk.new' (w.alloc (.cells #[.int .i64 9, .int .i64 A] 73)) _ 114⟩⟩, ((Below.refl _ _).alloc (Nat.le_refl _) _).alloc (by simp) _⟩
  have b9 : (c == 9) = false := beq_eq_false_iff_ne.2 g9
  by_cases g10 : c = 10
  · subst g10
    by_cases h5 : a < 0
    · have hs : Hid (succs ⟨10, a⟩ d i n = none) := by show _ = _; simp [succs, h1, h2, h5]
      go_enter Yaav.func69, Yaav.ntmps69
      go_wp2_with (go_at_call 71; refine (effect_any _ _).mono ?_; rintro e w' ⟨rfl, rfl⟩)
      go_ret2
      rw [hs.out]
      exact ⟨rfl, (Below.refl _ _).alloc (Nat.le_refl _) _⟩
    by_cases h6 : (n : Int) < a
    · have hs : Hid (succs ⟨10, a⟩ d i n = none) := by show _ = _; simp [succs, h1, h2, h6]
      go_enter Yaav.func69, Yaav.ntmps69
      go_wp2_with (go_at_call 71; refine (effect_any _ _).mono ?_; rintro e w' ⟨rfl, rfl⟩)
      go_ret2
      rw [hs.out]
      exact ⟨rfl, (Below.refl _ _).alloc (Nat.le_refl _) _⟩
    · obtain ⟨A, rfl⟩ := Int.eq_ofNat_of_zero_le (by omega : 0 ≤ a)
      have hs : Hid (succs ⟨10, (A : Int)⟩ d i n = some [(i + 1, d - 1), (A, d - 1)]) := by show _ = _; simp [succs, h1, h2, h5, h6]
      go_enter Yaav.func69, Yaav.ntmps69
      go_wp2_with (go_at_call 71; refine (effect_any _ _).mono ?_; rintro e w' ⟨rfl, rfl⟩)
      go_ret2
      rw [hs.out]
      exact ⟨⟨_, rfl, .inr ⟨w.heap.size + 1, by omega, rfl, by simpa [eCells] using Blk.new' (w.alloc (.cells #[.int .i64 10, .int .i64 A] 73)) _ 114⟩⟩, ((Below.refl _ _).alloc (Nat.le_refl _) _).alloc (by simp) _⟩
  have b10 : (c == 10) = false := beq_eq_false_iff_ne.2 g10
  have hs : Hid (succs ⟨c, a⟩ d i n = some [(i + 1, d + delta c)]) := by show _ = _; simp [succs, h1, h2, h3, g9, g10]
  go_enter Yaav.func69, Yaav.ntmps69
  go_wp2_with (go_at_call 71; refine (effect_any _ _).mono ?_; rintro e w' ⟨rfl, rfl⟩)
  go_ret2
  rw [hs.out]
  exact ⟨⟨_, rfl, .inr ⟨w.heap.size + 1, by omega, rfl, by simpa [eCells] using Blk.new' (w.alloc (.cells #[.int .i64 c, .int .i64 a] 73)) _ 114⟩⟩, ((Below.refl _ _).alloc (Nat.le_refl _) _).alloc (by simp) _⟩

end Go.Proofs.Yahaaw
