/-
  DERIVED. WALKS: laws.fromOutcome (30), laws.sameOutcome (60).
-/
import Derived.Test.YahaawRun0
import Derived.Test.YahaawStk
import Derived.Test.YahaawCopy2
import Derived.Test.YahaawSame
import Derived.Deep.RegionHeld
import Derived.Deep.DrawnRows
namespace Go.Proofs.Yahaaw
open Go.RowKit
attribute [local go_sem ↓] Go.wp_at_zero Go.wp_at_succ
set_option linter.unusedVariables false
set_option linter.unusedSimpArgs false

/-- Three cells of a block. -/
def Tri (w : World) (g : Nat) (x y z : Value) : Prop := w.cell? ⟨g, 0, none⟩ = some x ∧ w.cell? ⟨g, 1, none⟩ = some y ∧ w.cell? ⟨g, 2, none⟩ = some z
theorem Blk.tri {w : World} {g : Nat} {x y z : Value} {t : TypeId} (h : Blk w g [x, y, z] t) : Tri w g x y z := ⟨by rw [h.cell]; rfl, by rw [h.cell]; rfl, by rw [h.cell]; rfl⟩

set_option maxRecDepth 100000 in
set_option maxHeartbeats 4000000 in
theorem fromO (a : Option Addr) (n cap : Nat) (xs : List Int) (s t : Int) (w : World) (hn : xs.length = n) (hn2 : n ≤ 1099511627776) (hs : Seg w a (iCells xs)) :
    Calls Yaav.prog 30 #[.agg #[.int .i64 s, .slice a n cap, .int .i64 t]] w fun e w' => ∃ b, e = .returned (.agg #[.int .i64 s, .slice b n n, .int .i64 t]) ∧ Own w' w.heap.size b (iCells xs) 2 ∧ Below w.heap.size w w' := by
  have HS := hideP hs
  have HN := hideP hn
  have B0 : Hid (Below w.heap.size w ((w.alloc (.cells #[.int .i64 s, .slice a n cap, .int .i64 t] 38)).alloc (.cells #[.int .i64 0, .slice none 0 0, .int .i64 0] 48))) := ((Below.refl _ _).alloc (Nat.le_refl _) _).alloc (by simp) _
  have K0 : Hid (Blk ((w.alloc (.cells #[.int .i64 s, .slice a n cap, .int .i64 t] 38)).alloc (.cells #[.int .i64 0, .slice none 0 0, .int .i64 0] 48)) w.heap.size [.int .i64 s, .slice a n cap, .int .i64 t] 38) := (Blk.new' w #[.int .i64 s, .slice a n cap, .int .i64 t] 38).alloc _
  have K1 : Hid (Blk ((w.alloc (.cells #[.int .i64 s, .slice a n cap, .int .i64 t] 38)).alloc (.cells #[.int .i64 0, .slice none 0 0, .int .i64 0] 48)) (w.heap.size + 1) [.int .i64 0, .slice none 0 0, .int .i64 0] 48) := by
    have := Blk.new' (w.alloc (.cells #[.int .i64 s, .slice a n cap, .int .i64 t] 38)) #[.int .i64 0, .slice none 0 0, .int .i64 0] 48
    simpa [Hid] using this
  clear hs hn
  go_enter Yaav.func30, Yaav.ntmps30
  go_wp2
  generalize ((w.alloc (.cells #[.int .i64 s, .slice a n cap, .int .i64 t] 38)).alloc (.cells #[.int .i64 0, .slice none 0 0, .int .i64 0] 48)) = W at *
  obtain ⟨c0, c1, c2⟩ := K0.out.tri
  have l0 := K0.out.lt
  have l1 := K1.out.lt
  go_region_held (fun w' => w'.cell? ⟨w.heap.size, 0, none⟩ = some (.int .i64 s) ∧ w'.cell? ⟨w.heap.size, 1, none⟩ = some (.slice a n cap) ∧ w'.cell? ⟨w.heap.size, 2, none⟩ = some (.int .i64 t))
    (first | go_keep | exact ⟨keepC hb (by assumption), keepC hb (by assumption), keepC hb (by assumption)⟩)
    (first | (go_at_call 31; refine (cpI a n cap false xs _ HN.out (by omega) (HS.out.below B0.out.drew)).mono ?_; rintro e w2 ⟨b, rfl, hb, ho⟩; have B2 := hideP (Below.both B0.out.drew hb); have kk := K1.out.drew.below hb l1; have d0 := kk.cell 0; have d1 := kk.cell 1; have d2 := kk.cell 2; simp at d0 d1 d2; have f0 := kk.frozen 0; have f1 := kk.frozen 1; have f2 := kk.frozen 2; have KK := hideP kk; clear kk))
  have OO := hideP ho
  clear hb ho c0 c1 c2
  go_wp2
  have hW := ((KK.out.set 0 (.int .i64 s)).set 1 (.slice b n n)).set 2 (.int .i64 t)
  have e0 := hW.cell 0
  have e1 := hW.cell 1
  have e2 := hW.cell 2
  simp at e0 e1 e2
  refine bodyPost_ret (v := .agg #[.int .i64 s, .slice b n n, .int .i64 t]) (by simp [results, Yaav.results30, go_sem, e0, e1, e2]) rfl ⟨b, rfl, ?_, ?_⟩
  · exact (((OO.out.set (p := ⟨_, _, none⟩) l1 _).set (p := ⟨_, _, none⟩) l1 _).set (p := ⟨_, _, none⟩) l1 _).mono (by show w.heap.size ≤ W.heap.size; omega)
  · exact ((B2.out.setCell (p := ⟨_, _, none⟩) (by simp) _).setCell (p := ⟨_, _, none⟩) (by simp) _).setCell (p := ⟨_, _, none⟩) (by simp) _

set_option maxRecDepth 100000 in
set_option maxHeartbeats 4000000 in
theorem sameO (a a' : Option Addr) (n cap cap' : Nat) (xs : List Int) (s t : Int) (w : World) (hn : xs.length = n) (hn2 : n ≤ 1099511627776) (hs : Seg w a (iCells xs)) (hs' : Seg w a' (iCells xs)) :
    Calls Yaav.prog 60 #[.agg #[.int .i64 s, .slice a n cap, .int .i64 t], .agg #[.int .i64 s, .slice a' n cap', .int .i64 t]] w fun e w' => e = .returned (.bool true) ∧ Below w.heap.size w w' := by
  have B0 : Hid (Below w.heap.size w ((w.alloc (.cells #[.int .i64 s, .slice a n cap, .int .i64 t] 48)).alloc (.cells #[.int .i64 s, .slice a' n cap', .int .i64 t] 48))) := ((Below.refl _ _).alloc (Nat.le_refl _) _).alloc (by simp) _
  have HS := hideP hs
  have HS' := hideP hs'
  have HN := hideP hn
  clear hs hs' hn
  go_enter Yaav.func60, Yaav.ntmps60
  go_wp2_with (go_at_call 61; refine (sameI a a' n cap cap' xs _ HN.out (by omega) (HS.out.below B0.out) (HS'.out.below B0.out)).mono ?_; rintro e w2 ⟨rfl, hb⟩)
  go_ret
  exact ⟨rfl, Below.both B0.out hb⟩

end Go.Proofs.Yahaaw
