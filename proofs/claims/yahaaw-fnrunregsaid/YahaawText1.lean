/-
  DERIVED. WALKS: spec.regText (64): the text of one register operation. Part 1.
-/
import Derived.Test.YahaawDec
import Derived.Test.YahaawLater
namespace Go.Proofs.Yahaaw
open Go.RowKit

/-- The text of one register operation. -/
def lineS (x : RO) : ByteArray :=
  if x.op = 0 then regS x.r ++ ⟨#[32, 61, 32]⟩ ++ decS x.k else
  if x.op = 1 then regS x.r ++ ⟨#[32, 61, 32, 97, 114, 103, 32]⟩ ++ decS x.k else
  if x.op = 2 then regS x.r ++ ⟨#[32, 61, 32]⟩ ++ regS x.a ++ ⟨#[32, 43, 32]⟩ ++ regS x.b else
  if x.op = 3 then regS x.r ++ ⟨#[32, 61, 32]⟩ ++ regS x.a ++ ⟨#[32, 45, 32]⟩ ++ regS x.b else
  if x.op = 4 then regS x.r ++ ⟨#[32, 61, 32]⟩ ++ regS x.a ++ ⟨#[32, 42, 32]⟩ ++ regS x.b else
  if x.op = 5 then regS x.r ++ ⟨#[32, 61, 32]⟩ ++ regS x.a else
  if x.op = 6 then (⟨#[115, 119, 97, 112, 32]⟩ : ByteArray) ++ regS x.a ++ ⟨#[32]⟩ ++ regS x.b else
  if x.op = 7 then (⟨#[110, 111, 112]⟩ : ByteArray) else
  if x.op = 8 then (⟨#[106, 109, 112, 32]⟩ : ByteArray) ++ decS x.k else
  if x.op = 9 then (⟨#[106, 122, 32]⟩ : ByteArray) ++ regS x.a ++ ⟨#[32]⟩ ++ decS x.k else
  if x.op = 10 then (⟨#[104, 97, 108, 116, 32]⟩ : ByteArray) ++ decS x.a else
  (⟨#[98, 97, 100, 32]⟩ : ByteArray) ++ decS x.op

theorem b_alloc_later (w x : World) (o : Obj) : Below w.heap.size w (later (w.alloc o) x) := Below.both ((Below.refl _ _).alloc (Nat.le_refl _) _) (later_below _ _)
theorem b_alloc_both {w w' : World} {o : Obj} (h : Below (w.alloc o).heap.size (w.alloc o) w') : Below w.heap.size w w' := Below.both ((Below.refl _ _).alloc (Nat.le_refl _) _) h

set_option maxRecDepth 100000 in
set_option maxHeartbeats 1000000 in
theorem rt_0 (r a b k : Int) (w : World) (hr : InR r) (ha : InR a) (hb : InR b) (hk : InR k) : Calls Yaav.prog 64 #[.agg #[.int .i64 0, .int .i64 r, .int .i64 a, .int .i64 b, .int .i64 k]] w
    fun e w' => e = .returned (.string (regS r ++ ⟨#[32, 61, 32]⟩ ++ decS k)) ∧ Below w.heap.size w w' := by
  have HR : Hid (InR r) := hr
  have HA : Hid (InR a) := ha
  have HB : Hid (InR b) := hb
  have HK : Hid (InR k) := hk
  have s1 := regS_size r
  have s2 := regS_size a
  have s3 := regS_size b
  have s4 := decS_size k
  have s5 := decS_size a
  clear hr ha hb hk
  go_enter Yaav.func64, Yaav.ntmps64
  go_wp2
  refine wp_region_later (by kernel_rfl) (by kernel_rfl) ?_
  have hc0 := fun x => later_cell (w := w.alloc (.cells #[.int .i64 0, .int .i64 r, .int .i64 a, .int .i64 b, .int .i64 k] 81)) (p := ⟨w.heap.size, 1, none⟩) (v := .int .i64 r) (by simp) (by simp) x
  have hc1 := fun x => later_cell (w := w.alloc (.cells #[.int .i64 0, .int .i64 r, .int .i64 a, .int .i64 b, .int .i64 k] 81)) (p := ⟨w.heap.size, 4, none⟩) (v := .int .i64 k) (by simp) (by simp) x
  repeat (go_big_quiet_step (first | (exact later_of (sreg _ _ HR.out)) | (exact later_of (dec _ _ HK.out))))
  refine wpQuiet_nil ?_
  rintro _ ⟨x, rfl⟩
  go_wp2
  go_ret
  exact ⟨rfl, b_alloc_later _ _ _⟩

set_option maxRecDepth 100000 in
set_option maxHeartbeats 1000000 in
theorem rt_1 (r a b k : Int) (w : World) (hr : InR r) (ha : InR a) (hb : InR b) (hk : InR k) : Calls Yaav.prog 64 #[.agg #[.int .i64 1, .int .i64 r, .int .i64 a, .int .i64 b, .int .i64 k]] w
    fun e w' => e = .returned (.string (regS r ++ ⟨#[32, 61, 32, 97, 114, 103, 32]⟩ ++ decS k)) ∧ Below w.heap.size w w' := by
  have HR : Hid (InR r) := hr
  have HA : Hid (InR a) := ha
  have HB : Hid (InR b) := hb
  have HK : Hid (InR k) := hk
  have s1 := regS_size r
  have s2 := regS_size a
  have s3 := regS_size b
  have s4 := decS_size k
  have s5 := decS_size a
  clear hr ha hb hk
  go_enter Yaav.func64, Yaav.ntmps64
  go_wp2
  refine wp_region_later (by kernel_rfl) (by kernel_rfl) ?_
  have hc0 := fun x => later_cell (w := w.alloc (.cells #[.int .i64 1, .int .i64 r, .int .i64 a, .int .i64 b, .int .i64 k] 81)) (p := ⟨w.heap.size, 1, none⟩) (v := .int .i64 r) (by simp) (by simp) x
  have hc1 := fun x => later_cell (w := w.alloc (.cells #[.int .i64 1, .int .i64 r, .int .i64 a, .int .i64 b, .int .i64 k] 81)) (p := ⟨w.heap.size, 4, none⟩) (v := .int .i64 k) (by simp) (by simp) x
  repeat (go_big_quiet_step (first | (exact later_of (sreg _ _ HR.out)) | (exact later_of (dec _ _ HK.out))))
  refine wpQuiet_nil ?_
  rintro _ ⟨x, rfl⟩
  go_wp2
  go_ret
  exact ⟨rfl, b_alloc_later _ _ _⟩

set_option maxRecDepth 100000 in
set_option maxHeartbeats 1000000 in
theorem rt_2 (r a b k : Int) (w : World) (hr : InR r) (ha : InR a) (hb : InR b) (hk : InR k) : Calls Yaav.prog 64 #[.agg #[.int .i64 2, .int .i64 r, .int .i64 a, .int .i64 b, .int .i64 k]] w
    fun e w' => e = .returned (.string (regS r ++ ⟨#[32, 61, 32]⟩ ++ regS a ++ ⟨#[32, 43, 32]⟩ ++ regS b)) ∧ Below w.heap.size w w' := by
  have HR : Hid (InR r) := hr
  have HA : Hid (InR a) := ha
  have HB : Hid (InR b) := hb
  have HK : Hid (InR k) := hk
  have s1 := regS_size r
  have s2 := regS_size a
  have s3 := regS_size b
  have s4 := decS_size k
  have s5 := decS_size a
  clear hr ha hb hk
  go_enter Yaav.func64, Yaav.ntmps64
  go_wp2
  refine wp_region_later (by kernel_rfl) (by kernel_rfl) ?_
  have hc0 := fun x => later_cell (w := w.alloc (.cells #[.int .i64 2, .int .i64 r, .int .i64 a, .int .i64 b, .int .i64 k] 81)) (p := ⟨w.heap.size, 1, none⟩) (v := .int .i64 r) (by simp) (by simp) x
  have hc1 := fun x => later_cell (w := w.alloc (.cells #[.int .i64 2, .int .i64 r, .int .i64 a, .int .i64 b, .int .i64 k] 81)) (p := ⟨w.heap.size, 2, none⟩) (v := .int .i64 a) (by simp) (by simp) x
  have hc2 := fun x => later_cell (w := w.alloc (.cells #[.int .i64 2, .int .i64 r, .int .i64 a, .int .i64 b, .int .i64 k] 81)) (p := ⟨w.heap.size, 3, none⟩) (v := .int .i64 b) (by simp) (by simp) x
  repeat (go_big_quiet_step (first | (exact later_of (sreg _ _ HR.out)) | (exact later_of (sreg _ _ HA.out)) | (exact later_of (sreg _ _ HB.out))))
  refine wpQuiet_nil ?_
  rintro _ ⟨x, rfl⟩
  go_wp2
  go_ret
  exact ⟨rfl, b_alloc_later _ _ _⟩

set_option maxRecDepth 100000 in
set_option maxHeartbeats 1000000 in
theorem rt_3 (r a b k : Int) (w : World) (hr : InR r) (ha : InR a) (hb : InR b) (hk : InR k) : Calls Yaav.prog 64 #[.agg #[.int .i64 3, .int .i64 r, .int .i64 a, .int .i64 b, .int .i64 k]] w
    fun e w' => e = .returned (.string (regS r ++ ⟨#[32, 61, 32]⟩ ++ regS a ++ ⟨#[32, 45, 32]⟩ ++ regS b)) ∧ Below w.heap.size w w' := by
  have HR : Hid (InR r) := hr
  have HA : Hid (InR a) := ha
  have HB : Hid (InR b) := hb
  have HK : Hid (InR k) := hk
  have s1 := regS_size r
  have s2 := regS_size a
  have s3 := regS_size b
  have s4 := decS_size k
  have s5 := decS_size a
  clear hr ha hb hk
  go_enter Yaav.func64, Yaav.ntmps64
  go_wp2
  refine wp_region_later (by kernel_rfl) (by kernel_rfl) ?_
  have hc0 := fun x => later_cell (w := w.alloc (.cells #[.int .i64 3, .int .i64 r, .int .i64 a, .int .i64 b, .int .i64 k] 81)) (p := ⟨w.heap.size, 1, none⟩) (v := .int .i64 r) (by simp) (by simp) x
  have hc1 := fun x => later_cell (w := w.alloc (.cells #[.int .i64 3, .int .i64 r, .int .i64 a, .int .i64 b, .int .i64 k] 81)) (p := ⟨w.heap.size, 2, none⟩) (v := .int .i64 a) (by simp) (by simp) x
  have hc2 := fun x => later_cell (w := w.alloc (.cells #[.int .i64 3, .int .i64 r, .int .i64 a, .int .i64 b, .int .i64 k] 81)) (p := ⟨w.heap.size, 3, none⟩) (v := .int .i64 b) (by simp) (by simp) x
  repeat (go_big_quiet_step (first | (exact later_of (sreg _ _ HR.out)) | (exact later_of (sreg _ _ HA.out)) | (exact later_of (sreg _ _ HB.out))))
  refine wpQuiet_nil ?_
  rintro _ ⟨x, rfl⟩
  go_wp2
  go_ret
  exact ⟨rfl, b_alloc_later _ _ _⟩

set_option maxRecDepth 100000 in
set_option maxHeartbeats 1000000 in
theorem rt_4 (r a b k : Int) (w : World) (hr : InR r) (ha : InR a) (hb : InR b) (hk : InR k) : Calls Yaav.prog 64 #[.agg #[.int .i64 4, .int .i64 r, .int .i64 a, .int .i64 b, .int .i64 k]] w
    fun e w' => e = .returned (.string (regS r ++ ⟨#[32, 61, 32]⟩ ++ regS a ++ ⟨#[32, 42, 32]⟩ ++ regS b)) ∧ Below w.heap.size w w' := by
  have HR : Hid (InR r) := hr
  have HA : Hid (InR a) := ha
  have HB : Hid (InR b) := hb
  have HK : Hid (InR k) := hk
  have s1 := regS_size r
  have s2 := regS_size a
  have s3 := regS_size b
  have s4 := decS_size k
  have s5 := decS_size a
  clear hr ha hb hk
  go_enter Yaav.func64, Yaav.ntmps64
  go_wp2
  refine wp_region_later (by kernel_rfl) (by kernel_rfl) ?_
  have hc0 := fun x => later_cell (w := w.alloc (.cells #[.int .i64 4, .int .i64 r, .int .i64 a, .int .i64 b, .int .i64 k] 81)) (p := ⟨w.heap.size, 1, none⟩) (v := .int .i64 r) (by simp) (by simp) x
  have hc1 := fun x => later_cell (w := w.alloc (.cells #[.int .i64 4, .int .i64 r, .int .i64 a, .int .i64 b, .int .i64 k] 81)) (p := ⟨w.heap.size, 2, none⟩) (v := .int .i64 a) (by simp) (by simp) x
  have hc2 := fun x => later_cell (w := w.alloc (.cells #[.int .i64 4, .int .i64 r, .int .i64 a, .int .i64 b, .int .i64 k] 81)) (p := ⟨w.heap.size, 3, none⟩) (v := .int .i64 b) (by simp) (by simp) x
  repeat (go_big_quiet_step (first | (exact later_of (sreg _ _ HR.out)) | (exact later_of (sreg _ _ HA.out)) | (exact later_of (sreg _ _ HB.out))))
  refine wpQuiet_nil ?_
  rintro _ ⟨x, rfl⟩
  go_wp2
  go_ret
  exact ⟨rfl, b_alloc_later _ _ _⟩

end Go.Proofs.Yahaaw
