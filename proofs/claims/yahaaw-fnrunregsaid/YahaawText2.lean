/-
  DERIVED. WALKS: spec.regText (64): the text of one register operation. Part 2.
-/
import Derived.Test.YahaawDec
import Derived.Test.YahaawLater
import Derived.Test.YahaawText1
namespace Go.Proofs.Yahaaw
open Go.RowKit

set_option maxRecDepth 100000 in
set_option maxHeartbeats 1000000 in
theorem rt_5 (r a b k : Int) (w : World) (hr : InR r) (ha : InR a) (hb : InR b) (hk : InR k) : Calls Yaav.prog 64 #[.agg #[.int .i64 5, .int .i64 r, .int .i64 a, .int .i64 b, .int .i64 k]] w
    fun e w' => e = .returned (.string (regS r ++ ⟨#[32, 61, 32]⟩ ++ regS a)) ∧ Below w.heap.size w w' := by
  have HR : Hid (InR r) := hr
  have HA : Hid (InR a) := ha
  have HB : Hid (InR b) := hb
  have HK : Hid (InR k) := hk
  have s1 := regS_size r
  have s2 := regS_size a
  have s3 := regS_size b
  have s4 := decS_size k
  have s5 := decS_size a
  clear hr ha hb hk
  go_enter Yaav.func64, Yaav.ntmps64
  go_wp2
  refine wp_region_later (by kernel_rfl) (by kernel_rfl) ?_
  have hc0 := fun x => later_cell (w := w.alloc (.cells #[.int .i64 5, .int .i64 r, .int .i64 a, .int .i64 b, .int .i64 k] 81)) (p := ⟨w.heap.size, 1, none⟩) (v := .int .i64 r) (by simp) (by simp) x
  have hc1 := fun x => later_cell (w := w.alloc (.cells #[.int .i64 5, .int .i64 r, .int .i64 a, .int .i64 b, .int .i64 k] 81)) (p := ⟨w.heap.size, 2, none⟩) (v := .int .i64 a) (by simp) (by simp) x
  repeat (go_big_quiet_step (first | (exact later_of (sreg _ _ HR.out)) | (exact later_of (sreg _ _ HA.out))))
  refine wpQuiet_nil ?_
  rintro _ ⟨x, rfl⟩
  go_wp2
  go_ret
  exact ⟨rfl, b_alloc_later _ _ _⟩

set_option maxRecDepth 100000 in
set_option maxHeartbeats 1000000 in
theorem rt_6 (r a b k : Int) (w : World) (hr : InR r) (ha : InR a) (hb : InR b) (hk : InR k) : Calls Yaav.prog 64 #[.agg #[.int .i64 6, .int .i64 r, .int .i64 a, .int .i64 b, .int .i64 k]] w
    fun e w' => e = .returned (.string ((⟨#[115, 119, 97, 112, 32]⟩ : ByteArray) ++ regS a ++ ⟨#[32]⟩ ++ regS b)) ∧ Below w.heap.size w w' := by
  have HR : Hid (InR r) := hr
  have HA : Hid (InR a) := ha
  have HB : Hid (InR b) := hb
  have HK : Hid (InR k) := hk
  have s1 := regS_size r
  have s2 := regS_size a
  have s3 := regS_size b
  have s4 := decS_size k
  have s5 := decS_size a
  clear hr ha hb hk
  go_enter Yaav.func64, Yaav.ntmps64
  go_wp2
  refine wp_region_later (by kernel_rfl) (by kernel_rfl) ?_
  have hc0 := fun x => later_cell (w := w.alloc (.cells #[.int .i64 6, .int .i64 r, .int .i64 a, .int .i64 b, .int .i64 k] 81)) (p := ⟨w.heap.size, 2, none⟩) (v := .int .i64 a) (by simp) (by simp) x
  have hc1 := fun x => later_cell (w := w.alloc (.cells #[.int .i64 6, .int .i64 r, .int .i64 a, .int .i64 b, .int .i64 k] 81)) (p := ⟨w.heap.size, 3, none⟩) (v := .int .i64 b) (by simp) (by simp) x
  repeat (go_big_quiet_step (first | (exact later_of (sreg _ _ HA.out)) | (exact later_of (sreg _ _ HB.out))))
  refine wpQuiet_nil ?_
  rintro _ ⟨x, rfl⟩
  go_wp2
  go_ret
  exact ⟨rfl, b_alloc_later _ _ _⟩

set_option maxRecDepth 100000 in
set_option maxHeartbeats 1000000 in
theorem rt_7 (r a b k : Int) (w : World) (hr : InR r) (ha : InR a) (hb : InR b) (hk : InR k) : Calls Yaav.prog 64 #[.agg #[.int .i64 7, .int .i64 r, .int .i64 a, .int .i64 b, .int .i64 k]] w
    fun e w' => e = .returned (.string ((⟨#[110, 111, 112]⟩ : ByteArray))) ∧ Below w.heap.size w w' := by
  have HR : Hid (InR r) := hr
  have HA : Hid (InR a) := ha
  have HB : Hid (InR b) := hb
  have HK : Hid (InR k) := hk
  have s1 := regS_size r
  have s2 := regS_size a
  have s3 := regS_size b
  have s4 := decS_size k
  have s5 := decS_size a
  clear hr ha hb hk
  go_enter Yaav.func64, Yaav.ntmps64
  go_wp2
  go_ret
  exact ⟨rfl, (Below.refl _ _).alloc (Nat.le_refl _) _⟩

set_option maxRecDepth 100000 in
set_option maxHeartbeats 1000000 in
theorem rt_8 (r a b k : Int) (w : World) (hr : InR r) (ha : InR a) (hb : InR b) (hk : InR k) : Calls Yaav.prog 64 #[.agg #[.int .i64 8, .int .i64 r, .int .i64 a, .int .i64 b, .int .i64 k]] w
    fun e w' => e = .returned (.string ((⟨#[106, 109, 112, 32]⟩ : ByteArray) ++ decS k)) ∧ Below w.heap.size w w' := by
  have HR : Hid (InR r) := hr
  have HA : Hid (InR a) := ha
  have HB : Hid (InR b) := hb
  have HK : Hid (InR k) := hk
  have s1 := regS_size r
  have s2 := regS_size a
  have s3 := regS_size b
  have s4 := decS_size k
  have s5 := decS_size a
  clear hr ha hb hk
  go_enter Yaav.func64, Yaav.ntmps64
  go_wp2_with (go_at_call 63; refine (dec _ _ HK.out).mono ?_; rintro e w' ⟨rfl, hb⟩)
  go_ret
  exact ⟨rfl, b_alloc_both hb⟩

set_option maxRecDepth 100000 in
set_option maxHeartbeats 1000000 in
theorem rt_9 (r a b k : Int) (w : World) (hr : InR r) (ha : InR a) (hb : InR b) (hk : InR k) : Calls Yaav.prog 64 #[.agg #[.int .i64 9, .int .i64 r, .int .i64 a, .int .i64 b, .int .i64 k]] w
    fun e w' => e = .returned (.string ((⟨#[106, 122, 32]⟩ : ByteArray) ++ regS a ++ ⟨#[32]⟩ ++ decS k)) ∧ Below w.heap.size w w' := by
  have HR : Hid (InR r) := hr
  have HA : Hid (InR a) := ha
  have HB : Hid (InR b) := hb
  have HK : Hid (InR k) := hk
  have s1 := regS_size r
  have s2 := regS_size a
  have s3 := regS_size b
  have s4 := decS_size k
  have s5 := decS_size a
  clear hr ha hb hk
  go_enter Yaav.func64, Yaav.ntmps64
  go_wp2
  refine wp_region_later (by kernel_rfl) (by kernel_rfl) ?_
  have hc0 := fun x => later_cell (w := w.alloc (.cells #[.int .i64 9, .int .i64 r, .int .i64 a, .int .i64 b, .int .i64 k] 81)) (p := ⟨w.heap.size, 2, none⟩) (v := .int .i64 a) (by simp) (by simp) x
  have hc1 := fun x => later_cell (w := w.alloc (.cells #[.int .i64 9, .int .i64 r, .int .i64 a, .int .i64 b, .int .i64 k] 81)) (p := ⟨w.heap.size, 4, none⟩) (v := .int .i64 k) (by simp) (by simp) x
  repeat (go_big_quiet_step (first | (exact later_of (sreg _ _ HA.out)) | (exact later_of (dec _ _ HK.out))))
  refine wpQuiet_nil ?_
  rintro _ ⟨x, rfl⟩
  go_wp2
  go_ret
  exact ⟨rfl, b_alloc_later _ _ _⟩

set_option maxRecDepth 100000 in
set_option maxHeartbeats 1000000 in
theorem rt_10 (r a b k : Int) (w : World) (hr : InR r) (ha : InR a) (hb : InR b) (hk : InR k) : Calls Yaav.prog 64 #[.agg #[.int .i64 10, .int .i64 r, .int .i64 a, .int .i64 b, .int .i64 k]] w
    fun e w' => e = .returned (.string ((⟨#[104, 97, 108, 116, 32]⟩ : ByteArray) ++ decS a)) ∧ Below w.heap.size w w' := by
  have HR : Hid (InR r) := hr
  have HA : Hid (InR a) := ha
  have HB : Hid (InR b) := hb
  have HK : Hid (InR k) := hk
  have s1 := regS_size r
  have s2 := regS_size a
  have s3 := regS_size b
  have s4 := decS_size k
  have s5 := decS_size a
  clear hr ha hb hk
  go_enter Yaav.func64, Yaav.ntmps64
  go_wp2_with (go_at_call 63; refine (dec _ _ HA.out).mono ?_; rintro e w' ⟨rfl, hb⟩)
  go_ret
  exact ⟨rfl, b_alloc_both hb⟩

set_option maxRecDepth 100000 in
set_option maxHeartbeats 1000000 in
theorem rt_x (op r a b k : Int) (w : World) (hop : InR op) (hr : InR r) (ha : InR a) (hb : InR b) (hk : InR k) (n0 : (op == 0) = false) (n1 : (op == 1) = false) (n2 : (op == 2) = false) (n3 : (op == 3) = false) (n4 : (op == 4) = false) (n5 : (op == 5) = false) (n6 : (op == 6) = false) (n7 : (op == 7) = false) (n8 : (op == 8) = false) (n9 : (op == 9) = false) (n10 : (op == 10) = false) : Calls Yaav.prog 64 #[.agg #[.int .i64 op, .int .i64 r, .int .i64 a, .int .i64 b, .int .i64 k]] w
    fun e w' => e = .returned (.string ((⟨#[98, 97, 100, 32]⟩ : ByteArray) ++ decS op)) ∧ Below w.heap.size w w' := by
  have HR : Hid (InR r) := hr
  have HA : Hid (InR a) := ha
  have HB : Hid (InR b) := hb
  have HK : Hid (InR k) := hk
  have HO : Hid (InR op) := hop
  have s0 := decS_size op
  clear hop
  have s1 := regS_size r
  have s2 := regS_size a
  have s3 := regS_size b
  have s4 := decS_size k
  have s5 := decS_size a
  clear hr ha hb hk
  go_enter Yaav.func64, Yaav.ntmps64
  go_wp2_with (go_at_call 63; refine (dec _ _ HO.out).mono ?_; rintro e w' ⟨rfl, hb⟩)
  go_ret
  exact ⟨rfl, b_alloc_both hb⟩

theorem regText (x : RO) (w : World) (hx : InR x.op ∧ InR x.r ∧ InR x.a ∧ InR x.b ∧ InR x.k) : Calls Yaav.prog 64 #[.agg #[.int .i64 x.op, .int .i64 x.r, .int .i64 x.a, .int .i64 x.b, .int .i64 x.k]] w
    fun e w' => e = .returned (.string (lineS x)) ∧ Below w.heap.size w w' := by
  obtain ⟨op, r, a, b, k⟩ := x
  obtain ⟨ho, hr, ha, hb, hk⟩ := hx
  unfold lineS
  simp only at ho hr ha hb hk ⊢
  by_cases n0 : op = 0
  · rw [if_pos n0, n0]; exact rt_0 r a b k w hr ha hb hk
  rw [if_neg n0]
  by_cases n1 : op = 1
  · rw [if_pos n1, n1]; exact rt_1 r a b k w hr ha hb hk
  rw [if_neg n1]
  by_cases n2 : op = 2
  · rw [if_pos n2, n2]; exact rt_2 r a b k w hr ha hb hk
  rw [if_neg n2]
  by_cases n3 : op = 3
  · rw [if_pos n3, n3]; exact rt_3 r a b k w hr ha hb hk
  rw [if_neg n3]
  by_cases n4 : op = 4
  · rw [if_pos n4, n4]; exact rt_4 r a b k w hr ha hb hk
  rw [if_neg n4]
  by_cases n5 : op = 5
  · rw [if_pos n5, n5]; exact rt_5 r a b k w hr ha hb hk
  rw [if_neg n5]
  by_cases n6 : op = 6
  · rw [if_pos n6, n6]; exact rt_6 r a b k w hr ha hb hk
  rw [if_neg n6]
  by_cases n7 : op = 7
  · rw [if_pos n7, n7]; exact rt_7 r a b k w hr ha hb hk
  rw [if_neg n7]
  by_cases n8 : op = 8
  · rw [if_pos n8, n8]; exact rt_8 r a b k w hr ha hb hk
  rw [if_neg n8]
  by_cases n9 : op = 9
  · rw [if_pos n9, n9]; exact rt_9 r a b k w hr ha hb hk
  rw [if_neg n9]
  by_cases n10 : op = 10
  · rw [if_pos n10, n10]; exact rt_10 r a b k w hr ha hb hk
  rw [if_neg n10]
  exact rt_x op r a b k w ho hr ha hb hk (beq_eq_false_iff_ne.2 n0) (beq_eq_false_iff_ne.2 n1) (beq_eq_false_iff_ne.2 n2) (beq_eq_false_iff_ne.2 n3) (beq_eq_false_iff_ne.2 n4) (beq_eq_false_iff_ne.2 n5) (beq_eq_false_iff_ne.2 n6) (beq_eq_false_iff_ne.2 n7) (beq_eq_false_iff_ne.2 n8) (beq_eq_false_iff_ne.2 n9) (beq_eq_false_iff_ne.2 n10)

end Go.Proofs.Yahaaw
