/-
  DERIVED. WALK: impl.Listing (65).
-/
import Derived.Test.YahaawList1
namespace Go.Proofs.Yahaaw
open Go.RowKit

set_option maxRecDepth 100000 in
set_option maxHeartbeats 8000000 in
theorem iListing (a0 : Option Addr) (n cap : Nat) (ps : List RO) (w : World) (hn : ps.length = n) (hn2 : n ≤ 1048576) (hs : Seg w a0 (rCells ps)) (hwf : WfR ps) :
    Calls Yaav.prog 65 #[.slice a0 n cap] w fun e w' => e = .returned (.string (lstS ps)) ∧ Below w.heap.size w w' := by
  have HS : Hid (Seg w a0 (rCells ps)) := hs
  have HW : Hid (WfR ps) := hwf
  have hmk := mk_run Yaav.underlying22 Yaav.info5 0 (n * 16) (Nat.zero_le _) (by omega) (by omega)
  rw [show ((n * 16 : Nat) : Int) = (n : Int) * 16 by omega] at hmk
  simp only [Int.natCast_zero] at hmk
  clear hs hwf
  go_enter Yaav.func65, Yaav.ntmps65
  go_wp2
  clear hmk
  go_loopw [3, 4] (fun v i wr => ∃ k : Nat, k ≤ n ∧ i = .int .i64 k ∧ Below w.heap.size w wr ∧ ∃ m, m ≤ k * 129 ∧ Grow wr w.heap.size 5 1 v m (lstCells 0 (ps.take k))) (fun _ i _ => n - (intOf i).toNat)
  case atStart => exact ⟨0, Nat.zero_le _, rfl, (Below.refl _ _).alloc (Nat.le_refl _) _, 0, by omega, by simpa [lstCells] using Grow.made w _ 5 1 (n * 16) _ (Nat.le_refl _) (by rw [zc_len]; omega)⟩
  case round =>
    obtain ⟨k', hk', rfl, hbel, m, hm, hgr⟩ := hrel
    by_cases hlt : k' < n
    · obtain ⟨x, hx⟩ := some_at (ps := ps) (k := k') (by omega)
      obtain ⟨b0, off, rfl, hb0, h1, h2, h3, h4, h5⟩ := (HS.out.below hbel).r hx
      obtain ⟨W1, W2, W3, W4, W5⟩ := HW.out x (mem_of_get hx)
      have HX : Hid (ps[k']? = some x) := hx
      have hsz := hbel.size
      have hd := decS_size k'
      have e2 : (⟨#[58, 32]⟩ : ByteArray).size = 2 := rfl
      have L0 := hideP (LS.start hbel hgr [.int .i64 x.op, .int .i64 x.r, .int .i64 x.a, .int .i64 x.b, .int .i64 x.k])
      clear hx hn hgr hbel
      obtain ⟨op, r, a, b, k⟩ := x
      simp only at h1 h2 h3 h4 h5 W1 W2 W3 W4 W5 L0
      have HO := hideP W1
      have HR := hideP W2
      have HA := hideP W3
      have HB := hideP W4
      have HK := hideP W5
      have s1 := regS_size r
      have s2 := regS_size a
      have s3 := regS_size b
      have s4 := decS_size k
      have s5 := decS_size a
      have s6 := decS_size op
      clear W1 W2 W3 W4 W5
      by_cases n0 : op = 0
      · subst n0
        have hline : Hid (lineS ⟨0, r, a, b, k⟩ = regS r ++ ⟨#[32, 61, 32]⟩ ++ decS k) := by show _ = _; simp [lineS]
        have hl := lineS_size ⟨0, r, a, b, k⟩
        rw [hline.out] at hl
        go_wp2_with fail
        refine wp_region_later (by kernel_rfl) (by kernel_rfl) ?_
        have hc0 := fun x => later_cell (w := wr.alloc (.cells #[.int .i64 0, .int .i64 r, .int .i64 a, .int .i64 b, .int .i64 k] 81)) (p := ⟨wr.heap.size, 1, none⟩) (v := .int .i64 r) (by simp) (by simp) x
        have hc1 := fun x => later_cell (w := wr.alloc (.cells #[.int .i64 0, .int .i64 r, .int .i64 a, .int .i64 b, .int .i64 k] 81)) (p := ⟨wr.heap.size, 4, none⟩) (v := .int .i64 k) (by simp) (by simp) x
        repeat (go_big_quiet_step (first | (exact later_of (ireg _ _ HR.out)) | (exact later_of (itoa _ _ HK.out))))
        refine wpQuiet_nil ?_
        rintro _ ⟨xw, rfl⟩
        have L1 := hideP (L0.out.call (later_below _ xw))
        clear hc0 hc1 L0
        go_wp2_with (first
          | (go_at_call 74; refine (itoa _ _ ⟨by omega, by omega⟩).mono ?_; rintro e w2 ⟨rfl, hb2⟩; have L2 := hideP (L1.out.call hb2); clear hb2 L1)
          | (at_builtin; refine wpList_app Yaav.underlying22 Yaav.info5 rfl rfl (.tmp 138) (.tmp 140) rfl rfl rfl L2.out.gr (Src.ofString _ Yaav.underlying9 _) (by omega) (by omega) L2.out.bel.size ?_; intro v3 w3 hg3 hgr3 hat3; have L3 := hideP (L2.out.app hg3 hgr3 hat3); clear hg3 hgr3 hat3 L2)
          | (at_builtin; refine wpList_app Yaav.underlying22 Yaav.info5 rfl rfl (.tmp 142) (.const (.string ⟨#[58, 32]⟩)) rfl rfl rfl L3.out.gr (Src.ofString _ Yaav.underlying9 _) (by rw [e2]; omega) (by rw [e2]; omega) L3.out.bel.size ?_; intro v4 w4 hg4 hgr4 hat4; have L4 := hideP (L3.out.app hg4 hgr4 hat4); clear hg4 hgr4 hat4 L3)
          | (at_builtin; refine wpList_app Yaav.underlying22 Yaav.info5 rfl rfl (.tmp 144) (.tmp 145) rfl rfl rfl L4.out.gr (Src.ofString _ Yaav.underlying9 _) (by rw [e2]; omega) (by rw [e2]; omega) L4.out.bel.size ?_; intro v5 w5 hg5 hgr5 hat5; have L5 := hideP (L4.out.app hg5 hgr5 hat5); clear hg5 hgr5 hat5 L4)
          | (at_builtin; refine wpList_app Yaav.underlying22 Yaav.info5 rfl rfl (.tmp 147) (.tmp 148) rfl rfl rfl (L5.out.alloc _).gr (Src.ofSlice _ Yaav.underlying22 ⟨w5.heap.size, 0, none⟩ 1 1 [.int .u8 10] rfl (cell_one_new _ _ _) (by simp; rfl)) (by rw [e2]; omega) (by rw [e2]; omega) (L5.out.alloc _).bel.size ?_; intro v6 w6 hg6 hgr6 hat6; have L6 := hideP ((L5.out.alloc _).app hg6 hgr6 hat6); clear hg6 hgr6 hat6 L5))
        go_roundw
        case rel =>
          have g := L6.out.gr
          rw [← hline.out, ← lstCells_take HX.out] at g
          refine ⟨k' + 1, by omega, by go_num, L6.out.bel, _, ?_, g⟩
          rw [hline.out, e2]; omega
        case measure => simp [intOf]; omega
      by_cases n1 : op = 1
      · subst n1
        clear n0
        have hline : Hid (lineS ⟨1, r, a, b, k⟩ = regS r ++ ⟨#[32, 61, 32, 97, 114, 103, 32]⟩ ++ decS k) := by show _ = _; simp [lineS]
        have hl := lineS_size ⟨1, r, a, b, k⟩
        rw [hline.out] at hl
        go_wp2_with fail
        refine wp_region_later (by kernel_rfl) (by kernel_rfl) ?_
        have hc0 := fun x => later_cell (w := wr.alloc (.cells #[.int .i64 1, .int .i64 r, .int .i64 a, .int .i64 b, .int .i64 k] 81)) (p := ⟨wr.heap.size, 1, none⟩) (v := .int .i64 r) (by simp) (by simp) x
        have hc1 := fun x => later_cell (w := wr.alloc (.cells #[.int .i64 1, .int .i64 r, .int .i64 a, .int .i64 b, .int .i64 k] 81)) (p := ⟨wr.heap.size, 4, none⟩) (v := .int .i64 k) (by simp) (by simp) x
        repeat (go_big_quiet_step (first | (exact later_of (ireg _ _ HR.out)) | (exact later_of (itoa _ _ HK.out))))
        refine wpQuiet_nil ?_
        rintro _ ⟨xw, rfl⟩
        have L1 := hideP (L0.out.call (later_below _ xw))
        clear hc0 hc1 L0
        go_wp2_with (first
          | (go_at_call 74; refine (itoa _ _ ⟨by omega, by omega⟩).mono ?_; rintro e w2 ⟨rfl, hb2⟩; have L2 := hideP (L1.out.call hb2); clear hb2 L1)
          | (at_builtin; refine wpList_app Yaav.underlying22 Yaav.info5 rfl rfl (.tmp 138) (.tmp 140) rfl rfl rfl L2.out.gr (Src.ofString _ Yaav.underlying9 _) (by omega) (by omega) L2.out.bel.size ?_; intro v3 w3 hg3 hgr3 hat3; have L3 := hideP (L2.out.app hg3 hgr3 hat3); clear hg3 hgr3 hat3 L2)
          | (at_builtin; refine wpList_app Yaav.underlying22 Yaav.info5 rfl rfl (.tmp 142) (.const (.string ⟨#[58, 32]⟩)) rfl rfl rfl L3.out.gr (Src.ofString _ Yaav.underlying9 _) (by rw [e2]; omega) (by rw [e2]; omega) L3.out.bel.size ?_; intro v4 w4 hg4 hgr4 hat4; have L4 := hideP (L3.out.app hg4 hgr4 hat4); clear hg4 hgr4 hat4 L3)
          | (at_builtin; refine wpList_app Yaav.underlying22 Yaav.info5 rfl rfl (.tmp 144) (.tmp 145) rfl rfl rfl L4.out.gr (Src.ofString _ Yaav.underlying9 _) (by rw [e2]; omega) (by rw [e2]; omega) L4.out.bel.size ?_; intro v5 w5 hg5 hgr5 hat5; have L5 := hideP (L4.out.app hg5 hgr5 hat5); clear hg5 hgr5 hat5 L4)
          | (at_builtin; refine wpList_app Yaav.underlying22 Yaav.info5 rfl rfl (.tmp 147) (.tmp 148) rfl rfl rfl (L5.out.alloc _).gr (Src.ofSlice _ Yaav.underlying22 ⟨w5.heap.size, 0, none⟩ 1 1 [.int .u8 10] rfl (cell_one_new _ _ _) (by simp; rfl)) (by rw [e2]; omega) (by rw [e2]; omega) (L5.out.alloc _).bel.size ?_; intro v6 w6 hg6 hgr6 hat6; have L6 := hideP ((L5.out.alloc _).app hg6 hgr6 hat6); clear hg6 hgr6 hat6 L5))
        go_roundw
        case rel =>
          have g := L6.out.gr
          rw [← hline.out, ← lstCells_take HX.out] at g
          refine ⟨k' + 1, by omega, by go_num, L6.out.bel, _, ?_, g⟩
          rw [hline.out, e2]; omega
        case measure => simp [intOf]; omega
      by_cases n2 : op = 2
      · subst n2
        clear n0 n1
        have hline : Hid (lineS ⟨2, r, a, b, k⟩ = regS r ++ ⟨#[32, 61, 32]⟩ ++ regS a ++ ⟨#[32, 43, 32]⟩ ++ regS b) := by show _ = _; simp [lineS]
        have hl := lineS_size ⟨2, r, a, b, k⟩
        rw [hline.out] at hl
        go_wp2_with fail
        refine wp_region_later (by kernel_rfl) (by kernel_rfl) ?_
        have hc0 := fun x => later_cell (w := wr.alloc (.cells #[.int .i64 2, .int .i64 r, .int .i64 a, .int .i64 b, .int .i64 k] 81)) (p := ⟨wr.heap.size, 1, none⟩) (v := .int .i64 r) (by simp) (by simp) x
        have hc1 := fun x => later_cell (w := wr.alloc (.cells #[.int .i64 2, .int .i64 r, .int .i64 a, .int .i64 b, .int .i64 k] 81)) (p := ⟨wr.heap.size, 2, none⟩) (v := .int .i64 a) (by simp) (by simp) x
        have hc2 := fun x => later_cell (w := wr.alloc (.cells #[.int .i64 2, .int .i64 r, .int .i64 a, .int .i64 b, .int .i64 k] 81)) (p := ⟨wr.heap.size, 3, none⟩) (v := .int .i64 b) (by simp) (by simp) x
        repeat (go_big_quiet_step (first | (exact later_of (ireg _ _ HR.out)) | (exact later_of (ireg _ _ HA.out)) | (exact later_of (ireg _ _ HB.out))))
        refine wpQuiet_nil ?_
        rintro _ ⟨xw, rfl⟩
        have L1 := hideP (L0.out.call (later_below _ xw))
        clear hc0 hc1 hc2 L0
        go_wp2_with (first
          | (go_at_call 74; refine (itoa _ _ ⟨by omega, by omega⟩).mono ?_; rintro e w2 ⟨rfl, hb2⟩; have L2 := hideP (L1.out.call hb2); clear hb2 L1)
          | (at_builtin; refine wpList_app Yaav.underlying22 Yaav.info5 rfl rfl (.tmp 138) (.tmp 140) rfl rfl rfl L2.out.gr (Src.ofString _ Yaav.underlying9 _) (by omega) (by omega) L2.out.bel.size ?_; intro v3 w3 hg3 hgr3 hat3; have L3 := hideP (L2.out.app hg3 hgr3 hat3); clear hg3 hgr3 hat3 L2)
          | (at_builtin; refine wpList_app Yaav.underlying22 Yaav.info5 rfl rfl (.tmp 142) (.const (.string ⟨#[58, 32]⟩)) rfl rfl rfl L3.out.gr (Src.ofString _ Yaav.underlying9 _) (by rw [e2]; omega) (by rw [e2]; omega) L3.out.bel.size ?_; intro v4 w4 hg4 hgr4 hat4; have L4 := hideP (L3.out.app hg4 hgr4 hat4); clear hg4 hgr4 hat4 L3)
          | (at_builtin; refine wpList_app Yaav.underlying22 Yaav.info5 rfl rfl (.tmp 144) (.tmp 145) rfl rfl rfl L4.out.gr (Src.ofString _ Yaav.underlying9 _) (by rw [e2]; omega) (by rw [e2]; omega) L4.out.bel.size ?_; intro v5 w5 hg5 hgr5 hat5; have L5 := hideP (L4.out.app hg5 hgr5 hat5); clear hg5 hgr5 hat5 L4)
          | (at_builtin; refine wpList_app Yaav.underlying22 Yaav.info5 rfl rfl (.tmp 147) (.tmp 148) rfl rfl rfl (L5.out.alloc _).gr (Src.ofSlice _ Yaav.underlying22 ⟨w5.heap.size, 0, none⟩ 1 1 [.int .u8 10] rfl (cell_one_new _ _ _) (by simp; rfl)) (by rw [e2]; omega) (by rw [e2]; omega) (L5.out.alloc _).bel.size ?_; intro v6 w6 hg6 hgr6 hat6; have L6 := hideP ((L5.out.alloc _).app hg6 hgr6 hat6); clear hg6 hgr6 hat6 L5))
        go_roundw
        case rel =>
          have g := L6.out.gr
          rw [← hline.out, ← lstCells_take HX.out] at g
          refine ⟨k' + 1, by omega, by go_num, L6.out.bel, _, ?_, g⟩
          rw [hline.out, e2]; omega
        case measure => simp [intOf]; omega
      by_cases n3 : op = 3
      · subst n3
        clear n0 n1 n2
        have hline : Hid (lineS ⟨3, r, a, b, k⟩ = regS r ++ ⟨#[32, 61, 32]⟩ ++ regS a ++ ⟨#[32, 45, 32]⟩ ++ regS b) := by show _ = _; simp [lineS]
        have hl := lineS_size ⟨3, r, a, b, k⟩
        rw [hline.out] at hl
        go_wp2_with fail
        refine wp_region_later (by kernel_rfl) (by kernel_rfl) ?_
        have hc0 := fun x => later_cell (w := wr.alloc (.cells #[.int .i64 3, .int .i64 r, .int .i64 a, .int .i64 b, .int .i64 k] 81)) (p := ⟨wr.heap.size, 1, none⟩) (v := .int .i64 r) (by simp) (by simp) x
        have hc1 := fun x => later_cell (w := wr.alloc (.cells #[.int .i64 3, .int .i64 r, .int .i64 a, .int .i64 b, .int .i64 k] 81)) (p := ⟨wr.heap.size, 2, none⟩) (v := .int .i64 a) (by simp) (by simp) x
        have hc2 := fun x => later_cell (w := wr.alloc (.cells #[.int .i64 3, .int .i64 r, .int .i64 a, .int .i64 b, .int .i64 k] 81)) (p := ⟨wr.heap.size, 3, none⟩) (v := .int .i64 b) (by simp) (by simp) x
        repeat (go_big_quiet_step (first | (exact later_of (ireg _ _ HR.out)) | (exact later_of (ireg _ _ HA.out)) | (exact later_of (ireg _ _ HB.out))))
        refine wpQuiet_nil ?_
        rintro _ ⟨xw, rfl⟩
        have L1 := hideP (L0.out.call (later_below _ xw))
        clear hc0 hc1 hc2 L0
        go_wp2_with (first
          | (go_at_call 74; refine (itoa _ _ ⟨by omega, by omega⟩).mono ?_; rintro e w2 ⟨rfl, hb2⟩; have L2 := hideP (L1.out.call hb2); clear hb2 L1)
          | (at_builtin; refine wpList_app Yaav.underlying22 Yaav.info5 rfl rfl (.tmp 138) (.tmp 140) rfl rfl rfl L2.out.gr (Src.ofString _ Yaav.underlying9 _) (by omega) (by omega) L2.out.bel.size ?_; intro v3 w3 hg3 hgr3 hat3; have L3 := hideP (L2.out.app hg3 hgr3 hat3); clear hg3 hgr3 hat3 L2)
          | (at_builtin; refine wpList_app Yaav.underlying22 Yaav.info5 rfl rfl (.tmp 142) (.const (.string ⟨#[58, 32]⟩)) rfl rfl rfl L3.out.gr (Src.ofString _ Yaav.underlying9 _) (by rw [e2]; omega) (by rw [e2]; omega) L3.out.bel.size ?_; intro v4 w4 hg4 hgr4 hat4; have L4 := hideP (L3.out.app hg4 hgr4 hat4); clear hg4 hgr4 hat4 L3)
          | (at_builtin; refine wpList_app Yaav.underlying22 Yaav.info5 rfl rfl (.tmp 144) (.tmp 145) rfl rfl rfl L4.out.gr (Src.ofString _ Yaav.underlying9 _) (by rw [e2]; omega) (by rw [e2]; omega) L4.out.bel.size ?_; intro v5 w5 hg5 hgr5 hat5; have L5 := hideP (L4.out.app hg5 hgr5 hat5); clear hg5 hgr5 hat5 L4)
          | (at_builtin; refine wpList_app Yaav.underlying22 Yaav.info5 rfl rfl (.tmp 147) (.tmp 148) rfl rfl rfl (L5.out.alloc _).gr (Src.ofSlice _ Yaav.underlying22 ⟨w5.heap.size, 0, none⟩ 1 1 [.int .u8 10] rfl (cell_one_new _ _ _) (by simp; rfl)) (by rw [e2]; omega) (by rw [e2]; omega) (L5.out.alloc _).bel.size ?_; intro v6 w6 hg6 hgr6 hat6; have L6 := hideP ((L5.out.alloc _).app hg6 hgr6 hat6); clear hg6 hgr6 hat6 L5))
        go_roundw
        case rel =>
          have g := L6.out.gr
          rw [← hline.out, ← lstCells_take HX.out] at g
          refine ⟨k' + 1, by omega, by go_num, L6.out.bel, _, ?_, g⟩
          rw [hline.out, e2]; omega
        case measure => simp [intOf]; omega
      by_cases n4 : op = 4
      · subst n4
        clear n0 n1 n2 n3
        have hline : Hid (lineS ⟨4, r, a, b, k⟩ = regS r ++ ⟨#[32, 61, 32]⟩ ++ regS a ++ ⟨#[32, 42, 32]⟩ ++ regS b) := by show _ = _; simp [lineS]
        have hl := lineS_size ⟨4, r, a, b, k⟩
        rw [hline.out] at hl
        go_wp2_with fail
        refine wp_region_later (by kernel_rfl) (by kernel_rfl) ?_
        have hc0 := fun x => later_cell (w := wr.alloc (.cells #[.int .i64 4, .int .i64 r, .int .i64 a, .int .i64 b, .int .i64 k] 81)) (p := ⟨wr.heap.size, 1, none⟩) (v := .int .i64 r) (by simp) (by simp) x
        have hc1 := fun x => later_cell (w := wr.alloc (.cells #[.int .i64 4, .int .i64 r, .int .i64 a, .int .i64 b, .int .i64 k] 81)) (p := ⟨wr.heap.size, 2, none⟩) (v := .int .i64 a) (by simp) (by simp) x
        have hc2 := fun x => later_cell (w := wr.alloc (.cells #[.int .i64 4, .int .i64 r, .int .i64 a, .int .i64 b, .int .i64 k] 81)) (p := ⟨wr.heap.size, 3, none⟩) (v := .int .i64 b) (by simp) (by simp) x
        repeat (go_big_quiet_step (first | (exact later_of (ireg _ _ HR.out)) | (exact later_of (ireg _ _ HA.out)) | (exact later_of (ireg _ _ HB.out))))
        refine wpQuiet_nil ?_
        rintro _ ⟨xw, rfl⟩
        have L1 := hideP (L0.out.call (later_below _ xw))
        clear hc0 hc1 hc2 L0
        go_wp2_with (first
          | (go_at_call 74; refine (itoa _ _ ⟨by omega, by omega⟩).mono ?_; rintro e w2 ⟨rfl, hb2⟩; have L2 := hideP (L1.out.call hb2); clear hb2 L1)
          | (at_builtin; refine wpList_app Yaav.underlying22 Yaav.info5 rfl rfl (.tmp 138) (.tmp 140) rfl rfl rfl L2.out.gr (Src.ofString _ Yaav.underlying9 _) (by omega) (by omega) L2.out.bel.size ?_; intro v3 w3 hg3 hgr3 hat3; have L3 := hideP (L2.out.app hg3 hgr3 hat3); clear hg3 hgr3 hat3 L2)
          | (at_builtin; refine wpList_app Yaav.underlying22 Yaav.info5 rfl rfl (.tmp 142) (.const (.string ⟨#[58, 32]⟩)) rfl rfl rfl L3.out.gr (Src.ofString _ Yaav.underlying9 _) (by rw [e2]; omega) (by rw [e2]; omega) L3.out.bel.size ?_; intro v4 w4 hg4 hgr4 hat4; have L4 := hideP (L3.out.app hg4 hgr4 hat4); clear hg4 hgr4 hat4 L3)
          | (at_builtin; refine wpList_app Yaav.underlying22 Yaav.info5 rfl rfl (.tmp 144) (.tmp 145) rfl rfl rfl L4.out.gr (Src.ofString _ Yaav.underlying9 _) (by rw [e2]; omega) (by rw [e2]; omega) L4.out.bel.size ?_; intro v5 w5 hg5 hgr5 hat5; have L5 := hideP (L4.out.app hg5 hgr5 hat5); clear hg5 hgr5 hat5 L4)
          | (at_builtin; refine wpList_app Yaav.underlying22 Yaav.info5 rfl rfl (.tmp 147) (.tmp 148) rfl rfl rfl (L5.out.alloc _).gr (Src.ofSlice _ Yaav.underlying22 ⟨w5.heap.size, 0, none⟩ 1 1 [.int .u8 10] rfl (cell_one_new _ _ _) (by simp; rfl)) (by rw [e2]; omega) (by rw [e2]; omega) (L5.out.alloc _).bel.size ?_; intro v6 w6 hg6 hgr6 hat6; have L6 := hideP ((L5.out.alloc _).app hg6 hgr6 hat6); clear hg6 hgr6 hat6 L5))
        go_roundw
        case rel =>
          have g := L6.out.gr
          rw [← hline.out, ← lstCells_take HX.out] at g
          refine ⟨k' + 1, by omega, by go_num, L6.out.bel, _, ?_, g⟩
          rw [hline.out, e2]; omega
        case measure => simp [intOf]; omega
      by_cases n5 : op = 5
      · subst n5
        clear n0 n1 n2 n3 n4
        have hline : Hid (lineS ⟨5, r, a, b, k⟩ = regS r ++ ⟨#[32, 61, 32]⟩ ++ regS a) := by show _ = _; simp [lineS]
        have hl := lineS_size ⟨5, r, a, b, k⟩
        rw [hline.out] at hl
        go_wp2_with fail
        refine wp_region_later (by kernel_rfl) (by kernel_rfl) ?_
        have hc0 := fun x => later_cell (w := wr.alloc (.cells #[.int .i64 5, .int .i64 r, .int .i64 a, .int .i64 b, .int .i64 k] 81)) (p := ⟨wr.heap.size, 1, none⟩) (v := .int .i64 r) (by simp) (by simp) x
        have hc1 := fun x => later_cell (w := wr.alloc (.cells #[.int .i64 5, .int .i64 r, .int .i64 a, .int .i64 b, .int .i64 k] 81)) (p := ⟨wr.heap.size, 2, none⟩) (v := .int .i64 a) (by simp) (by simp) x
        repeat (go_big_quiet_step (first | (exact later_of (ireg _ _ HR.out)) | (exact later_of (ireg _ _ HA.out))))
        refine wpQuiet_nil ?_
        rintro _ ⟨xw, rfl⟩
        have L1 := hideP (L0.out.call (later_below _ xw))
        clear hc0 hc1 L0
        go_wp2_with (first
          | (go_at_call 74; refine (itoa _ _ ⟨by omega, by omega⟩).mono ?_; rintro e w2 ⟨rfl, hb2⟩; have L2 := hideP (L1.out.call hb2); clear hb2 L1)
          | (at_builtin; refine wpList_app Yaav.underlying22 Yaav.info5 rfl rfl (.tmp 138) (.tmp 140) rfl rfl rfl L2.out.gr (Src.ofString _ Yaav.underlying9 _) (by omega) (by omega) L2.out.bel.size ?_; intro v3 w3 hg3 hgr3 hat3; have L3 := hideP (L2.out.app hg3 hgr3 hat3); clear hg3 hgr3 hat3 L2)
          | (at_builtin; refine wpList_app Yaav.underlying22 Yaav.info5 rfl rfl (.tmp 142) (.const (.string ⟨#[58, 32]⟩)) rfl rfl rfl L3.out.gr (Src.ofString _ Yaav.underlying9 _) (by rw [e2]; omega) (by rw [e2]; omega) L3.out.bel.size ?_; intro v4 w4 hg4 hgr4 hat4; have L4 := hideP (L3.out.app hg4 hgr4 hat4); clear hg4 hgr4 hat4 L3)
          | (at_builtin; refine wpList_app Yaav.underlying22 Yaav.info5 rfl rfl (.tmp 144) (.tmp 145) rfl rfl rfl L4.out.gr (Src.ofString _ Yaav.underlying9 _) (by rw [e2]; omega) (by rw [e2]; omega) L4.out.bel.size ?_; intro v5 w5 hg5 hgr5 hat5; have L5 := hideP (L4.out.app hg5 hgr5 hat5); clear hg5 hgr5 hat5 L4)
          | (at_builtin; refine wpList_app Yaav.underlying22 Yaav.info5 rfl rfl (.tmp 147) (.tmp 148) rfl rfl rfl (L5.out.alloc _).gr (Src.ofSlice _ Yaav.underlying22 ⟨w5.heap.size, 0, none⟩ 1 1 [.int .u8 10] rfl (cell_one_new _ _ _) (by simp; rfl)) (by rw [e2]; omega) (by rw [e2]; omega) (L5.out.alloc _).bel.size ?_; intro v6 w6 hg6 hgr6 hat6; have L6 := hideP ((L5.out.alloc _).app hg6 hgr6 hat6); clear hg6 hgr6 hat6 L5))
        go_roundw
        case rel =>
          have g := L6.out.gr
          rw [← hline.out, ← lstCells_take HX.out] at g
          refine ⟨k' + 1, by omega, by go_num, L6.out.bel, _, ?_, g⟩
          rw [hline.out, e2]; omega
        case measure => simp [intOf]; omega
      by_cases n6 : op = 6
      · subst n6
        clear n0 n1 n2 n3 n4 n5
        have hline : Hid (lineS ⟨6, r, a, b, k⟩ = (⟨#[115, 119, 97, 112, 32]⟩ : ByteArray) ++ regS a ++ ⟨#[32]⟩ ++ regS b) := by show _ = _; simp [lineS]
        have hl := lineS_size ⟨6, r, a, b, k⟩
        rw [hline.out] at hl
        go_wp2_with fail
        refine wp_region_later (by kernel_rfl) (by kernel_rfl) ?_
        have hc0 := fun x => later_cell (w := wr.alloc (.cells #[.int .i64 6, .int .i64 r, .int .i64 a, .int .i64 b, .int .i64 k] 81)) (p := ⟨wr.heap.size, 2, none⟩) (v := .int .i64 a) (by simp) (by simp) x
        have hc1 := fun x => later_cell (w := wr.alloc (.cells #[.int .i64 6, .int .i64 r, .int .i64 a, .int .i64 b, .int .i64 k] 81)) (p := ⟨wr.heap.size, 3, none⟩) (v := .int .i64 b) (by simp) (by simp) x
        repeat (go_big_quiet_step (first | (exact later_of (ireg _ _ HA.out)) | (exact later_of (ireg _ _ HB.out))))
        refine wpQuiet_nil ?_
        rintro _ ⟨xw, rfl⟩
        have L1 := hideP (L0.out.call (later_below _ xw))
        clear hc0 hc1 L0
        go_wp2_with (first
          | (go_at_call 74; refine (itoa _ _ ⟨by omega, by omega⟩).mono ?_; rintro e w2 ⟨rfl, hb2⟩; have L2 := hideP (L1.out.call hb2); clear hb2 L1)
          | (at_builtin; refine wpList_app Yaav.underlying22 Yaav.info5 rfl rfl (.tmp 138) (.tmp 140) rfl rfl rfl L2.out.gr (Src.ofString _ Yaav.underlying9 _) (by omega) (by omega) L2.out.bel.size ?_; intro v3 w3 hg3 hgr3 hat3; have L3 := hideP (L2.out.app hg3 hgr3 hat3); clear hg3 hgr3 hat3 L2)
          | (at_builtin; refine wpList_app Yaav.underlying22 Yaav.info5 rfl rfl (.tmp 142) (.const (.string ⟨#[58, 32]⟩)) rfl rfl rfl L3.out.gr (Src.ofString _ Yaav.underlying9 _) (by rw [e2]; omega) (by rw [e2]; omega) L3.out.bel.size ?_; intro v4 w4 hg4 hgr4 hat4; have L4 := hideP (L3.out.app hg4 hgr4 hat4); clear hg4 hgr4 hat4 L3)
          | (at_builtin; refine wpList_app Yaav.underlying22 Yaav.info5 rfl rfl (.tmp 144) (.tmp 145) rfl rfl rfl L4.out.gr (Src.ofString _ Yaav.underlying9 _) (by rw [e2]; omega) (by rw [e2]; omega) L4.out.bel.size ?_; intro v5 w5 hg5 hgr5 hat5; have L5 := hideP (L4.out.app hg5 hgr5 hat5); clear hg5 hgr5 hat5 L4)
          | (at_builtin; refine wpList_app Yaav.underlying22 Yaav.info5 rfl rfl (.tmp 147) (.tmp 148) rfl rfl rfl (L5.out.alloc _).gr (Src.ofSlice _ Yaav.underlying22 ⟨w5.heap.size, 0, none⟩ 1 1 [.int .u8 10] rfl (cell_one_new _ _ _) (by simp; rfl)) (by rw [e2]; omega) (by rw [e2]; omega) (L5.out.alloc _).bel.size ?_; intro v6 w6 hg6 hgr6 hat6; have L6 := hideP ((L5.out.alloc _).app hg6 hgr6 hat6); clear hg6 hgr6 hat6 L5))
        go_roundw
        case rel =>
          have g := L6.out.gr
          rw [← hline.out, ← lstCells_take HX.out] at g
          refine ⟨k' + 1, by omega, by go_num, L6.out.bel, _, ?_, g⟩
          rw [hline.out, e2]; omega
        case measure => simp [intOf]; omega
      by_cases n7 : op = 7
      · subst n7
        clear n0 n1 n2 n3 n4 n5 n6
        have hline : Hid (lineS ⟨7, r, a, b, k⟩ = (⟨#[110, 111, 112]⟩ : ByteArray)) := by show _ = _; simp [lineS]
        have hl := lineS_size ⟨7, r, a, b, k⟩
        rw [hline.out] at hl
        have L1 := L0
        clear L0
        go_wp2_with (first
          | (go_at_call 74; refine (itoa _ _ ⟨by omega, by omega⟩).mono ?_; rintro e w2 ⟨rfl, hb2⟩; have L2 := hideP (L1.out.call hb2); clear hb2 L1)
          | (at_builtin; refine wpList_app Yaav.underlying22 Yaav.info5 rfl rfl (.tmp 138) (.tmp 140) rfl rfl rfl L2.out.gr (Src.ofString _ Yaav.underlying9 _) (by omega) (by omega) L2.out.bel.size ?_; intro v3 w3 hg3 hgr3 hat3; have L3 := hideP (L2.out.app hg3 hgr3 hat3); clear hg3 hgr3 hat3 L2)
          | (at_builtin; refine wpList_app Yaav.underlying22 Yaav.info5 rfl rfl (.tmp 142) (.const (.string ⟨#[58, 32]⟩)) rfl rfl rfl L3.out.gr (Src.ofString _ Yaav.underlying9 _) (by rw [e2]; omega) (by rw [e2]; omega) L3.out.bel.size ?_; intro v4 w4 hg4 hgr4 hat4; have L4 := hideP (L3.out.app hg4 hgr4 hat4); clear hg4 hgr4 hat4 L3)
          | (at_builtin; refine wpList_app Yaav.underlying22 Yaav.info5 rfl rfl (.tmp 144) (.tmp 145) rfl rfl rfl L4.out.gr (Src.ofString _ Yaav.underlying9 _) (by rw [e2]; omega) (by rw [e2]; omega) L4.out.bel.size ?_; intro v5 w5 hg5 hgr5 hat5; have L5 := hideP (L4.out.app hg5 hgr5 hat5); clear hg5 hgr5 hat5 L4)
          | (at_builtin; refine wpList_app Yaav.underlying22 Yaav.info5 rfl rfl (.tmp 147) (.tmp 148) rfl rfl rfl (L5.out.alloc _).gr (Src.ofSlice _ Yaav.underlying22 ⟨w5.heap.size, 0, none⟩ 1 1 [.int .u8 10] rfl (cell_one_new _ _ _) (by simp; rfl)) (by rw [e2]; omega) (by rw [e2]; omega) (L5.out.alloc _).bel.size ?_; intro v6 w6 hg6 hgr6 hat6; have L6 := hideP ((L5.out.alloc _).app hg6 hgr6 hat6); clear hg6 hgr6 hat6 L5))
        go_roundw
        case rel =>
          have g := L6.out.gr
          rw [← hline.out, ← lstCells_take HX.out] at g
          refine ⟨k' + 1, by omega, by go_num, L6.out.bel, _, ?_, g⟩
          rw [hline.out, e2]; omega
        case measure => simp [intOf]; omega
      by_cases n8 : op = 8
      · subst n8
        clear n0 n1 n2 n3 n4 n5 n6 n7
        have hline : Hid (lineS ⟨8, r, a, b, k⟩ = (⟨#[106, 109, 112, 32]⟩ : ByteArray) ++ decS k) := by show _ = _; simp [lineS]
        have hl := lineS_size ⟨8, r, a, b, k⟩
        rw [hline.out] at hl
        go_wp2_with fail
        refine (itoa _ _ HK.out).mono ?_
        rintro e w0 ⟨rfl, hb0⟩
        have L1 := hideP (L0.out.call hb0)
        clear L0 hb0
        go_wp2_with (first
          | (go_at_call 74; refine (itoa _ _ ⟨by omega, by omega⟩).mono ?_; rintro e w2 ⟨rfl, hb2⟩; have L2 := hideP (L1.out.call hb2); clear hb2 L1)
          | (at_builtin; refine wpList_app Yaav.underlying22 Yaav.info5 rfl rfl (.tmp 138) (.tmp 140) rfl rfl rfl L2.out.gr (Src.ofString _ Yaav.underlying9 _) (by omega) (by omega) L2.out.bel.size ?_; intro v3 w3 hg3 hgr3 hat3; have L3 := hideP (L2.out.app hg3 hgr3 hat3); clear hg3 hgr3 hat3 L2)
          | (at_builtin; refine wpList_app Yaav.underlying22 Yaav.info5 rfl rfl (.tmp 142) (.const (.string ⟨#[58, 32]⟩)) rfl rfl rfl L3.out.gr (Src.ofString _ Yaav.underlying9 _) (by rw [e2]; omega) (by rw [e2]; omega) L3.out.bel.size ?_; intro v4 w4 hg4 hgr4 hat4; have L4 := hideP (L3.out.app hg4 hgr4 hat4); clear hg4 hgr4 hat4 L3)
          | (at_builtin; refine wpList_app Yaav.underlying22 Yaav.info5 rfl rfl (.tmp 144) (.tmp 145) rfl rfl rfl L4.out.gr (Src.ofString _ Yaav.underlying9 _) (by rw [e2]; omega) (by rw [e2]; omega) L4.out.bel.size ?_; intro v5 w5 hg5 hgr5 hat5; have L5 := hideP (L4.out.app hg5 hgr5 hat5); clear hg5 hgr5 hat5 L4)
          | (at_builtin; refine wpList_app Yaav.underlying22 Yaav.info5 rfl rfl (.tmp 147) (.tmp 148) rfl rfl rfl (L5.out.alloc _).gr (Src.ofSlice _ Yaav.underlying22 ⟨w5.heap.size, 0, none⟩ 1 1 [.int .u8 10] rfl (cell_one_new _ _ _) (by simp; rfl)) (by rw [e2]; omega) (by rw [e2]; omega) (L5.out.alloc _).bel.size ?_; intro v6 w6 hg6 hgr6 hat6; have L6 := hideP ((L5.out.alloc _).app hg6 hgr6 hat6); clear hg6 hgr6 hat6 L5))
        go_roundw
        case rel =>
          have g := L6.out.gr
          rw [← hline.out, ← lstCells_take HX.out] at g
          refine ⟨k' + 1, by omega, by go_num, L6.out.bel, _, ?_, g⟩
          rw [hline.out, e2]; omega
        case measure => simp [intOf]; omega
      by_cases n9 : op = 9
      · subst n9
        clear n0 n1 n2 n3 n4 n5 n6 n7 n8
        have hline : Hid (lineS ⟨9, r, a, b, k⟩ = (⟨#[106, 122, 32]⟩ : ByteArray) ++ regS a ++ ⟨#[32]⟩ ++ decS k) := by show _ = _; simp [lineS]
        have hl := lineS_size ⟨9, r, a, b, k⟩
        rw [hline.out] at hl
        go_wp2_with fail
        refine wp_region_later (by kernel_rfl) (by kernel_rfl) ?_
        have hc0 := fun x => later_cell (w := wr.alloc (.cells #[.int .i64 9, .int .i64 r, .int .i64 a, .int .i64 b, .int .i64 k] 81)) (p := ⟨wr.heap.size, 2, none⟩) (v := .int .i64 a) (by simp) (by simp) x
        have hc1 := fun x => later_cell (w := wr.alloc (.cells #[.int .i64 9, .int .i64 r, .int .i64 a, .int .i64 b, .int .i64 k] 81)) (p := ⟨wr.heap.size, 4, none⟩) (v := .int .i64 k) (by simp) (by simp) x
        repeat (go_big_quiet_step (first | (exact later_of (ireg _ _ HA.out)) | (exact later_of (itoa _ _ HK.out))))
        refine wpQuiet_nil ?_
        rintro _ ⟨xw, rfl⟩
        have L1 := hideP (L0.out.call (later_below _ xw))
        clear hc0 hc1 L0
        go_wp2_with (first
          | (go_at_call 74; refine (itoa _ _ ⟨by omega, by omega⟩).mono ?_; rintro e w2 ⟨rfl, hb2⟩; have L2 := hideP (L1.out.call hb2); clear hb2 L1)
          | (at_builtin; refine wpList_app Yaav.underlying22 Yaav.info5 rfl rfl (.tmp 138) (.tmp 140) rfl rfl rfl L2.out.gr (Src.ofString _ Yaav.underlying9 _) (by omega) (by omega) L2.out.bel.size ?_; intro v3 w3 hg3 hgr3 hat3; have L3 := hideP (L2.out.app hg3 hgr3 hat3); clear hg3 hgr3 hat3 L2)
          | (at_builtin; refine wpList_app Yaav.underlying22 Yaav.info5 rfl rfl (.tmp 142) (.const (.string ⟨#[58, 32]⟩)) rfl rfl rfl L3.out.gr (Src.ofString _ Yaav.underlying9 _) (by rw [e2]; omega) (by rw [e2]; omega) L3.out.bel.size ?_; intro v4 w4 hg4 hgr4 hat4; have L4 := hideP (L3.out.app hg4 hgr4 hat4); clear hg4 hgr4 hat4 L3)
          | (at_builtin; refine wpList_app Yaav.underlying22 Yaav.info5 rfl rfl (.tmp 144) (.tmp 145) rfl rfl rfl L4.out.gr (Src.ofString _ Yaav.underlying9 _) (by rw [e2]; omega) (by rw [e2]; omega) L4.out.bel.size ?_; intro v5 w5 hg5 hgr5 hat5; have L5 := hideP (L4.out.app hg5 hgr5 hat5); clear hg5 hgr5 hat5 L4)
          | (at_builtin; refine wpList_app Yaav.underlying22 Yaav.info5 rfl rfl (.tmp 147) (.tmp 148) rfl rfl rfl (L5.out.alloc _).gr (Src.ofSlice _ Yaav.underlying22 ⟨w5.heap.size, 0, none⟩ 1 1 [.int .u8 10] rfl (cell_one_new _ _ _) (by simp; rfl)) (by rw [e2]; omega) (by rw [e2]; omega) (L5.out.alloc _).bel.size ?_; intro v6 w6 hg6 hgr6 hat6; have L6 := hideP ((L5.out.alloc _).app hg6 hgr6 hat6); clear hg6 hgr6 hat6 L5))
        go_roundw
        case rel =>
          have g := L6.out.gr
          rw [← hline.out, ← lstCells_take HX.out] at g
          refine ⟨k' + 1, by omega, by go_num, L6.out.bel, _, ?_, g⟩
          rw [hline.out, e2]; omega
        case measure => simp [intOf]; omega
      by_cases n10 : op = 10
      · subst n10
        clear n0 n1 n2 n3 n4 n5 n6 n7 n8 n9
        have hline : Hid (lineS ⟨10, r, a, b, k⟩ = (⟨#[104, 97, 108, 116, 32]⟩ : ByteArray) ++ decS a) := by show _ = _; simp [lineS]
        have hl := lineS_size ⟨10, r, a, b, k⟩
        rw [hline.out] at hl
        go_wp2_with fail
        refine (itoa _ _ HA.out).mono ?_
        rintro e w0 ⟨rfl, hb0⟩
        have L1 := hideP (L0.out.call hb0)
        clear L0 hb0
        go_wp2_with (first
          | (go_at_call 74; refine (itoa _ _ ⟨by omega, by omega⟩).mono ?_; rintro e w2 ⟨rfl, hb2⟩; have L2 := hideP (L1.out.call hb2); clear hb2 L1)
          | (at_builtin; refine wpList_app Yaav.underlying22 Yaav.info5 rfl rfl (.tmp 138) (.tmp 140) rfl rfl rfl L2.out.gr (Src.ofString _ Yaav.underlying9 _) (by omega) (by omega) L2.out.bel.size ?_; intro v3 w3 hg3 hgr3 hat3; have L3 := hideP (L2.out.app hg3 hgr3 hat3); clear hg3 hgr3 hat3 L2)
          | (at_builtin; refine wpList_app Yaav.underlying22 Yaav.info5 rfl rfl (.tmp 142) (.const (.string ⟨#[58, 32]⟩)) rfl rfl rfl L3.out.gr (Src.ofString _ Yaav.underlying9 _) (by rw [e2]; omega) (by rw [e2]; omega) L3.out.bel.size ?_; intro v4 w4 hg4 hgr4 hat4; have L4 := hideP (L3.out.app hg4 hgr4 hat4); clear hg4 hgr4 hat4 L3)
          | (at_builtin; refine wpList_app Yaav.underlying22 Yaav.info5 rfl rfl (.tmp 144) (.tmp 145) rfl rfl rfl L4.out.gr (Src.ofString _ Yaav.underlying9 _) (by rw [e2]; omega) (by rw [e2]; omega) L4.out.bel.size ?_; intro v5 w5 hg5 hgr5 hat5; have L5 := hideP (L4.out.app hg5 hgr5 hat5); clear hg5 hgr5 hat5 L4)
          | (at_builtin; refine wpList_app Yaav.underlying22 Yaav.info5 rfl rfl (.tmp 147) (.tmp 148) rfl rfl rfl (L5.out.alloc _).gr (Src.ofSlice _ Yaav.underlying22 ⟨w5.heap.size, 0, none⟩ 1 1 [.int .u8 10] rfl (cell_one_new _ _ _) (by simp; rfl)) (by rw [e2]; omega) (by rw [e2]; omega) (L5.out.alloc _).bel.size ?_; intro v6 w6 hg6 hgr6 hat6; have L6 := hideP ((L5.out.alloc _).app hg6 hgr6 hat6); clear hg6 hgr6 hat6 L5))
        go_roundw
        case rel =>
          have g := L6.out.gr
          rw [← hline.out, ← lstCells_take HX.out] at g
          refine ⟨k' + 1, by omega, by go_num, L6.out.bel, _, ?_, g⟩
          rw [hline.out, e2]; omega
        case measure => simp [intOf]; omega
      have hline : Hid (lineS ⟨op, r, a, b, k⟩ = (⟨#[98, 97, 100, 32]⟩ : ByteArray) ++ decS op) := by show _ = _; simp [lineS, n0, n1, n2, n3, n4, n5, n6, n7, n8, n9, n10]
      have m0 : (op == 0) = false := beq_eq_false_iff_ne.2 n0
      have m1 : (op == 1) = false := beq_eq_false_iff_ne.2 n1
      have m2 : (op == 2) = false := beq_eq_false_iff_ne.2 n2
      have m3 : (op == 3) = false := beq_eq_false_iff_ne.2 n3
      have m4 : (op == 4) = false := beq_eq_false_iff_ne.2 n4
      have m5 : (op == 5) = false := beq_eq_false_iff_ne.2 n5
      have m6 : (op == 6) = false := beq_eq_false_iff_ne.2 n6
      have m7 : (op == 7) = false := beq_eq_false_iff_ne.2 n7
      have m8 : (op == 8) = false := beq_eq_false_iff_ne.2 n8
      have m9 : (op == 9) = false := beq_eq_false_iff_ne.2 n9
      have m10 : (op == 10) = false := beq_eq_false_iff_ne.2 n10
      clear n0 n1 n2 n3 n4 n5 n6 n7 n8 n9 n10
      have hl := lineS_size ⟨op, r, a, b, k⟩
      rw [hline.out] at hl
      go_wp2_with fail
      refine (itoa _ _ HO.out).mono ?_
      rintro e w0 ⟨rfl, hb0⟩
      have L1 := hideP (L0.out.call hb0)
      clear L0 hb0
      go_wp2_with (first
        | (go_at_call 74; refine (itoa _ _ ⟨by omega, by omega⟩).mono ?_; rintro e w2 ⟨rfl, hb2⟩; have L2 := hideP (L1.out.call hb2); clear hb2 L1)
        | (at_builtin; refine wpList_app Yaav.underlying22 Yaav.info5 rfl rfl (.tmp 138) (.tmp 140) rfl rfl rfl L2.out.gr (Src.ofString _ Yaav.underlying9 _) (by omega) (by omega) L2.out.bel.size ?_; intro v3 w3 hg3 hgr3 hat3; have L3 := hideP (L2.out.app hg3 hgr3 hat3); clear hg3 hgr3 hat3 L2)
        | (at_builtin; refine wpList_app Yaav.underlying22 Yaav.info5 rfl rfl (.tmp 142) (.const (.string ⟨#[58, 32]⟩)) rfl rfl rfl L3.out.gr (Src.ofString _ Yaav.underlying9 _) (by rw [e2]; omega) (by rw [e2]; omega) L3.out.bel.size ?_; intro v4 w4 hg4 hgr4 hat4; have L4 := hideP (L3.out.app hg4 hgr4 hat4); clear hg4 hgr4 hat4 L3)
        | (at_builtin; refine wpList_app Yaav.underlying22 Yaav.info5 rfl rfl (.tmp 144) (.tmp 145) rfl rfl rfl L4.out.gr (Src.ofString _ Yaav.underlying9 _) (by rw [e2]; omega) (by rw [e2]; omega) L4.out.bel.size ?_; intro v5 w5 hg5 hgr5 hat5; have L5 := hideP (L4.out.app hg5 hgr5 hat5); clear hg5 hgr5 hat5 L4)
        | (at_builtin; refine wpList_app Yaav.underlying22 Yaav.info5 rfl rfl (.tmp 147) (.tmp 148) rfl rfl rfl (L5.out.alloc _).gr (Src.ofSlice _ Yaav.underlying22 ⟨w5.heap.size, 0, none⟩ 1 1 [.int .u8 10] rfl (cell_one_new _ _ _) (by simp; rfl)) (by rw [e2]; omega) (by rw [e2]; omega) (L5.out.alloc _).bel.size ?_; intro v6 w6 hg6 hgr6 hat6; have L6 := hideP ((L5.out.alloc _).app hg6 hgr6 hat6); clear hg6 hgr6 hat6 L5))
      go_roundw
      case rel =>
        have g := L6.out.gr
        rw [← hline.out, ← lstCells_take HX.out] at g
        refine ⟨k' + 1, by omega, by go_num, L6.out.bel, _, ?_, g⟩
        rw [hline.out, e2]; omega
      case measure => simp [intOf]; omega
    · have hk2 : k' = n := by omega
      subst hk2
      have hc := hgr.toStr (lstCells_nums 0 _)
      clear hgr
      go_wp2
      go_ret
      refine ⟨?_, hbel⟩
      rw [List.take_of_length_le (by omega)]
      rfl

end Go.Proofs.Yahaaw
