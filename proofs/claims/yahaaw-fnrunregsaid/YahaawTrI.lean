/-
  DERIVED. WALK: impl.Translate (18).
-/
import Derived.Test.YahaawTrS
import Derived.Test.YahaawDepI
namespace Go.Proofs.Yahaaw
open Go.RowKit
set_option linter.unusedVariables false
set_option linter.unusedSimpArgs false

/-- What the implementation's Translate hands back. -/
def TrPostI (ps : List SO) (B : Nat) (e : Ending) (w' : World) : Prop := ∃ ops d ok b, TrIs ps ops d ok ∧ e = .returned (.tuple #[.slice b ops.length ops.length, .int .i64 d, .bool ok]) ∧ Own w' B b (rCells ops) 81

theorem Cp.alloc {w wr : World} {full : List Value} {t m : Nat} (h : Cp w full t m wr) (o : Obj) : Cp w full t m (wr.alloc o) := by
  obtain ⟨hb, rest, hk, hl⟩ := h
  exact ⟨hb.alloc hb.size _, rest, hk.alloc _, hl⟩

theorem Cp.lt {w wr : World} {full : List Value} {t m : Nat} (h : Cp w full t m wr) : w.heap.size < wr.heap.size := by
  obtain ⟨_, rest, hk, _⟩ := h
  exact hk.lt

theorem needs_codes {c : Int} (h : 0 ≤ needs c) : c = 0 ∨ c = 1 ∨ c = 2 ∨ c = 3 ∨ c = 4 ∨ c = 5 ∨ c = 6 ∨ c = 7 ∨ c = 8 ∨ c = 9 ∨ c = 10 ∨ c = 11 := by
  unfold needs at h
  split at h
  · omega
  · split at h
    · omega
    · split at h
      · omega
      · omega

theorem good_needs {ps : List SO} {T : List Int} (h : IsDep ps T) {i : Nat} {p : SO} (hp : ps[i]? = some p) (hl : 0 ≤ tg T i) : 0 ≤ needs p.c ∧ needs p.c ≤ tg T i := by
  obtain ⟨es, h1, _⟩ := h.good.2 i p hp hl
  unfold succs at h1
  split at h1
  · cases h1
  · omega

set_option maxRecDepth 100000 in
set_option maxHeartbeats 4000000 in
theorem iTranslate (a0 : Option Addr) (n cap : Nat) (ps : List SO) (w : World) (hn : ps.length = n) (hn2 : n ≤ 1099511627776) (hs : Seg w a0 (sCells ps)) :
    Calls Yaav.prog 18 #[.slice a0 n cap] w fun e w' => TrPostI ps w.heap.size e w' ∧ Below w.heap.size w w' := by
  have HS := hideP hs
  have HN := hideP hn
  clear hs hn
  go_enter Yaav.func18, Yaav.ntmps18
  go_wp2_with fail
  refine (iDepths a0 n cap ps _ HN.out hn2 HS.out).mono ?_
  rintro e w1 ⟨hd, hb⟩
  rcases hd with ⟨T, aT, rfl, hT, ho⟩ | ⟨rfl, hno⟩
  rotate_left
  · have HNo := hideP hno
    have HB := hideP hb
    clear hno hb
    go_wp2
    go_ret3
    exact ⟨⟨[], 0, false, none, .inr ⟨HNo.out, rfl, rfl, rfl⟩, rfl, .inl rfl⟩, HB.out⟩
  · rw [HN.out]
    have hTl := hT.tab.len
    have hsm := hT.small
    have hTb := hT.tab.bound
    have hTlo := hT.tab.lo
    rw [HN.out] at hTl hsm hTb
    have HT := hideP hT
    have HO := hideP ho
    have HB := hideP hb
    have HTb := hideP hTb
    have HTlo := hideP hTlo
    clear hT ho hb hTb hTlo
    have hmk := mk_run Yaav.underlying32 Yaav.info81 (n + 1) (n + 1) (Nat.le_refl _) (by omega) (by omega)
    rw [show ((n + 1 : Nat) : Int) = (n : Int) + 1 by omega] at hmk
    have hlen : (rCells (trans ps T)).length = (n + 1) * 5 := by rw [rCells_len, trans_len, HN.out]
    go_wp2
    clear hmk
    go_loopw [10] (fun iv wr => ∃ k : Nat, k ≤ n ∧ iv = .int .i64 k ∧ Cp w1 (rCells (trans ps T)) 81 (k * 5) wr) (fun iv _ => n - (intOf iv).toNat)
    case atStart => exact ⟨0, Nat.zero_le _, rfl, Cp.start _ _ _ _ (by rw [zc_len, hlen])⟩
    case round =>
      obtain ⟨k, hk, rfl, hcp⟩ := hrel
      have hTbk := HTb.out k
      have hTlok := HTlo.out k
      have hsz := hcp.1.size
      have hgl := hcp.lt
      obtain ⟨bt, offt, rfl, hbt, h3'⟩ := HO.out.seg.i (get_tg (T := T) (i := k) (by omega))
      have h3 := keepC hcp.1 h3'
      have hbt2 : bt < wr.heap.size := by omega
      have f0 := hcp.frozen (k * 5)
      obtain ⟨v0, c0⟩ := hcp.there (i := k * 5) (by omega)
      have f1 := hcp.frozen (k * 5 + 1)
      obtain ⟨v1, c1⟩ := hcp.there (i := k * 5 + 1) (by omega)
      have f2 := hcp.frozen (k * 5 + 2)
      obtain ⟨v2, c2⟩ := hcp.there (i := k * 5 + 2) (by omega)
      have f3 := hcp.frozen (k * 5 + 3)
      obtain ⟨v3, c3⟩ := hcp.there (i := k * 5 + 3) (by omega)
      have f4 := hcp.frozen (k * 5 + 4)
      obtain ⟨v4, c4⟩ := hcp.there (i := k * 5 + 4) (by omega)
      have HC := hideP hcp
      clear hcp h3' hlen
      by_cases hlt : k < n
      · obtain ⟨x, hx⟩ := some_at (ps := ps) (k := k) (by have := HN.out; omega)
        obtain ⟨bb, off, rfl, hbb, h1', h2'⟩ := (HS.out.below HB.out).s hx
        have h1 := keepC HC.out.1 h1'
        have h2 := keepC HC.out.1 h2'
        have hbb2 : bb < wr.heap.size := by omega
        obtain ⟨c, a⟩ := x
        simp only at h1 h2
        have hgn := good_needs HT.out hx
        have HX := hideP (trans_get T hx)
        clear hx h1' h2'
        obtain ⟨d, hd⟩ : ∃ d, tg T k = d := ⟨_, rfl⟩
        rw [hd] at hTbk hTlok h3 hgn HX
        clear hd
        by_cases hu : d < 0
        · clear hgn
          have HR : Hid (regFor ⟨c, a⟩ d = ⟨7, 0, 0, 0, 0⟩) := by show _ = _; simp [regFor, hu]
          go_wp2
          go_roundw
          case rel =>
            have hg := rCells_get HX.out
            rw [HR.out] at hg
            obtain ⟨g0, g1, g2, g3, g4⟩ := hg
            exact ⟨k + 1, by omega, by go_num, by rw [show (k + 1) * 5 = k * 5 + 5 by omega]; exact (HC.out.store5 g0 g1 g2 g3 g4)⟩
          case measure => simp [intOf]; omega
        · have hcodes := needs_codes (hgn (by omega)).1
          clear hgn
          simp only at hcodes
          rcases hcodes with rfl | rfl | rfl | rfl | rfl | rfl | rfl | rfl | rfl | rfl | rfl | rfl
          · have HR : Hid (regFor ⟨0, a⟩ d = ⟨0, d, 0, 0, a⟩) := by show _ = _; simp [regFor, hu]
            go_wp2
            go_roundw
            case rel =>
              have hg := rCells_get HX.out
              rw [HR.out] at hg
              obtain ⟨g0, g1, g2, g3, g4⟩ := hg
              exact ⟨k + 1, by omega, by go_num, by rw [show (k + 1) * 5 = k * 5 + 5 by omega]; exact (HC.out.store5 g0 g1 g2 g3 g4).alloc _⟩
            case measure => simp [intOf]; omega
          · have HR : Hid (regFor ⟨1, a⟩ d = ⟨1, d, 0, 0, a⟩) := by show _ = _; simp [regFor, hu]
            go_wp2
            go_roundw
            case rel =>
              have hg := rCells_get HX.out
              rw [HR.out] at hg
              obtain ⟨g0, g1, g2, g3, g4⟩ := hg
              exact ⟨k + 1, by omega, by go_num, by rw [show (k + 1) * 5 = k * 5 + 5 by omega]; exact (HC.out.store5 g0 g1 g2 g3 g4).alloc _⟩
            case measure => simp [intOf]; omega
          · have HR : Hid (regFor ⟨2, a⟩ d = ⟨2, d - 2, d - 2, d - 1, 0⟩) := by show _ = _; simp [regFor, hu]
            go_wp2
            go_roundw
            case rel =>
              have hg := rCells_get HX.out
              rw [HR.out] at hg
              obtain ⟨g0, g1, g2, g3, g4⟩ := hg
              exact ⟨k + 1, by omega, by go_num, by rw [show (k + 1) * 5 = k * 5 + 5 by omega]; exact (HC.out.store5 g0 g1 g2 g3 g4).alloc _⟩
            case measure => simp [intOf]; omega
          · have HR : Hid (regFor ⟨3, a⟩ d = ⟨3, d - 2, d - 2, d - 1, 0⟩) := by show _ = _; simp [regFor, hu]
            go_wp2
            go_roundw
            case rel =>
              have hg := rCells_get HX.out
              rw [HR.out] at hg
              obtain ⟨g0, g1, g2, g3, g4⟩ := hg
              exact ⟨k + 1, by omega, by go_num, by rw [show (k + 1) * 5 = k * 5 + 5 by omega]; exact (HC.out.store5 g0 g1 g2 g3 g4).alloc _⟩
            case measure => simp [intOf]; omega
          · have HR : Hid (regFor ⟨4, a⟩ d = ⟨4, d - 2, d - 2, d - 1, 0⟩) := by show _ = _; simp [regFor, hu]
            go_wp2
            go_roundw
            case rel =>
              have hg := rCells_get HX.out
              rw [HR.out] at hg
              obtain ⟨g0, g1, g2, g3, g4⟩ := hg
              exact ⟨k + 1, by omega, by go_num, by rw [show (k + 1) * 5 = k * 5 + 5 by omega]; exact (HC.out.store5 g0 g1 g2 g3 g4).alloc _⟩
            case measure => simp [intOf]; omega
          · have HR : Hid (regFor ⟨5, a⟩ d = ⟨5, d, d - 1, 0, 0⟩) := by show _ = _; simp [regFor, hu]
            go_wp2
            go_roundw
            case rel =>
              have hg := rCells_get HX.out
              rw [HR.out] at hg
              obtain ⟨g0, g1, g2, g3, g4⟩ := hg
              exact ⟨k + 1, by omega, by go_num, by rw [show (k + 1) * 5 = k * 5 + 5 by omega]; exact (HC.out.store5 g0 g1 g2 g3 g4).alloc _⟩
            case measure => simp [intOf]; omega
          · have HR : Hid (regFor ⟨6, a⟩ d = ⟨5, d, d - 2, 0, 0⟩) := by show _ = _; simp [regFor, hu]
            go_wp2
            go_roundw
            case rel =>
              have hg := rCells_get HX.out
              rw [HR.out] at hg
              obtain ⟨g0, g1, g2, g3, g4⟩ := hg
              exact ⟨k + 1, by omega, by go_num, by rw [show (k + 1) * 5 = k * 5 + 5 by omega]; exact (HC.out.store5 g0 g1 g2 g3 g4).alloc _⟩
            case measure => simp [intOf]; omega
          · have HR : Hid (regFor ⟨7, a⟩ d = ⟨7, 0, 0, 0, 0⟩) := by show _ = _; simp [regFor, hu]
            go_wp2
            go_roundw
            case rel =>
              have hg := rCells_get HX.out
              rw [HR.out] at hg
              obtain ⟨g0, g1, g2, g3, g4⟩ := hg
              exact ⟨k + 1, by omega, by go_num, by rw [show (k + 1) * 5 = k * 5 + 5 by omega]; exact (HC.out.store5 g0 g1 g2 g3 g4).alloc _⟩
            case measure => simp [intOf]; omega
          · have HR : Hid (regFor ⟨8, a⟩ d = ⟨6, 0, d - 2, d - 1, 0⟩) := by show _ = _; simp [regFor, hu]
            go_wp2
            go_roundw
            case rel =>
              have hg := rCells_get HX.out
              rw [HR.out] at hg
              obtain ⟨g0, g1, g2, g3, g4⟩ := hg
              exact ⟨k + 1, by omega, by go_num, by rw [show (k + 1) * 5 = k * 5 + 5 by omega]; exact (HC.out.store5 g0 g1 g2 g3 g4).alloc _⟩
            case measure => simp [intOf]; omega
          · have HR : Hid (regFor ⟨9, a⟩ d = ⟨8, 0, 0, 0, a⟩) := by show _ = _; simp [regFor, hu]
            go_wp2
            go_roundw
            case rel =>
              have hg := rCells_get HX.out
              rw [HR.out] at hg
              obtain ⟨g0, g1, g2, g3, g4⟩ := hg
              exact ⟨k + 1, by omega, by go_num, by rw [show (k + 1) * 5 = k * 5 + 5 by omega]; exact (HC.out.store5 g0 g1 g2 g3 g4).alloc _⟩
            case measure => simp [intOf]; omega
          · have HR : Hid (regFor ⟨10, a⟩ d = ⟨9, 0, d - 1, 0, a⟩) := by show _ = _; simp [regFor, hu]
            go_wp2
            go_roundw
            case rel =>
              have hg := rCells_get HX.out
              rw [HR.out] at hg
              obtain ⟨g0, g1, g2, g3, g4⟩ := hg
              exact ⟨k + 1, by omega, by go_num, by rw [show (k + 1) * 5 = k * 5 + 5 by omega]; exact (HC.out.store5 g0 g1 g2 g3 g4).alloc _⟩
            case measure => simp [intOf]; omega
          · have HR : Hid (regFor ⟨11, a⟩ d = ⟨10, 0, d, 0, 0⟩) := by show _ = _; simp [regFor, hu]
            go_wp2
            go_roundw
            case rel =>
              have hg := rCells_get HX.out
              rw [HR.out] at hg
              obtain ⟨g0, g1, g2, g3, g4⟩ := hg
              exact ⟨k + 1, by omega, by go_num, by rw [show (k + 1) * 5 = k * 5 + 5 by omega]; exact (HC.out.store5 g0 g1 g2 g3 g4).alloc _⟩
            case measure => simp [intOf]; omega
      · have hkn : k = n := by omega
        subst hkn
        have HL : Hid ((trans ps T)[k]? = some (lastR (tg T k))) := by have := trans_last ps T; rw [HN.out] at this; exact this
        by_cases hd : 0 ≤ tg T k
        · have HR : Hid (lastR (tg T k) = ⟨10, 0, tg T k, 0, 0⟩) := by show _ = _; simp [lastR, hd]
          go_wp2
          go_ret3
          have hg := rCells_get HL.out
          rw [HR.out] at hg
          obtain ⟨g0, g1, g2, g3, g4⟩ := hg
          obtain ⟨hb9, ho9⟩ := (HC.out.store5 g0 g1 g2 g3 g4).done (by rw [rCells_len, trans_len, HN.out]; omega)
          exact ⟨⟨trans ps T, mx T, true, _, .inl ⟨T, HT.out, rfl, rfl, rfl⟩, by rw [trans_len, HN.out]; rfl, ho9.mono HB.out.size⟩, Below.both HB.out hb9⟩
        · have hd' : decide (0 ≤ tg T k) = false := by simp; omega
          have HR : Hid (lastR (tg T k) = ⟨10, 0, 0, 0, 0⟩) := by show _ = _; simp [lastR, hd]
          go_wp2
          go_ret3
          have hg := rCells_get HL.out
          rw [HR.out] at hg
          obtain ⟨g0, g1, g2, g3, g4⟩ := hg
          obtain ⟨hb9, ho9⟩ := (HC.out.store5 g0 g1 g2 g3 g4).done (by rw [rCells_len, trans_len, HN.out]; omega)
          exact ⟨⟨trans ps T, mx T, true, _, .inl ⟨T, HT.out, rfl, rfl, rfl⟩, by rw [trans_len, HN.out]; rfl, ho9.mono HB.out.size⟩, Below.both HB.out hb9⟩

end Go.Proofs.Yahaaw
