/-
  DERIVED. WALK: impl.depths (45).
-/
import Derived.Test.YahaawDepS
import Derived.Deep.LoopGhost
import Derived.Deep.DeepCutAuto
import Derived.Deep.CutBlock
namespace Go.Proofs.Yahaaw
open Go.RowKit
set_option linter.unusedVariables false
set_option linter.unusedSimpArgs false

def nCells (W : List Nat) : List Value := W.map fun (x : Nat) => Value.int .i64 (x : Int)
theorem nCells_len (W : List Nat) : (nCells W).length = W.length := by simp [nCells]

theorem Grow.setFar {w : World} {B : Nat} {e : TypeId} {size : Nat} {v : Value} {n : Nat} {xs : List Value} (h : Grow w B e size v n xs) {p : Addr} (hp : p.block < B) (u : Value) : Grow (w.setCell p u) B e size v n xs := by
  obtain ⟨hl, h⟩ := h
  refine ⟨hl, ?_⟩
  rcases h with h | ⟨g, cap, rest, hv, hB, hc, hr, hk⟩
  · exact .inl h
  · exact .inr ⟨g, cap, rest, hv, hB, hc, hr, hk.far (by omega) u⟩

/-- A stack of numbers that is not empty: its value, its top, and what is left when the top is taken off. -/
theorem Grow.pop {w : World} {B : Nat} {e : TypeId} {v : Value} {n : Nat} {xs : List Value} {x : Value} (h : Grow w B e 1 v (n + 1) (xs ++ [x])) :
    ∃ g cap, v = .slice (some ⟨g, 0, none⟩) (n + 1) cap ∧ n + 1 ≤ cap ∧ B ≤ g ∧ g < w.heap.size ∧ w.cell? ⟨g, n, none⟩ = some x ∧ Grow w B e 1 (.slice (some ⟨g, 0, none⟩) n cap) n xs := by
  obtain ⟨hl, h⟩ := h
  simp at hl
  rcases h with ⟨_, h⟩ | ⟨g, cap, rest, hv, hB, hc, hr, hk⟩
  · omega
  · refine ⟨g, cap, hv, hc, hB, hk.lt, ?_, by simp; omega, .inr ⟨g, cap, x :: rest, rfl, hB, by omega, by simp at hr ⊢; omega, by simpa using hk⟩⟩
    rw [hk.cell, List.getElem?_append_left (by simp; omega)]
    simp [hl]

/-- Where a round of depths stands. -/
structure DI (w : World) (T : List Int) (W : List Nat) (wv : Value) (bs bd : Nat) (cs ds : List Value) (wr : World) : Prop where
  bel : Below w.heap.size w wr
  blk : Blk wr w.heap.size (iCells T) 3
  gr : Grow wr (w.heap.size + 1) 3 1 wv W.length (nCells W)
  sb : Blk wr bs cs 115
  db : Blk wr bd ds 115
  ns : wv.ownBlock ≠ some bs
  nd : wv.ownBlock ≠ some bd
  gs : w.heap.size < bs
  gd : w.heap.size < bd

theorem DI.mk' {w wr : World} {T : List Int} {W : List Nat} {wv : Value} (hb : Below w.heap.size w wr) (hk : Blk wr w.heap.size (iCells T) 3) (hg : Grow wr (w.heap.size + 1) 3 1 wv W.length (nCells W)) (o : Obj) (cs ds : List Value) :
    DI w T W wv (wr.heap.size + 1) (wr.heap.size + 2) cs ds (((wr.alloc o).alloc (.cells cs.toArray 115)).alloc (.cells ds.toArray 115)) := by
  have h1 := hb.size
  have h2 := hk.lt
  have b1 : Blk ((wr.alloc o).alloc (.cells cs.toArray 115)) (wr.heap.size + 1) cs 115 := by have := Blk.new (wr.alloc o) cs 115; simpa using this
  have b2 : Blk (((wr.alloc o).alloc (.cells cs.toArray 115)).alloc (.cells ds.toArray 115)) (wr.heap.size + 2) ds 115 := by have := Blk.new ((wr.alloc o).alloc (.cells cs.toArray 115)) ds 115; simpa using this
  refine ⟨((hb.alloc h1 _).alloc (by simp; omega) _).alloc (by simp; omega) _, ((hk.alloc _).alloc _).alloc _, ((hg.alloc _).alloc _).alloc _, b1.alloc _, b2, fun e => ?_, fun e => ?_, by omega, by omega⟩
  · have := (hg.row _ e).2; omega
  · have := (hg.row _ e).2; omega

section
variable {w wr : World} {T : List Int} {W : List Nat} {wv : Value} {bs bd : Nat} {cs ds : List Value}

theorem DI.drewN (h : DI w T W wv bs bd cs ds wr) (n : Nat) : DI w T W wv bs bd cs ds (wr.drewN n) := ⟨bdrewN h.bel n, h.blk, h.gr, h.sb, h.db, h.ns, h.nd, h.gs, h.gd⟩

theorem DI.set (h : DI w T W wv bs bd cs ds wr) (s : Nat) (v : Int) : DI w (T.set s v) W wv bs bd cs ds (wr.setCell ⟨w.heap.size, s, none⟩ (.int .i64 v)) := by
  have h1 := h.gs
  have h2 := h.gd
  exact ⟨h.bel.setCell (p := ⟨_, _, none⟩) (Nat.le_refl _) _, h.blk.iset s v, h.gr.setFar (p := ⟨_, _, none⟩) (Nat.lt_succ_self _) _, h.sb.far (p := ⟨_, _, none⟩) (by simp; omega) _, h.db.far (p := ⟨_, _, none⟩) (by simp; omega) _, h.ns, h.nd, h1, h2⟩

theorem DI.alloc (h : DI w T W wv bs bd cs ds wr) (o : Obj) : DI w T W wv bs bd cs ds (wr.alloc o) :=
  ⟨h.bel.alloc h.bel.size _, h.blk.alloc _, h.gr.alloc _, h.sb.alloc _, h.db.alloc _, h.ns, h.nd, h.gs, h.gd⟩

theorem DI.app (h : DI w T W wv bs bd cs ds wr) {w1 : World} {v' : Value} {x : Nat} (hg : Grow w1 (w.heap.size + 1) 3 1 v' (W.length + 1) (nCells W ++ [.int .i64 (x : Int)])) (hgr : wr.grownBy w1 wv.ownBlock) (hat : v'.ownBlock = wv.ownBlock ∨ v'.ownBlock = some wr.heap.size) :
    DI w T (W ++ [x]) v' bs bd cs ds w1 := by
  have hl := h.blk.lt
  refine ⟨h.bel.grown hgr h.bel.size (fun k hk => by have := (h.gr.row k hk).1; omega), (blk_grown h.blk (fun e => by have := (h.gr.row _ e).1; omega) hgr hat).1, ?_, (blk_grown h.sb h.ns hgr hat).1, (blk_grown h.db h.nd hgr hat).1, (blk_grown h.sb h.ns hgr hat).2, (blk_grown h.db h.nd hgr hat).2, h.gs, h.gd⟩
  simpa [nCells] using hg
end

/-- What depths hands back. -/
def DepPostI (ps : List SO) (B : Nat) (e : Ending) (w' : World) : Prop :=
  (∃ T a, e = .returned (.tuple #[.slice a (ps.length + 1) (ps.length + 1), .int .i64 (mx T), .bool true]) ∧ IsDep ps T ∧ Own w' B a (iCells T) 3) ∨ (e = .returned (.tuple #[.slice none 0 0, .int .i64 0, .bool false]) ∧ NoDep ps)

set_option maxRecDepth 100000 in
set_option maxHeartbeats 4000000 in
theorem iDepths_in (a : Option Addr) (n cap : Nat) (ps : List SO) (w : World) (hn : ps.length = n) (hn2 : n ≤ 65536) (hs : Seg w a (sCells ps)) :
    Calls Yaav.prog 45 #[.slice a n cap] w fun e w' => DepPostI ps w.heap.size e w' ∧ Below w.heap.size w w' := by
  have HS := hideP hs
  have HN := hideP hn
  have hmk := mk_run Yaav.underlying75 Yaav.info3 (n + 1) (n + 1) (Nat.le_refl _) (by omega) (by omega)
  have hmk0 := mk_run Yaav.underlying75 Yaav.info3 0 (n + 1) (Nat.zero_le _) (by omega) (by omega)
  rw [show ((n + 1 : Nat) : Int) = (n : Int) + 1 by omega] at hmk hmk0
  simp only [Int.natCast_zero] at hmk0
  clear hs hn
  go_enter Yaav.func45, Yaav.ntmps45
  go_wp2
  go_loopw [7] (fun i wr => ∃ k : Nat, k ≤ n + 1 ∧ i = .int .i64 k ∧ Cp w (iCells (List.replicate (n + 1) (-1))) 3 k wr) (fun i _ => n + 1 - (intOf i).toNat)
  case atStart => exact ⟨0, Nat.zero_le _, rfl, Cp.start _ _ _ _ (by rw [zc_len, iCells_len]; simp)⟩
  case round =>
    clear hmk
    obtain ⟨k, hk, rfl, hcp⟩ := hrel
    have hlen : (iCells (List.replicate (n + 1) (-1))).length = n + 1 := by rw [iCells_len]; simp
    by_cases hlt : k < n + 1
    · have f0 := hcp.frozen k
      obtain ⟨v0, c0⟩ := hcp.there (i := k) (by omega)
      have HC := hideP hcp
      clear hcp hlen hmk0
      go_wp2
      go_roundw
      case rel => exact ⟨k + 1, by omega, by go_num, HC.out.store1 (replicate_get hlt)⟩
      case measure => simp [intOf]; omega
    · obtain ⟨hb, ho⟩ := hcp.done (by omega)
      have hblk : Blk wr w.heap.size (iCells (List.replicate (n + 1) (-1))) 3 := by
        rcases ho with h | ⟨g, _, hg, hb⟩
        · rw [h] at hlen; simp at hlen
        · cases hg; exact hb
      have f0 := hblk.frozen 0
      obtain ⟨v0, c0⟩ := hblk.there (i := 0) (by omega)
      have HB0 := hideP (hb.setCell (p := ⟨w.heap.size, 0, none⟩) (Nat.le_refl _) (.int .i64 0))
      have HK0 : Hid (Blk (wr.setCell ⟨w.heap.size, 0, none⟩ (.int .i64 0)) w.heap.size (iCells ((List.replicate (n + 1) (-1)).set 0 0)) 3) := hblk.iset 0 0
      have hsz0 := hblk.lt
      clear hcp hlen hb ho hblk
      have d23 : decide (k ≤ n) = false := by simp; omega
      have HG0 : Hid (Grow ((wr.setCell ⟨w.heap.size, 0, none⟩ (.int .i64 0)).alloc (.cells (zc #[.int .i64 0] (n + 1)) 3)) (w.heap.size + 1) 3 1 (.slice (some ⟨wr.heap.size, 0, none⟩) 0 (n + 1)) 0 []) := by
        have := Grow.made (wr.setCell ⟨w.heap.size, 0, none⟩ (.int .i64 0)) (w.heap.size + 1) 3 1 (n + 1) (zc #[.int .i64 0] (n + 1)) (by simp; omega) (by rw [zc_len]; omega)
        simpa [Hid] using this
      have hsz1 : (wr.setCell ⟨w.heap.size, 0, none⟩ (.int .i64 0)).heap.size = wr.heap.size := by simp
      go_wp2_with (at_builtin; refine wpList_app Yaav.underlying75 Yaav.info3 rfl rfl (.tmp 39) (.tmp 40) rfl (v := .slice (some ⟨wr.heap.size, 0, none⟩) 0 (n + 1)) rfl rfl (HG0.out.alloc _) (Src.ofSlice _ Yaav.underlying75 ⟨(wr.heap.size + 1), 0, none⟩ 1 1 [.int .i64 0] rfl (by have := cell_one_new ((wr.setCell ⟨w.heap.size, 0, none⟩ (.int .i64 0)).alloc (.cells (zc #[.int .i64 0] (n + 1)) 3)) (.int .i64 0) 3; simpa using this) (by simp; rfl)) (by omega) (by omega) (by simp; omega) ?_; intro v2 w2 hg2 hgr2 hat2; clear HG0)
      have HB2 := hideP (((HB0.out.alloc (by simp; omega) _).alloc (by simp; omega) _).grown hgr2 (by simp; omega) (fun k hk => by simp [Value.ownBlock] at hk; omega))
      have HK2 := hideP (blk_grown ((HK0.out.alloc _).alloc _) (by simp [Value.ownBlock]; omega) hgr2 hat2).1
      have HG2 : Hid (Grow w2 (w.heap.size + 1) 3 1 v2 1 [.int .i64 0]) := by simpa [Hid] using hg2
      clear HB0 HK0 hsz1 hg2 hgr2 hat2 f0 c0
      go_loopg [8, 9] (2 * n + 1) (fun gk wv mv wr => ∃ (W : List Nat) (T : List Int) (m : Int), mv = .int .i64 m ∧ Below w.heap.size w wr ∧ Blk wr w.heap.size (iCells T) 3 ∧ Grow wr (w.heap.size + 1) 3 1 wv W.length (nCells W) ∧ Wrk ps T W m ∧ m ≤ n ∧ W.length ≤ cnt T ∧ 2 * (n + 1 - cnt T) + W.length ≤ gk)
      case atStart =>
        have h0 := Tab.start ps
        have h1 := Wrk.start ps
        rw [HN.out] at h0 h1
        exact ⟨[0], _, 0, rfl, HB2.out, HK2.out, HG2.out, h1, by omega, by rw [h0.2]; simp, by rw [h0.2]; simp⟩
      case round =>
        clear HB2 HK2 HG2 hmk0
        obtain ⟨W, T, m, rfl, hbel, hblk, hgr, hwk, hmn, hWl, hms⟩ := hrel
        have hcn := cnt_le T
        have hTl := hwk.tab.len
        rw [HN.out] at hTl
        have hm0 := hwk.m0
        have hsz := hbel.size
        have hgl := hblk.lt
        rcases List.eq_nil_or_concat W with rfl | ⟨W0, i, rfl⟩
        · obtain ⟨aw, cw, rfl, _, _⟩ := hgr.shape
          obtain ⟨hd, hmx⟩ := hwk.isDep (by rw [HN.out]; exact hn2)
          have HD := hideP hd
          have HM := hideP hmx
          have HB := hideP hbel
          have HK := hideP hblk
          clear hd hmx hbel hblk hgr hwk
          go_wp2
          go_ret3
          refine ⟨.inl ⟨T, _, ?_, HD.out, .inr ⟨w.heap.size, Nat.le_refl _, rfl, HK.out⟩⟩, HB.out⟩
          rw [HN.out, ← HM.out]; rfl
        · have hW2 : W0.length + 1 ≤ cnt T := by simpa using hWl
          have hms2 : 2 * (n + 1 - cnt T) + (W0.length + 1) ≤ gk := by simpa using hms
          have hgr' : Grow wr (w.heap.size + 1) 3 1 u8 (W0.length + 1) (nCells W0 ++ [.int .i64 (i : Int)]) := by simpa [nCells] using hgr
          obtain ⟨gw, cw, rfl, hcw, hgB, hgw, ctop, hpop⟩ := hgr'.pop
          have hwk' : Wrk ps T (W0 ++ [i]) m := by simpa using hwk
          obtain ⟨hi1, hi2⟩ := hwk'.work i (by simp)
          rw [HN.out] at hi1
          have cT : wr.cell? ⟨w.heap.size, i, none⟩ = some (.int .i64 (tg T i)) := by rw [hblk.cell]; exact iCells_get (get_tg (by omega))
          have hb1 := hwk.tab.bound i
          rw [HN.out] at hb1
          have HB := hideP hbel
          have HK := hideP hblk
          have HG := hideP hpop
          have HW := hideP hwk'
          clear hbel hblk hgr hgr' hpop hwk hwk' hWl hms
          obtain ⟨m2, hm2⟩ : ∃ m2, m2 = if m < tg T i then tg T i else m := ⟨_, rfl⟩
          have hm20 : 0 ≤ m2 ∧ m2 ≤ n ∧ tg T i ≤ m2 := by rw [hm2]; split <;> omega
          have HM2 := hideP hm2
          clear hm2
          go_upto_if 62 with fail
          go_cut [9] (fun mv wx => mv = .int .i64 m2 ∧ wr = wx)
          case first =>
            by_cases hmd : m < tg T i
            · go_wp2
              go_meet
              case rel => exact ⟨by rw [HM2.out, if_pos (by omega)], rfl⟩
            · go_wp2
              go_meet
              case rel => exact ⟨by rw [HM2.out, if_neg (by omega)], rfl⟩
          case rest =>
            obtain ⟨rfl, rfl⟩ := hcut
            have HWm : Hid (∀ es, Wre ps T W0 m2 i (tg T i) es 0) := fun es => by rw [HM2.out]; exact HW.out.take es
            clear HW HM2 ctop
            by_cases hin : i = n
            · have hinb : ((i : Int) == (n : Int)) = true := by simp [hin]
              have HE : Hid (Wrk ps T W0 m2) := by
                have h1 := HWm.out []
                have : i = ps.length := by rw [HN.out]; exact hin
                rw [this] at h1
                exact Wre.end h1
              clear hin
              go_wp2
              go_roundg (gk - 1)
              case measure => omega
              case rel => exact ⟨W0, T, m2, rfl, HB.out, HK.out, HG.out, HE.out, by omega, by omega, by omega⟩
            · have hinb : ((i : Int) == (n : Int)) = false := by simp; omega
              obtain ⟨x, hx⟩ := some_at (ps := ps) (k := i) (by have := HN.out; omega)
              obtain ⟨bb, off, rfl, hbb, h1, h2⟩ := (HS.out.below HB.out).s hx
              obtain ⟨c, a⟩ := x
              simp only at h1 h2
              have HX := hideP hx
              have hnl := needs_le c
              have hdl := delta_le c
              clear hx
              have HT := hideP (HWm.out []).tab
              obtain ⟨N, hN⟩ : ∃ N, wr.heap.size = N := ⟨_, rfl⟩
              by_cases hn1 : needs c < 0
              · have HNo : Hid (NoDep ps) := .inr (HT.out.fail1 HX.out hi2 (by rw [HN.out]; simp [succs, hn1]))
                go_wp2_with (go_at_call 54; refine (needs_any _ _).mono ?_; rintro e w' ⟨rfl, rfl⟩)
                go_ret3
                exact ⟨.inr ⟨rfl, HNo.out⟩, HB.out.alloc HB.out.size _⟩
              by_cases hn2' : tg T i < needs c
              · have HNo : Hid (NoDep ps) := .inr (HT.out.fail1 HX.out hi2 (by rw [HN.out]; simp [succs, hn2']))
                go_wp2_with (go_at_call 54; refine (needs_any _ _).mono ?_; rintro e w' ⟨rfl, rfl⟩)
                go_ret3
                exact ⟨.inr ⟨rfl, HNo.out⟩, HB.out.alloc HB.out.size _⟩
              go_upto_block 4 with (go_at_call 54; refine (needs_any _ _).mono ?_; rintro e w' ⟨rfl, rfl⟩)
              go_cut [16] (fun nsv wx => ∃ (es : List (Nat × Int)) (cs ds : List Value), nsv = .int .i64 (es.length : Int) ∧ succs ⟨c, a⟩ (tg T i) i n = some es ∧ DI w T W0 (.slice (some ⟨gw, 0, none⟩) W0.length cw) (N + 1) (N + 2) cs ds wx ∧ ∀ (j : Nat) (e : Nat × Int), es[j]? = some e → cs[j]? = some (.int .i64 (e.1 : Int)) ∧ ds[j]? = some (.int .i64 e.2))
              case first =>
                have k1 : ¬ needs c < 0 := by omega
                have k2 : ¬ tg T i < needs c := by omega
                by_cases h3 : c = 11
                · subst h3
                  have HSC : Hid (succs ⟨11, a⟩ (tg T i) i n = some []) := by show _ = _; simp [succs, k1, k2]
                  have HI0 := (DI.mk' HB.out HK.out HG.out (.cells #[.int .i64 11, .int .i64 a] 73) [.int .i64 0, .int .i64 0] [.int .i64 0, .int .i64 0])
                  rw [hN] at HI0
                  have HI := hideP HI0
                  clear HI0
                  go_wp2_with (go_at_call 70; refine (delta_any _ _).mono ?_; rintro e w' ⟨rfl, rfl⟩)
                  go_meet
                  case rel =>
                    refine ⟨[], [.int .i64 0, .int .i64 0], [.int .i64 0, .int .i64 0], rfl, HSC.out, HI.out, ?_⟩
                    intro j e he
                    match j, he with
                    | 0, he => simp at he; try (subst he; simp)
                    | 1, he => simp at he; try (subst he; simp)
                have b3 : (c == 11) = false := beq_eq_false_iff_ne.2 h3
                by_cases h9 : c = 9
                · subst h9
                  by_cases h5 : a < 0
                  · have HNo : Hid (NoDep ps) := .inr (HT.out.fail1 HX.out hi2 (by rw [HN.out]; simp [succs, k1, k2, h5]))
                    go_wp2_with (go_at_call 70; refine (delta_any _ _).mono ?_; rintro e w' ⟨rfl, rfl⟩)
                    go_ret3
                    exact ⟨.inr ⟨rfl, HNo.out⟩, ((HB.out.alloc HB.out.size _).alloc (by simp; omega) _).alloc (by simp; omega) _⟩
                  by_cases h6 : (n : Int) < a
                  · have HNo : Hid (NoDep ps) := .inr (HT.out.fail1 HX.out hi2 (by rw [HN.out]; simp [succs, k1, k2, h6]))
                    go_wp2_with (go_at_call 70; refine (delta_any _ _).mono ?_; rintro e w' ⟨rfl, rfl⟩)
                    go_ret3
                    exact ⟨.inr ⟨rfl, HNo.out⟩, ((HB.out.alloc HB.out.size _).alloc (by simp; omega) _).alloc (by simp; omega) _⟩
                  · obtain ⟨A, rfl⟩ := Int.eq_ofNat_of_zero_le (by omega : 0 ≤ a)
                    have HSC : Hid (succs ⟨9, (A : Int)⟩ (tg T i) i n = some [(A, tg T i)]) := by show _ = _; simp [succs, k1, k2, h5, h6]
                    have HI0 := (DI.mk' HB.out HK.out HG.out (.cells #[.int .i64 9, .int .i64 (A : Int)] 73) [.int .i64 (A : Int), .int .i64 0] [.int .i64 (tg T i), .int .i64 0])
                    rw [hN] at HI0
                    have HI := hideP HI0
                    clear HI0
                    go_wp2_with (go_at_call 70; refine (delta_any _ _).mono ?_; rintro e w' ⟨rfl, rfl⟩)
                    go_meet
                    case rel =>
                      refine ⟨[(A, tg T i)], [.int .i64 (A : Int), .int .i64 0], [.int .i64 (tg T i), .int .i64 0], rfl, HSC.out, HI.out, ?_⟩
                      intro j e he
                      match j, he with
                      | 0, he => simp at he; try (subst he; simp)
                      | 1, he => simp at he; try (subst he; simp)
                have b9 : (c == 9) = false := beq_eq_false_iff_ne.2 h9
                by_cases h10 : c = 10
                · subst h10
                  by_cases h5 : a < 0
                  · have HNo : Hid (NoDep ps) := .inr (HT.out.fail1 HX.out hi2 (by rw [HN.out]; simp [succs, k1, k2, h5]))
                    go_wp2_with (go_at_call 70; refine (delta_any _ _).mono ?_; rintro e w' ⟨rfl, rfl⟩)
                    go_ret3
                    exact ⟨.inr ⟨rfl, HNo.out⟩, ((HB.out.alloc HB.out.size _).alloc (by simp; omega) _).alloc (by simp; omega) _⟩
                  by_cases h6 : (n : Int) < a
                  · have HNo : Hid (NoDep ps) := .inr (HT.out.fail1 HX.out hi2 (by rw [HN.out]; simp [succs, k1, k2, h6]))
                    go_wp2_with (go_at_call 70; refine (delta_any _ _).mono ?_; rintro e w' ⟨rfl, rfl⟩)
                    go_ret3
                    exact ⟨.inr ⟨rfl, HNo.out⟩, ((HB.out.alloc HB.out.size _).alloc (by simp; omega) _).alloc (by simp; omega) _⟩
                  · obtain ⟨A, rfl⟩ := Int.eq_ofNat_of_zero_le (by omega : 0 ≤ a)
                    have HSC : Hid (succs ⟨10, (A : Int)⟩ (tg T i) i n = some [(i + 1, tg T i - 1), (A, tg T i - 1)]) := by show _ = _; simp [succs, k1, k2, h5, h6]
                    have HI0 := (DI.mk' HB.out HK.out HG.out (.cells #[.int .i64 10, .int .i64 (A : Int)] 73) [.int .i64 ((i : Int) + 1), .int .i64 (A : Int)] [.int .i64 (tg T i - 1), .int .i64 (tg T i - 1)])
                    rw [hN] at HI0
                    have HI := hideP HI0
                    clear HI0
                    go_wp2_with (go_at_call 70; refine (delta_any _ _).mono ?_; rintro e w' ⟨rfl, rfl⟩)
                    go_meet
                    case rel =>
                      refine ⟨[(i + 1, tg T i - 1), (A, tg T i - 1)], [.int .i64 ((i : Int) + 1), .int .i64 (A : Int)], [.int .i64 (tg T i - 1), .int .i64 (tg T i - 1)], rfl, HSC.out, HI.out, ?_⟩
                      intro j e he
                      match j, he with
                      | 0, he => simp at he; try (subst he; simp)
                      | 1, he => simp at he; try (subst he; simp)
                have b10 : (c == 10) = false := beq_eq_false_iff_ne.2 h10
                have HSC : Hid (succs ⟨c, a⟩ (tg T i) i n = some [(i + 1, tg T i + delta c)]) := by show _ = _; simp [succs, k1, k2, h3, h9, h10]
                have HI0 := (DI.mk' HB.out HK.out HG.out (.cells #[.int .i64 c, .int .i64 a] 73) [.int .i64 ((i : Int) + 1), .int .i64 0] [.int .i64 (tg T i + delta c), .int .i64 0])
                rw [hN] at HI0
                have HI := hideP HI0
                clear HI0
                go_wp2_with (go_at_call 70; refine (delta_any _ _).mono ?_; rintro e w' ⟨rfl, rfl⟩)
                go_meet
                case rel =>
                  refine ⟨[(i + 1, tg T i + delta c)], [.int .i64 ((i : Int) + 1), .int .i64 0], [.int .i64 (tg T i + delta c), .int .i64 0], rfl, HSC.out, HI.out, ?_⟩
                  intro j e he
                  match j, he with
                  | 0, he => simp at he; try (subst he; simp)
                  | 1, he => simp at he; try (subst he; simp)
              case rest =>
                obtain ⟨es, cs, ds, rfl, hsc, hdi, hed⟩ := hcut
                have hel := succs_len hsc
                have HSC := hideP hsc
                have HDI := hideP hdi
                have HED := hideP hed
                clear hsc hdi hed HB HK HG h1 h2 cT
                go_wp2
                go_loopw [8, 17] (fun wv jv wr' => ∃ (j : Nat) (T' : List Int) (W : List Nat), j ≤ es.length ∧ jv = .int .i64 j ∧ DI w T' W wv (N + 1) (N + 2) cs ds wr' ∧ Wre ps T' W m2 i (tg T i) es j ∧ W.length ≤ cnt T' ∧ 2 * (n + 1 - cnt T') + W.length ≤ 2 * (n + 1 - cnt T) + W0.length) (fun _ jv _ => es.length - (intOf jv).toNat)
                case atStart => exact ⟨0, T, W0, Nat.zero_le _, rfl, HDI.out, HWm.out es, by omega, by omega⟩
                case round =>
                  clear HDI HWm hN
                  obtain ⟨j, T', W, hj, rfl, hdi, hwe, hWl, hms3⟩ := hrel
                  have hTl' := hwe.tab.len
                  have hcn' := cnt_le T'
                  rw [HN.out] at hTl'
                  have hsn := hideP (show succs ⟨c, a⟩ (tg T i) i ps.length = some es by rw [HN.out]; exact HSC.out)
                  obtain ⟨aw, cw', rfl, _, _⟩ := hdi.gr.shape
                  by_cases hjl : j < es.length
                  · obtain ⟨⟨q, v⟩, he⟩ := some_at (ps := es) (k := j) hjl
                    obtain ⟨q1, q2, q3⟩ := succs_ok HSC.out (by omega) _ (mem_of_get he)
                    obtain ⟨e1, e2⟩ := HED.out j _ he
                    simp only at q1 q2 q3 e1 e2
                    have s1 : wr.cell? ⟨N + 1, j, none⟩ = some (.int .i64 (q : Int)) := by rw [hdi.sb.cell]; exact e1
                    have s2 : wr.cell? ⟨N + 2, j, none⟩ = some (.int .i64 v) := by rw [hdi.db.cell]; exact e2
                    have c1 : wr.cell? ⟨w.heap.size, q, none⟩ = some (.int .i64 (tg T' q)) := by rw [hdi.blk.cell]; exact iCells_get (get_tg (by omega))
                    have f1 := hdi.blk.frozen q
                    have lo := hwe.tab.lo q
                    have hsz' := hdi.bel.size
                    have HE := hideP he
                    have HDI := hideP hdi
                    have HWe := hideP hwe
                    clear he hdi hwe e1 e2
                    by_cases hu : tg T' q < 0
                    · have hub : (tg T' q == -1) = true := by simp; omega
                      have HU := hideP hu
                      have HD2 := hideP (HDI.out.set q v)
                      clear hu HDI
                      go_wp2_with (at_builtin; refine wpList_app Yaav.underlying75 Yaav.info3 rfl rfl (.tmp 145) (.tmp 147) rfl (v := .slice aw W.length cw') rfl rfl (HD2.out.alloc _).gr (Src.ofSlice _ Yaav.underlying75 ⟨wr.heap.size, 0, none⟩ 1 1 [.int .i64 (q : Int)] rfl (by have := cell_one_new (wr.setCell ⟨w.heap.size, q, none⟩ (.int .i64 v)) (.int .i64 (q : Int)) 3; simpa using this) (by simp; rfl)) (by omega) (by omega) (by have := (HD2.out.alloc (.cells #[.int .i64 (q : Int)] 3)).blk.lt; omega) ?_; intro v2 w2 hg2 hgr2 hat2)
                      obtain ⟨hwe2, hc2⟩ := HWe.out.set HX.out hi2 hsn.out HE.out HU.out
                      have hcn2 := cnt_le (T'.set q v)
                      rw [show cnt (T'.set q v) = cnt T' + 1 from hc2, List.length_set] at hcn2
                      have HD3 := hideP ((HD2.out.alloc _).app hg2 hgr2 hat2)
                      clear hg2 hgr2 hat2 HD2
                      go_wp2
                      go_roundw
                      case rel => exact ⟨j + 1, _, _, by omega, by go_num, HD3.out, hwe2, by rw [hc2]; simp; omega, by rw [hc2]; simp; omega⟩
                      case measure => simp [intOf]; omega
                    · have hub : (tg T' q == -1) = false := by simp; omega
                      by_cases hq : tg T' q = v
                      · have hq' : (tg T' q != v) = false := by simp [hq]
                        have HQ := hideP hq
                        clear hq
                        go_wp2
                        go_quiet (fail)
                        go_wp2
                        go_roundw
                        case rel => exact ⟨j + 1, T', W, by omega, by go_num, HDI.out.drewN _, HWe.out.same HE.out HQ.out, by omega, by omega⟩
                        case measure => simp [intOf]; omega
                      · have hq' : (tg T' q != v) = true := by simp [hq]
                        have hno : NoDep ps := .inr (HWe.out.tab.fail2 HX.out (by rw [HWe.out.at_]; exact hi2) (by rw [HWe.out.at_]; exact hsn.out) (mem_of_get HE.out) (by show 0 ≤ tg T' q; omega) hq)
                        have HNo := hideP hno
                        clear hq hno
                        go_wp2
                        go_quiet (fail)
                        go_wp2
                        go_ret3
                        exact ⟨.inr ⟨rfl, HNo.out⟩, bdrewN HDI.out.bel _⟩
                  · have hw := hwe.done HX.out hsn.out (by omega)
                    have HW := hideP hw
                    have HDI := hideP hdi
                    clear hw hwe hdi
                    go_wp2
                    go_roundg (2 * (n + 1 - cnt T') + W.length)
                    case measure => omega
                    case rel => exact ⟨W, T', m2, rfl, HDI.out.bel, HDI.out.blk, HDI.out.gr, HW.out, by omega, hWl, Nat.le_refl _⟩

set_option maxRecDepth 100000 in
set_option maxHeartbeats 400000 in
theorem iDepths_big (a : Option Addr) (n cap : Nat) (w : World) (hn2 : 65536 < n) (hn3 : n ≤ 1099511627776) :
    Calls Yaav.prog 45 #[.slice a n cap] w fun e w' => e = .returned (.tuple #[.slice none 0 0, .int .i64 0, .bool false]) ∧ Below w.heap.size w w' := by
  go_enter Yaav.func45, Yaav.ntmps45
  go_wp2
  go_ret3
  exact ⟨rfl, Below.refl _ _⟩

theorem iDepths (a : Option Addr) (n cap : Nat) (ps : List SO) (w : World) (hn : ps.length = n) (hn2 : n ≤ 1099511627776) (hs : Seg w a (sCells ps)) :
    Calls Yaav.prog 45 #[.slice a n cap] w fun e w' => DepPostI ps w.heap.size e w' ∧ Below w.heap.size w w' := by
  by_cases h : n ≤ 65536
  · exact iDepths_in a n cap ps w hn h hs
  · exact (iDepths_big a n cap w (by omega) hn2).mono fun _ _ ⟨h1, h2⟩ => ⟨.inr ⟨h1, .inl (by omega)⟩, h2⟩

set_option maxRecDepth 100000 in
set_option maxHeartbeats 1000000 in
theorem iMaxDepth (a : Option Addr) (n cap : Nat) (ps : List SO) (w : World) (hn : ps.length = n) (hn2 : n ≤ 1099511627776) (hs : Seg w a (sCells ps)) :
    Calls Yaav.prog 37 #[.slice a n cap] w fun e w' => MaxPost ps e ∧ Below w.heap.size w w' := by
  have HS := hideP hs
  have HN := hideP hn
  clear hs hn
  go_enter Yaav.func37, Yaav.ntmps37
  go_wp2_with fail
  refine (iDepths a n cap ps _ HN.out hn2 HS.out).mono ?_
  rintro e w1 ⟨hd, hb⟩
  rcases hd with ⟨T, aT, rfl, hT, ho⟩ | ⟨rfl, hno⟩
  · have HT := hideP hT
    have HB := hideP hb
    clear hT ho hb
    go_wp2
    go_ret2
    exact ⟨.inl ⟨T, HT.out, rfl⟩, HB.out⟩
  · have HNo := hideP hno
    have HB := hideP hb
    clear hno hb
    go_wp2
    go_ret2
    exact ⟨.inr ⟨HNo.out, rfl⟩, HB.out⟩

end Go.Proofs.Yahaaw
