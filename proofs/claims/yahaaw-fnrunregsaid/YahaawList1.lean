/-
  DERIVED. WALK: spec.Listing (35).
-/
import Derived.Test.YahaawList0
namespace Go.Proofs.Yahaaw
open Go.RowKit

theorem Yaav.info5 : (Yaav.prog.info? 5).map (fun i => (i.zero, i.size, i.bytes)) = some (some (.int .u8 0), 1, 1) := by kernel_rfl

theorem hideP {p : Prop} (h : p) : Hid p := h

/-- Where a round of Listing stands: nothing old has turned; the text so far; the operation's own variable at block N. -/
structure LS (w : World) (N : Nat) (cs : List Value) (v : Value) (m : Nat) (xs : List Value) (wr : World) : Prop where
  bel : Below w.heap.size w wr
  gr : Grow wr w.heap.size 5 1 v m xs
  blk : Blk wr N cs 81
  ne : v.ownBlock ≠ some N

theorem LS.start {w wr : World} {v : Value} {m : Nat} {xs : List Value} (hb : Below w.heap.size w wr) (hg : Grow wr w.heap.size 5 1 v m xs) (cs : List Value) : LS w wr.heap.size cs v m xs (wr.alloc (.cells cs.toArray 81)) :=
  ⟨hb.alloc hb.size _, hg.alloc _, Blk.new _ _ _, fun e => by have := (hg.row _ e).2; omega⟩
theorem LS.call {w wr w1 : World} {N : Nat} {cs : List Value} {v : Value} {m : Nat} {xs : List Value} (h : LS w N cs v m xs wr) (hb : Below wr.heap.size wr w1) : LS w N cs v m xs w1 :=
  ⟨Below.both h.bel hb, h.gr.below hb, h.blk.below hb h.blk.lt, h.ne⟩
theorem LS.app {w wr w1 : World} {N : Nat} {cs : List Value} {v v' : Value} {m m' : Nat} {xs xs' : List Value} (h : LS w N cs v m xs wr) (hg : Grow w1 w.heap.size 5 1 v' m' xs') (hgr : wr.grownBy w1 v.ownBlock)
    (hat : v'.ownBlock = v.ownBlock ∨ v'.ownBlock = some wr.heap.size) : LS w N cs v' m' xs' w1 :=
  ⟨h.gr.keep (v' := v) h.bel hgr h.bel.size, hg, (blk_grown h.blk h.ne hgr hat).1, (blk_grown h.blk h.ne hgr hat).2⟩
theorem LS.alloc {w wr : World} {N : Nat} {cs : List Value} {v : Value} {m : Nat} {xs : List Value} (h : LS w N cs v m xs wr) (o : Obj) : LS w N cs v m xs (wr.alloc o) :=
  h.call ((Below.refl _ _).alloc (Nat.le_refl _) o)

set_option maxRecDepth 100000 in
set_option maxHeartbeats 1000000 in
theorem sListing (a : Option Addr) (n cap : Nat) (ps : List RO) (w : World) (hn : ps.length = n) (hn2 : n ≤ 1048576) (hs : Seg w a (rCells ps)) (hwf : WfR ps) :
    Calls Yaav.prog 35 #[.slice a n cap] w fun e w' => e = .returned (.string (lstS ps)) ∧ Below w.heap.size w w' := by
  have HS : Hid (Seg w a (rCells ps)) := hs
  have HW : Hid (WfR ps) := hwf
  clear hs hwf
  go_enter Yaav.func35, Yaav.ntmps35
  go_wp2
  go_loopw [3, 8] (fun v i wr => ∃ k : Nat, k ≤ n ∧ i = .int .i64 k ∧ Below w.heap.size w wr ∧ ∃ m, m ≤ k * 129 ∧ Grow wr w.heap.size 5 1 v m (lstCells 0 (ps.take k))) (fun _ i _ => n - (intOf i).toNat)
  case atStart => exact ⟨0, Nat.zero_le _, rfl, Below.refl _ _, 0, by omega, by simpa [lstCells] using Grow.nil _ _ _ _⟩
  case round =>
    obtain ⟨k, hk, rfl, hbel, m, hm, hgr⟩ := hrel
    by_cases hlt : k < n
    · obtain ⟨x, hx⟩ := some_at (ps := ps) (k := k) (by omega)
      obtain ⟨b, off, rfl, hb, h1, h2, h3, h4, h5⟩ := (HS.out.below hbel).r hx
      have HX : Hid (ps[k]? = some x) := hx
      have L0 := hideP (LS.start hbel hgr [.int .i64 x.op, .int .i64 x.r, .int .i64 x.a, .int .i64 x.b, .int .i64 x.k])
      have hsz := hbel.size
      have hd := decS_size k
      have e2 : (⟨#[58, 32]⟩ : ByteArray).size = 2 := rfl
      have hl := lineS_size x
      clear hx hn hgr hbel
      go_wp2_with fail
      refine (dec _ _ ⟨by omega, by omega⟩).mono ?_
      rintro e w1 ⟨rfl, hb1⟩
      have L1 := hideP (L0.out.call hb1)
      clear L0 hb1 h1 h2 h3 h4 h5
      go_wp2_with (first
        | (at_builtin; refine wpList_app Yaav.underlying22 Yaav.info5 rfl rfl (.tmp 13) (.tmp 15) rfl rfl rfl L1.out.gr (Src.ofString _ Yaav.underlying9 _) (by omega) (by omega) L1.out.bel.size ?_; intro v2 w2 hg2 hgr2 hat2; have L2 := hideP (L1.out.app hg2 hgr2 hat2); clear hg2 hgr2 hat2 L1)
        | (at_builtin; refine wpList_app Yaav.underlying22 Yaav.info5 rfl rfl (.tmp 17) (.const (.string ⟨#[58, 32]⟩)) rfl rfl rfl L2.out.gr (Src.ofString _ Yaav.underlying9 _) (by rw [e2]; omega) (by rw [e2]; omega) L2.out.bel.size ?_; intro v3 w3 hg3 hgr3 hat3; have L3 := hideP (L2.out.app hg3 hgr3 hat3); have c0 := L3.out.blk.cell 0; have c1 := L3.out.blk.cell 1; have c2 := L3.out.blk.cell 2; have c3 := L3.out.blk.cell 3; have c4 := L3.out.blk.cell 4; simp at c0 c1 c2 c3 c4; clear hg3 hgr3 hat3 L2)
        | (go_at_call 64; refine (regText x _ (HW.out x (mem_of_get HX.out))).mono ?_; rintro e w4 ⟨rfl, hb4⟩; have L4 := hideP (L3.out.call hb4); clear hb4 L3 c0 c1 c2 c3 c4)
        | (at_builtin; refine wpList_app Yaav.underlying22 Yaav.info5 rfl rfl (.tmp 19) (.tmp 21) rfl rfl rfl L4.out.gr (Src.ofString _ Yaav.underlying9 _) (by rw [e2]; omega) (by rw [e2]; omega) L4.out.bel.size ?_; intro v5 w5 hg5 hgr5 hat5; have L5 := hideP (L4.out.app hg5 hgr5 hat5); clear hg5 hgr5 hat5 L4)
        | (at_builtin; refine wpList_app Yaav.underlying22 Yaav.info5 rfl rfl (.tmp 23) (.tmp 24) rfl rfl rfl (L5.out.alloc _).gr (Src.ofSlice _ Yaav.underlying22 ⟨w5.heap.size, 0, none⟩ 1 1 [.int .u8 10] rfl (cell_one_new _ _ _) (by simp; rfl)) (by rw [e2]; omega) (by rw [e2]; omega) (L5.out.alloc _).bel.size ?_; intro v6 w6 hg6 hgr6 hat6; have L6 := hideP ((L5.out.alloc _).app hg6 hgr6 hat6); clear hg6 hgr6 hat6 L5))
      go_roundw
      case rel =>
        have g := L6.out.gr
        rw [← lstCells_take HX.out] at g
        refine ⟨k + 1, by omega, by go_num, L6.out.bel, _, ?_, g⟩
        rw [e2]; omega
      case measure => simp [intOf]; omega
    · have hk' : k = n := by omega
      subst hk'
      have hc := hgr.toStr (lstCells_nums 0 _)
      clear hgr
      go_wp2
      go_ret
      refine ⟨?_, hbel⟩
      rw [List.take_of_length_le (by omega)]
      rfl
end Go.Proofs.Yahaaw
