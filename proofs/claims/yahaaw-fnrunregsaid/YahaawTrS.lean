/-
  DERIVED. WALK: spec.Translate (27).
-/
import Derived.Test.YahaawTr
import Derived.Deep.RegionHeldLaw
import Derived.Deep.DrawnRows
namespace Go.Proofs.Yahaaw
open Go.RowKit
attribute [local go_sem ↓] Go.wp_at_zero Go.wp_at_succ
set_option linter.unusedVariables false

/-- append at a step of a region that draws its order. -/
theorem step_app {t tx e : TypeId} {z : Value} {size bytes : Nat} (hu : Yaav.prog.underlying t = some (.slice e)) (hin : (Yaav.prog.info? e).map (fun i => (i.zero, i.size, i.bytes)) = some (some z, size, bytes))
    (hzs : z.cells.size = size) {w : World} {ops : Array Oper} {o : Oper} {a : Act} {K : Act → World → Prop} {Q : Exit → Act → World → Prop} {E : Prop} (hgd : o.guard = none) (s xo : Operand)
    (ho : o.op = .call { callee := .builtin .append, args := #[s, xo], argTypes := #[t, tx] })
    {B : Nat} {v : Value} {n : Nat} {xs : List Value} {x : Value} {m : Nat} {news : List Value} (hv : a.eval s = v) (hx : a.eval xo = x) (hg : Grow w B e size v n xs) (hs : Src Yaav.prog size tx x m news w)
    (hb : (n + m) * bytes ≤ 140737488355328) (hn : n + m ≤ 9223372036854775807) (hB : B ≤ w.heap.size)
    (h : ∀ v' w', Grow w' B e size v' (n + m) (xs ++ news) → w.grownBy w' v.ownBlock → (v'.ownBlock = v.ownBlock ∨ v'.ownBlock = some w.heap.size) → K (a.put o.dst v') w') :
    if Region.wanted o (yielded ops a.tmps) = true then Oper.wp Yaav.prog o a w K Q else E := by
  have hw : Region.wanted o (yielded ops a.tmps) = true := by simp [Region.wanted, hgd]
  rw [if_pos hw]
  obtain ⟨v', w', hr, h2, h3, h4⟩ := app_run (ty := o.type) hu hin hzs hg hs hb hn hB
  unfold Oper.wp execOp
  simp only [ho, resolve, invoke, builtin, Sem.run_bind, Sem.run_pure, Result.andThen_ok, List.map_toArray, List.map_cons, List.map_nil, hv, hx, hr]
  exact h v' w' h2 h3 h4

/-- What Translate hands back. -/
def TrIs (ps : List SO) (ops : List RO) (n : Int) (ok : Bool) : Prop := (∃ T, IsDep ps T ∧ ops = trans ps T ∧ n = mx T ∧ ok = true) ∨ (NoDep ps ∧ ops = [] ∧ n = 0 ∧ ok = false)

/-- .. by the model. -/
def TrPostS (ps : List SO) (e : Ending) (w' : World) : Prop := ∃ ops d ok b c, TrIs ps ops d ok ∧ e = .returned (.tuple #[.slice b ops.length c, .int .i64 d, .bool ok]) ∧ Seg w' b (rCells ops)

theorem TrIs.uniq {ps : List SO} {o o' : List RO} {d d' : Int} {ok ok' : Bool} (h : TrIs ps o d ok) (h' : TrIs ps o' d' ok') : o = o' ∧ d = d' ∧ ok = ok' := by
  rcases h with ⟨T, hT, rfl, rfl, rfl⟩ | ⟨hn, rfl, rfl, rfl⟩ <;> rcases h' with ⟨T', hT', rfl, rfl, rfl⟩ | ⟨hn', rfl, rfl, rfl⟩
  · rw [hT.uniq hT']; exact ⟨rfl, rfl, rfl⟩
  · exact (hT.no hn').elim
  · exact (hT'.no hn).elim
  · exact ⟨rfl, rfl, rfl⟩

theorem trL_take {T : List Int} {ps : List SO} {k : Nat} {p : SO} (h : ps[k]? = some p) : rCells ((trL T 0 ps).take (k + 1)) = rCells ((trL T 0 ps).take k) ++ rCells [regFor p (tg T k)] := by
  have := trL_get T 0 h
  rw [Nat.zero_add] at this
  rw [take_at this, rCells_app]

theorem regFor_agg (p : SO) (d : Int) (w : World) (hd : -1 ≤ d) (hd2 : d ≤ 65536) :
    Calls Yaav.prog 57 #[.agg #[.int .i64 p.c, .int .i64 p.a], .int .i64 d] w fun e w' => e = .returned (.agg #[.int .i64 (regFor p d).op, .int .i64 (regFor p d).r, .int .i64 (regFor p d).a, .int .i64 (regFor p d).b, .int .i64 (regFor p d).k]) ∧ Below w.heap.size w w' :=
  regFor_any p d w hd hd2

/-- The cells of one element laid in a block of its own. -/
theorem news_new (w : World) (cs : List Value) (t : TypeId) : ∀ (j : Nat) (u : Value), cs[j]? = some u → (w.alloc (.cells cs.toArray t)).cell? ((⟨w.heap.size, 0, none⟩ : Addr).add j) = some u := by
  intro j u hu
  have hadd : (⟨w.heap.size, 0, none⟩ : Addr).add j = ⟨w.heap.size, j, none⟩ := by unfold Addr.add; split <;> simp_all
  rw [hadd, (Blk.new w cs t).cell]; exact hu

set_option maxRecDepth 100000 in
set_option maxHeartbeats 2000000 in
theorem sTranslate (a : Option Addr) (n cap : Nat) (ps : List SO) (w : World) (hn : ps.length = n) (hn2 : n ≤ 1099511627776) (hs : Seg w a (sCells ps)) :
    Calls Yaav.prog 27 #[.slice a n cap] w fun e w' => TrPostS ps e w' ∧ Below w.heap.size w w' := by
  have HS := hideP hs
  have HN := hideP hn
  clear hs hn
  go_enter Yaav.func27, Yaav.ntmps27
  go_wp2_with fail
  refine (sDepths a n cap ps _ HN.out hn2 HS.out).mono ?_
  rintro e w1 ⟨hd, hb⟩
  rcases hd with ⟨T, aT, rfl, hT, ho⟩ | ⟨rfl, hno⟩
  rotate_left
  · have HNo := hideP hno
    have HB := hideP hb
    clear hno hb
    go_wp2
    go_ret3
    exact ⟨⟨[], 0, false, none, 0, .inr ⟨HNo.out, rfl, rfl, rfl⟩, rfl, .inl rfl⟩, HB.out⟩
  · rw [HN.out]
    have hTl := hT.tab.len
    have hsm := hT.small
    have hTb := hT.tab.bound
    have hTlo := hT.tab.lo
    rw [HN.out] at hTl hsm hTb
    have HT := hideP hT
    have HO := hideP ho
    have HB := hideP hb
    have HTb := hideP hTb
    have HTlo := hideP hTlo
    clear hT ho hb hTb hTlo
    go_wp2
    go_loopw [8, 25] (fun mv iv wr => ∃ k : Nat, k ≤ n + 1 ∧ iv = .int .i64 k ∧ mv = .int .i64 (mx (T.take k)) ∧ wr = w1) (fun _ iv _ => n + 1 - (intOf iv).toNat)
    case atStart => exact ⟨0, Nat.zero_le _, rfl, rfl, rfl⟩
    case round =>
      obtain ⟨k, hk, rfl, rfl, rfl⟩ := hrel
      by_cases hlt : k < n + 1
      · obtain ⟨x, hx⟩ := some_at (ps := T) (k := k) (by omega)
        obtain ⟨b, off, rfl, hb, h1⟩ := HO.out.seg.i hx
        have HM := hideP (mx_take hx)
        clear hx
        by_cases hm : mx (T.take k) < x
        · go_wp2
          go_roundw
          case rel => exact ⟨k + 1, by omega, by go_num, by rw [HM.out, if_pos hm], trivial⟩
          case measure => simp [intOf]; omega
        · go_wp2
          go_roundw
          case rel => exact ⟨k + 1, by omega, by go_num, by rw [HM.out, if_neg (by omega)], trivial⟩
          case measure => simp [intOf]; omega
      · have hmk0 := mk_run Yaav.underlying32 Yaav.info81 0 (n + 1) (Nat.zero_le _) (by omega) (by omega)
        rw [show ((n + 1 : Nat) : Int) = (n : Int) + 1 by omega] at hmk0
        simp only [Int.natCast_zero] at hmk0
        rw [List.take_of_length_le (by omega)]
        have d26 : decide ((k : Int) < (n : Int) + 1) = false := by simp; omega
        have hZ := Grow.made wr wr.heap.size 81 5 (n + 1) (zc #[.int .i64 0, .int .i64 0, .int .i64 0, .int .i64 0, .int .i64 0] ((n + 1) * 5)) (Nat.le_refl _) (by rw [zc_len])
        have HZ := hideP hZ
        clear hZ
        go_wp2
        clear hmk0
        obtain ⟨w1, hw1⟩ : ∃ w1, w1 = wr := ⟨_, rfl⟩
        rw [← hw1] at HB HO HZ ⊢
        clear hw1
        go_loopw [11, 12] (fun ov iv wr => ∃ j : Nat, j ≤ n ∧ iv = .int .i64 j ∧ Below w1.heap.size w1 wr ∧ Grow wr w1.heap.size 81 5 ov j (rCells ((trL T 0 ps).take j))) (fun _ iv _ => n - (intOf iv).toNat)
        case atStart => exact ⟨0, Nat.zero_le _, rfl, (Below.refl _ _).alloc (Nat.le_refl _) _, by simpa [rCells] using HZ.out⟩
        case round =>
          clear HZ
          obtain ⟨j, hj, rfl, hbel, hgr⟩ := hrel
          have hTb := HTb.out j
          have hTlo := HTlo.out j
          have hsz := hbel.size
          obtain ⟨ao, co, rfl, _, _⟩ := hgr.shape
          by_cases hlt : j < n
          · obtain ⟨x, hx⟩ := some_at (ps := ps) (k := j) (by have := HN.out; omega)
            obtain ⟨bb, off, rfl, hbb, h1, h2⟩ := (HS.out.below HB.out).s hx
            obtain ⟨bt, offt, rfl, hbt, h3⟩ := HO.out.seg.i (get_tg (T := T) (i := j) (by omega))
            have g1 := keepC hbel h1
            have g2 := keepC hbel h2
            have g3 := keepC hbel h3
            have HX := hideP hx
            have HG := hideP hgr
            have HL := hideP hbel
            have K1 := hideP h1
            have K2 := hideP h2
            have K3 := hideP h3
            clear hx hgr hbel h1 h2 h3
            go_wp2
            go_region_held_law (fun w' => w'.cell? ⟨bb, off + j * 2, none⟩ = some (.int .i64 x.c) ∧ w'.cell? ⟨bb, off + j * 2 + 1, none⟩ = some (.int .i64 x.a) ∧ w'.cell? ⟨bt, offt + j, none⟩ = some (.int .i64 (tg T j)))
              (first | exact ⟨keepC BL3 K1.out, keepC BL3 K2.out, keepC BL3 K3.out⟩ | exact ⟨keepC BL1 K1.out, keepC BL1 K2.out, keepC BL1 K3.out⟩ | go_keep)
              (first
                | (go_at_call 57; refine (regFor_agg x (tg T j) _ (by omega) (by omega)).mono ?_; rintro e w' ⟨rfl, hb'⟩; have BL1 := Below.both HL.out.drew hb'; have G1 := hideP (HG.out.drew.below hb'))
                | (refine step_app Yaav.underlying32 Yaav.info81 rfl rfl (.tmp 42) (.tmp 52) rfl (v := .slice ao j co) rfl rfl (G1.out.alloc _) (Src.ofSlice _ Yaav.underlying32 ⟨_, 0, none⟩ 1 1 (rCells [regFor x (tg T j)]) rfl (news_new _ (rCells [regFor x (tg T j)]) 81) (by intro u hu; simp [rCells] at hu; rcases hu with rfl | rfl | rfl | rfl | rfl <;> rfl)) (by omega) (by omega) (by have := BL1.size; simp; omega) ?_; intro v2 w2 hg2 hgr2 hat2; have BL3 := (G1.out.alloc (.cells (rCells [regFor x (tg T j)]).toArray 81)).keep (v' := v2) (BL1.alloc BL1.size _) hgr2 (by have := BL1.size; simp; omega)))
            have BL3h := hideP BL3
            have HX2 := hideP (trL_take (T := T) HX.out)
            have G3 := hideP hg2
            clear BL3 BL1 hb' hgr2 hat2 hg2 G1 HG HL g1 g2 g3
            go_wp2
            go_roundw
            case rel => exact ⟨j + 1, by omega, by go_num, BL3h.out, by rw [HX2.out]; exact G3.out⟩
            case measure => simp [intOf]; omega
          · have hjn : j = n := by omega
            subst hjn
            obtain ⟨bt, offt, rfl, hbt, h3⟩ := HO.out.seg.i (get_tg (T := T) (i := j) (by omega))
            have g3 := keepC hbel h3
            have HG := hideP hgr
            have HL := hideP hbel
            have hbt2 : bt < wr.heap.size := by omega
            clear hgr hbel h3
            by_cases hd : 0 ≤ tg T j
            · have G1 := hideP (HG.out.alloc (.cells #[.int .i64 10, .int .i64 0, .int .i64 (tg T j), .int .i64 0, .int .i64 0] 81))
              have L1 := hideP (HL.out.alloc HL.out.size (.cells #[.int .i64 10, .int .i64 0, .int .i64 (tg T j), .int .i64 0, .int .i64 0] 81))
              have hlast : Hid (rCells [lastR (tg T j)] = [.int .i64 10, .int .i64 0, .int .i64 (tg T j), .int .i64 0, .int .i64 0]) := by show _ = _; simp [rCells, lastR, hd]
              go_wp2_with (at_builtin; refine wpList_app Yaav.underlying32 Yaav.info81 rfl rfl (.tmp 65) (.tmp 67) rfl (v := .slice ao j co) rfl rfl (G1.out.alloc _) (Src.ofSlice _ Yaav.underlying32 ⟨wr.heap.size + 1, 0, none⟩ 1 1 (rCells [lastR (tg T j)]) rfl (by rw [hlast.out]; have := news_new (wr.alloc (.cells #[.int .i64 10, .int .i64 0, .int .i64 (tg T j), .int .i64 0, .int .i64 0] 81)) [.int .i64 10, .int .i64 0, .int .i64 (tg T j), .int .i64 0, .int .i64 0] 81; simpa using this) (by rw [hlast.out]; intro u hu; simp at hu; rcases hu with rfl | rfl | rfl | rfl | rfl <;> rfl)) (by omega) (by omega) (by have := HL.out.size; simp; omega) ?_; intro v2 w2 hg2 hgr2 hat2)
              have BL3 := hideP ((G1.out.alloc (.cells #[.int .i64 10, .int .i64 0, .int .i64 (tg T j), .int .i64 0, .int .i64 0] 81)).keep (v' := v2) (L1.out.alloc L1.out.size _) hgr2 (by have := HL.out.size; simp; omega))
              have G3 := hideP hg2
              clear hg2 hgr2 hat2 G1 L1
              obtain ⟨a2, c2, rfl, hs2, _⟩ := G3.out.shape
              have S2 := hideP hs2
              clear hs2
              go_wp2
              go_ret3
              refine ⟨⟨trans ps T, mx T, true, a2, c2, .inl ⟨T, HT.out, rfl, rfl, rfl⟩, ?_, ?_⟩, Below.both HB.out BL3.out⟩
              · rw [trans_len, HN.out]; rfl
              · have := S2.out
                rw [← rCells_app] at this
                rw [List.take_of_length_le (by rw [trL_len, HN.out]; exact Nat.le_refl _)] at this
                unfold trans
                rw [HN.out]; exact this
            · have hd' : decide (0 ≤ tg T j) = false := by simp; omega
              have G1 := hideP (HG.out.alloc (.cells #[.int .i64 10, .int .i64 0, .int .i64 0, .int .i64 0, .int .i64 0] 81))
              have L1 := hideP (HL.out.alloc HL.out.size (.cells #[.int .i64 10, .int .i64 0, .int .i64 0, .int .i64 0, .int .i64 0] 81))
              have hlast : Hid (rCells [lastR (tg T j)] = [.int .i64 10, .int .i64 0, .int .i64 0, .int .i64 0, .int .i64 0]) := by show _ = _; simp [rCells, lastR, hd]
              go_wp2_with (at_builtin; refine wpList_app Yaav.underlying32 Yaav.info81 rfl rfl (.tmp 65) (.tmp 67) rfl (v := .slice ao j co) rfl rfl (G1.out.alloc _) (Src.ofSlice _ Yaav.underlying32 ⟨wr.heap.size + 1, 0, none⟩ 1 1 (rCells [lastR (tg T j)]) rfl (by rw [hlast.out]; have := news_new (wr.alloc (.cells #[.int .i64 10, .int .i64 0, .int .i64 0, .int .i64 0, .int .i64 0] 81)) [.int .i64 10, .int .i64 0, .int .i64 0, .int .i64 0, .int .i64 0] 81; simpa using this) (by rw [hlast.out]; intro u hu; simp at hu; rcases hu with rfl | rfl | rfl | rfl | rfl <;> rfl)) (by omega) (by omega) (by have := HL.out.size; simp; omega) ?_; intro v2 w2 hg2 hgr2 hat2)
              have BL3 := hideP ((G1.out.alloc (.cells #[.int .i64 10, .int .i64 0, .int .i64 0, .int .i64 0, .int .i64 0] 81)).keep (v' := v2) (L1.out.alloc L1.out.size _) hgr2 (by have := HL.out.size; simp; omega))
              have G3 := hideP hg2
              clear hg2 hgr2 hat2 G1 L1
              obtain ⟨a2, c2, rfl, hs2, _⟩ := G3.out.shape
              have S2 := hideP hs2
              clear hs2
              go_wp2
              go_ret3
              refine ⟨⟨trans ps T, mx T, true, a2, c2, .inl ⟨T, HT.out, rfl, rfl, rfl⟩, ?_, ?_⟩, Below.both HB.out BL3.out⟩
              · rw [trans_len, HN.out]; rfl
              · have := S2.out
                rw [← rCells_app] at this
                rw [List.take_of_length_le (by rw [trL_len, HN.out]; exact Nat.le_refl _)] at this
                unfold trans
                rw [HN.out]; exact this

end Go.Proofs.Yahaaw
