/-
  DERIVED. WALK: spec.Depths (44).
-/
import Derived.Test.YahaawSucc
import Derived.Test.YahaawList1
import Derived.Deep.RegionHeld
import Derived.Deep.DrawnRows
namespace Go.Proofs.Yahaaw
open Go.RowKit
attribute [local go_sem ↓] Go.wp_at_zero Go.wp_at_succ

/-- What the model's Depths hands back. -/
def DepPost (ps : List SO) (B : Nat) (e : Ending) (w' : World) : Prop :=
  (∃ T a, e = .returned (.tuple #[.slice a (ps.length + 1) (ps.length + 1), .bool true]) ∧ IsDep ps T ∧ Own w' B a (iCells T) 3) ∨ (e = .returned (.tuple #[.slice none 0 0, .bool false]) ∧ NoDep ps)

theorem eCells_get {es : List (Nat × Int)} {k : Nat} {x : Nat × Int} (hx : es[k]? = some x) : (eCells es)[k * 2]? = some (.int .i64 (x.1 : Int)) ∧ (eCells es)[k * 2 + 1]? = some (.int .i64 x.2) := by
  have e : eCells es = sCells (es.map fun q => ⟨(q.1 : Int), q.2⟩) := by
    unfold eCells sCells
    rw [List.flatMap_map]
  rw [e]
  have := sCells_get (ps := es.map fun q => (⟨(q.1 : Int), q.2⟩ : SO)) (k := k) (x := ⟨(x.1 : Int), x.2⟩) (by simp [hx])
  exact this
theorem eCells_len (es : List (Nat × Int)) : (eCells es).length = es.length * 2 := by
  induction es with
  | nil => rfl
  | cons p ps ih => simp [eCells] at *; omega
theorem Seg.e {w : World} {a : Option Addr} {es : List (Nat × Int)} (h : Seg w a (eCells es)) {k : Nat} {x : Nat × Int} (hx : es[k]? = some x) :
    ∃ b off, a = some ⟨b, off, none⟩ ∧ b < w.heap.size ∧ w.cell? ⟨b, off + k * 2, none⟩ = some (.int .i64 (x.1 : Int)) ∧ w.cell? ⟨b, off + k * 2 + 1, none⟩ = some (.int .i64 x.2) := by
  have hk := lt_of_get hx
  have hl := eCells_len es
  obtain ⟨b, off, ha, hb, hc⟩ := h.at (by omega)
  obtain ⟨e0, e1⟩ := eCells_get hx
  exact ⟨b, off, ha, hb, by rw [hc _ (by omega)]; exact e0, by rw [Nat.add_assoc, hc _ (by omega)]; exact e1⟩
theorem Blk.iset {w : World} {g : Nat} {T : List Int} {t : TypeId} (h : Blk w g (iCells T) t) (i : Nat) (v : Int) : Blk (w.setCell ⟨g, i, none⟩ (.int .i64 v)) g (iCells (T.set i v)) t := by
  have := h.set i (.int .i64 v); simpa [iCells, List.map_set] using this
theorem Own.set {w : World} {B : Nat} {a : Option Addr} {cs : List Value} {t : TypeId} (h : Own w B a cs t) {p : Addr} (hp : p.block < B) (v : Value) : Own (w.setCell p v) B a cs t := by
  rcases h with h | ⟨g, hB, ha, hk⟩
  · exact .inl h
  · exact .inr ⟨g, hB, ha, hk.far (by omega) v⟩
theorem Own.alloc {w : World} {B : Nat} {a : Option Addr} {cs : List Value} {t : TypeId} (h : Own w B a cs t) (o : Obj) : Own (w.alloc o) B a cs t := by
  rcases h with h | ⟨g, hB, ha, hk⟩
  · exact .inl h
  · exact .inr ⟨g, hB, ha, hk.alloc o⟩
theorem Own.drewN {w : World} {B : Nat} {a : Option Addr} {cs : List Value} {t : TypeId} (h : Own w B a cs t) (n : Nat) : Own (w.drewN n) B a cs t := h

theorem succs_len {p : SO} {d : Int} {i n : Nat} {es : List (Nat × Int)} (h : succs p d i n = some es) : es.length ≤ 2 := by
  unfold succs at h
  split at h
  · cases h
  split at h
  · cases h; simp
  split at h
  · split at h
    · cases h
    · cases h; simp
  split at h
  · split at h
    · cases h
    · cases h; simp
  · cases h; simp

theorem keepC {W w' : World} {a : Addr} {v : Value} (hb : Below W.heap.size W w') (h : W.cell? a = some v) : w'.cell? a = some v := by rw [hb.cell (World.block_lt_of_cell? W a h)]; exact h

theorem replicate_get {n k : Nat} (h : k < n) : (iCells (List.replicate n (-1)))[k]? = some (.int .i64 (-1)) := iCells_get (by simp [h])

set_option maxRecDepth 100000 in
set_option maxHeartbeats 2000000 in
theorem sDepths_in (a : Option Addr) (n cap : Nat) (ps : List SO) (w : World) (hn : ps.length = n) (hn2 : n ≤ 65536) (hs : Seg w a (sCells ps)) :
    Calls Yaav.prog 44 #[.slice a n cap] w fun e w' => DepPost ps w.heap.size e w' ∧ Below w.heap.size w w' := by
  have HS := hideP hs
  have HN := hideP hn
  have hmk := mk_run Yaav.underlying75 Yaav.info3 (n + 1) (n + 1) (Nat.le_refl _) (by omega) (by omega)
  rw [show ((n + 1 : Nat) : Int) = (n : Int) + 1 by omega] at hmk
  clear hs hn
  go_enter Yaav.func44, Yaav.ntmps44
  go_wp2
  clear hmk
  go_loopw [6] (fun i wr => ∃ k : Nat, k ≤ n + 1 ∧ i = .int .i64 k ∧ Cp w (iCells (List.replicate (n + 1) (-1))) 3 k wr) (fun i _ => n + 1 - (intOf i).toNat)
  case atStart => exact ⟨0, Nat.zero_le _, rfl, Cp.start _ _ _ _ (by rw [zc_len, iCells_len]; simp)⟩
  case round =>
    obtain ⟨k, hk, rfl, hcp⟩ := hrel
    have hlen : (iCells (List.replicate (n + 1) (-1))).length = n + 1 := by rw [iCells_len]; simp
    by_cases hlt : k < n + 1
    · have f0 := hcp.frozen k
      obtain ⟨v0, c0⟩ := hcp.there (i := k) (by omega)
      have HC := hideP hcp
      clear hcp hlen
      go_wp2
      go_roundw
      case rel => exact ⟨k + 1, by omega, by go_num, HC.out.store1 (replicate_get hlt)⟩
      case measure => simp [intOf]; omega
    · obtain ⟨hb, ho⟩ := hcp.done (by omega)
      have hblk : Blk wr w.heap.size (iCells (List.replicate (n + 1) (-1))) 3 := by
        rcases ho with h | ⟨g, _, hg, hb⟩
        · rw [h] at hlen; simp at hlen
        · cases hg; exact hb
      have f0 := hblk.frozen 0
      obtain ⟨v0, c0⟩ := hblk.there (i := 0) (by omega)
      have HB := hideP hb
      have HK := hideP hblk
      clear hcp hlen hb ho hblk
      have d23 : decide (k ≤ n) = false := by simp; omega
      go_wp2
      have HB0 := hideP (HB.out.setCell (p := ⟨w.heap.size, 0, none⟩) (Nat.le_refl _) (.int .i64 0))
      have HK0 : Hid (Blk (wr.setCell ⟨w.heap.size, 0, none⟩ (.int .i64 0)) w.heap.size (iCells ((List.replicate (n + 1) (-1)).set 0 0)) 3) := by
        have := HK.out.set 0 (.int .i64 0)
        simpa [iCells, Hid] using this
      clear HB HK f0 c0
      generalize wr.setCell ⟨w.heap.size, 0, none⟩ (.int .i64 0) = w0 at *
      go_loopw [7] (fun pv wr => ∃ (P : Nat) (T : List Int), P ≤ n ∧ pv = .int .i64 P ∧ Below w.heap.size w wr ∧ Blk wr w.heap.size (iCells T) 3 ∧ Swp ps T P 0 false) (fun pv _ => n + 1 - (intOf pv).toNat)
      case atStart =>
        have h0 := Tab.start ps
        rw [HN.out] at h0
        exact ⟨0, _, Nat.zero_le _, rfl, HB0.out, HK0.out, h0.1, fun _ => ⟨by omega, fun j hj => absurd hj (Nat.not_lt_zero _)⟩, fun e => by cases e⟩
      case round =>
        clear HB0 HK0
        obtain ⟨P, T, hP, rfl, hbel, hblk, hsw⟩ := hrel
        have HB := hideP hbel
        have HK := hideP hblk
        have HW := hideP hsw
        clear hbel hblk hsw
        have d34 : decide ((P : Int) ≤ (n : Int) + 1) = true := by simp; omega
        go_wp2
        go_loopw [8, 9] (fun ch iv wr => ∃ (b : Bool) (k : Nat) (T : List Int), k ≤ n ∧ iv = .int .i64 k ∧ ch = .bool b ∧ Below w.heap.size w wr ∧ Blk wr w.heap.size (iCells T) 3 ∧ Swp ps T P k b) (fun _ iv _ => n - (intOf iv).toNat)
        case atStart => exact ⟨false, 0, T, Nat.zero_le _, rfl, rfl, HB.out, HK.out, HW.out⟩
        case round =>
          clear HB HK HW
          obtain ⟨b, k, T, hk, rfl, rfl, hbel, hblk, hsw⟩ := hrel
          have hTl := hsw.tab.len
          rw [HN.out] at hTl
          by_cases hlt : k < n
          · have c0 : wr.cell? ⟨w.heap.size, k, none⟩ = some (.int .i64 (tg T k)) := by rw [hblk.cell]; exact iCells_get (get_tg (by omega))
            have hb1 := hsw.tab.bound k
            have hb2 := hsw.tab.lo k
            rw [HN.out] at hb1
            have HB := hideP hbel
            have HK := hideP hblk
            have HW := hideP hsw
            by_cases hu : tg T k < 0
            · clear hbel hblk hsw hTl
              go_wp2
              go_roundw
              case rel => exact ⟨b, k + 1, T, by omega, by go_num, rfl, HB.out, HK.out, HW.out.skip hu⟩
              case measure => simp [intOf]; omega
            · obtain ⟨x, hx⟩ := some_at (ps := ps) (k := k) (by have := HN.out; omega)
              obtain ⟨bb, off, rfl, hbb, h1, h2⟩ := (HS.out.below hbel).s hx
              have HX := hideP hx
              clear hbel hblk hsw hTl hx
              have hd0 : 0 ≤ tg T k := by omega
              cases hsc : succs x (tg T k) k n with
              | none =>
                have HSC := hideP hsc
                clear hsc
                go_wp2
                go_region_held (fun w' => w'.cell? ⟨bb, off + k * 2, none⟩ = some (.int .i64 x.c) ∧ w'.cell? ⟨bb, off + k * 2 + 1, none⟩ = some (.int .i64 x.a) ∧ w'.cell? ⟨w.heap.size, k, none⟩ = some (.int .i64 (tg T k)))
                  (first | exact ⟨keepC hb' h1, keepC hb' h2, keepC hb' c0⟩ | go_keep)
                  (first | (go_at_call 69; refine (succ_any x (tg T k) k n _ (by omega) (by omega) (by omega) (by omega)).mono ?_; rintro e w' ⟨hsp, hb'⟩; rw [HSC.out] at hsp; simp only [SuccPost] at hsp; subst hsp))
                have hB := Below.both HB.out.drew hb'
                have hno : NoDep ps := .inr (HW.out.tab.fail1 HX.out hd0 (by rw [HN.out]; exact HSC.out))
                clear HB HK HW
                go_wp2
                go_ret2
                exact ⟨.inr ⟨rfl, hno⟩, hB⟩
              | some es =>
                have HSC := hideP hsc
                have hsz := HB.out.size
                have hel := succs_len hsc
                clear hsc
                go_wp2
                go_region_held (fun w' => w'.cell? ⟨bb, off + k * 2, none⟩ = some (.int .i64 x.c) ∧ w'.cell? ⟨bb, off + k * 2 + 1, none⟩ = some (.int .i64 x.a) ∧ w'.cell? ⟨w.heap.size, k, none⟩ = some (.int .i64 (tg T k)))
                  (first | exact ⟨keepC hb' h1, keepC hb' h2, keepC hb' c0⟩ | go_keep)
                  (first | (go_at_call 69; refine (succ_any x (tg T k) k n _ (by omega) (by omega) (by omega) (by omega)).mono ?_; rintro e w' ⟨hsp, hb'⟩; rw [HSC.out] at hsp; simp only [SuccPost] at hsp; obtain ⟨aE, rfl, hoE⟩ := hsp))
                have HB1 := hideP (Below.both HB.out.drew hb')
                have HK1 := hideP (HK.out.drew.below hb' HK.out.lt)
                have HO1 := hideP (hoE.mono (show w.heap.size + 1 ≤ _ from by have := HK.out.lt; exact this))
                clear HB HK hb' hoE c0 h1 h2
                go_wp2
                go_loopw [8, 65] (fun ch jv wr => ∃ (b : Bool) (j : Nat) (T' : List Int), j ≤ es.length ∧ jv = .int .i64 j ∧ ch = .bool b ∧ Below w.heap.size w wr ∧ Blk wr w.heap.size (iCells T') 3 ∧ Own wr (w.heap.size + 1) aE (eCells es) 114 ∧ Swe ps T' P k b x (tg T k) es j) (fun _ jv _ => es.length - (intOf jv).toNat)
                case atStart => exact ⟨b, 0, T, Nat.zero_le _, rfl, rfl, HB1.out, HK1.out, HO1.out, Swe.start HW.out⟩
                case round =>
                  clear HB1 HK1 HO1 HW
                  obtain ⟨b, j, T', hj, rfl, rfl, hbel, hblk, hoE, hse⟩ := hrel
                  have hsn := hideP (show succs x (tg T k) k ps.length = some es by rw [HN.out]; exact HSC.out)
                  by_cases hjl : j < es.length
                  · obtain ⟨⟨q, v⟩, he⟩ := some_at (ps := es) (k := j) hjl
                    obtain ⟨be, offe, rfl, hbe, e1, e2⟩ := hoE.seg.e he
                    obtain ⟨q1, q2, q3⟩ := succs_ok HSC.out hlt _ (mem_of_get he)
                    simp only at q1 q2 q3 e1 e2
                    have hT' := hse.swp.tab.len
                    rw [HN.out] at hT'
                    have c1 : wr.cell? ⟨w.heap.size, q, none⟩ = some (.int .i64 (tg T' q)) := by rw [hblk.cell]; exact iCells_get (get_tg (by omega))
                    have f1 := hblk.frozen q
                    have l1 := hblk.lt
                    have HE := hideP he
                    have HB := hideP hbel
                    have HK := hideP hblk
                    have HO := hideP hoE
                    have HW := hideP hse
                    clear he hbel hblk hoE hse hT'
                    by_cases hu : tg T' q < 0
                    · go_wp2
                      go_roundw
                      case rel => exact ⟨true, j + 1, T'.set q v, by omega, by go_num, rfl, (HB.out.setCell (p := ⟨_, _, none⟩) (Nat.le_refl _) _).alloc (by simp; omega) _, (HK.out.iset q v).alloc _, (HO.out.set (p := ⟨_, _, none⟩) (Nat.lt_succ_self _) _).alloc _, HW.out.set HX.out hd0 hsn.out HE.out hu⟩
                      case measure => simp [intOf]; omega
                    · by_cases hq : tg T' q = v
                      · have hq' : (tg T' q != v) = false := by simp [hq]
                        have HQ := hideP hq
                        clear hq
                        go_wp2
                        go_quiet (fail)
                        go_wp2
                        go_roundw
                        case rel => exact ⟨b, j + 1, T', by omega, by go_num, rfl, bdrewN (HB.out.alloc (by omega) _) _, (HK.out.alloc _).drewN _, (HO.out.alloc _).drewN _, HW.out.same HE.out HQ.out⟩
                        case measure => simp [intOf]; omega
                      · have hq' : (tg T' q != v) = true := by simp [hq]
                        have hno : NoDep ps := .inr (HW.out.swp.tab.fail2 HX.out (by rw [HW.out.at_]; exact hd0) (by rw [HW.out.at_]; exact hsn.out) (mem_of_get HE.out) (by show 0 ≤ tg T' q; omega) hq)
                        have HNo := hideP hno
                        clear hq hno
                        go_wp2
                        go_quiet (fail)
                        go_wp2
                        go_ret2
                        exact ⟨.inr ⟨rfl, HNo.out⟩, bdrewN (HB.out.alloc (by omega) _) _⟩
                  · have hw := hse.done HX.out hsn.out (by omega)
                    have HW := hideP hw
                    have HB := hideP hbel
                    have HK := hideP hblk
                    clear hw hse hbel hblk hoE
                    go_wp2
                    go_roundw
                    case rel => exact ⟨b, k + 1, T', by omega, by go_num, rfl, HB.out, HK.out, HW.out⟩
                    case measure => simp [intOf]; omega
          · have hkn : k = n := by omega
            have HB := hideP hbel
            have HK := hideP hblk
            have HW := hideP hsw
            clear hbel hblk hsw hTl
            cases b with
            | true =>
              obtain ⟨hP2, hw2⟩ := HW.out.over
              rw [HN.out] at hP2
              have HW2 := hideP hw2
              clear hw2
              go_wp2
              go_roundw
              case rel => exact ⟨P + 1, T, by omega, by go_num, HB.out, HK.out, HW2.out⟩
              case measure => simp [intOf]; omega
            | false =>
              have hd := HW.out.isDep (by rw [HN.out]; exact hkn) (by rw [HN.out]; exact hn2)
              have HD := hideP hd
              clear hd
              go_wp2
              go_ret2
              refine ⟨.inl ⟨T, _, ?_, HD.out, .inr ⟨w.heap.size, Nat.le_refl _, rfl, HK.out⟩⟩, HB.out⟩
              rw [HN.out]; rfl

set_option maxRecDepth 100000 in
set_option maxHeartbeats 400000 in
theorem sDepths_big (a : Option Addr) (n cap : Nat) (w : World) (hn2 : 65536 < n) (hn3 : n ≤ 1099511627776) :
    Calls Yaav.prog 44 #[.slice a n cap] w fun e w' => e = .returned (.tuple #[.slice none 0 0, .bool false]) ∧ Below w.heap.size w w' := by
  go_enter Yaav.func44, Yaav.ntmps44
  go_wp2
  go_ret2
  exact ⟨rfl, Below.refl _ _⟩

theorem sDepths (a : Option Addr) (n cap : Nat) (ps : List SO) (w : World) (hn : ps.length = n) (hn2 : n ≤ 1099511627776) (hs : Seg w a (sCells ps)) :
    Calls Yaav.prog 44 #[.slice a n cap] w fun e w' => DepPost ps w.heap.size e w' ∧ Below w.heap.size w w' := by
  by_cases h : n ≤ 65536
  · exact sDepths_in a n cap ps w hn h hs
  · exact (sDepths_big a n cap w (by omega) hn2).mono fun _ _ ⟨h1, h2⟩ => ⟨.inr ⟨h1, .inl (by omega)⟩, h2⟩

/-- What MaxDepth hands back. -/
def MaxPost (ps : List SO) (e : Ending) : Prop :=
  (∃ T, IsDep ps T ∧ e = .returned (.tuple #[.int .i64 (mx T), .bool true])) ∨ (NoDep ps ∧ e = .returned (.tuple #[.int .i64 0, .bool false]))

set_option maxRecDepth 100000 in
set_option maxHeartbeats 1000000 in
theorem sMaxDepth (a : Option Addr) (n cap : Nat) (ps : List SO) (w : World) (hn : ps.length = n) (hn2 : n ≤ 1099511627776) (hs : Seg w a (sCells ps)) :
    Calls Yaav.prog 17 #[.slice a n cap] w fun e w' => MaxPost ps e ∧ Below w.heap.size w w' := by
  have HS := hideP hs
  have HN := hideP hn
  clear hs hn
  go_enter Yaav.func17, Yaav.ntmps17
  go_wp2_with fail
  refine (sDepths a n cap ps _ HN.out hn2 HS.out).mono ?_
  rintro e w1 ⟨hd, hb⟩
  rcases hd with ⟨T, aT, rfl, hT, ho⟩ | ⟨rfl, hno⟩
  · rw [HN.out]
    have hTl := hT.tab.len
    have hsm := hT.small
    rw [HN.out] at hTl hsm
    have HT := hideP hT
    have HO := hideP ho
    have HB := hideP hb
    clear hT ho hb
    go_wp2
    go_loopw [6, 18] (fun mv iv wr => ∃ k : Nat, k ≤ n + 1 ∧ iv = .int .i64 k ∧ mv = .int .i64 (mx (T.take k)) ∧ wr = w1) (fun _ iv _ => n + 1 - (intOf iv).toNat)
    case atStart => exact ⟨0, Nat.zero_le _, rfl, rfl, rfl⟩
    case round =>
      obtain ⟨k, hk, rfl, rfl, rfl⟩ := hrel
      by_cases hlt : k < n + 1
      · obtain ⟨x, hx⟩ := some_at (ps := T) (k := k) (by omega)
        obtain ⟨b, off, rfl, hb, h1⟩ := HO.out.seg.i hx
        have HM := hideP (mx_take hx)
        clear hx
        by_cases hm : mx (T.take k) < x
        · go_wp2
          go_roundw
          case rel => exact ⟨k + 1, by omega, by go_num, by rw [HM.out, if_pos hm], trivial⟩
          case measure => simp [intOf]; omega
        · go_wp2
          go_roundw
          case rel => exact ⟨k + 1, by omega, by go_num, by rw [HM.out, if_neg (by omega)], trivial⟩
          case measure => simp [intOf]; omega
      · go_wp2
        go_ret2
        refine ⟨.inl ⟨T, HT.out, ?_⟩, HB.out⟩
        rw [List.take_of_length_le (by omega)]
        rfl
  · have HNo := hideP hno
    have HB := hideP hb
    clear hno hb
    go_wp2
    go_ret2
    exact ⟨.inr ⟨HNo.out, rfl⟩, HB.out⟩

end Go.Proofs.Yahaaw
