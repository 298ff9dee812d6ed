/-
  DERIVED. WALK: laws.exactRunRegOnce (34), FnExactRunReg (8).
-/
import Derived.Test.YahaawOut
import Derived.Test.YahaawRunRI
import Derived.Test.YahaawRunRS
namespace Go.Proofs.Yahaaw
open Go.RowKit
attribute [local go_sem ↓] Go.wp_at_zero Go.wp_at_succ
set_option linter.unusedVariables false
set_option linter.unusedSimpArgs false

theorem Own.newR (w : World) (cs : List Value) (t : TypeId) : Own (w.alloc (.cells cs.toArray t)) w.heap.size (some ⟨w.heap.size, 0, none⟩) cs t := .inr ⟨_, Nat.le_refl _, rfl, Blk.new w cs t⟩
theorem Own.blkR {w : World} {B g : Nat} {x : Value} {cs : List Value} {t : TypeId} (h : Own w B (some ⟨g, 0, none⟩) (x :: cs) t) : Blk w g (x :: cs) t := by
  rcases h with h | ⟨k, _, hk, hb⟩
  · cases h
  · cases hk; exact hb
theorem Seg.drewR {w : World} {a : Option Addr} {cs : List Value} (h : Seg w a cs) : Seg w.drew a cs := h

/-- The register machine with a count of registers that may be anything. -/
def runZ (ps : List RO) (xs : List Int) (z : Int) : Oc := if 0 ≤ z ∧ z ≤ 65536 then runR ps xs 20000 0 (List.replicate z.toNat 0) else ⟨2, [], 0⟩

theorem runZ_nat (ps : List RO) (xs : List Int) {N : Nat} (h : N ≤ 65536) : runZ ps xs (N : Int) = runR ps xs 20000 0 (List.replicate N 0) := by
  unfold runZ
  rw [if_pos ⟨by omega, by omega⟩, Int.toNat_natCast]

theorem runZ_len (ps : List RO) (xs : List Int) (z : Int) : (runZ ps xs z).vals.length ≤ 65536 := by
  unfold runZ
  by_cases h : 0 ≤ z ∧ z ≤ 65536
  · rw [if_pos h]
    have := runR_len ps xs 20000 0 (List.replicate z.toNat 0)
    simp at this
    omega
  · rw [if_neg h]; simp

theorem iRunReg (ap ax : Option Addr) (n cap nx capx : Nat) (z : Int) (ps : List RO) (xs : List Int) (w : World) (hn : ps.length = n) (hn2 : n ≤ 1099511627776) (hs : Seg w ap (rCells ps)) (hnx : xs.length = nx) (hnx2 : nx ≤ 1099511627776) (hxs : Seg w ax (iCells xs)) :
    Calls Yaav.prog 23 #[.slice ap n cap, .int .i64 z, .slice ax nx capx] w fun e w' => RunPost (runZ ps xs z) w.heap.size e w' ∧ Below w.heap.size w w' := by
  by_cases h : 0 ≤ z ∧ z ≤ 65536
  · obtain ⟨N, rfl⟩ := Int.eq_ofNat_of_zero_le h.1
    rw [runZ_nat ps xs (by omega)]
    exact iRunReg_in ap ax n cap nx capx N ps xs w hn hn2 hs (by omega) hnx hnx2 hxs
  · unfold runZ
    rw [if_neg h]
    exact iRunReg_out ap ax n cap nx capx z w (by omega)

theorem sRunReg (ap ax : Option Addr) (n cap nx capx : Nat) (z : Int) (ps : List RO) (xs : List Int) (w : World) (hn : ps.length = n) (hn2 : n ≤ 1099511627776) (hs : Seg w ap (rCells ps)) (hnx : xs.length = nx) (hnx2 : nx ≤ 1099511627776) (hxs : Seg w ax (iCells xs)) :
    Calls Yaav.prog 21 #[.slice ap n cap, .int .i64 z, .slice ax nx capx] w fun e w' => RunPost (runZ ps xs z) w.heap.size e w' ∧ Below w.heap.size w w' := by
  by_cases h : 0 ≤ z ∧ z ≤ 65536
  · obtain ⟨N, rfl⟩ := Int.eq_ofNat_of_zero_le h.1
    rw [runZ_nat ps xs (by omega)]
    exact sRunReg_in ap ax n cap nx capx N ps xs w hn hn2 hs (by omega) hnx hnx2 hxs
  · unfold runZ
    rw [if_neg h]
    exact sRunReg_out ap ax n cap nx capx z w (by omega)

set_option maxRecDepth 100000 in
set_option maxHeartbeats 8000000 in
theorem onceRunReg (a ax aw : Option Addr) (n cap nx capx m cw : Nat) (nz : Bool) (ps : List RO) (xs zs : List Int) (s t z : Int) (w : World) (hn : ps.length = n) (hn2 : n ≤ 1048576) (hs : Seg w a (rCells ps))
    (hnx : xs.length = nx) (hnx2 : nx ≤ 1048576) (hxs : Seg w ax (iCells xs)) (hm : zs.length = m) (hm2 : m ≤ 1099511627776) (hws : Seg w aw (iCells zs)) (hr : runZ ps xs z = ⟨s, zs, t⟩) :
    Calls Yaav.prog 34 #[.slice a n cap, .int .i64 z, .slice ax nx capx, .agg #[.int .i64 s, .slice aw m cw, .int .i64 t], .bool nz] w fun e w' => e = .returned (.bool true) ∧ Below w.heap.size w w' := by
  have HS := hideP hs
  have HXS := hideP hxs
  have HWS := hideP hws
  have HN := hideP hn
  have HNX := hideP hnx
  have HM := hideP hm
  have HR := hideP hr
  have B0 : Hid (Below w.heap.size w (w.alloc (.cells #[.int .i64 s, .slice aw m cw, .int .i64 t] 48))) := (Below.refl _ _).alloc (Nat.le_refl _) _
  have K0 : Hid (Blk (w.alloc (.cells #[.int .i64 s, .slice aw m cw, .int .i64 t] 48)) w.heap.size [.int .i64 s, .slice aw m cw, .int .i64 t] 48) := Blk.new' w #[.int .i64 s, .slice aw m cw, .int .i64 t] 48
  clear hs hxs hws hn hnx hm hr
  go_enter Yaav.func34, Yaav.ntmps34
  go_wp2_with fail
  generalize (w.alloc (.cells #[.int .i64 s, .slice aw m cw, .int .i64 t] 48)) = W0 at *
  have l0 := K0.out.lt
  refine (toR a n cap nz ps _ HN.out (by omega) (HS.out.below B0.out)).mono ?_
  rintro e w1 ⟨a1, rfl, hb1, ho1⟩
  have D1 := hideP hb1
  have O1 := hideP ho1
  have z1 := hb1.size
  clear hb1 ho1
  go_wp2_with fail
  refine (cpI ax nx capx nz xs _ HNX.out (by omega) (HXS.out.below (Below.both B0.out D1.out))).mono ?_
  rintro e w2 ⟨x2, rfl, hb2, ho2⟩
  have D2 := hideP (Below.both D1.out hb2)
  have LP := hideP (fun k h1 h2 => (O1.out.lt k h1 h2).2)
  have O2 := hideP (O1.out.below hb2)
  have z2 := hb2.size
  have X2 := hideP ho2
  have LX := hideP (fun k h1 h2 => (ho2.lt k h1 h2).2)
  clear hb2 D1 O1 ho2
  go_wp2_with fail
  refine (iRunReg a1 x2 n n nx nx z ps xs _ HN.out (by omega) O2.out.seg HNX.out (by omega) X2.out.seg).mono ?_
  rintro e w3 ⟨htp, hb3⟩
  rw [HR.out] at htp
  obtain ⟨b3, rfl, ho3⟩ := htp
  simp only [HM.out] at ho3 ⊢
  have D3 := hideP (Below.both D2.out hb3)
  have O3 := hideP (O2.out.below hb3)
  have X3 := hideP (X2.out.below hb3)
  have Z3 := hideP ho3
  have z3 := hb3.size
  clear hb3 ho3 D2 O2 X2
  have D4 := hideP (D3.out.alloc D3.out.size (.cells #[.int .i64 s, .slice b3 m m, .int .i64 t] 38))
  have O4 := hideP (O3.out.alloc (.cells #[.int .i64 s, .slice b3 m m, .int .i64 t] 38))
  have X4 := hideP (X3.out.alloc (.cells #[.int .i64 s, .slice b3 m m, .int .i64 t] 38))
  have Z4 := hideP (Z3.out.alloc (.cells #[.int .i64 s, .slice b3 m m, .int .i64 t] 38))
  have G4 := hideP (Own.newR w3 [.int .i64 s, .slice b3 m m, .int .i64 t] 38)
  clear D3 O3 X3 Z3
  go_wp2_with fail
  generalize (w3.alloc (.cells #[.int .i64 s, .slice b3 m m, .int .i64 t] 38)) = W4 at *
  obtain ⟨c0, c1, c2⟩ := G4.out.blkR.tri
  obtain ⟨c3, c4, c5⟩ := (K0.out.below D4.out l0).tri
  have l4 := G4.out.blkR.lt
  go_region_held (fun w' => w'.cell? ⟨w3.heap.size, 0, none⟩ = some (.int .i64 s) ∧ w'.cell? ⟨w3.heap.size, 1, none⟩ = some (.slice b3 m m) ∧ w'.cell? ⟨w3.heap.size, 2, none⟩ = some (.int .i64 t) ∧ w'.cell? ⟨w.heap.size, 0, none⟩ = some (.int .i64 s) ∧ w'.cell? ⟨w.heap.size, 1, none⟩ = some (.slice aw m cw) ∧ w'.cell? ⟨w.heap.size, 2, none⟩ = some (.int .i64 t))
    (first | exact ⟨keepC E8.out c0, keepC E8.out c1, keepC E8.out c2, keepC E8.out c3, keepC E8.out c4, keepC E8.out c5⟩ | exact ⟨keepC E7.out c0, keepC E7.out c1, keepC E7.out c2, keepC E7.out c3, keepC E7.out c4, keepC E7.out c5⟩ | exact ⟨keepC E6.out c0, keepC E6.out c1, keepC E6.out c2, keepC E6.out c3, keepC E6.out c4, keepC E6.out c5⟩ | exact ⟨keepC E5.out c0, keepC E5.out c1, keepC E5.out c2, keepC E5.out c3, keepC E5.out c4, keepC E5.out c5⟩ | go_keep)
    (first
      | (go_at_call 30; refine (fromO b3 m m zs s t _ HM.out (by omega) Z4.out.seg.drewR).mono ?_; rintro e w5 ⟨b5, rfl, ho5, hb⟩; have E5 := hideP (Below.both (Below.refl W4.heap.size W4).drew hb); have Q5 := hideP ho5; clear ho5)
      | (go_at_call 60; refine (sameO b5 aw m m cw zs s t _ HM.out (by omega) Q5.out.seg (HWS.out.below (Below.both B0.out (Below.both D4.out E5.out)))).mono ?_; rintro e w6 ⟨rfl, hb⟩; have E6 := hideP (Below.both E5.out hb))
      | (go_at_call 58; refine (sameR a a1 n cap n ps _ HN.out (by omega) (HS.out.below (Below.both B0.out (Below.both D4.out E6.out))) (O4.out.below E6.out).seg).mono ?_; rintro e w7 ⟨rfl, hb⟩; have E7 := hideP (Below.both E6.out hb))
      | (go_at_call 61; refine (sameI ax x2 nx capx nx xs _ HNX.out (by omega) (HXS.out.below (Below.both B0.out (Below.both D4.out E7.out))) (X4.out.below E7.out).seg).mono ?_; rintro e w8 ⟨rfl, hb⟩; have E8 := hideP (Below.both E7.out hb)))
  have D8 := hideP (D4.out.trans (E8.out.mono D4.out.size))
  have O8 := hideP (O4.out.below E8.out)
  have X8 := hideP (X4.out.below E8.out)
  have Z8 := hideP (Z4.out.below E8.out)
  have G8 := hideP (G4.out.below E8.out)
  clear c0 c1 c2 c3 c4 c5 l4 D4 O4 X4 Z4 G4 E5 E6 E7 E8 Q5
  go_wp2_with fail
  refine (flipR a1 n W0.heap.size ps _ HN.out (by omega) O8.out).mono ?_
  rintro e w9 ⟨rfl, hg⟩
  have D9 := hideP (hg.bel O8.out D8.out D8.out.size)
  have X9 := hideP (hg.own X8.out LP.out)
  have Z9 := hideP (hg.own Z8.out (fun k h1 h2 => Nat.lt_of_lt_of_le (LP.out k h1 h2) z2))
  have G9 := hideP (hg.own G8.out (fun k h1 h2 => Nat.lt_of_lt_of_le (LP.out k h1 h2) (Nat.le_trans z2 z3)))
  clear hg D8 O8 X8 Z8 G8 LP
  go_wp2_with fail
  refine (flipI x2 nx w1.heap.size xs _ HNX.out (by omega) X9.out).mono ?_
  rintro e w10 ⟨rfl, hg⟩
  have D10 := hideP (hg.bel (X9.out.mono z1) D9.out D9.out.size)
  have Z10 := hideP (hg.own Z9.out LX.out)
  have G10 := hideP (hg.own G9.out (fun k h1 h2 => Nat.lt_of_lt_of_le (LX.out k h1 h2) z3))
  clear hg D9 X9 Z9 G9 LX
  obtain ⟨c0, c1, c2⟩ := G10.out.blkR.tri
  obtain ⟨c3, c4, c5⟩ := (K0.out.below D10.out l0).tri
  have l4 := G10.out.blkR.lt
  have l5 : w.heap.size < w10.heap.size := Nat.lt_of_lt_of_le l0 D10.out.size
  go_wp2
  go_region_held (fun w' => w'.cell? ⟨w3.heap.size, 0, none⟩ = some (.int .i64 s) ∧ w'.cell? ⟨w3.heap.size, 1, none⟩ = some (.slice b3 m m) ∧ w'.cell? ⟨w3.heap.size, 2, none⟩ = some (.int .i64 t) ∧ w'.cell? ⟨w.heap.size, 0, none⟩ = some (.int .i64 s) ∧ w'.cell? ⟨w.heap.size, 1, none⟩ = some (.slice aw m cw) ∧ w'.cell? ⟨w.heap.size, 2, none⟩ = some (.int .i64 t))
    (first | exact ⟨keepC E12.out c0, keepC E12.out c1, keepC E12.out c2, keepC E12.out c3, keepC E12.out c4, keepC E12.out c5⟩ | exact ⟨keepC E11.out c0, keepC E11.out c1, keepC E11.out c2, keepC E11.out c3, keepC E11.out c4, keepC E11.out c5⟩ | go_keep)
    (first
      | (go_at_call 30; refine (fromO b3 m m zs s t _ HM.out (by omega) Z10.out.seg.drewR).mono ?_; rintro e w11 ⟨b11, rfl, ho, hb⟩; have E11 := hideP (Below.both (Below.refl w10.heap.size w10).drew hb); have Q11 := hideP ho; clear ho)
      | (go_at_call 60; refine (sameO b11 aw m m cw zs s t _ HM.out (by omega) Q11.out.seg (HWS.out.below (Below.both B0.out (Below.both D10.out E11.out)))).mono ?_; rintro e w12 ⟨rfl, hb⟩; have E12 := hideP (Below.both E11.out hb)))
  have D12 := hideP (D10.out.trans (E12.out.mono D10.out.size))
  have Z12 := hideP (Z10.out.below E12.out)
  have q1 := keepC E12.out c1
  have q4 := Nat.lt_of_lt_of_le l4 E12.out.size
  clear c0 c1 c2 c3 c4 c5 l4 l5 D10 Z10 G10 E11 E12 Q11
  go_wp2_with fail
  refine (flipI b3 m w2.heap.size zs _ HM.out (by omega) Z12.out).mono ?_
  rintro e w13 ⟨rfl, hg⟩
  have D13 := hideP (hg.bel (Z12.out.mono (Nat.le_trans z1 z2)) D12.out D12.out.size)
  clear hg D12 Z12 q1 q4
  go_wp2_with fail
  refine (toR a n cap nz ps _ HN.out (by omega) (HS.out.below (Below.both B0.out D13.out))).mono ?_
  rintro e w14 ⟨a14, rfl, hb, ho⟩
  have D14 := hideP (Below.both D13.out hb)
  have O14 := hideP ho
  clear hb ho D13
  go_wp2_with fail
  refine (cpI ax nx capx nz xs _ HNX.out (by omega) (HXS.out.below (Below.both B0.out D14.out))).mono ?_
  rintro e w15 ⟨x15, rfl, hb, ho⟩
  have D15 := hideP (Below.both D14.out hb)
  have O15 := hideP (O14.out.below hb)
  have X15 := hideP ho
  clear hb ho D14 O14
  go_wp2_with fail
  refine (iRunReg a14 x15 n n nx nx z ps xs _ HN.out (by omega) O15.out.seg HNX.out (by omega) X15.out.seg).mono ?_
  rintro e w16 ⟨htp, hb⟩
  rw [HR.out] at htp
  obtain ⟨b16, rfl, ho⟩ := htp
  simp only [HM.out] at ho ⊢
  have D17 := hideP ((Below.both D15.out hb).alloc (Below.both D15.out hb).size (.cells #[.int .i64 s, .slice b16 m m, .int .i64 t] 38))
  have O17 := hideP ((O15.out.below hb).alloc (.cells #[.int .i64 s, .slice b16 m m, .int .i64 t] 38))
  have X17 := hideP ((X15.out.below hb).alloc (.cells #[.int .i64 s, .slice b16 m m, .int .i64 t] 38))
  have Z17 := hideP (ho.alloc (.cells #[.int .i64 s, .slice b16 m m, .int .i64 t] 38))
  have G17 := hideP (Own.newR w16 [.int .i64 s, .slice b16 m m, .int .i64 t] 38)
  clear hb ho D15 O15 X15
  go_wp2_with fail
  generalize (w16.alloc (.cells #[.int .i64 s, .slice b16 m m, .int .i64 t] 38)) = W17 at *
  obtain ⟨c0, c1, c2⟩ := G17.out.blkR.tri
  obtain ⟨c3, c4, c5⟩ := (K0.out.below D17.out l0).tri
  have l4 := G17.out.blkR.lt
  have l5 : w.heap.size < W17.heap.size := Nat.lt_of_lt_of_le l0 D17.out.size
  go_region_held (fun w' => w'.cell? ⟨w16.heap.size, 0, none⟩ = some (.int .i64 s) ∧ w'.cell? ⟨w16.heap.size, 1, none⟩ = some (.slice b16 m m) ∧ w'.cell? ⟨w16.heap.size, 2, none⟩ = some (.int .i64 t) ∧ w'.cell? ⟨w.heap.size, 0, none⟩ = some (.int .i64 s) ∧ w'.cell? ⟨w.heap.size, 1, none⟩ = some (.slice aw m cw) ∧ w'.cell? ⟨w.heap.size, 2, none⟩ = some (.int .i64 t))
    (first | exact ⟨keepC E21.out c0, keepC E21.out c1, keepC E21.out c2, keepC E21.out c3, keepC E21.out c4, keepC E21.out c5⟩ | exact ⟨keepC E20.out c0, keepC E20.out c1, keepC E20.out c2, keepC E20.out c3, keepC E20.out c4, keepC E20.out c5⟩ | exact ⟨keepC E19.out c0, keepC E19.out c1, keepC E19.out c2, keepC E19.out c3, keepC E19.out c4, keepC E19.out c5⟩ | exact ⟨keepC E18.out c0, keepC E18.out c1, keepC E18.out c2, keepC E18.out c3, keepC E18.out c4, keepC E18.out c5⟩ | go_keep)
    (first
      | (go_at_call 30; refine (fromO b16 m m zs s t _ HM.out (by omega) Z17.out.seg.drewR).mono ?_; rintro e w18 ⟨b18, rfl, ho18, hb⟩; have E18 := hideP (Below.both (Below.refl W17.heap.size W17).drew hb); have Q18 := hideP ho18; clear ho18)
      | (go_at_call 60; refine (sameO b18 aw m m cw zs s t _ HM.out (by omega) Q18.out.seg (HWS.out.below (Below.both B0.out (Below.both D17.out E18.out)))).mono ?_; rintro e w19 ⟨rfl, hb⟩; have E19 := hideP (Below.both E18.out hb))
      | (go_at_call 58; refine (sameR a a14 n cap n ps _ HN.out (by omega) (HS.out.below (Below.both B0.out (Below.both D17.out E19.out))) (O17.out.below E19.out).seg).mono ?_; rintro e w20 ⟨rfl, hb⟩; have E20 := hideP (Below.both E19.out hb))
      | (go_at_call 61; refine (sameI ax x15 nx capx nx xs _ HNX.out (by omega) (HXS.out.below (Below.both B0.out (Below.both D17.out E20.out))) (X17.out.below E20.out).seg).mono ?_; rintro e w21 ⟨rfl, hb⟩; have E21 := hideP (Below.both E20.out hb)))
  go_wp2
  go_ret
  exact ⟨rfl, Below.both B0.out (D17.out.trans (E21.out.mono D17.out.size))⟩

set_option maxRecDepth 100000 in
set_option maxHeartbeats 4000000 in
theorem fnExactRunReg_small (a ax : Option Addr) (n cap nx capx : Nat) (z : Int) (ps : List RO) (xs : List Int) (w : World) (hn : ps.length = n) (hn2 : n ≤ 1048576) (hs : Seg w a (rCells ps)) (hnx : xs.length = nx) (hnx2 : nx ≤ 1048576) (hxs : Seg w ax (iCells xs)) :
    Calls Yaav.prog 8 #[.slice a n cap, .int .i64 z, .slice ax nx capx] w fun e w' => e = .returned (.bool true) ∧ Below w.heap.size w w' := by
  have hml := runZ_len ps xs z
  obtain ⟨⟨s, zs, t⟩, hr⟩ : ∃ o, runZ ps xs z = o := ⟨_, rfl⟩
  rw [hr] at hml
  obtain ⟨m, hm⟩ : ∃ m, zs.length = m := ⟨_, rfl⟩
  simp only [hm] at hml
  have HS := hideP hs
  have HXS := hideP hxs
  have HN := hideP hn
  have HNX := hideP hnx
  have HM := hideP hm
  have HR := hideP hr
  clear hs hxs hn hnx hm hr
  go_enter Yaav.func8, Yaav.ntmps8
  go_wp2_with fail
  refine (toR a n cap false ps _ HN.out (by omega) HS.out).mono ?_
  rintro e w1 ⟨a1, rfl, hb, ho⟩
  have D1 := hideP hb
  have O1 := hideP ho
  clear hb ho
  go_wp2_with fail
  refine (cpI ax nx capx false xs _ HNX.out (by omega) (HXS.out.below D1.out)).mono ?_
  rintro e w2 ⟨x2, rfl, hb, ho⟩
  have D2 := hideP (Below.both D1.out hb)
  have O2 := hideP (O1.out.below hb)
  have X2 := hideP ho
  clear hb ho D1 O1
  go_wp2_with fail
  refine (sRunReg a1 x2 n n nx nx z ps xs _ HN.out (by omega) O2.out.seg HNX.out (by omega) X2.out.seg).mono ?_
  rintro e w3 ⟨htp, hb⟩
  rw [HR.out] at htp
  obtain ⟨b3, rfl, ho⟩ := htp
  simp only [HM.out] at ho ⊢
  have D3 := hideP (Below.both D2.out hb)
  have Z3 := hideP ho
  clear hb ho D2 O2 X2
  go_wp2_with fail
  refine (fromO b3 m m zs s t _ HM.out (by omega) Z3.out.seg).mono ?_
  rintro e w4 ⟨b4, rfl, ho, hb⟩
  have D5 := hideP ((Below.both D3.out hb).alloc (Below.both D3.out hb).size (.cells #[.int .i64 s, .slice b4 m m, .int .i64 t] 48))
  have Z5 := hideP (ho.alloc (.cells #[.int .i64 s, .slice b4 m m, .int .i64 t] 48))
  have G5 := hideP (Own.newR w4 [.int .i64 s, .slice b4 m m, .int .i64 t] 48)
  clear hb ho D3 Z3
  go_wp2_with fail
  refine (onceRunReg a ax b4 n cap nx capx m m true ps xs zs s t z _ HN.out hn2 (HS.out.below D5.out) HNX.out hnx2 (HXS.out.below D5.out) HM.out (by omega) Z5.out.seg HR.out).mono ?_
  rintro e w6 ⟨rfl, hb⟩
  have D6 := hideP (Below.both D5.out hb)
  have Z6 := hideP (Z5.out.below hb)
  obtain ⟨c0, c1, c2⟩ := (G5.out.below hb).blkR.tri
  have l6 := (G5.out.below hb).blkR.lt
  clear hb D5 Z5 G5
  go_wp2_with fail
  refine (onceRunReg a ax b4 n cap nx capx m m false ps xs zs s t z _ HN.out hn2 (HS.out.below D6.out) HNX.out hnx2 (HXS.out.below D6.out) HM.out (by omega) Z6.out.seg HR.out).mono ?_
  rintro e w7 ⟨rfl, hb⟩
  go_wp2
  go_ret
  exact ⟨rfl, Below.both D6.out hb⟩

set_option maxRecDepth 100000 in
set_option maxHeartbeats 1000000 in
theorem fnExactRunReg_big (a ax : Option Addr) (n cap nx capx : Nat) (z : Int) (w : World) (hn2 : 1048576 < n) :
    Calls Yaav.prog 8 #[.slice a n cap, .int .i64 z, .slice ax nx capx] w fun e w' => e = .returned (.bool true) ∧ Below w.heap.size w w' := by
  go_enter Yaav.func8, Yaav.ntmps8
  go_wp2
  go_ret
  exact ⟨rfl, Below.refl _ _⟩

set_option maxRecDepth 100000 in
set_option maxHeartbeats 1000000 in
theorem fnExactRunReg_big2 (a ax : Option Addr) (n cap nx capx : Nat) (z : Int) (w : World) (hn1 : n ≤ 1048576) (hn2 : 1048576 < nx) :
    Calls Yaav.prog 8 #[.slice a n cap, .int .i64 z, .slice ax nx capx] w fun e w' => e = .returned (.bool true) ∧ Below w.heap.size w w' := by
  go_enter Yaav.func8, Yaav.ntmps8
  go_wp2
  go_ret
  exact ⟨rfl, Below.refl _ _⟩

/-- laws.FnExactRunStack, whatever the slices. -/
theorem fnExactRunReg (a ax : Option Addr) (n cap nx capx : Nat) (z : Int) (ps : List RO) (xs : List Int) (w : World) (hn : ps.length = n) (hs : Seg w a (rCells ps)) (hnx : xs.length = nx) (hxs : Seg w ax (iCells xs)) :
    Calls Yaav.prog 8 #[.slice a n cap, .int .i64 z, .slice ax nx capx] w fun e w' => e = .returned (.bool true) ∧ Below w.heap.size w w' := by
  by_cases h : n ≤ 1048576
  · by_cases h2 : nx ≤ 1048576
    · exact fnExactRunReg_small a ax n cap nx capx z ps xs w hn h hs hnx h2 hxs
    · exact fnExactRunReg_big2 a ax n cap nx capx z w h (by omega)
  · exact fnExactRunReg_big a ax n cap nx capx z w (by omega)

end Go.Proofs.Yahaaw
