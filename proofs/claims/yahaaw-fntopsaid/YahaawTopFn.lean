/-
  DERIVED. WALK: laws.FnTop (3).
-/
import Derived.Test.YahaawDecode
import Derived.Test.YahaawTrFn
import Derived.Test.YahaawMaxFn
import Derived.Test.YahaawRunFn
import Derived.Test.YahaawRegFn
import Derived.Test.YahaawTopA
import Derived.Test.YahaawTopB
namespace Go.Proofs.Yahaaw
open Go.RowKit
set_option linter.unusedVariables false
set_option linter.unusedSimpArgs false

set_option maxRecDepth 100000 in
set_option maxHeartbeats 8000000 in
theorem fnTop_small (a : Option Addr) (n cap : Nat) (w : World) (hn2 : n ≤ 1048576) (hs : Byt w.heap.size w a n) :
    Calls Yaav.prog 3 #[.slice a n cap] w fun e w' => e = .returned (.bool true) ∧ Below w.heap.size w w' := by
  have HS := hideP hs
  clear hs
  go_enter Yaav.func3, Yaav.ntmps3
  go_wp2_with fail
  refine (decode_any a n cap _ hn2 HS.out).mono ?_
  rintro e w1 ⟨ps, xs, a1, a2, c1, c2, rfl, hpl, hxl, hpw, hxw, hps, hxs, hb1⟩
  have S1 := hideP hps
  have X1 := hideP hxs
  have B1 := hideP hb1
  clear hps hxs hb1 hpw hxw HS
  go_wp2_with fail
  refine (fromS a1 ps.length c1 ps _ rfl (by omega) S1.out).mono ?_
  rintro e w2 ⟨a3, rfl, hb2, ho2⟩
  have O2 := hideP ho2.seg
  have S2 := hideP (S1.out.below hb2)
  have X2 := hideP (X1.out.below hb2)
  have B2 := hideP (Below.both B1.out hb2)
  clear hb2 ho2 B1 S1 X1
  go_wp2_with fail
  refine (fnExactTranslate a3 ps.length ps.length ps _ rfl O2.out).mono ?_
  rintro e w3 ⟨rfl, hb3⟩
  have S3 := hideP (S2.out.below hb3)
  have X3 := hideP (X2.out.below hb3)
  have B3 := hideP (Below.both B2.out hb3)
  clear hb3 B2 S2 X2 O2
  go_wp2_with fail
  refine (sMaxDepth a1 ps.length c1 ps _ rfl (by omega) S3.out).mono ?_
  rintro e w4 ⟨hmp, hb4⟩
  have S4 := hideP (S3.out.below hb4)
  have X4 := hideP (X3.out.below hb4)
  have B4 := hideP (Below.both B3.out hb4)
  clear hb4 B3 S3 X3
  rcases hmp with ⟨T, hT, rfl⟩ | ⟨hno, rfl⟩
  · have hti : TrIs ps (trans ps T) (mx T) true := .inl ⟨T, hT, rfl, rfl, rfl⟩
    have hmb := mx_bound hT.tab T.length
    rw [List.take_length] at hmb
    have hsm := hT.small
    obtain ⟨N, hN⟩ := Int.eq_ofNat_of_zero_le hmb.1
    have hN65 : N ≤ 65536 := by omega
    obtain ⟨⟨s, zs, t⟩, hO⟩ : ∃ o, runS ps xs 20000 0 [] = o := ⟨_, rfl⟩
    obtain ⟨⟨s0, zs0, t0⟩, hO0⟩ : ∃ o, runS ps [] 20000 0 [] = o := ⟨_, rfl⟩
    have hz : runZ (trans ps T) xs (N : Int) = ⟨s, zs, t⟩ := by rw [runZ_nat _ _ hN65, sim hT (by omega) xs, hO]
    have hz0 : runZ (trans ps T) [] (N : Int) = ⟨s0, zs0, t0⟩ := by rw [runZ_nat _ _ hN65, sim hT (by omega) [], hO0]
    have hml := runS_len ps xs 20000 0 []
    rw [hO] at hml
    have hml0 := runS_len ps [] 20000 0 []
    rw [hO0] at hml0
    obtain ⟨m, hm⟩ : ∃ m, zs.length = m := ⟨_, rfl⟩
    obtain ⟨m0, hm0⟩ : ∃ m, zs0.length = m := ⟨_, rfl⟩
    simp only [hm, hm0, List.length_nil] at hml hml0
    have hok := trans_ok hT hN.symm
    have HTI := hideP hti
    have HO := hideP hO
    have HO0 := hideP hO0
    have HZ := hideP hz
    have HZ0 := hideP hz0
    have HM := hideP hm
    have HM0 := hideP hm0
    have HOK := hideP hok
    have HTL := hideP (trans_len ps T)
    rw [hN] at HTI ⊢
    clear hO hO0 hz hz0 hm hm0 hok hti hmb hT
    go_wp2_with fail
    refine (iTranslate a1 ps.length c1 ps _ rfl (by omega) S4.out).mono ?_
    rintro e w5 ⟨htp, hb5⟩
    obtain ⟨b5, rfl, ho5⟩ := htp.at HTI.out
    have R5 := hideP ho5.seg
    have S5 := hideP (S4.out.below hb5)
    have X5 := hideP (X4.out.below hb5)
    have B5 := hideP (Below.both B4.out hb5)
    clear hb5 htp ho5 B4 S4 X4
    simp only [HTL.out]
    go_wp2_with fail
    refine (regsWithin b5 (ps.length + 1) (ps.length + 1) N (trans ps T) _ HTL.out (by omega) R5.out hN65 HOK.out).mono ?_
    rintro e w6 ⟨rfl, hb6⟩
    have R6 := hideP (R5.out.below hb6)
    have S6 := hideP (S5.out.below hb6)
    have X6 := hideP (X5.out.below hb6)
    have B6 := hideP (Below.both B5.out hb6)
    clear hb6 B5 S5 X5 R5
    go_wp2_with fail
    refine (sRunReg b5 a2 (ps.length + 1) (ps.length + 1) xs.length c2 (N : Int) (trans ps T) xs _ HTL.out (by omega) R6.out rfl (by omega) X6.out).mono ?_
    rintro e w7 ⟨htp, hb⟩
    rw [HZ.out] at htp
    obtain ⟨g7, rfl, ho⟩ := htp
    simp only [HM.out] at ho ⊢
    have Z7 := hideP ho.seg
    have R7 := hideP (R6.out.below hb)
    have S7 := hideP (S6.out.below hb)
    have X7 := hideP (X6.out.below hb)
    have B7 := hideP (Below.both B6.out hb)
    clear hb ho B6 S6 X6 R6
    go_wp2_with fail
    refine (sRunStack a1 a2 ps.length c1 xs.length c2 ps xs _ rfl (by omega) S7.out rfl (by omega) X7.out).mono ?_
    rintro e w8 ⟨htp, hb⟩
    rw [HO.out] at htp
    obtain ⟨g8, rfl, ho⟩ := htp
    simp only [HM.out] at ho ⊢
    have Y8 := hideP ho.seg
    have Z8 := hideP (Z7.out.below hb)
    have R8 := hideP (R7.out.below hb)
    have S8 := hideP (S7.out.below hb)
    have X8 := hideP (X7.out.below hb)
    have B8 := hideP (Below.both B7.out hb)
    clear hb ho B7 S7 X7 R7 Z7
    go_wp2_with fail
    refine (sameOc g7 g8 m m m zs s t _ HM.out (by omega) Z8.out Y8.out).mono ?_
    rintro e w9 ⟨rfl, hb⟩
    have R9 := hideP (R8.out.below hb)
    have S9 := hideP (S8.out.below hb)
    have X9 := hideP (X8.out.below hb)
    have B9 := hideP (Below.both B8.out hb)
    clear hb B8 S8 X8 R8 Z8 Y8
    go_wp2_with fail
    refine (iRunReg b5 a2 (ps.length + 1) (ps.length + 1) xs.length c2 (N : Int) (trans ps T) xs _ HTL.out (by omega) R9.out rfl (by omega) X9.out).mono ?_
    rintro e w10 ⟨htp, hb⟩
    rw [HZ.out] at htp
    obtain ⟨g10, rfl, ho⟩ := htp
    simp only [HM.out] at ho ⊢
    have Z10 := hideP ho.seg
    have R10 := hideP (R9.out.below hb)
    have S10 := hideP (S9.out.below hb)
    have X10 := hideP (X9.out.below hb)
    have B10 := hideP (Below.both B9.out hb)
    clear hb ho B9 S9 X9 R9
    go_wp2_with fail
    refine (iRunStack a1 a2 ps.length c1 xs.length c2 ps xs _ rfl (by omega) S10.out rfl (by omega) X10.out).mono ?_
    rintro e w11 ⟨htp, hb⟩
    rw [HO.out] at htp
    obtain ⟨g11, rfl, ho⟩ := htp
    simp only [HM.out] at ho ⊢
    have Y11 := hideP ho.seg
    have Z11 := hideP (Z10.out.below hb)
    have R11 := hideP (R10.out.below hb)
    have S11 := hideP (S10.out.below hb)
    have X11 := hideP (X10.out.below hb)
    have B11 := hideP (Below.both B10.out hb)
    clear hb ho B10 S10 X10 R10 Z10
    go_wp2_with fail
    refine (sameOc g10 g11 m m m zs s t _ HM.out (by omega) Z11.out Y11.out).mono ?_
    rintro e w12 ⟨rfl, hb⟩
    have R12 := hideP (R11.out.below hb)
    have S12 := hideP (S11.out.below hb)
    have X12 := hideP (X11.out.below hb)
    have B12 := hideP (Below.both B11.out hb)
    clear hb B11 S11 X11 R11 Z11 Y11
    go_wp2_with fail
    refine (sRunReg b5 none (ps.length + 1) (ps.length + 1) 0 0 (N : Int) (trans ps T) [] _ HTL.out (by omega) R12.out rfl (by omega) (.inl rfl)).mono ?_
    rintro e w13 ⟨htp, hb⟩
    rw [HZ0.out] at htp
    obtain ⟨g13, rfl, ho⟩ := htp
    simp only [HM0.out] at ho ⊢
    have Z13 := hideP ho.seg
    have R13 := hideP (R12.out.below hb)
    have S13 := hideP (S12.out.below hb)
    have X13 := hideP (X12.out.below hb)
    have B13 := hideP (Below.both B12.out hb)
    clear hb ho B12 S12 X12 R12
    go_wp2_with fail
    refine (sRunStack a1 none ps.length c1 0 0 ps [] _ rfl (by omega) S13.out rfl (by omega) (.inl rfl)).mono ?_
    rintro e w14 ⟨htp, hb⟩
    rw [HO0.out] at htp
    obtain ⟨g14, rfl, ho⟩ := htp
    simp only [HM0.out] at ho ⊢
    have Y14 := hideP ho.seg
    have Z14 := hideP (Z13.out.below hb)
    have R14 := hideP (R13.out.below hb)
    have S14 := hideP (S13.out.below hb)
    have X14 := hideP (X13.out.below hb)
    have B14 := hideP (Below.both B13.out hb)
    clear hb ho B13 S13 X13 R13 Z13
    go_wp2_with fail
    refine (sameOc g13 g14 m0 m0 m0 zs0 s0 t0 _ HM0.out (by omega) Z14.out Y14.out).mono ?_
    rintro e w15 ⟨rfl, hb⟩
    go_wp2
    go_ret
    exact ⟨rfl, Below.both B14.out hb⟩
  · have hti : TrIs ps [] 0 false := .inr ⟨hno, rfl, rfl, rfl⟩
    have HTI := hideP hti
    clear hti hno
    go_wp2_with fail
    refine (iTranslate a1 ps.length c1 ps _ rfl (by omega) S4.out).mono ?_
    rintro e w5 ⟨htp, hb5⟩
    obtain ⟨b5, rfl, ho5⟩ := htp.at HTI.out
    have B5 := hideP (Below.both B4.out hb5)
    clear hb5 htp ho5 B4
    go_wp2
    go_ret
    exact ⟨rfl, B5.out⟩

set_option maxRecDepth 100000 in
set_option maxHeartbeats 1000000 in
theorem fnTop_big (a : Option Addr) (n cap : Nat) (w : World) (hn2 : 1048576 < n) :
    Calls Yaav.prog 3 #[.slice a n cap] w fun e w' => e = .returned (.bool true) ∧ Below w.heap.size w w' := by
  go_enter Yaav.func3, Yaav.ntmps3
  go_wp2
  go_ret
  exact ⟨rfl, Below.refl _ _⟩

theorem fnTop_w (a : Option Addr) (n cap : Nat) (w : World) (hs : Byt w.heap.size w a n) :
    Calls Yaav.prog 3 #[.slice a n cap] w fun e w' => e = .returned (.bool true) ∧ Below w.heap.size w w' := by
  by_cases h : n ≤ 1048576
  · exact fnTop_small a n cap w h hs
  · exact fnTop_big a n cap w (by omega)

end Go.Proofs.Yahaaw
