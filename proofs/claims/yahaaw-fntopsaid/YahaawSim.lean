/-
  DERIVED. PLAIN: the translated program ends as the stack program does; its registers lie within the count.
-/
import Derived.Test.YahaawReg
import Derived.Test.YahaawTrS
namespace Go.Proofs.Yahaaw
open Go.RowKit
set_option linter.unusedVariables false
set_option linter.unusedSimpArgs false

theorem mx_ge {T : List Int} {j : Nat} (h : 0 ≤ tg T j) : tg T j ≤ mx T := by
  by_cases hj : j < T.length
  · have hm := (foldl_mx T 0).2.1
    exact hm _ (mem_of_get (get_tg hj))
  · have : tg T j = -1 := by unfold tg; rw [List.getD_eq_getElem?_getD, List.getElem?_eq_none (by omega)]; rfl
    omega

theorem take_set_last {rg : List Int} {d : Nat} (hd : d < rg.length) (v : Int) : (rg.set d v).take (d + 1) = rg.take d ++ [v] := by
  rw [List.take_add_one]
  simp [hd, List.take_set_of_le]

theorem get_of_take {rg st : List Int} {d i : Nat} {x : Int} (h : rg.take d = st) (hx : st[i]? = some x) : rg[i]? = some x := by
  subst h
  rw [List.getElem?_take] at hx
  split at hx
  · exact hx
  · cases hx

theorem take_less {rg st r : List Int} {d e : Nat} (h : rg.take d = st) (he : e ≤ d) (hr : st.take e = r) : rg.take e = r := by
  subst h hr
  rw [List.take_take, Nat.min_eq_left he]

/-- The two machines side by side. -/
structure Sd (T : List Int) (N pc : Nat) (st rg : List Int) : Prop where
  dep : tg T pc = (st.length : Int)
  len : rg.length = N
  pre : rg.take st.length = st

theorem okR_of {x N : Nat} (h : x < N) : okR (x : Int) N = true := by simp [okR]; omega

theorem sim_step {ps : List SO} {T : List Int} {N : Nat} (hg : Good ps (tg T)) (hN : (N : Int) = mx T) (xs : List Int) {pc : Nat} {p : SO} {st rg : List Int} (hp : ps[pc]? = some p) (h11 : ¬ p.c = 11) (h : Sd T N pc st rg) :
    ¬ (regFor p (tg T pc)).op = 10 ∧ ∃ pc' st' rg', stepS ps.length xs pc p st = some (pc', st') ∧ stepR (ps.length + 1) xs pc (regFor p (tg T pc)) rg = some (pc', rg') ∧ pc' ≤ ps.length ∧ Sd T N pc' st' rg' := by
  have hpc := lt_of_get hp
  obtain ⟨hdep, hlen, hpre⟩ := h
  obtain ⟨es, hes, hall⟩ := hg.2 pc p hp (by omega)
  have hle : st.length ≤ N := by have := mx_ge (T := T) (j := pc) (by omega); omega
  rw [hdep] at hes ⊢
  have hnd : ¬ ((st.length : Int) < 0) := by omega
  obtain ⟨d, hd⟩ : ∃ d, st.length = d := ⟨_, rfl⟩
  have hned : ¬ (needs p.c < 0 ∨ (d : Int) < needs p.c) := by
    intro hh
    unfold succs at hes
    rw [hd, if_pos hh] at hes
    cases hes
  unfold succs at hes
  rw [hd] at hes hnd ⊢
  rw [if_neg hned, if_neg h11] at hes
  -- what a plain successor gives
  have plain : ¬ p.c = 9 → ¬ p.c = 10 → tg T (pc + 1) = (d : Int) + delta p.c := by
    intro h9 h10
    rw [if_neg h9, if_neg h10] at hes
    cases hes
    exact hall _ List.mem_cons_self
  have up : ∀ j : Nat, tg T j = (d : Int) + 1 → d < N := fun j hj => by
    have := mx_ge (T := T) (j := j) (by omega)
    omega
  unfold regFor
  rw [if_neg hnd]
  unfold needs at hned
  by_cases e0 : p.c = 0
  · have ht := plain (by omega) (by omega)
    simp [e0, delta] at ht
    have hdN := up _ ht
    refine ⟨by simp [e0], pc + 1, st ++ [p.a], rg.set d p.a, by simp [stepS, e0], ?_, hpc, ⟨by simp [ht, hd], by simp [hlen], ?_⟩⟩
    · simp [e0, stepR, hd, okR_of (show d < rg.length by omega)]
    · rw [List.length_append, hd]
      show (rg.set d p.a).take (d + 1) = _
      rw [take_set_last (by omega), ← hd, hpre]
  by_cases e1 : p.c = 1
  · have ht := plain (by omega) (by omega)
    simp [e1, delta] at ht
    have hdN := up _ ht
    refine ⟨by simp [e1], pc + 1, st ++ [argAt xs p.a], rg.set d (argAt xs p.a), by simp [stepS, e1], ?_, hpc, ⟨by simp [ht, hd], by simp [hlen], ?_⟩⟩
    · simp [e1, stepR, hd, okR_of (show d < rg.length by omega)]
    · rw [List.length_append, hd]
      show (rg.set d _).take (d + 1) = _
      rw [take_set_last (by omega), ← hd, hpre]
  -- two operands
  have two : 2 ≤ d → ∃ r x y, st = r ++ [x, y] ∧ r.length + 2 = d ∧ rg[r.length]? = some x ∧ rg[r.length + 1]? = some y ∧ rg.take r.length = r := by
    intro h2
    obtain ⟨r, x, y, rfl⟩ := split2 (st := st) (by omega)
    simp at hd
    refine ⟨r, x, y, rfl, hd, get_of_take hpre (by simp), get_of_take hpre (by rw [List.getElem?_append_right (by omega)]; simp), take_less hpre (by simp) (by simp)⟩
  have one : 1 ≤ d → ∃ r y, st = r ++ [y] ∧ r.length + 1 = d ∧ rg[r.length]? = some y ∧ rg.take r.length = r := by
    intro h2
    obtain ⟨r, y, rfl⟩ := split1 (st := st) (by omega)
    simp at hd
    exact ⟨r, y, rfl, hd, get_of_take hpre (by simp), take_less hpre (by simp) (by simp)⟩
  rw [if_neg e0, if_neg e1]
  by_cases e2 : p.c = 2
  · have h2 : 2 ≤ d := by simp [e2] at hned; omega
    have ht := plain (by omega) (by omega)
    simp [e2, delta] at ht
    obtain ⟨r, x, y, rfl, hr, hx, hy, htk⟩ := two h2
    have eA : (d : Int) - 2 = (r.length : Int) := by omega
    have eB : (d : Int) - 1 = ((r.length + 1 : Nat) : Int) := by omega
    rw [if_pos e2, eA, eB]
    refine ⟨by simp, pc + 1, r ++ [wrap64 (x + y)], rg.set r.length (wrap64 (x + y)), by simp [stepS, e2, pop2_some], ?_, hpc, ⟨by simp; omega, by simp [hlen], ?_⟩⟩
    · have o1 := okR_of (show r.length < rg.length by omega)
      have o2 := okR_of (show r.length + 1 < rg.length by omega)
      have g1 := rget_at hx
      have g2 := rget_at hy
      simp only [stepR, o1, o2, g1, g2]
      simp
    · rw [List.length_append]
      show (rg.set r.length _).take (r.length + 1) = _
      rw [take_set_last (by omega), htk]
  rw [if_neg e2]
  by_cases e3 : p.c = 3
  · have h2 : 2 ≤ d := by simp [e3] at hned; omega
    have ht := plain (by omega) (by omega)
    simp [e3, delta] at ht
    obtain ⟨r, x, y, rfl, hr, hx, hy, htk⟩ := two h2
    have eA : (d : Int) - 2 = (r.length : Int) := by omega
    have eB : (d : Int) - 1 = ((r.length + 1 : Nat) : Int) := by omega
    rw [if_pos e3, eA, eB]
    refine ⟨by simp, pc + 1, r ++ [wrap64 (x - y)], rg.set r.length (wrap64 (x - y)), by simp [stepS, e3, pop2_some], ?_, hpc, ⟨by simp; omega, by simp [hlen], ?_⟩⟩
    · have o1 := okR_of (show r.length < rg.length by omega)
      have o2 := okR_of (show r.length + 1 < rg.length by omega)
      have g1 := rget_at hx
      have g2 := rget_at hy
      simp only [stepR, o1, o2, g1, g2]
      simp
    · rw [List.length_append]
      show (rg.set r.length _).take (r.length + 1) = _
      rw [take_set_last (by omega), htk]
  rw [if_neg e3]
  by_cases e4 : p.c = 4
  · have h2 : 2 ≤ d := by simp [e4] at hned; omega
    have ht := plain (by omega) (by omega)
    simp [e4, delta] at ht
    obtain ⟨r, x, y, rfl, hr, hx, hy, htk⟩ := two h2
    have eA : (d : Int) - 2 = (r.length : Int) := by omega
    have eB : (d : Int) - 1 = ((r.length + 1 : Nat) : Int) := by omega
    rw [if_pos e4, eA, eB]
    refine ⟨by simp, pc + 1, r ++ [wrap64 (x * y)], rg.set r.length (wrap64 (x * y)), by simp [stepS, e4, pop2_some], ?_, hpc, ⟨by simp; omega, by simp [hlen], ?_⟩⟩
    · have o1 := okR_of (show r.length < rg.length by omega)
      have o2 := okR_of (show r.length + 1 < rg.length by omega)
      have g1 := rget_at hx
      have g2 := rget_at hy
      simp only [stepR, o1, o2, g1, g2]
      simp
    · rw [List.length_append]
      show (rg.set r.length _).take (r.length + 1) = _
      rw [take_set_last (by omega), htk]
  rw [if_neg e4]
  by_cases e5 : p.c = 5
  · have h2 : 1 ≤ d := by simp [e5] at hned; omega
    have ht := plain (by omega) (by omega)
    simp [e5, delta] at ht
    have hdN := up _ ht
    obtain ⟨r, y, rfl, hr, hy, htk⟩ := one h2
    have eB : (d : Int) - 1 = (r.length : Int) := by omega
    rw [if_pos e5, eB]
    refine ⟨by simp, pc + 1, r ++ [y] ++ [y], rg.set d y, by simp [stepS, e5, pop1_some], ?_, hpc, ⟨by simp; omega, by simp [hlen], ?_⟩⟩
    · have o1 := okR_of (show d < rg.length by omega)
      have o2 := okR_of (show r.length < rg.length by omega)
      have g1 := rget_at hy
      simp only [stepR, o1, o2, g1]
      simp
    · rw [List.length_append, hd]
      show (rg.set d _).take (d + 1) = _
      rw [take_set_last (by omega), ← hd, hpre]
  rw [if_neg e5]
  by_cases e6 : p.c = 6
  · have h2 : 2 ≤ d := by simp [e6] at hned; omega
    have ht := plain (by omega) (by omega)
    simp [e6, delta] at ht
    have hdN := up _ ht
    obtain ⟨r, x, y, rfl, hr, hx, hy, htk⟩ := two h2
    have eA : (d : Int) - 2 = (r.length : Int) := by omega
    rw [if_pos e6, eA]
    refine ⟨by simp, pc + 1, r ++ [x, y] ++ [x], rg.set d x, by simp [stepS, e6, pop2_some], ?_, hpc, ⟨by simp; omega, by simp [hlen], ?_⟩⟩
    · have o1 := okR_of (show d < rg.length by omega)
      have o2 := okR_of (show r.length < rg.length by omega)
      have g1 := rget_at hx
      simp only [stepR, o1, o2, g1]
      simp
    · rw [List.length_append, hd]
      show (rg.set d _).take (d + 1) = _
      rw [take_set_last (by omega), ← hd, hpre]
  rw [if_neg e6]
  by_cases e8 : p.c = 8
  · have h2 : 2 ≤ d := by simp [e8] at hned; omega
    have ht := plain (by omega) (by omega)
    simp [e8, delta] at ht
    obtain ⟨r, x, y, rfl, hr, hx, hy, htk⟩ := two h2
    have eA : (d : Int) - 2 = (r.length : Int) := by omega
    have eB : (d : Int) - 1 = ((r.length + 1 : Nat) : Int) := by omega
    rw [if_pos e8, eA, eB]
    refine ⟨by simp, pc + 1, r ++ [y, x], (rg.set r.length y).set (r.length + 1) x, by simp [stepS, e8, pop2_some], ?_, hpc, ⟨by simp; omega, by simp [hlen], ?_⟩⟩
    · have o1 := okR_of (show r.length < rg.length by omega)
      have o2 := okR_of (show r.length + 1 < rg.length by omega)
      have g1 := rget_at hx
      have g2 := rget_at hy
      simp only [stepR, o1, o2, g1, g2]
      simp
    · rw [List.length_append]
      show ((rg.set r.length y).set (r.length + 1) x).take (r.length + 1 + 1) = _
      rw [take_set_last (by simp; omega), take_set_last (by omega), htk]
      simp
  rw [if_neg e8]
  by_cases e9 : p.c = 9
  · have hb : ¬ (p.a < 0 ∨ (ps.length : Int) < p.a) := by
      intro hh
      rw [if_pos e9, if_pos hh] at hes
      cases hes
    rw [if_pos e9, if_neg hb] at hes
    cases hes
    have ht := hall _ List.mem_cons_self
    simp only at ht
    rw [if_pos e9]
    refine ⟨by simp, p.a.toNat, st, rg, by simp [stepS, e9, hb], ?_, by omega, ⟨by rw [ht, hd], hlen, hpre⟩⟩
    have k1 : 0 ≤ p.a ∧ p.a ≤ ((ps.length + 1 : Nat) : Int) := by omega
    simp only [stepR]
    simp only [if_pos k1]
    simp
  rw [if_neg e9]
  by_cases e10 : p.c = 10
  · have h2 : 1 ≤ d := by simp [e10] at hned; omega
    have hb : ¬ (p.a < 0 ∨ (ps.length : Int) < p.a) := by
      intro hh
      rw [if_neg e9, if_pos e10, if_pos hh] at hes
      cases hes
    rw [if_neg e9, if_pos e10, if_neg hb] at hes
    cases hes
    have ht1 := hall _ List.mem_cons_self
    have ht2 := hall _ (List.mem_cons_of_mem _ List.mem_cons_self)
    simp only at ht1 ht2
    obtain ⟨r, y, rfl, hr, hy, htk⟩ := one h2
    have eB : (d : Int) - 1 = (r.length : Int) := by omega
    rw [if_pos e10, eB]
    have o2 := okR_of (show r.length < rg.length by omega)
    have g1 := rget_at hy
    have k1 : okR (r.length : Int) rg.length = true ∧ 0 ≤ p.a ∧ p.a ≤ ((ps.length + 1 : Nat) : Int) := ⟨o2, by omega⟩
    refine ⟨by simp, (if y = 0 then p.a.toNat else pc + 1), r, rg, by simp [stepS, e10, hb, pop1_some], ?_, by split <;> omega, ⟨?_, hlen, htk⟩⟩
    · simp only [stepR]
      simp only [if_pos k1, g1]
      simp
    · by_cases hy0 : y = 0
      · rw [if_pos hy0, ht2]; omega
      · rw [if_neg hy0, ht1]; omega
  rw [if_neg e10]
  rw [if_neg h11]
  by_cases e7 : p.c = 7
  · have h2 : 1 ≤ d := by simp [e7] at hned; omega
    have ht := plain (by omega) (by omega)
    simp [e7, delta] at ht
    obtain ⟨r, y, rfl, hr, hy, htk⟩ := one h2
    refine ⟨by simp, pc + 1, r, rg, by simp [stepS, e7, pop1_some], ?_, hpc, ⟨by omega, hlen, htk⟩⟩
    simp [stepR]
  · exfalso
    apply hned
    left
    have n1 : ¬ (p.c = 0 ∨ p.c = 1 ∨ p.c = 9 ∨ p.c = 11) := by simp [e0, e1, e9, h11]
    have n2 : ¬ (p.c = 5 ∨ p.c = 7 ∨ p.c = 10) := by simp [e5, e7, e10]
    have n3 : ¬ (p.c = 2 ∨ p.c = 3 ∨ p.c = 4 ∨ p.c = 6 ∨ p.c = 8) := by simp [e2, e3, e4, e6, e8]
    rw [if_neg n1, if_neg n2, if_neg n3]
    decide

theorem regFor_halt {p : SO} {d : Int} (h : p.c = 11) (hd : 0 ≤ d) : regFor p d = ⟨10, 0, d, 0, 0⟩ := by
  unfold regFor
  rw [if_neg (by omega)]
  simp [h]

/-- The register program ends as the stack program. -/
theorem sim_run {ps : List SO} {T : List Int} {N : Nat} (hg : Good ps (tg T)) (hN : (N : Int) = mx T) (xs : List Int) :
    ∀ (f pc : Nat) (st rg : List Int), pc ≤ ps.length → Sd T N pc st rg → runR (trans ps T) xs f pc rg = runS ps xs f pc st := by
  have halt : ∀ (f pc : Nat) (st rg : List Int) (q : RO), (trans ps T)[pc]? = some q → q.op = 10 → q.a = (st.length : Int) → Sd T N pc st rg → runR (trans ps T) xs f pc rg = ⟨0, st, 20000 - (f : Int)⟩ := by
    intro f pc st rg q hq h10 ha h
    have hle : st.length ≤ N := by have := mx_ge (T := T) (j := pc) (by have := h.dep; omega); have := h.dep; omega
    rw [runR_halt hq h10 ⟨by omega, by rw [h.len]; omega⟩, ha, Int.toNat_natCast, h.pre]
  intro f
  induction f with
  | zero =>
    intro pc st rg hpc h
    cases hp : ps[pc]? with
    | none =>
      have he : pc = ps.length := by
        have := List.getElem?_eq_none_iff.1 hp
        omega
      subst he
      have hl := trans_last ps T
      rw [h.dep] at hl
      rw [halt 0 _ st rg _ hl rfl (by simp [lastR]) h, runS_end hp]
    | some p =>
      have hq := trans_get T hp
      by_cases h11 : p.c = 11
      · rw [halt 0 _ st rg _ hq (by rw [h.dep, regFor_halt h11 (by omega)]) (by rw [h.dep, regFor_halt h11 (by omega)]) h, runS_halt hp h11]
      · obtain ⟨hne, _⟩ := sim_step hg hN xs hp h11 h
        rw [runR_fuel hq hne, runS_fuel hp h11]
  | succ f ih =>
    intro pc st rg hpc h
    cases hp : ps[pc]? with
    | none =>
      have he : pc = ps.length := by
        have := List.getElem?_eq_none_iff.1 hp
        omega
      subst he
      have hl := trans_last ps T
      rw [h.dep] at hl
      rw [halt (f + 1) _ st rg _ hl rfl (by simp [lastR]) h, runS_end hp]
    | some p =>
      have hq := trans_get T hp
      by_cases h11 : p.c = 11
      · rw [halt (f + 1) _ st rg _ hq (by rw [h.dep, regFor_halt h11 (by omega)]) (by rw [h.dep, regFor_halt h11 (by omega)]) h, runS_halt hp h11]
      · obtain ⟨hne, pc', st', rg', hs, hr, hpc', h'⟩ := sim_step hg hN xs hp h11 h
        rw [runR_step hq hne (by rw [trans_len]; exact hr), runS_step hp h11 hs]
        exact ih pc' st' rg' hpc' h'

theorem sim {ps : List SO} {T : List Int} {N : Nat} (h : IsDep ps T) (hN : (N : Int) = mx T) (xs : List Int) : runR (trans ps T) xs 20000 0 (List.replicate N 0) = runS ps xs 20000 0 [] :=
  sim_run h.good hN xs 20000 0 [] _ (Nat.zero_le _) ⟨by rw [h.tab.zero]; rfl, by simp, by simp⟩

end Go.Proofs.Yahaaw
