/-
  DERIVED. The registers of a translated program lie within the count. WALK: spec.RegsWithin (19).
-/
import Derived.Test.YahaawSim
import Derived.Test.YahaawRunRS
namespace Go.Proofs.Yahaaw
open Go.RowKit
set_option linter.unusedVariables false
set_option linter.unusedSimpArgs false

/-- What RegsWithin asks of one operation. -/
def RegOk (N : Nat) (q : RO) : Prop :=
  (q.op = 10 ∧ 0 ≤ q.a ∧ q.a ≤ N) ∨ (¬ q.op = 10 ∧ useK q.op = true ∧ (useR q.op = true → okR q.r N = true) ∧ (useA q.op = true → okR q.a N = true) ∧ (useB q.op = true → okR q.b N = true))

theorem stepR_ok {n : Nat} {xs : List Int} {pc : Nat} {q : RO} {rg : List Int} {r : Nat × List Int} (h : stepR n xs pc q rg = some r) : RegOk rg.length q := by
  unfold stepR at h
  right
  by_cases e0 : q.op = 0
  · rw [if_pos e0] at h
    obtain ⟨_, hk⟩ := ite_some h
    exact ⟨by omega, by rw [e0]; rfl, (fun _ => hk), (fun hh => by rw [e0] at hh; cases hh), (fun hh => by rw [e0] at hh; cases hh)⟩
  rw [if_neg e0] at h
  by_cases e1 : q.op = 1
  · rw [if_pos e1] at h
    obtain ⟨_, hk⟩ := ite_some h
    exact ⟨by omega, by rw [e1]; rfl, (fun _ => hk), (fun hh => by rw [e1] at hh; cases hh), (fun hh => by rw [e1] at hh; cases hh)⟩
  rw [if_neg e1] at h
  by_cases e2 : q.op = 2
  · rw [if_pos e2] at h
    obtain ⟨_, hk⟩ := ite_some h
    simp only [Bool.and_eq_true] at hk
    exact ⟨by omega, by rw [e2]; rfl, (fun _ => hk.1.1), (fun _ => hk.1.2), (fun _ => hk.2)⟩
  rw [if_neg e2] at h
  by_cases e3 : q.op = 3
  · rw [if_pos e3] at h
    obtain ⟨_, hk⟩ := ite_some h
    simp only [Bool.and_eq_true] at hk
    exact ⟨by omega, by rw [e3]; rfl, (fun _ => hk.1.1), (fun _ => hk.1.2), (fun _ => hk.2)⟩
  rw [if_neg e3] at h
  by_cases e4 : q.op = 4
  · rw [if_pos e4] at h
    obtain ⟨_, hk⟩ := ite_some h
    simp only [Bool.and_eq_true] at hk
    exact ⟨by omega, by rw [e4]; rfl, (fun _ => hk.1.1), (fun _ => hk.1.2), (fun _ => hk.2)⟩
  rw [if_neg e4] at h
  by_cases e5 : q.op = 5
  · rw [if_pos e5] at h
    obtain ⟨_, hk⟩ := ite_some h
    simp only [Bool.and_eq_true] at hk
    exact ⟨by omega, by rw [e5]; rfl, (fun _ => hk.1), (fun _ => hk.2), (fun hh => by rw [e5] at hh; cases hh)⟩
  rw [if_neg e5] at h
  by_cases e6 : q.op = 6
  · rw [if_pos e6] at h
    obtain ⟨_, hk⟩ := ite_some h
    simp only [Bool.and_eq_true] at hk
    exact ⟨by omega, by rw [e6]; rfl, (fun hh => by rw [e6] at hh; cases hh), (fun _ => hk.1), (fun _ => hk.2)⟩
  rw [if_neg e6] at h
  by_cases e7 : q.op = 7
  · rw [if_pos e7] at h
    exact ⟨by omega, by rw [e7]; rfl, (fun hh => by rw [e7] at hh; cases hh), (fun hh => by rw [e7] at hh; cases hh), (fun hh => by rw [e7] at hh; cases hh)⟩
  rw [if_neg e7] at h
  by_cases e8 : q.op = 8
  · rw [if_pos e8] at h
    obtain ⟨_, hk⟩ := ite_some h
    exact ⟨by omega, by rw [e8]; rfl, (fun hh => by rw [e8] at hh; cases hh), (fun hh => by rw [e8] at hh; cases hh), (fun hh => by rw [e8] at hh; cases hh)⟩
  rw [if_neg e8] at h
  by_cases e9 : q.op = 9
  · rw [if_pos e9] at h
    obtain ⟨_, hk⟩ := ite_some h
    exact ⟨by omega, by rw [e9]; rfl, (fun hh => by rw [e9] at hh; cases hh), (fun _ => hk.1), (fun hh => by rw [e9] at hh; cases hh)⟩
  rw [if_neg e9] at h
  cases h

theorem trans_ok {ps : List SO} {T : List Int} {N : Nat} (hd : IsDep ps T) (hN : (N : Int) = mx T) : ∀ (k : Nat) (q : RO), (trans ps T)[k]? = some q → RegOk N q := by
  intro k q hq
  by_cases hk : k < ps.length
  · obtain ⟨p, hp⟩ := some_at hk
    rw [trans_get T hp] at hq
    cases hq
    by_cases h0 : tg T k < 0
    · have e : regFor p (tg T k) = ⟨7, 0, 0, 0, 0⟩ := by unfold regFor; rw [if_pos h0]
      rw [e]
      right
      exact ⟨by simp, rfl, (fun h => by cases h), (fun h => by cases h), (fun h => by cases h)⟩
    · by_cases h11 : p.c = 11
      · rw [regFor_halt h11 (by omega)]
        left
        have := mx_ge (T := T) (j := k) (by omega)
        exact ⟨rfl, by simp only; omega, by simp only; omega⟩
      · have hle := mx_ge (T := T) (j := k) (by omega)
        obtain ⟨_, pc', st', rg', _, hr, _, _⟩ := sim_step (N := N) (st := List.replicate (tg T k).toNat 0) (rg := List.replicate N 0) hd.good hN [] hp h11
          ⟨by simp; omega, by simp, by simp; omega⟩
        have := stepR_ok hr
        simpa using this
  · have hkl : k = ps.length := by
      have := lt_of_get hq
      rw [trans_len] at this
      omega
    subst hkl
    rw [trans_last] at hq
    cases hq
    left
    unfold lastR
    by_cases h0 : 0 ≤ tg T ps.length
    · rw [if_pos h0]
      have := mx_ge (T := T) (j := ps.length) h0
      exact ⟨rfl, by simp only; omega, by simp only; omega⟩
    · rw [if_neg h0]
      exact ⟨rfl, by simp only; omega, by simp only; omega⟩

set_option maxRecDepth 100000 in
set_option maxHeartbeats 4000000 in
theorem regsWithin (a : Option Addr) (n cap N : Nat) (ps : List RO) (w : World) (hn : ps.length = n) (hn2 : n ≤ 1099511627776) (hs : Seg w a (rCells ps)) (hnr : N ≤ 65536) (hok : ∀ (k : Nat) (q : RO), ps[k]? = some q → RegOk N q) :
    Calls Yaav.prog 19 #[.slice a n cap, .int .i64 N] w fun e w' => e = .returned (.bool true) ∧ Below w.heap.size w w' := by
  have HS := hideP hs
  have HN := hideP hn
  have HOK := hideP hok
  clear hs hn hok
  go_enter Yaav.func19, Yaav.ntmps19
  go_wp2_with fail
  go_loopw [13] (fun i wr => ∃ k : Nat, k ≤ n ∧ i = .int .i64 k ∧ Below w.heap.size w wr) (fun i _ => n - (intOf i).toNat)
  case atStart => exact ⟨0, Nat.zero_le _, rfl, Below.refl _ _⟩
  case round =>
    obtain ⟨k, hk, rfl, hbel⟩ := hrel
    have hsz := hbel.size
    have HBEL := hideP hbel
    clear hbel
    by_cases hlt : k < n
    · obtain ⟨x, hx⟩ := some_at (ps := ps) (k := k) (by have := HN.out; omega)
      obtain ⟨b, off, rfl, hb, h1, h2, h3, h4, h5⟩ := (HS.out.below HBEL.out).r hx
      have hq := HOK.out k x hx
      obtain ⟨c, r, a, b', k'⟩ := x
      simp only at h1 h2 h3 h4 h5
      clear hx
      rcases hq with ⟨q1, q2, q3⟩ | ⟨q1, q2, q3, q4, q5⟩
      · simp only at q1 q2 q3
        subst q1
        go_wp2_with fail
        go_roundw
        case rel => exact ⟨k + 1, by omega, by go_num, HBEL.out.alloc hsz _⟩
        case measure => simp [intOf]; omega
      · simp only at q1 q2 q3 q4 q5
        have hb10 : (c == 10) = false := beq_eq_false_iff_ne.2 q1
        have HQ3 := hideP q3
        have HQ4 := hideP q4
        have HQ5 := hideP q5
        clear q1 q3 q4 q5
        cases uR : useR c with
        | true =>
          have oR := HQ3.out uR
          cases uA : useA c with
          | true =>
            have oA := HQ4.out uA
            cases uB : useB c with
            | true =>
              have oB := HQ5.out uB
              as_aux_lemma =>
              go_wp2_with (first | (go_at_call 47; refine (inRange_any _ _ _ hnr).mono ?_; rintro e w' ⟨rfl, rfl⟩) | (go_at_call 46; refine (uses_any _ _).mono ?_; rintro e w' ⟨rfl, rfl⟩))
              go_roundw
              case rel => exact ⟨k + 1, by omega, by go_num, HBEL.out.alloc hsz _⟩
              case measure => simp [intOf]; omega
            | false =>
              as_aux_lemma =>
              go_wp2_with (first | (go_at_call 47; refine (inRange_any _ _ _ hnr).mono ?_; rintro e w' ⟨rfl, rfl⟩) | (go_at_call 46; refine (uses_any _ _).mono ?_; rintro e w' ⟨rfl, rfl⟩))
              go_roundw
              case rel => exact ⟨k + 1, by omega, by go_num, HBEL.out.alloc hsz _⟩
              case measure => simp [intOf]; omega
          | false =>
            cases uB : useB c with
            | true =>
              have oB := HQ5.out uB
              as_aux_lemma =>
              go_wp2_with (first | (go_at_call 47; refine (inRange_any _ _ _ hnr).mono ?_; rintro e w' ⟨rfl, rfl⟩) | (go_at_call 46; refine (uses_any _ _).mono ?_; rintro e w' ⟨rfl, rfl⟩))
              go_roundw
              case rel => exact ⟨k + 1, by omega, by go_num, HBEL.out.alloc hsz _⟩
              case measure => simp [intOf]; omega
            | false =>
              as_aux_lemma =>
              go_wp2_with (first | (go_at_call 47; refine (inRange_any _ _ _ hnr).mono ?_; rintro e w' ⟨rfl, rfl⟩) | (go_at_call 46; refine (uses_any _ _).mono ?_; rintro e w' ⟨rfl, rfl⟩))
              go_roundw
              case rel => exact ⟨k + 1, by omega, by go_num, HBEL.out.alloc hsz _⟩
              case measure => simp [intOf]; omega
        | false =>
          cases uA : useA c with
          | true =>
            have oA := HQ4.out uA
            cases uB : useB c with
            | true =>
              have oB := HQ5.out uB
              as_aux_lemma =>
              go_wp2_with (first | (go_at_call 47; refine (inRange_any _ _ _ hnr).mono ?_; rintro e w' ⟨rfl, rfl⟩) | (go_at_call 46; refine (uses_any _ _).mono ?_; rintro e w' ⟨rfl, rfl⟩))
              go_roundw
              case rel => exact ⟨k + 1, by omega, by go_num, HBEL.out.alloc hsz _⟩
              case measure => simp [intOf]; omega
            | false =>
              as_aux_lemma =>
              go_wp2_with (first | (go_at_call 47; refine (inRange_any _ _ _ hnr).mono ?_; rintro e w' ⟨rfl, rfl⟩) | (go_at_call 46; refine (uses_any _ _).mono ?_; rintro e w' ⟨rfl, rfl⟩))
              go_roundw
              case rel => exact ⟨k + 1, by omega, by go_num, HBEL.out.alloc hsz _⟩
              case measure => simp [intOf]; omega
          | false =>
            cases uB : useB c with
            | true =>
              have oB := HQ5.out uB
              as_aux_lemma =>
              go_wp2_with (first | (go_at_call 47; refine (inRange_any _ _ _ hnr).mono ?_; rintro e w' ⟨rfl, rfl⟩) | (go_at_call 46; refine (uses_any _ _).mono ?_; rintro e w' ⟨rfl, rfl⟩))
              go_roundw
              case rel => exact ⟨k + 1, by omega, by go_num, HBEL.out.alloc hsz _⟩
              case measure => simp [intOf]; omega
            | false =>
              as_aux_lemma =>
              go_wp2_with (first | (go_at_call 47; refine (inRange_any _ _ _ hnr).mono ?_; rintro e w' ⟨rfl, rfl⟩) | (go_at_call 46; refine (uses_any _ _).mono ?_; rintro e w' ⟨rfl, rfl⟩))
              go_roundw
              case rel => exact ⟨k + 1, by omega, by go_num, HBEL.out.alloc hsz _⟩
              case measure => simp [intOf]; omega
    · go_wp2
      go_ret
      exact ⟨rfl, HBEL.out⟩

end Go.Proofs.Yahaaw
