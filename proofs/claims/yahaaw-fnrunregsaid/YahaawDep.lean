/-
  DERIVED. PLAIN: the depths of a stack program. A labelling is good if it is 0 at 0 and every labelled position's successors bear the depths that its operation gives. Both sweeps and work lists end in the least good labelling, or there is none.
-/
import Derived.Test.YahaawData
namespace Go.Proofs.Yahaaw
set_option linter.unusedVariables false

def needs (c : Int) : Int :=
  if c = 0 ∨ c = 1 ∨ c = 9 ∨ c = 11 then 0 else if c = 5 ∨ c = 7 ∨ c = 10 then 1 else if c = 2 ∨ c = 3 ∨ c = 4 ∨ c = 6 ∨ c = 8 then 2 else -1
def delta (c : Int) : Int :=
  if c = 0 ∨ c = 1 ∨ c = 5 ∨ c = 6 then 1 else if c = 2 ∨ c = 3 ∨ c = 4 ∨ c = 7 ∨ c = 10 then -1 else 0

theorem needs_le (c : Int) : -1 ≤ needs c ∧ needs c ≤ 2 := by unfold needs; split <;> (try split) <;> (try split) <;> omega
theorem delta_le (c : Int) : -1 ≤ delta c ∧ delta c ≤ 1 := by unfold delta; split <;> (try split) <;> omega
theorem needs_delta {c : Int} (h : 0 ≤ needs c) : 0 ≤ needs c + delta c := by
  unfold needs delta at *
  repeat' split at h
  all_goals (repeat' split)
  all_goals omega

def succs (p : SO) (d : Int) (i n : Nat) : Option (List (Nat × Int)) :=
  if needs p.c < 0 ∨ d < needs p.c then none
  else if p.c = 11 then some []
  else if p.c = 9 then (if p.a < 0 ∨ (n : Int) < p.a then none else some [(p.a.toNat, d)])
  else if p.c = 10 then (if p.a < 0 ∨ (n : Int) < p.a then none else some [(i + 1, d - 1), (p.a.toNat, d - 1)])
  else some [(i + 1, d + delta p.c)]

theorem succs_ok {p : SO} {d : Int} {i n : Nat} {es : List (Nat × Int)} (h : succs p d i n = some es) (hi : i < n) : ∀ e ∈ es, e.1 ≤ n ∧ 0 ≤ e.2 ∧ e.2 ≤ d + 1 := by
  unfold succs at h
  split at h
  · cases h
  · rename_i h0
    have hd : 0 ≤ needs p.c ∧ needs p.c ≤ d := by omega
    have hnd := needs_delta hd.1
    have hdl := delta_le p.c
    split at h
    · cases h; intro e he; cases he
    · split at h
      · split at h
        · cases h
        · cases h; intro e he; simp at he; subst he; simp; omega
      · split at h
        · rename_i h10
          have hn10 : needs p.c = 1 := by rw [h10]; rfl
          split at h
          · cases h
          · cases h; intro e he; simp at he; rcases he with rfl | rfl <;> simp <;> omega
        · cases h; intro e he; simp at he; subst he; simp; omega

def Good (ps : List SO) (D : Nat → Int) : Prop :=
  D 0 = 0 ∧ ∀ (i : Nat) (p : SO), ps[i]? = some p → 0 ≤ D i → ∃ es, succs p (D i) i ps.length = some es ∧ ∀ e ∈ es, D e.1 = e.2

def tg (T : List Int) (i : Nat) : Int := T.getD i (-1)
def cnt (T : List Int) : Nat := T.countP (fun x => decide (0 ≤ x))

theorem tg_get {T : List Int} {i : Nat} {v : Int} (h : T[i]? = some v) : tg T i = v := by simp [tg, List.getD, h]
theorem get_tg {T : List Int} {i : Nat} (h : i < T.length) : T[i]? = some (tg T i) := by simp [tg, List.getD, h]
theorem tg_set_same {T : List Int} {s : Nat} (h : s < T.length) (v : Int) : tg (T.set s v) s = v := by simp [tg, List.getD, h]
theorem tg_set_ne {T : List Int} {s j : Nat} (h : s ≠ j) (v : Int) : tg (T.set s v) j = tg T j := by simp [tg, List.getD, List.getElem?_set_ne h]

theorem cnt_le (T : List Int) : cnt T ≤ T.length := List.countP_le_length
theorem cnt_set {T : List Int} {s : Nat} (hs : s < T.length) (hu : tg T s < 0) {v : Int} (hv : 0 ≤ v) : cnt (T.set s v) = cnt T + 1 := by
  obtain ⟨l, r, hl, hs'⟩ := split_at (get_tg hs)
  generalize tg T s = x at *
  subst hl hs'
  have e : (l ++ x :: r).set l.length v = l ++ v :: r := by simp
  unfold cnt
  rw [e, List.countP_append, List.countP_append, List.countP_cons, List.countP_cons]
  have : ¬ (0 ≤ x) := by omega
  simp [hv, this]
  omega

structure Tab (ps : List SO) (T : List Int) : Prop where
  len : T.length = ps.length + 1
  zero : tg T 0 = 0
  lo : ∀ i, -1 ≤ tg T i
  hi : ∀ i, tg T i < cnt T
  forced : ∀ D : Nat → Int, Good ps D → ∀ i, 0 ≤ tg T i → D i = tg T i

theorem tg_replicate (n i : Nat) : tg ((List.replicate (n + 1) (-1)).set 0 0) i = if i = 0 then 0 else -1 := by
  by_cases h : i = 0
  · subst h; rw [if_pos rfl]; exact tg_set_same (by simp) 0
  · rw [if_neg h, tg_set_ne (Ne.symm h)]
    simp only [tg, List.getD, List.getElem?_replicate]
    split <;> rfl

theorem Tab.start (ps : List SO) : Tab ps ((List.replicate (ps.length + 1) (-1)).set 0 0) ∧ cnt ((List.replicate (ps.length + 1) (-1)).set 0 0) = 1 := by
  have hc : cnt ((List.replicate (ps.length + 1) (-1)).set 0 0) = 1 := by
    rw [cnt_set (by simp) (by simp [tg, List.getD]) (by omega)]
    have : cnt (List.replicate (ps.length + 1) (-1)) = 0 := by unfold cnt; rw [List.countP_eq_zero]; intro a ha; have := List.eq_of_mem_replicate ha; subst this; decide
    omega
  refine ⟨⟨by simp, ?_, ?_, ?_, ?_⟩, hc⟩
  · rw [tg_replicate]; rfl
  · intro i; rw [tg_replicate]; split <;> omega
  · intro i; rw [tg_replicate, hc]; split <;> omega
  · intro D hD i hi
    rw [tg_replicate] at *
    split at hi
    · rename_i h; subst h; exact hD.1
    · omega

section
variable {ps : List SO} {T : List Int} {i : Nat} {p : SO} {es : List (Nat × Int)}

theorem Tab.lt (h : Tab ps T) {j : Nat} (hj : 0 ≤ tg T j) : j ≤ ps.length := by
  rcases Nat.lt_or_ge ps.length j with hlt | hge
  · exfalso; simp [tg, List.getD, List.getElem?_eq_none (show T.length ≤ j by have := h.len; omega)] at hj
  · exact hge

theorem Tab.bound (h : Tab ps T) (j : Nat) : tg T j ≤ ps.length := by
  have h1 := h.hi j
  have h2 := cnt_le T
  have h3 := h.len
  omega

theorem Tab.fail1 (h : Tab ps T) (hp : ps[i]? = some p) (hl : 0 ≤ tg T i) (hs : succs p (tg T i) i ps.length = none) : ¬ ∃ D, Good ps D := by
  rintro ⟨D, hD⟩
  have e := h.forced D hD i hl
  obtain ⟨es, h1, _⟩ := hD.2 i p hp (by omega)
  rw [e, hs] at h1
  cases h1

theorem Tab.fail2 (h : Tab ps T) (hp : ps[i]? = some p) (hl : 0 ≤ tg T i) (hs : succs p (tg T i) i ps.length = some es) {e : Nat × Int} (he : e ∈ es) (h0 : 0 ≤ tg T e.1) (hne : tg T e.1 ≠ e.2) : ¬ ∃ D, Good ps D := by
  rintro ⟨D, hD⟩
  have e1 := h.forced D hD i hl
  obtain ⟨es', h1, h2⟩ := hD.2 i p hp (by omega)
  rw [e1, hs] at h1
  cases h1
  have := h2 e he
  have := h.forced D hD e.1 h0
  omega

theorem Tab.set (h : Tab ps T) (hp : ps[i]? = some p) (hl : 0 ≤ tg T i) (hs : succs p (tg T i) i ps.length = some es) {e : Nat × Int} (he : e ∈ es) (hu : tg T e.1 < 0) :
    Tab ps (T.set e.1 e.2) ∧ cnt (T.set e.1 e.2) = cnt T + 1 := by
  obtain ⟨b1, b2, b3⟩ := succs_ok hs (lt_of_get hp) e he
  have hlen : e.1 < T.length := by have := h.len; omega
  have hc := cnt_set hlen hu b2
  have hi := h.hi
  refine ⟨⟨by simp; exact h.len, ?_, ?_, ?_, ?_⟩, hc⟩
  · have h0 := h.zero
    rw [tg_set_ne (fun e0 => by rw [e0] at hu; omega)]; exact h0
  · intro j
    by_cases hj : e.1 = j
    · subst hj; rw [tg_set_same hlen]; omega
    · rw [tg_set_ne hj]; exact h.lo j
  · intro j
    rw [hc]
    by_cases hj : e.1 = j
    · subst hj; rw [tg_set_same hlen]; have := hi i; omega
    · rw [tg_set_ne hj]; have := hi j; omega
  · intro D hD j hj
    by_cases hje : e.1 = j
    · subst hje
      rw [tg_set_same hlen]
      have e1 := h.forced D hD i hl
      obtain ⟨es', h1, h2⟩ := hD.2 i p hp (by omega)
      rw [e1, hs] at h1
      cases h1
      exact h2 e he
    · rw [tg_set_ne hje] at *
      exact h.forced D hD j hj
end

/-- Position j is through: its successors are labelled as they should be. -/
def Cl (ps : List SO) (T : List Int) (j : Nat) : Prop := ∀ p, ps[j]? = some p → 0 ≤ tg T j → ∃ es, succs p (tg T j) j ps.length = some es ∧ ∀ e ∈ es, tg T e.1 = e.2

theorem Cl.set {ps : List SO} {T : List Int} {j s : Nat} {v : Int} (h : Cl ps T j) (hne : j ≠ s) (hu : tg T s < 0) : Cl ps (T.set s v) j := by
  intro p hp hl
  rw [tg_set_ne (Ne.symm hne)] at *
  obtain ⟨es, h1, h2⟩ := h p hp hl
  refine ⟨es, h1, fun e he => ?_⟩
  have h3 := succs_ok h1 (lt_of_get hp) e he
  have h4 := h2 e he
  rw [tg_set_ne (fun e0 => by rw [e0] at hu; omega)]
  exact h4

structure IsDep (ps : List SO) (T : List Int) : Prop where
  small : ps.length ≤ 65536
  tab : Tab ps T
  good : Good ps (tg T)

def NoDep (ps : List SO) : Prop := 65536 < ps.length ∨ ¬ ∃ D, Good ps D

theorem IsDep.uniq {ps : List SO} {T T' : List Int} (h : IsDep ps T) (h' : IsDep ps T') : T = T' := by
  have key : ∀ i, tg T i = tg T' i := by
    intro i
    by_cases h1 : 0 ≤ tg T i
    · exact (h.tab.forced _ h'.good i h1).symm
    · by_cases h2 : 0 ≤ tg T' i
      · exact h'.tab.forced _ h.good i h2
      · have := h.tab.lo i; have := h'.tab.lo i; omega
  apply List.ext_getElem?
  intro i
  by_cases hi : i < T.length
  · rw [get_tg hi, get_tg (by have := h.tab.len; have := h'.tab.len; omega), key i]
  · rw [List.getElem?_eq_none (by omega), List.getElem?_eq_none (by have := h.tab.len; have := h'.tab.len; omega)]

theorem IsDep.no {ps : List SO} {T : List Int} (h : IsDep ps T) (h' : NoDep ps) : False := by
  rcases h' with h' | h'
  · have := h.small; omega
  · exact h' ⟨_, h.good⟩

theorem good_of {ps : List SO} {T : List Int} (h : Tab ps T) (hc : ∀ j, j < ps.length → Cl ps T j) : Good ps (tg T) :=
  ⟨h.zero, fun i p hp hl => hc i (lt_of_get hp) p hp hl⟩

/-! ### The greatest depth -/
def mx (T : List Int) : Int := T.foldl (fun m x => if m < x then x else m) 0

theorem foldl_mx (T : List Int) : ∀ m : Int, m ≤ T.foldl (fun m x => if m < x then x else m) m ∧ (∀ x ∈ T, x ≤ T.foldl (fun m x => if m < x then x else m) m) ∧
    (T.foldl (fun m x => if m < x then x else m) m = m ∨ T.foldl (fun m x => if m < x then x else m) m ∈ T) := by
  induction T with
  | nil => intro m; simp
  | cons x T ih =>
    intro m
    simp only [List.foldl_cons]
    obtain ⟨h1, h2, h3⟩ := ih (if m < x then x else m)
    have hm : m ≤ (if m < x then x else m) ∧ x ≤ (if m < x then x else m) := by split <;> omega
    refine ⟨by omega, ?_, ?_⟩
    · intro y hy
      rcases List.mem_cons.1 hy with rfl | hy
      · omega
      · exact h2 y hy
    · rcases h3 with h3 | h3
      · rw [h3]
        split
        · right; simp
        · left; rfl
      · right; exact List.mem_cons_of_mem _ h3

theorem mx_uniq {T : List Int} {m : Int} (h0 : 0 ≤ m) (h1 : ∀ x ∈ T, x ≤ m) (h2 : m = 0 ∨ m ∈ T) : m = mx T := by
  obtain ⟨k1, k2, k3⟩ := foldl_mx T 0
  unfold mx
  have a : m ≤ T.foldl (fun m x => if m < x then x else m) 0 := by
    rcases h2 with h2 | h2
    · omega
    · exact k2 m h2
  have b : T.foldl (fun m x => if m < x then x else m) 0 ≤ m := by
    rcases k3 with k3 | k3
    · omega
    · exact h1 _ k3
  omega

theorem mx_take {T : List Int} {k : Nat} {x : Int} (hx : T[k]? = some x) : mx (T.take (k + 1)) = if mx (T.take k) < x then x else mx (T.take k) := by
  unfold mx
  rw [take_at hx, List.foldl_append]; rfl

theorem mx_bound {ps : List SO} {T : List Int} (h : Tab ps T) (k : Nat) : 0 ≤ mx (T.take k) ∧ mx (T.take k) ≤ ps.length := by
  obtain ⟨k1, k2, k3⟩ := foldl_mx (T.take k) 0
  unfold mx
  refine ⟨k1, ?_⟩
  rcases k3 with k3 | k3
  · omega
  · have hm := List.mem_of_mem_take k3
    obtain ⟨i, hi, he⟩ := List.getElem_of_mem hm
    have := h.bound i
    rw [← he, ← tg_get (List.getElem?_eq_getElem hi)]
    exact this

/-! ### The sweeps of the model -/
/-- In the middle of a sweep: positions below i are through, or something has changed. -/
structure Swp (ps : List SO) (T : List Int) (pass i : Nat) (ch : Bool) : Prop where
  tab : Tab ps T
  quiet : ch = false → pass + 1 ≤ cnt T ∧ ∀ j, j < i → Cl ps T j
  loud : ch = true → pass + 2 ≤ cnt T

theorem Swp.skip {ps : List SO} {T : List Int} {pass i : Nat} {ch : Bool} (h : Swp ps T pass i ch) (hu : tg T i < 0) : Swp ps T pass (i + 1) ch :=
  ⟨h.tab, fun e => ⟨(h.quiet e).1, fun j hj => by
    by_cases hji : j = i
    · subst hji; intro p _ h0; omega
    · exact (h.quiet e).2 j (by omega)⟩, h.loud⟩

/-- .. and k of position i's edges have been looked at. -/
structure Swe (ps : List SO) (T : List Int) (pass i : Nat) (ch : Bool) (p : SO) (d : Int) (es : List (Nat × Int)) (k : Nat) : Prop where
  swp : Swp ps T pass i ch
  at_ : tg T i = d
  seen : ch = false → ∀ q e, q < k → es[q]? = some e → tg T e.1 = e.2

section
variable {ps : List SO} {T : List Int} {pass i : Nat} {ch : Bool} {p : SO} {d : Int} {es : List (Nat × Int)} {k : Nat} {e : Nat × Int}

theorem Swe.start (h : Swp ps T pass i ch) : Swe ps T pass i ch p (tg T i) es 0 := ⟨h, rfl, fun _ q e hq _ => absurd hq (Nat.not_lt_zero _)⟩

theorem Swe.set (h : Swe ps T pass i ch p d es k) (hp : ps[i]? = some p) (hd : 0 ≤ d) (hs : succs p d i ps.length = some es) (he : es[k]? = some e) (hu : tg T e.1 < 0) :
    Swe ps (T.set e.1 e.2) pass i true p d es (k + 1) := by
  obtain ⟨hw, ha, hse⟩ := h
  subst ha
  obtain ⟨ht, hc⟩ := hw.tab.set hp hd hs (mem_of_get he) hu
  refine ⟨⟨ht, (fun h => by cases h), fun _ => ?_⟩, ?_, (fun h => by cases h)⟩
  · rw [hc]
    cases ch with
    | false => have := (hw.quiet rfl).1; omega
    | true => have := hw.loud rfl; omega
  · rw [tg_set_ne (fun e0 => by rw [e0] at hu; omega)]

theorem Swe.same (h : Swe ps T pass i ch p d es k) (he : es[k]? = some e) (hq : tg T e.1 = e.2) : Swe ps T pass i ch p d es (k + 1) :=
  ⟨h.swp, h.at_, fun hc q e' hq' he' => by
    by_cases hk : q = k
    · subst hk; rw [he] at he'; cases he'; exact hq
    · exact h.seen hc q e' (by omega) he'⟩

theorem Swe.done (h : Swe ps T pass i ch p d es k) (hp : ps[i]? = some p) (hs : succs p d i ps.length = some es) (hk : k = es.length) : Swp ps T pass (i + 1) ch := by
  obtain ⟨hw, ha, hse⟩ := h
  subst ha hk
  refine ⟨hw.tab, fun e => ⟨(hw.quiet e).1, fun j hj => ?_⟩, hw.loud⟩
  by_cases hji : j = i
  · subst hji
    intro p' hp' _
    rw [hp] at hp'
    cases hp'
    refine ⟨es, hs, fun e' he' => ?_⟩
    obtain ⟨q, hq, rfl⟩ := List.getElem_of_mem he'
    exact hse e q _ hq (List.getElem?_eq_getElem hq)
  · exact (hw.quiet e).2 j (by omega)
end

theorem Swp.over {ps : List SO} {T : List Int} {pass i : Nat} (h : Swp ps T pass i true) : pass + 1 ≤ ps.length ∧ Swp ps T (pass + 1) 0 false := by
  have h1 := h.loud rfl
  have h2 := cnt_le T
  have h3 := h.tab.len
  exact ⟨by omega, h.tab, fun _ => ⟨by omega, fun j hj => absurd hj (Nat.not_lt_zero _)⟩, fun e => by cases e⟩

theorem Swp.isDep {ps : List SO} {T : List Int} {pass i : Nat} (h : Swp ps T pass i false) (hi : i = ps.length) (hs : ps.length ≤ 65536) : IsDep ps T :=
  ⟨hs, h.tab, good_of h.tab fun j hj => (h.quiet rfl).2 j (by omega)⟩

/-! ### The work list of the implementation -/
structure Wrk (ps : List SO) (T : List Int) (W : List Nat) (m : Int) : Prop where
  tab : Tab ps T
  work : ∀ x ∈ W, x ≤ ps.length ∧ 0 ≤ tg T x
  rest : ∀ j, 0 ≤ tg T j → j ∈ W ∨ (Cl ps T j ∧ tg T j ≤ m)
  m0 : 0 ≤ m
  mOf : m = 0 ∨ ∃ j, tg T j = m

theorem Wrk.start (ps : List SO) : Wrk ps ((List.replicate (ps.length + 1) (-1)).set 0 0) [0] 0 := by
  have ht := (Tab.start ps).1
  refine ⟨ht, fun x hx => ?_, fun j hj => ?_, by omega, .inl rfl⟩
  · simp at hx; subst hx; exact ⟨by omega, by rw [ht.zero]; omega⟩
  · rw [tg_replicate] at hj
    split at hj
    · left; simp [*]
    · omega

/-- A position i has been taken off, its depth is reckoned into m; k of its edges have been looked at. -/
structure Wre (ps : List SO) (T : List Int) (W : List Nat) (m : Int) (i : Nat) (d : Int) (es : List (Nat × Int)) (k : Nat) : Prop where
  tab : Tab ps T
  work : ∀ x ∈ W, x ≤ ps.length ∧ 0 ≤ tg T x
  rest : ∀ j, 0 ≤ tg T j → j ∈ W ∨ j = i ∨ (Cl ps T j ∧ tg T j ≤ m)
  m0 : 0 ≤ m
  mOf : m = 0 ∨ ∃ j, tg T j = m
  at_ : tg T i = d
  dm : d ≤ m
  seen : ∀ q e, q < k → es[q]? = some e → tg T e.1 = e.2

section
variable {ps : List SO} {T : List Int} {W : List Nat} {m : Int} {i : Nat} {d : Int} {p : SO} {es : List (Nat × Int)} {k : Nat} {e : Nat × Int}

theorem Wrk.take (h : Wrk ps T (W ++ [i]) m) (es : List (Nat × Int)) : Wre ps T W (if m < tg T i then tg T i else m) i (tg T i) es 0 := by
  have hm0 := h.m0
  refine ⟨h.tab, fun x hx => h.work x (by simp [hx]), fun j hj => ?_, by split <;> omega, ?_, rfl, by split <;> omega, fun q e hq _ => absurd hq (Nat.not_lt_zero _)⟩
  · rcases h.rest j hj with h1 | ⟨h1, h2⟩
    · rcases List.mem_append.1 h1 with h1 | h1
      · exact .inl h1
      · simp at h1; exact .inr (.inl h1)
    · exact .inr (.inr ⟨h1, by split <;> omega⟩)
  · split
    · exact .inr ⟨i, rfl⟩
    · exact h.mOf

theorem Wre.set (h : Wre ps T W m i d es k) (hp : ps[i]? = some p) (hd : 0 ≤ d) (hs : succs p d i ps.length = some es) (he : es[k]? = some e) (hu : tg T e.1 < 0) :
    Wre ps (T.set e.1 e.2) (W ++ [e.1]) m i d es (k + 1) ∧ cnt (T.set e.1 e.2) = cnt T + 1 := by
  have ha := h.at_
  subst ha
  obtain ⟨b1, b2, b3⟩ := succs_ok hs (lt_of_get hp) e (mem_of_get he)
  have hlen : e.1 < T.length := by have := h.tab.len; omega
  obtain ⟨ht, hc⟩ := h.tab.set hp hd hs (mem_of_get he) hu
  have far : ∀ j, 0 ≤ tg T j → e.1 ≠ j := fun j hj e0 => by rw [e0] at hu; omega
  refine ⟨⟨ht, fun x hx => ?_, fun j hj => ?_, h.m0, ?_, ?_, h.dm, fun q e' hq he' => ?_⟩, hc⟩
  · rcases List.mem_append.1 hx with hx | hx
    · have := h.work x hx; rw [tg_set_ne (far x this.2)]; exact this
    · simp at hx; subst hx; exact ⟨b1, by rw [tg_set_same hlen]; exact b2⟩
  · by_cases hje : e.1 = j
    · left; simp [hje]
    · rw [tg_set_ne hje] at *
      rcases h.rest j hj with h1 | h1 | ⟨h1, h2⟩
      · left; simp [h1]
      · exact .inr (.inl h1)
      · exact .inr (.inr ⟨h1.set (Ne.symm hje) hu, h2⟩)
  · rcases h.mOf with h1 | ⟨j, h1⟩
    · exact .inl h1
    · right
      refine ⟨j, ?_⟩
      have := h.m0
      rw [tg_set_ne (far j (by omega))]; exact h1
  · rw [tg_set_ne (far i hd)]
  · by_cases hk : q = k
    · subst hk; rw [he] at he'; cases he'; exact tg_set_same hlen _
    · have h1 := h.seen q e' (by omega) he'
      have h2 := succs_ok hs (lt_of_get hp) e' (mem_of_get he')
      rw [tg_set_ne (far e'.1 (by omega))]; exact h1

theorem Wre.same (h : Wre ps T W m i d es k) (he : es[k]? = some e) (hq : tg T e.1 = e.2) : Wre ps T W m i d es (k + 1) :=
  ⟨h.tab, h.work, h.rest, h.m0, h.mOf, h.at_, h.dm, fun q e' hq' he' => by
    by_cases hk : q = k
    · subst hk; rw [he] at he'; cases he'; exact hq
    · exact h.seen q e' (by omega) he'⟩

theorem Wre.done (h : Wre ps T W m i d es k) (hp : ps[i]? = some p) (hs : succs p d i ps.length = some es) (hk : k = es.length) : Wrk ps T W m := by
  have ha := h.at_
  subst ha hk
  refine ⟨h.tab, h.work, fun j hj => ?_, h.m0, h.mOf⟩
  rcases h.rest j hj with h1 | h1 | h1
  · exact .inl h1
  · subst h1
    refine .inr ⟨fun p' hp' _ => ?_, h.dm⟩
    rw [hp] at hp'
    cases hp'
    refine ⟨es, hs, fun e' he' => ?_⟩
    obtain ⟨q, hq, rfl⟩ := List.getElem_of_mem he'
    exact h.seen q _ hq (List.getElem?_eq_getElem hq)
  · exact .inr h1

/-- The end of the program: no operation there. -/
theorem Wre.end (h : Wre ps T W m ps.length d es 0) : Wrk ps T W m := by
  have ha := h.at_
  subst ha
  refine ⟨h.tab, h.work, fun j hj => ?_, h.m0, h.mOf⟩
  rcases h.rest j hj with h1 | h1 | h1
  · exact .inl h1
  · subst h1
    exact .inr ⟨fun p' hp' _ => by have := lt_of_get hp'; omega, h.dm⟩
  · exact .inr h1

theorem Wrk.isDep (h : Wrk ps T [] m) (hs : ps.length ≤ 65536) : IsDep ps T ∧ m = mx T := by
  have hcl : ∀ j, 0 ≤ tg T j → Cl ps T j ∧ tg T j ≤ m := fun j hj => by
    rcases h.rest j hj with h1 | h1
    · simp at h1
    · exact h1
  refine ⟨⟨hs, h.tab, good_of h.tab fun j _ p hp h0 => (hcl j h0).1 p hp h0⟩, mx_uniq h.m0 (fun x hx => ?_) ?_⟩
  · obtain ⟨i, hi, rfl⟩ := List.getElem_of_mem hx
    rw [← tg_get (List.getElem?_eq_getElem hi)]
    by_cases h0 : 0 ≤ tg T i
    · exact (hcl i h0).2
    · have := h.m0; omega
  · rcases h.mOf with h1 | ⟨j, h1⟩
    · exact .inl h1
    · right
      have hj := h.tab.lt (j := j) (by have := h.m0; omega)
      rw [← h1]
      exact mem_of_get (get_tg (by have := h.tab.len; omega))
end

end Go.Proofs.Yahaaw
