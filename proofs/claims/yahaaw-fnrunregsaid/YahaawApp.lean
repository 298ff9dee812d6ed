/-
  DERIVED. append onto a slice of the call's own: 'Grow w B e size v n xs': the slice value v (n elements of type e, 'size' cells each) is nil, or the head of a block of its own (from B on) that holds xs and some room behind.
-/
import Derived.Test.YahaawFlip
import Derived.Deep.AppendSrc
namespace Go.Proofs.Yahaaw
open Go.RowKit

def Grow (w : World) (B : Nat) (e : TypeId) (size : Nat) (v : Value) (n : Nat) (xs : List Value) : Prop :=
  xs.length = n * size ∧ ((v = .slice none 0 0 ∧ n = 0) ∨
    ∃ g cap rest, v = .slice (some ⟨g, 0, none⟩) n cap ∧ B ≤ g ∧ n ≤ cap ∧ rest.length = (cap - n) * size ∧ Blk w g (xs ++ rest) e)

theorem Grow.nil (w : World) (B : Nat) (e : TypeId) (size : Nat) : Grow w B e size (.slice none 0 0) 0 [] := ⟨by simp, .inl ⟨rfl, rfl⟩⟩

theorem Grow.made (w : World) (B : Nat) (e : TypeId) (size c : Nat) (z : Array Value) (hB : B ≤ w.heap.size) (hz : z.toList.length = c * size) : Grow (w.alloc (.cells z e)) B e size (.slice (some ⟨w.heap.size, 0, none⟩) 0 c) 0 [] :=
  ⟨by simp, .inr ⟨w.heap.size, c, z.toList, rfl, hB, Nat.zero_le _, by simpa using hz, by simpa using Blk.new' w z e⟩⟩

theorem Grow.shape {w : World} {B : Nat} {e : TypeId} {size : Nat} {v : Value} {n : Nat} {xs : List Value} (h : Grow w B e size v n xs) : ∃ a cap, v = .slice a n cap ∧ Seg w a xs ∧ n ≤ cap := by
  obtain ⟨hl, h⟩ := h
  rcases h with ⟨rfl, rfl⟩ | ⟨g, cap, rest, rfl, hB, hc, hr, hb⟩
  · exact ⟨none, 0, rfl, .inl (List.length_eq_zero_iff.1 (by omega)), Nat.le_refl _⟩
  · exact ⟨_, cap, rfl, .inr ⟨g, 0, rfl, hb.lt, fun i hi => by rw [Nat.zero_add, hb.cell, List.getElem?_append_left hi]⟩, hc⟩

theorem Grow.below {w w' : World} {B : Nat} {e : TypeId} {size : Nat} {v : Value} {n : Nat} {xs : List Value} (h : Grow w B e size v n xs) (hb : Below w.heap.size w w') : Grow w' B e size v n xs := by
  obtain ⟨hl, h⟩ := h
  refine ⟨hl, ?_⟩
  rcases h with h | ⟨g, cap, rest, hv, hB, hc, hr, hk⟩
  · exact .inl h
  · exact .inr ⟨g, cap, rest, hv, hB, hc, hr, hk.below hb hk.lt⟩

theorem Grow.alloc {w : World} {B : Nat} {e : TypeId} {size : Nat} {v : Value} {n : Nat} {xs : List Value} (h : Grow w B e size v n xs) (o : Obj) : Grow (w.alloc o) B e size v n xs :=
  h.below ((Below.refl _ _).alloc (Nat.le_refl _) o)

theorem Grow.drew {w : World} {B : Nat} {e : TypeId} {size : Nat} {v : Value} {n : Nat} {xs : List Value} (h : Grow w B e size v n xs) : Grow w.drew B e size v n xs := h

theorem Blk.setCells {w : World} {g : Nat} {t : TypeId} (news : List Value) {pre rest : List Value} (h : Blk w g (pre ++ rest) t) (hr : news.length ≤ rest.length) {m : Nat} (hm : m = pre.length) :
    Blk (w.setCells g m news) g (pre ++ news ++ rest.drop news.length) t := by
  induction news generalizing w pre rest m with
  | nil => simpa [World.setCells] using h
  | cons v vs ih =>
    simp only [World.setCells]
    have h1 := h.fill1 hm (by simp at hr; omega) v
    have := ih h1 (by simp at hr ⊢; omega) (m := m + 1) (by simp [hm])
    simpa [Nat.add_comm] using this

theorem tape_setCells (b : Nat) : ∀ (vs : List Value) (o : Nat) (w : World), (w.setCells b o vs).tape = w.tape ∧ (w.setCells b o vs).os = w.os ∧ (w.setCells b o vs).output = w.output ∧ (w.setCells b o vs).heap.size = w.heap.size ∧ ∀ k, k ≠ b → (w.setCells b o vs).heap[k]? = w.heap[k]?
  | [], _, _ => ⟨rfl, rfl, rfl, rfl, fun _ _ => rfl⟩
  | v :: r, o, w => by
    obtain ⟨h1, h2, h3, h4, h5⟩ := tape_setCells b r (o + 1) (w.setCell ⟨b, o, none⟩ v)
    refine ⟨h1, h2, h3, ?_, fun k hk => ?_⟩
    · simp only [World.setCells]; rw [h4]; simp [World.setCell]
    · simp only [World.setCells]; rw [h5 k hk, Below.heap_setCell _ _ _ _ hk]

theorem app_run {t tx ty e : TypeId} {z : Value} {size bytes : Nat} (hu : Yaav.prog.underlying t = some (.slice e)) (hin : (Yaav.prog.info? e).map (fun i => (i.zero, i.size, i.bytes)) = some (some z, size, bytes))
    (hzs : z.cells.size = size) {w : World} {B : Nat} {v : Value} {n : Nat} {xs : List Value} {x : Value} {m : Nat} {news : List Value} (hg : Grow w B e size v n xs) (hs : Src Yaav.prog size tx x m news w)
    (hb : (n + m) * bytes ≤ 140737488355328) (hn : n + m ≤ 9223372036854775807) (hB : B ≤ w.heap.size) :
    ∃ v' w', (Builtin.append_ #[t, tx] ty #[v, x]).run Yaav.prog w = .ok v' w' ∧ Grow w' B e size v' (n + m) (xs ++ news) ∧ w.grownBy w' v.ownBlock ∧ (v'.ownBlock = v.ownBlock ∨ v'.ownBlock = some w.heap.size) := by
  obtain ⟨i, hi, hz0, hz1, hz2⟩ := info_parts hin
  subst hz1
  obtain ⟨hl, hg⟩ := hg
  have hnl := hs.newsLen
  have hlen : (xs ++ news).length = (n + m) * i.size := by rw [List.length_append, hl, hnl, Nat.add_mul]
  -- the arm that grows
  have grow : ∀ (base : Option Addr) (cap : Nat), cap < n + m → v = .slice base n cap →
      (Builtin.firstCells i.size n (.slice base n cap)).run Yaav.prog w.drew = .ok xs.toArray w.drew →
      ∃ v' w', (Builtin.append_ #[t, tx] ty #[v, x]).run Yaav.prog w = .ok v' w' ∧ Grow w' B e i.size v' (n + m) (xs ++ news) ∧ w.grownBy w' v.ownBlock ∧ (v'.ownBlock = v.ownBlock ∨ v'.ownBlock = some w.heap.size) := by
    intro base cap hc hv hold
    subst hv
    have hr := run_append_grow_src (P := Yaav.prog) w t tx ty e i z hu hi hz0 base n cap xs hold x m news hs hc (by omega) (by rw [hz2]; exact growslice_fits hc hb)
    have hge := grownCap_ge w (n + m) cap e
    refine ⟨_, _, hr, ⟨hlen, .inr ⟨w.heap.size, _, (Builtin.zeroCells z.cells (grownCap w (n + m) cap e - (n + m))).toList, rfl, hB, hge, ?_, ?_⟩⟩, ⟨rfl, rfl, rfl, by simp, fun k hk _ => Below.heap_alloc w.drew _ k hk⟩, .inr rfl⟩
    · rw [Array.length_toList, size_zeroCells, hzs]
    · have := Blk.new' w.drew ((xs ++ news).toArray ++ Builtin.zeroCells z.cells (grownCap w (n + m) cap e - (n + m))) e
      simpa using this
  rcases hg with ⟨rfl, rfl⟩ | ⟨g, cap, rest, rfl, hBg, hc, hr, hk⟩
  · have hx : xs = [] := List.length_eq_zero_iff.1 (by omega)
    subst hx
    by_cases hm : m = 0
    · subst hm
      have hn0 : news = [] := List.length_eq_zero_iff.1 (by omega)
      subst hn0
      refine ⟨.slice none 0 0, w, ?_, Grow.nil _ _ _ _, grown_refl _ _, .inl rfl⟩
      rcases hs.kind with ⟨e', hk⟩ | hk <;> simp [Builtin.append_, run_underlying hu, run_underlying hk, sizeOf, typeInfo, hi, hs.len, hs.cells]
    · exact grow none 0 (by omega) rfl (run_firstCells_none w.drew _ _ _ _)
  · by_cases hroom : n + m ≤ cap
    · have hrl : news.length ≤ rest.length := by rw [hnl, hr]; exact Nat.mul_le_mul_right _ (by omega)
      have hbig : ∀ j, j < news.length → n * i.size + j < (xs ++ rest).length := fun j hj => by rw [List.length_append, hl]; omega
      have hrun := run_append_room_src (P := Yaav.prog) w t tx ty e i hu hi g 0 n cap x m news hs hroom
        (fun j hj => by rw [hk.cell, Nat.zero_add]; rw [List.getElem?_eq_getElem (hbig j hj)]; rfl) (fun j _ => hk.frozen _)
      rw [Nat.zero_add] at hrun
      obtain ⟨t1, t2, t3, t4, t5⟩ := tape_setCells g news (n * i.size) w
      refine ⟨_, _, hrun, ⟨hlen, .inr ⟨g, cap, rest.drop news.length, rfl, hBg, hroom, ?_, hk.setCells news hrl hl.symm⟩⟩, ⟨t2, t1, t3, by omega, fun k _ hne => t5 k (fun e => hne (by subst e; rfl))⟩, .inl rfl⟩
      rw [List.length_drop, hr, hnl, ← Nat.sub_mul, show cap - (n + m) = cap - n - m by omega]
    · refine grow (some ⟨g, 0, none⟩) cap (by omega) rfl ?_
      exact run_firstCells_some w.drew i.size n ⟨g, 0, none⟩ n cap xs hl (fun j u hj => by
        have hadd : (⟨g, 0, none⟩ : Addr).add j = ⟨g, j, none⟩ := by unfold Addr.add; split <;> simp_all
        rw [hadd]
        show w.cell? _ = _
        rw [hk.cell, List.getElem?_append_left (lt_of_get hj)]; exact hj)

/-- At the list of a plain region's operations. -/
theorem wpList_app {t tx e : TypeId} {z : Value} {size bytes : Nat} (hu : Yaav.prog.underlying t = some (.slice e)) (hin : (Yaav.prog.info? e).map (fun i => (i.zero, i.size, i.bytes)) = some (some z, size, bytes))
    (hzs : z.cells.size = size) {w : World} {ops : Array Oper} {rest : List Oper} {o : Oper} {a : Act} {Q : Exit → Act → World → Prop} (hgd : o.guard = none) (s xo : Operand)
    (ho : o.op = .call { callee := .builtin .append, args := #[s, xo], argTypes := #[t, tx] })
    {B : Nat} {v : Value} {n : Nat} {xs : List Value} {x : Value} {m : Nat} {news : List Value} (hv : a.eval s = v) (hx : a.eval xo = x) (hg : Grow w B e size v n xs) (hs : Src Yaav.prog size tx x m news w)
    (hb : (n + m) * bytes ≤ 140737488355328) (hn : n + m ≤ 9223372036854775807) (hB : B ≤ w.heap.size)
    (h : ∀ v' w', Grow w' B e size v' (n + m) (xs ++ news) → w.grownBy w' v.ownBlock → (v'.ownBlock = v.ownBlock ∨ v'.ownBlock = some w.heap.size) → wpList Yaav.prog ops Q rest (a.put o.dst v') w') : wpList Yaav.prog ops Q (o :: rest) a w :=
  wpList_plain hgd fun _ hK => by
    obtain ⟨v', w', hr, h2, h3, h4⟩ := app_run (ty := o.type) hu hin hzs hg hs hb hn hB
    unfold Oper.wp execOp
    simp only [ho, resolve, invoke, builtin, Sem.run_bind, Sem.run_pure, Result.andThen_ok, List.map_toArray, List.map_cons, List.map_nil, hv, hx, hr]
    exact hK _ _ (h v' w' h2 h3 h4)

end Go.Proofs.Yahaaw
