/-
  DERIVED. A region that draws its order, whose operations read and whose callees make new memory but turn nothing old: ONE walk, in the text's order. 'later w x': any world that is as w below w's size. (Deep/Quiet's theorem, at 'Below'.)
-/
import Derived.Test.YahaawFlip
namespace Go.Proofs.Yahaaw
open Go.RowKit

/-- A world that is as w was, with x's blocks behind and x's count of draws. -/
def later (w x : World) : World := { w with heap := w.heap ++ x.heap, drawn := x.drawn }

theorem later_below (w x : World) : Below w.heap.size w (later w x) :=
  ⟨rfl, rfl, rfl, by simp [later], fun k hk => by simp only [later]; rw [Array.getElem?_append_left hk]⟩

theorem later_mk {w w' : World} (h : Below w.heap.size w w') : ∃ x, w' = later w x := by
  refine ⟨{ w with heap := w'.heap.extract w.heap.size w'.heap.size, drawn := w'.drawn }, ?_⟩
  obtain ⟨h1, h2, h3, h4, h5⟩ := h
  have e : w.heap ++ w'.heap.extract w.heap.size w'.heap.size = w'.heap := by
    apply Array.ext_getElem?
    intro i
    by_cases hi : i < w.heap.size
    · rw [Array.getElem?_append_left hi, h5 i hi]
    · rw [Array.getElem?_append_right (by omega), Array.getElem?_extract]
      by_cases hj : i < w'.heap.size
      · rw [if_pos (by omega)]; congr 1; omega
      · rw [if_neg (by omega), Array.getElem?_eq_none (by omega)]
  unfold later
  simp only [e]
  cases w'
  simp at h1 h2 h3
  subst h1 h2 h3
  rfl

theorem later_cell {w : World} {p : Addr} {v : Value} (h : w.cell? p = some v) (hp : p.block < w.heap.size) (x : World) : (later w x).cell? p = some v := by rw [(later_below w x).cell hp]; exact h

theorem wp_region_later {P : Program} {id : Nat} {Q : Exit → Act → World → Prop} {a : Act} {w : World} {l : List Oper} (hm : P.follows .mixedOrders = true) (hB : Region.lexB .any l.toArray = true)
    (h : wpQuiet P l.toArray (fun w' => ∃ x, w' = later w x) (fun a' => ∀ w', (∃ x, w' = later w x) → Q .normal a' w') l a) : (Code.region id l.toArray true).wp P Q a w :=
  wp_region_quiet (C := fun w' => ∃ x, w' = later w x) hm hB (later_mk (Below.refl _ _).drew) (by simpa using h)

theorem later_of {P : Program} {f : FuncId} {args : Array Value} {w x : World} {v : Value}
    (h : Calls P f args (later w x) fun e w' => e = .returned v ∧ Below (later w x).heap.size (later w x) w') : Calls P f args (later w x) fun e w'' => e = .returned v ∧ ∃ y, w'' = later w y :=
  h.mono fun _ _ ⟨he, hm⟩ => ⟨he, later_mk (Below.both (later_below w x) hm)⟩

end Go.Proofs.Yahaaw
