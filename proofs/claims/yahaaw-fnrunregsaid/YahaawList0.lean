/-
  DERIVED. The listing's text, plain; what an append keeps.
-/
import Derived.Test.YahaawText2
import Derived.Test.YahaawApp
namespace Go.Proofs.Yahaaw
open Go.RowKit
set_option linter.unusedVariables false
set_option linter.unusedSimpArgs false

theorem Grow.row {w : World} {B : Nat} {e : TypeId} {size : Nat} {v : Value} {n : Nat} {xs : List Value} (h : Grow w B e size v n xs) : ∀ k, v.ownBlock = some k → B ≤ k ∧ k < w.heap.size := by
  intro k hk
  obtain ⟨_, h⟩ := h
  rcases h with ⟨rfl, _⟩ | ⟨g, cap, rest, rfl, hB, _, _, hb⟩
  · simp [Value.ownBlock] at hk
  · simp [Value.ownBlock] at hk; subst hk; exact ⟨hB, hb.lt⟩

theorem Grow.keep {w w' : World} {B : Nat} {e : TypeId} {size : Nat} {v v' : Value} {n : Nat} {xs : List Value} (h : Grow w B e size v n xs) {w0 : World} (hb : Below B w0 w) (hg : w.grownBy w' v.ownBlock) (hB : B ≤ w.heap.size) : Below B w0 w' :=
  hb.grown hg hB fun k hk => (h.row k hk).1

theorem blk_grown {w w' : World} {v v' : Value} {N : Nat} {cs : List Value} {t : TypeId} (hk : Blk w N cs t) (hne : v.ownBlock ≠ some N) (hg : w.grownBy w' v.ownBlock) (hat : v'.ownBlock = v.ownBlock ∨ v'.ownBlock = some w.heap.size) :
    Blk w' N cs t ∧ v'.ownBlock ≠ some N := by
  have hl := hk.lt
  refine ⟨?_, ?_⟩
  · unfold Blk at *
    rw [hg.block N hl (fun e => hne e.symm)]; exact hk
  · rcases hat with h | h <;> rw [h]
    · exact hne
    · intro e; simp at e; omega

/-- The cells of the listing, from number i on. -/
def lstCells (i : Nat) : List RO → List Value
  | [] => []
  | x :: ps => (byteCells (decS i) ++ byteCells ⟨#[58, 32]⟩ ++ byteCells (lineS x) ++ [.int .u8 10]) ++ lstCells (i + 1) ps

theorem lstCells_app (i : Nat) (ps qs : List RO) : lstCells i (ps ++ qs) = lstCells i ps ++ lstCells (i + ps.length) qs := by
  induction ps generalizing i with
  | nil => simp [lstCells]
  | cons x ps ih => simp [lstCells, ih, Nat.add_assoc, Nat.add_comm 1]

theorem lstCells_take {ps : List RO} {k : Nat} {x : RO} (hx : ps[k]? = some x) :
    lstCells 0 (ps.take (k + 1)) = lstCells 0 (ps.take k) ++ byteCells (decS k) ++ byteCells ⟨#[58, 32]⟩ ++ byteCells (lineS x) ++ [.int .u8 10] := by
  have hk := lt_of_get hx
  rw [take_at hx, lstCells_app, List.length_take, Nat.min_eq_left (by omega)]
  simp [lstCells]

def lstS (ps : List RO) : ByteArray := strOfNums ((lstCells 0 ps).map intOf)

theorem byteCells_nums (s : ByteArray) : byteCells s = u8Cells ((byteCells s).map intOf) := by
  unfold byteCells u8Cells
  rw [List.map_map, List.map_map]
  apply List.map_congr_left
  intro b _
  rfl

theorem lstCells_nums (i : Nat) (ps : List RO) : lstCells i ps = u8Cells ((lstCells i ps).map intOf) := by
  induction ps generalizing i with
  | nil => rfl
  | cons x ps ih =>
    simp only [lstCells, List.map_append, u8Cells] at *
    rw [← ih]
    have h1 := byteCells_nums (decS i)
    have h2 := byteCells_nums ⟨#[58, 32]⟩
    have h3 := byteCells_nums (lineS x)
    simp only [u8Cells] at h1 h2 h3
    rw [← h1, ← h2, ← h3]
    rfl

theorem ite_le {c : Prop} [Decidable c] {a b : ByteArray} (ha : a.size ≤ 100) (hb : b.size ≤ 100) : (if c then a else b).size ≤ 100 := by split <;> assumption

theorem lineS_size (x : RO) : (lineS x).size ≤ 100 := by
  have h1 := regS_size x.r
  have h2 := regS_size x.a
  have h3 := regS_size x.b
  have h4 := decS_size x.k
  have h5 := decS_size x.a
  have h6 := decS_size x.op
  have l0 : (⟨#[32, 61, 32]⟩ : ByteArray).size = 3 := rfl
  have l1 : (⟨#[32, 61, 32, 97, 114, 103, 32]⟩ : ByteArray).size = 7 := rfl
  have l2 : (⟨#[32, 43, 32]⟩ : ByteArray).size = 3 := rfl
  have l3 : (⟨#[32, 45, 32]⟩ : ByteArray).size = 3 := rfl
  have l4 : (⟨#[32, 42, 32]⟩ : ByteArray).size = 3 := rfl
  have l5 : (⟨#[115, 119, 97, 112, 32]⟩ : ByteArray).size = 5 := rfl
  have l6 : (⟨#[32]⟩ : ByteArray).size = 1 := rfl
  have l7 : (⟨#[110, 111, 112]⟩ : ByteArray).size = 3 := rfl
  have l8 : (⟨#[106, 109, 112, 32]⟩ : ByteArray).size = 4 := rfl
  have l9 : (⟨#[106, 122, 32]⟩ : ByteArray).size = 3 := rfl
  have l10 : (⟨#[104, 97, 108, 116, 32]⟩ : ByteArray).size = 5 := rfl
  have l11 : (⟨#[98, 97, 100, 32]⟩ : ByteArray).size = 4 := rfl
  unfold lineS
  refine ite_le ?_ (ite_le ?_ (ite_le ?_ (ite_le ?_ (ite_le ?_ (ite_le ?_ (ite_le ?_ (ite_le ?_ (ite_le ?_ (ite_le ?_ (ite_le ?_ ?_))))))))))
  all_goals ((try simp only [ByteArray.size_append]); omega)

theorem byteCells_len2 : (byteCells ⟨#[58, 32]⟩).length = 2 := by rfl

theorem lstCells_len (i : Nat) (ps : List RO) : (lstCells i ps).length ≤ ps.length * 129 := by
  induction ps generalizing i with
  | nil => simp [lstCells]
  | cons x ps ih =>
    have h0 := ih (i + 1)
    have h1 := decS_size i
    have h2 := lineS_size x
    have h3 := byteCells_length (decS i)
    have h4 := byteCells_length (lineS x)
    have h5 := byteCells_len2
    simp only [lstCells, List.length_append, List.length_cons, List.length_nil]
    omega

/-- string(buf). -/
theorem Grow.toStr {w : World} {B : Nat} {v : Value} {n : Nat} {xs : List Value} (h : Grow w B 5 1 v n xs) {zs : List Int} (hz : xs = u8Cells zs) : (convert 22 9 v).run Yaav.prog w = .ok (.string (strOfNums zs)) w := by
  obtain ⟨hl, h⟩ := h
  subst hz
  rw [u8Cells_len, Nat.mul_one] at hl
  rcases h with ⟨rfl, rfl⟩ | ⟨g, cap, rest, rfl, hB, hc, hr, hb⟩
  · have : zs = [] := List.length_eq_zero_iff.1 hl
    subst this
    exact run_convert_bytes_nil w 22 5 Yaav.underlying22 Yaav.underlying5 0 0 9 Yaav.underlying9
  · refine run_convert_bytes_arg w 22 5 Yaav.underlying22 Yaav.underlying5 g 0 n cap zs hl (fun i hi => ?_) 9 Yaav.underlying9
    rw [hb.cell, Nat.zero_add, List.getElem?_append_left (by rw [u8Cells_len]; omega), u8Cells_get (List.getElem?_eq_getElem (by omega))]
    simp [show i < zs.length by omega]

end Go.Proofs.Yahaaw
