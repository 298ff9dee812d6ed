/-
  DERIVED. regField (66); append of a register operation; the translated program is well formed.
-/
import Derived.Test.YahaawDecode
import Derived.Test.YahaawTrS
namespace Go.Proofs.Yahaaw
open Go.RowKit
set_option linter.unusedVariables false
set_option linter.unusedSimpArgs false

set_option maxRecDepth 100000 in
set_option maxHeartbeats 1000000 in
theorem regField_any (x : Nat) (z : Int) (w : World) (hx : x < 256) (hz : InR z) :
    Calls Yaav.prog 66 #[.int .u8 x, .int .i64 z] w fun e w' => ∃ v : Int, -1 ≤ v ∧ v ≤ 255 ∧ e = .returned (.int .i64 v) ∧ w' = w := by
  obtain ⟨hz1, hz2⟩ := hz
  by_cases h0 : 0 ≤ z
  · by_cases h1 : z < 200
    · have hm : (0 : Int) ≤ (x : Int) % (z + 2) ∧ (x : Int) % (z + 2) < z + 2 := ⟨Int.emod_nonneg _ (by omega), Int.emod_lt_of_pos _ (by omega)⟩
      go_enter Yaav.func66, Yaav.ntmps66
      go_wp2
      go_ret
      exact ⟨_, by omega, by omega, rfl, rfl⟩
    · go_enter Yaav.func66, Yaav.ntmps66
      go_wp2
      go_ret
      exact ⟨_, by omega, by omega, rfl, rfl⟩
  · go_enter Yaav.func66, Yaav.ntmps66
    go_wp2
    go_ret
    exact ⟨_, by omega, by omega, rfl, rfl⟩

/-- append of one register operation, new in memory. -/
theorem wpApp_r {B : Nat} {w : World} {ops : Array Oper} {rest : List Oper} {o : Oper} {act : Act} {Q : Exit → Act → World → Prop} (hgd : o.guard = none) (s xo : Operand)
    (ho : o.op = .call { callee := .builtin .append, args := #[s, xo], argTypes := #[32, 32] }) {ao : Option Addr} {n co : Nat} {xs : List Value} {c0 c1 c2 c3 c4 : Int} {M : Nat} (hM : M = w.heap.size) (hv : act.eval s = .slice ao n co) (hx : act.eval xo = .slice (some ⟨M, 0, none⟩) 1 1)
    (hg : Grow w B 81 5 (.slice ao n co) n xs) (hn : n ≤ 1073741824) (hB : B ≤ w.heap.size)
    (h : ∀ v' w', Grow w' B 81 5 v' (n + 1) (xs ++ [.int .i64 c0, .int .i64 c1, .int .i64 c2, .int .i64 c3, .int .i64 c4]) → (w.alloc (.cells #[.int .i64 c0, .int .i64 c1, .int .i64 c2, .int .i64 c3, .int .i64 c4] 81)).grownBy w' (Value.slice ao n co).ownBlock → wpList Yaav.prog ops Q rest (act.put o.dst v') w') :
    wpList Yaav.prog ops Q (o :: rest) act (w.alloc (.cells #[.int .i64 c0, .int .i64 c1, .int .i64 c2, .int .i64 c3, .int .i64 c4] 81)) := by
  subst hM
  exact wpList_app Yaav.underlying32 Yaav.info81 rfl hgd s xo ho (v := .slice ao n co) (n := n) (xs := xs) hv hx (hg.alloc _)
    (Src.ofSlice _ Yaav.underlying32 ⟨w.heap.size, 0, none⟩ 1 1 [.int .i64 c0, .int .i64 c1, .int .i64 c2, .int .i64 c3, .int .i64 c4] rfl (by have := news2 w [.int .i64 c0, .int .i64 c1, .int .i64 c2, .int .i64 c3, .int .i64 c4] 81; simpa using this) (by intro u hu; simp at hu; rcases hu with rfl | rfl | rfl | rfl | rfl <;> rfl)) (by omega) (by omega) (by simp; omega)
    fun v' w' h1 h2 _ => h v' w' h1 h2

def RW (q : RO) : Prop := InR q.op ∧ InR q.r ∧ InR q.a ∧ InR q.b ∧ InR q.k
theorem rw_mk {o r a b k : Int} (h : (-1000 ≤ o ∧ o ≤ 1000) ∧ (-1000 ≤ r ∧ r ≤ 1073741824) ∧ (-1000 ≤ a ∧ a ≤ 1073741824) ∧ (-1000 ≤ b ∧ b ≤ 1073741824)) (hk : InR k) : RW ⟨o, r, a, b, k⟩ := by
  obtain ⟨h1, h2, h3, h4⟩ := h
  exact ⟨⟨by simp only; omega, by simp only; omega⟩, ⟨by simp only; omega, by simp only; omega⟩, ⟨by simp only; omega, by simp only; omega⟩, ⟨by simp only; omega, by simp only; omega⟩, hk⟩

theorem regFor_wf {p : SO} {d : Int} (hp : InR p.c ∧ InR p.a) (hd : d ≤ 1073741824) : RW (regFor p d) := by
  have h0 : InR 0 := ⟨by omega, by omega⟩
  unfold regFor
  by_cases h : d < 0
  · rw [if_pos h]; exact rw_mk (by omega) h0
  rw [if_neg h]
  by_cases e0 : p.c = 0
  · rw [if_pos e0]; exact rw_mk (by omega) hp.2
  rw [if_neg e0]
  by_cases e1 : p.c = 1
  · rw [if_pos e1]; exact rw_mk (by omega) hp.2
  rw [if_neg e1]
  by_cases e2 : p.c = 2
  · rw [if_pos e2]; exact rw_mk (by omega) h0
  rw [if_neg e2]
  by_cases e3 : p.c = 3
  · rw [if_pos e3]; exact rw_mk (by omega) h0
  rw [if_neg e3]
  by_cases e4 : p.c = 4
  · rw [if_pos e4]; exact rw_mk (by omega) h0
  rw [if_neg e4]
  by_cases e5 : p.c = 5
  · rw [if_pos e5]; exact rw_mk (by omega) h0
  rw [if_neg e5]
  by_cases e6 : p.c = 6
  · rw [if_pos e6]; exact rw_mk (by omega) h0
  rw [if_neg e6]
  by_cases e8 : p.c = 8
  · rw [if_pos e8]; exact rw_mk (by omega) h0
  rw [if_neg e8]
  by_cases e9 : p.c = 9
  · rw [if_pos e9]; exact rw_mk (by omega) hp.2
  rw [if_neg e9]
  by_cases e10 : p.c = 10
  · rw [if_pos e10]; exact rw_mk (by omega) hp.2
  rw [if_neg e10]
  by_cases e11 : p.c = 11
  · rw [if_pos e11]; exact rw_mk (by omega) h0
  rw [if_neg e11]
  exact rw_mk (by omega) h0

theorem trL_wf {T : List Int} {i : Nat} {ps : List SO} (hw : WfS ps) (hT : ∀ j, tg T j ≤ 1073741824) : WfR (trL T i ps) := by
  induction ps generalizing i with
  | nil => intro p hp; cases hp
  | cons q ps ih =>
    intro p hp
    rw [trL] at hp
    rcases List.mem_cons.1 hp with rfl | hp
    · exact regFor_wf (hw q List.mem_cons_self) (hT i)
    · exact ih (fun x hx => hw x (List.mem_cons_of_mem _ hx)) p hp

theorem trans_wf {T : List Int} {ps : List SO} (hw : WfS ps) (hT : ∀ j, tg T j ≤ 1073741824) : WfR (trans ps T) := by
  intro p hp
  unfold trans at hp
  rcases List.mem_append.1 hp with hp | hp
  · exact trL_wf hw hT p hp
  · simp at hp
    subst hp
    have := hT ps.length
    unfold lastR
    by_cases h : 0 ≤ tg T ps.length
    · rw [if_pos h]; exact rw_mk (by omega) ⟨by omega, by omega⟩
    · rw [if_neg h]; exact rw_mk (by omega) ⟨by omega, by omega⟩

theorem TrIs.wf {ps : List SO} {ops : List RO} {d : Int} {ok : Bool} (h : TrIs ps ops d ok) (hw : WfS ps) (hl : ps.length ≤ 8388608) : WfR ops ∧ 0 ≤ d ∧ d ≤ 65536 ∧ ops.length ≤ ps.length + 1 := by
  rcases h with ⟨T, hT, rfl, rfl, _⟩ | ⟨_, rfl, rfl, _⟩
  · have hb := hT.tab.bound
    have hm := mx_bound hT.tab T.length
    rw [List.take_length] at hm
    have hs := hT.small
    exact ⟨trans_wf hw (fun j => by have := hb j; omega), by omega, by omega, by rw [trans_len]; exact Nat.le_refl _⟩
  · exact ⟨(fun p hp => by cases hp), by omega, by omega, by simp⟩

end Go.Proofs.Yahaaw
