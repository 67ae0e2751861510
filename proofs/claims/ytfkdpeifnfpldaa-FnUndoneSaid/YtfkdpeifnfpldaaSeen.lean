/- A set of numbers that a call itself keeps in a map[int]bool. -/
import Derived.Test.YtfkdpeifnfpldaaOwn2
import Derived.Test.YtfkdpeifnfpldaaOrphB
import Derived.Maps.OwnSet
namespace Go.Proofs.Ytfkdpeifnfpldaa
open Go.RowKit Go.Cm Go.Maps

/-- block b is a map[int]bool of at most n entries that holds true at the numbers of L -/
def Seen (w : World) (b n : Nat) (L : List Nat) : Prop := ∃ D : DataW Unit, w.ownsMap Try.prog 3 (plainElem Try.prog 4) b n D ∧ ∀ T : Nat, D.atKey (.int .i64 T) (.lit (.bool false)) = .lit (.bool (decide (T ∈ L)))
theorem Seen.made (w : World) : Seen (w.alloc (.map #[] 0)) w.heap.size 0 [] := ⟨_, World.ownsMap_made _ _ _ _, fun T => by simp [DataW.atKey]⟩
theorem Seen.look {w : World} {b n : Nat} {L : List Nat} (h : Seen w b n L) {T : Nat} (hT : T < 512) : (Instr.lookup 87 (.map (some b)) (.int .i64 T) false).run Try.prog w = .ok (.bool (decide (T ∈ L))) w := by
  obtain ⟨D, hD, hat⟩ := h
  have hwf : (Lit.int .i64 (T : Int)).wf = true := by simp [Lit.wf, IntKind.min, IntKind.max, IntKind.signed, IntKind.bits]; omega
  obtain ⟨v, ps, hrun, hv⟩ := hD.lookup (t := 87) (e := 4) (int_keyed (q := .i64) (by kernel_rfl)) (by kernel_rfl) (z := .bool false) (by kernel_rfl) (plainElem_bool (by kernel_rfl) false) (keyOf_int_mk (by kernel_rfl) hwf)
  rw [hat T] at hv
  rw [hrun]
  have he : Try.prog.underlying 4 = some .bool := by kernel_rfl
  unfold plainElem at hv
  rw [he] at hv
  cases v <;> simp at hv
  rw [hv.1]
theorem Seen.push {w : World} {b n : Nat} {L : List Nat} (h : Seen w b n L) {T : Nat} (hT : T < 512) (hn : n ≤ 1000) : ∃ w', (Instr.mapUpdate 87 (.map (some b)) (.int .i64 T) (.bool true)).run Try.prog w = .ok () w' ∧ Seen w' b (n + 1) (L ++ [T]) ∧ w.grownBy w' (some b) := by
  obtain ⟨D, hD, hat⟩ := h
  have hwf : (Lit.int .i64 (T : Int)).wf = true := by simp [Lit.wf, IntKind.min, IntKind.max, IntKind.signed, IntKind.bits]; omega
  obtain ⟨w', hrun, h1, h2⟩ := hD.update (t := 87) (e := 4) (int_keyed (q := .i64) (by kernel_rfl)) (by kernel_rfl) (by unfold maxLen; omega) (keyOf_int_mk (by kernel_rfl) hwf) (plainElem_bool (by kernel_rfl) true)
  refine ⟨w', hrun, ⟨_, h1, fun U => ?_⟩, h2⟩
  by_cases e : U = T
  · subst e
    rw [atKey_put_same (k := .int .i64 (U : Int)) hD.isMap (by simp [WideAt.IsKeyLit])]
    simp
  · rw [atKey_put_other (by simp; omega), hat]
    simp [e]
theorem Seen.ext {w w' : World} {b n : Nat} {L : List Nat} (h : Seen w b n L) (hx : Ext w w') : Seen w' b n L := by
  obtain ⟨D, ⟨es, clock, hb, r⟩, hat⟩ := h
  exact ⟨D, ⟨es, clock, by rw [Below.block hx b (Array.getElem?_eq_some_iff.1 hb).1]; exact hb, r⟩, hat⟩
theorem Seen.kept {w w' : World} {b n : Nat} {L : List Nat} {row : Option Nat} (h : Seen w b n L) (hg : w.grownBy w' row) (hne : some b ≠ row) : Seen w' b n L := by
  obtain ⟨D, hD, hat⟩ := h
  exact ⟨D, hD.kept hg hne, hat⟩
theorem Seen.lt {w : World} {b n : Nat} {L : List Nat} (h : Seen w b n L) : b < w.heap.size := by
  obtain ⟨D, hD, hat⟩ := h
  exact hD.lt
theorem Seen.mono {w : World} {b n n' : Nat} {L : List Nat} (h : Seen w b n L) (hn : n ≤ n') : Seen w b n' L := by
  obtain ⟨D, hD, hat⟩ := h
  exact ⟨D, hD.mono hn, hat⟩

theorem infoStep : (Try.prog.info? 85).map (fun i => (i.zero, i.size, i.bytes)) = some (some (.agg #[.int .i64 0, .string ⟨#[]⟩]), 2, 24) := by kernel_rfl
/-- the cells of a list of steps -/
def stepCells (L : Sw) : List Value := L.flatMap fun p => [.int .i64 (p.1 : Nat), .string (mkS p.2)]
theorem stepCells_length : ∀ L : Sw, (stepCells L).length = L.length * 2
  | [] => rfl
  | p :: L => by
    have := stepCells_length L
    simp only [stepCells, List.flatMap_cons, List.length_append, List.length_cons, List.length_nil] at this ⊢
    omega
theorem stepCells_push (L : Sw) (T : Nat) (u : List UInt8) : stepCells (L ++ [(T, u)]) = stepCells L ++ [.int .i64 (T : Nat), .string (mkS u)] := by simp [stepCells]
theorem stepCells_at : ∀ (L : Sw) (i : Nat), i < L.length → (stepCells L)[i * 2]? = some (.int .i64 ((setsOf L).getD i 0 : Nat)) ∧ (stepCells L)[i * 2 + 1]? = some (.string (mkS ((textsOf L).getD i [])))
  | [], i, h => by simp at h
  | p :: L, 0, _ => by simp [stepCells, setsOf, textsOf]
  | p :: L, i + 1, h => by
    have := stepCells_at L i (by simpa using h)
    have e1 : (i + 1) * 2 = i * 2 + 1 + 1 := by omega
    simp only [stepCells, List.flatMap_cons, setsOf, textsOf, List.map_cons, List.getD_cons_succ, List.cons_append, List.nil_append, e1, List.getElem?_cons_succ] at this ⊢
    exact this
end Go.Proofs.Ytfkdpeifnfpldaa
