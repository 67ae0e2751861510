/- Rows of words; the library's variable. -/
import Derived.Test.YtgaeeibcfoppbaaDoorOwn
import Derived.Test.YtgaeeibcfoppbaaDoorFrame
import Derived.Test.YtgaeeibcfoppbaaDoorApplyA
import Derived.Test.YtgaeeibcfoppbaaDoorApplyC
namespace Go.Proofs.YtgaeeibcfoppbaaDoor
open Go.RowKit Go.Cm

/-- the library's variable holds some number -/
def MaxC (w : World) : Prop := ∃ m, w.cell? ⟨0, 0, none⟩ = some (.int .i64 m)
theorem MaxC.ext {w w' : World} (h : MaxC w) (hx : Ext w w') : MaxC w' := by
  obtain ⟨m, hm⟩ := h
  exact ⟨m, hx.cell_some hm⟩

/-- a row of words -/
def ReadsW (w : World) (v : Value) (F : List (List UInt8)) : Prop := Reads w v (scells F)
theorem ReadsW.ext {w w' : World} {v : Value} {F : List (List UInt8)} (h : ReadsW w v F) (hx : Ext w w') : ReadsW w' v F := Reads.ext h hx
theorem ReadsW.slice {w : World} {v : Value} {F : List (List UInt8)} (h : ReadsW w v F) : ∃ a c, v = .slice a F.length c := by
  obtain ⟨a', cap, hv, _⟩ := h
  exact ⟨a', cap, by simpa [scells] using hv⟩
theorem ReadsW.len {w : World} {a : Option Addr} {n c : Nat} {F : List (List UInt8)} (h : ReadsW w (.slice a n c) F) : n = F.length ∧ n ≤ c ∧ c ≤ 9223372036854775807 := by
  obtain ⟨a', cap, hv, h1, h2, h3⟩ := h
  injection hv with e1 e2 e3
  unfold maxLen at h2
  simp [scells] at h1 e2
  omega
theorem ReadsW.at {w : World} {a : Option Addr} {n c : Nat} {F : List (List UInt8)} (h : ReadsW w (.slice a n c) F) (j : Nat) (hj : j < F.length) :
    ∃ b o, a = some ⟨b, o, none⟩ ∧ w.cell? ⟨b, o + j, none⟩ = some (.string (mkS (F.getD j []))) := by
  obtain ⟨a', cap, hv, h1, h2, h3⟩ := h
  injection hv with e1 e2 e3
  obtain ⟨b, o, ha, hc⟩ := h3 j (by simpa [scells] using hj)
  exact ⟨b, o, e1.trans ha, by rw [hc]; simp [scells, List.getD_eq_getElem?_getD, List.getElem?_eq_getElem hj]⟩
theorem Own.readsW {w : World} {B : Nat} {E : TypeId} {v : Value} {F : List (List UInt8)} (h : Own w B E v (scells F)) : ReadsW w v F := h.reads
theorem scells_length (F : List (List UInt8)) : (scells F).length = F.length := by simp [scells]
theorem scells_at (F : List (List UInt8)) (j : Nat) (h : j < F.length) : (scells F)[j]'(by rw [scells_length]; exact h) = .string (mkS (F.getD j [])) := by
  simp [scells, List.getD_eq_getElem?_getD, List.getElem?_eq_getElem h]
theorem Own.word_at {w : World} {B : Nat} {E : TypeId} {g n cap : Nat} {F : List (List UInt8)} (h : Own w B E (.slice (some ⟨g, 0, none⟩) n cap) (scells F)) (j : Nat) (hj : j < F.length) : w.cell? ⟨g, j, none⟩ = some (.string (mkS (F.getD j []))) := by
  have := h.cell j (by rw [scells_length]; exact hj)
  rw [scells_at _ _ hj] at this
  exact this

theorem mkS_list (l : List UInt8) : (mkS l).toList = l := by
  rw [Lib.toList_data, mkS_data]
theorem mkS_beq (a b : List UInt8) : ((mkS a).toList == (mkS b).toList) = (a == b) := by rw [mkS_list, mkS_list]
theorem mkS_part (u : List UInt8) (a n : Nat) : (mkS u).extract a (a + n) = mkS ((u.drop a).take n) := by
  rw [extract_part, mkS_data]
  rfl
end Go.Proofs.YtgaeeibcfoppbaaDoor
