/- Contracts: TwinsOf of the program. -/
import Derived.Test.YtgaeeibcfoppbaaGreatDoorFstA
import Derived.Test.YtgaeeibcfoppbaaGreatDoorPkM
import Derived.Test.YtgaeeibcfoppbaaGreatDoorPkC
namespace Go.Proofs.YtgaeeibcfoppbaaGreatDoor
open Go.RowKit Go.Cm

theorem mkS_take (l : List UInt8) (a : Nat) : (mkS l).extract 0 a = mkS (l.take a) := by
  apply ByteArray.ext
  apply Array.ext'
  rw [Lib.extract_data, mkS_data, mkS_data]
  simp
theorem twin_beq (x y : List UInt8) : ((mkS x).toList == (mkS y).toList) = decide (x = y) := by
  by_cases h : x = y
  · subst h; simp
  · have : ¬ (mkS x).toList = (mkS y).toList := by
      intro e
      have e2 := bytes_eq e
      have := congrArg (fun s => s.data.toList) e2
      simp only [mkS_data] at this
      exact h this
    simp [h, this]
theorem twinB_eq {K n e q m : Nat} {o : ByteArray} {u v : List UInt8} (he : e = n - 1) (hq : q + e = m) (hu : u.length = m) (hv : v.length = m) :
    twinB K n o u v = (((mkS u).extract 0 e).toList == ((mkS v).extract 0 e).toList && (((mkS u).extract q (mkS u).size).toList == ((mkS v).extract q (mkS v).size).toList && ((mkS (applyL K n o u)).toList == (mkS (applyL K n o v)).toList))) := by
  rw [mkS_take, mkS_take, mkS_drop, mkS_drop, twin_beq, twin_beq, twin_beq]
  unfold twinB
  rw [hu, hv, ← he, show m - e = q by omega]

/-- what is returned -/
def twV (r : Option (List UInt8 × List UInt8)) : Value := match r with
  | none => .tuple #[.string ⟨#[]⟩, .string ⟨#[]⟩, .bool false]
  | some p => .tuple #[.string (mkS p.1), .string (mkS p.2), .bool true]

theorem pow2_small {m : Nat} (hm : m ≤ 7) : 2 ^ m ≤ 128 := by
  have h2 : 2 ^ m ≤ 2 ^ 7 := Nat.pow_le_pow_right (by omega) hm
  have h3 : (2 : Nat) ^ 7 = 128 := by decide
  omega

def twinG (n : Nat) (o : ByteArray) (l : List (List UInt8)) (i j : Nat) : Option (List UInt8 × List UInt8) := if i < j ∧ twinB 2 n o (l.getD i []) (l.getD j []) = true then some (l.getD i [], l.getD j []) else none
def twinF (n : Nat) (o : ByteArray) (m : Nat) : Option (List UInt8 × List UInt8) := if n ≤ m then twinOf 2 n o m else none

theorem wordsL_cell {w : World} {B g V cap K d i : Nat} (hK0 : 0 < K) (hK : K ≤ 3) (hw : Own w B 9 (.slice (some ⟨g, 0, none⟩) V cap) (scells (wordsL K d))) (hV : V = K ^ d) (hi : i < V) :
    ∃ u, u = (wordsL K d).getD i [] ∧ w.cell? ⟨g, i, none⟩ = some (.string (mkS u)) ∧ u.length = d ∧ areLet K u = true := by
  have hl : (scells (wordsL K d)).length = V := by rw [hV]; simp [scells, wordsL]
  have hlw : i < (wordsL K d).length := by simp [wordsL]; omega
  have h0 := hw.cell i (by rw [hl]; exact hi)
  have e : (wordsL K d).getD i [] = (wordsL K d)[i] := by rw [List.getD_eq_getElem?_getD, List.getElem?_eq_getElem hlw]; rfl
  refine ⟨_, rfl, ?_, ?_⟩
  · rw [h0, e]; simp [scells]
  · rw [e]; exact mem_wordsL (List.getElem_mem _) hK0 hK

end Go.Proofs.YtgaeeibcfoppbaaGreatDoor
