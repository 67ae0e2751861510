/- Contracts: the program's CopyCode. -/
import Derived.Test.YtgaeeibcfoppbaaGreatDoorPkC
namespace Go.Proofs.YtgaeeibcfoppbaaGreatDoor
open Go.RowKit Go.Cm

/-- the letter at a place -/
def letAt (a : Nat) (u : List UInt8) : UInt8 := u.getD a 0
def copyOk (L W a : Int) : Bool := wideOk L W && (decide (0 ≤ a) && decide (a < W))

theorem copy1_any (u : List UInt8) (a b : Nat) (w : World) (hc : w.cell? ⟨b, 0, none⟩ = some (.int .i64 a)) (ha : a < u.length) :
    Calls Tryz.prog 46 #[.string (mkS u), .pointer (some ⟨b, 0, none⟩)] w fun e w' => e = .returned (.int .u8 ((letAt a u).toNat : Int)) ∧ Ext w w' := by
  have hs : (mkS u).size = u.length := mkS_size u
  have ha' : a < (mkS u).size := by omega
  have HS := Lib.hid hs
  clear hs
  go_enter Tryz.func46, Tryz.ntmps46
  go_wp2
  go_ret
  exact ⟨ret_int (by rw [mkS_get]; rfl), Ext.refl _⟩

/-- the zero code -/
theorem impl_CopyCode_no (L W a : Int) (w : World) (h : copyOk L W a = false) :
    Calls Tryz.prog 18 #[.int .i64 L, .int .i64 W, .int .i64 a] w fun e w' => e = .returned (.tuple #[.agg #[.int .i64 0, .int .i64 0, .string ⟨#[]⟩], .bool false]) ∧ Ext w w' := by
  by_cases h1 : 0 ≤ a
  · by_cases h2 : a < W
    · have hw : wideOk L W = false := by simpa [copyOk, h1, h2] using h
      clear h
      go_enter Tryz.func18, Tryz.ntmps18
      go_wp2_with fail
      refine (impl_madeCode_no _ _ _ _ hw).mono ?_
      rintro e w1 ⟨rfl, hx⟩
      have c0 : w1.cell? ⟨w.heap.size + 1, 0, none⟩ = some (.int .i64 0) := hx.cell_some (by simp)
      have c1 : w1.cell? ⟨w.heap.size + 1, 1, none⟩ = some (.int .i64 0) := hx.cell_some (by simp)
      have c2 : w1.cell? ⟨w.heap.size + 1, 2, none⟩ = some (.string ⟨#[]⟩) := hx.cell_some (by simp)
      have f0 : w1.frozen? ⟨w.heap.size + 1, 0, none⟩ = false := (Below.frozen (p := ⟨w.heap.size + 1, 0, none⟩) hx (by simp)).trans (by simp)
      have f1 : w1.frozen? ⟨w.heap.size + 1, 1, none⟩ = false := (Below.frozen (p := ⟨w.heap.size + 1, 1, none⟩) hx (by simp)).trans (by simp)
      have f2 : w1.frozen? ⟨w.heap.size + 1, 2, none⟩ = false := (Below.frozen (p := ⟨w.heap.size + 1, 2, none⟩) hx (by simp)).trans (by simp)
      have hx0 := ((Ext.alloc _ _).trans (Ext.alloc _ _)).trans hx
      clear hx
      go_wp2
      refine bodyPost_ret (v := .tuple #[.agg #[.int .i64 0, .int .i64 0, .string ⟨#[]⟩], .bool false]) ?_ rfl ⟨rfl, ((hx0.setCell (by simp) _).setCell (by simp) _).setCell (by simp) _⟩
      simp [results, Tryz.results18, go_sem, c0, c1, c2]
    · clear h
      go_enter Tryz.func18, Tryz.ntmps18
      go_wp2
      refine bodyPost_ret (v := .tuple #[.agg #[.int .i64 0, .int .i64 0, .string ⟨#[]⟩], .bool false]) (by simp [results, Tryz.results18, go_sem]) rfl ⟨rfl, (Ext.alloc _ _).trans (Ext.alloc _ _)⟩
  · clear h
    go_enter Tryz.func18, Tryz.ntmps18
    go_wp2
    refine bodyPost_ret (v := .tuple #[.agg #[.int .i64 0, .int .i64 0, .string ⟨#[]⟩], .bool false]) (by simp [results, Tryz.results18, go_sem]) rfl ⟨rfl, (Ext.alloc _ _).trans (Ext.alloc _ _)⟩

theorem impl_CopyCode_yes (K n a : Nat) (w : World) (h : copyOk K n a = true) :
    Calls Tryz.prog 18 #[.int .i64 K, .int .i64 n, .int .i64 a] w fun e w' => e = .returned (.tuple #[.agg #[.int .i64 K, .int .i64 n, .string (mkS ((wordsL K n).map (letAt a)))], .bool true]) ∧ Ext w w' := by
  have hh : wideOk K n = true ∧ a < n := by simpa [copyOk] using h
  obtain ⟨hw, han⟩ := hh
  have hn4 := (wideOk_yes hw).2.2.1
  clear h
  go_enter Tryz.func18, Tryz.ntmps18
  go_wp2_with fail
  refine (impl_madeCode_yes K n _ #[_] (letAt a) _ hw made_cf ?_).mono ?_
  · intro u w' hu hx
    have hl : u.length = n := by
      simp only [wordsL, List.mem_map] at hu
      obtain ⟨i, _, rfl⟩ := hu
      exact wordL_length K n i
    exact copy1_any u a _ w' (hx.cell_some (by simp)) (by omega)
  rintro e w1 ⟨rfl, hx⟩
  have c0 : w1.cell? ⟨w.heap.size + 1, 0, none⟩ = some (.int .i64 0) := hx.cell_some (by simp)
  have c1 : w1.cell? ⟨w.heap.size + 1, 1, none⟩ = some (.int .i64 0) := hx.cell_some (by simp)
  have c2 : w1.cell? ⟨w.heap.size + 1, 2, none⟩ = some (.string ⟨#[]⟩) := hx.cell_some (by simp)
  have f0 : w1.frozen? ⟨w.heap.size + 1, 0, none⟩ = false := (Below.frozen (p := ⟨w.heap.size + 1, 0, none⟩) hx (by simp)).trans (by simp)
  have f1 : w1.frozen? ⟨w.heap.size + 1, 1, none⟩ = false := (Below.frozen (p := ⟨w.heap.size + 1, 1, none⟩) hx (by simp)).trans (by simp)
  have f2 : w1.frozen? ⟨w.heap.size + 1, 2, none⟩ = false := (Below.frozen (p := ⟨w.heap.size + 1, 2, none⟩) hx (by simp)).trans (by simp)
  have hx0 := ((Ext.alloc _ _).trans (Ext.alloc _ _)).trans hx
  clear hx
  go_wp2
  refine bodyPost_ret (v := .tuple #[.agg #[.int .i64 K, .int .i64 n, .string (mkS ((wordsL K n).map (letAt a)))], .bool true]) ?_ rfl ⟨rfl, ((hx0.setCell (by simp) _).setCell (by simp) _).setCell (by simp) _⟩
  simp [results, Tryz.results18, go_sem, c0, c1, c2]
end Go.Proofs.YtgaeeibcfoppbaaGreatDoor
