/- Contracts of the laws' own helpers on lists and tables of numbers: sizes, copies, comparisons, marks. -/
import Derived.Test.YtngbibaphakifaaDoorMat
import Derived.Test.YtngbibaphakifaaDoorFacts
import Derived.WalkLawsBesides
import Derived.Lib.Hide
namespace Go.Proofs.YtngbibaphakifaaDoor
open Go.RowKit

theorem infoRow : (Tryd.prog.info? 22).map (fun i => (i.zero, i.size, i.bytes)) = some (some (.slice none 0 0), 1, 24) := by kernel_rfl
theorem ret_int {k : IntKind} {a b : Int} (h : a = b) : Ending.returned (.int k a) = .returned (.int k b) := by rw [h]
theorem ret_bool {a b : Bool} (h : a = b) : Ending.returned (.bool a) = .returned (.bool b) := by rw [h]

/-- a row's length taken off -/
def leftR (n : Int) (k : Nat) : Int := if n - k < 0 then -1 else n - k

set_option maxHeartbeats 400000 in
theorem szIntS_any (a : Option Addr) (n c : Nat) (l : Int) (w : World) (h0 : 0 ≤ l) (h1 : l ≤ 1048576) (hn : n ≤ 9223372036854775807) :
    Calls Tryd.prog 54 #[.slice a n c, .int .i64 l] w fun e w' => e = .returned (.int .i64 (leftR l n)) ∧ w = w' := by
  go_enter Tryd.func54, Tryd.ntmps54
  go_wp2
  all_goals go_ret
  · exact ⟨ret_int (by unfold leftR; split <;> omega), rfl⟩
  · exact ⟨ret_int (by unfold leftR; split <;> omega), rfl⟩

set_option maxHeartbeats 1000000 in
theorem szIntSS_any (v : Value) (m : List (List Int)) (l : Int) (w : World) (h0 : 0 ≤ l) (h1 : l ≤ 1048576) (hm : ReadsRows w v m) :
    Calls Tryd.prog 11 #[v, .int .i64 l] w fun e w' => e = .returned (.int .i64 (leftM l m)) ∧ w = w' := by
  obtain ⟨a, c, rfl⟩ := hm.slice
  obtain ⟨-, hlc, hc⟩ := hm.len
  obtain ⟨n, hn⟩ : ∃ n, n = m.length := ⟨_, rfl⟩
  rw [← hn] at hlc hm ⊢
  have hn9 : n ≤ 9223372036854775807 := by omega
  have HM := Lib.hid (And.intro hm hn)
  clear hm hn
  by_cases h2 : l - (n : Int) < 0
  · go_enter Tryd.func11, Tryd.ntmps11
    go_wp2
    go_ret
    exact ⟨ret_int (by unfold leftM; rw [← HM.out.2, if_pos (by omega)]), rfl⟩
  · go_enter Tryd.func11, Tryd.ntmps11
    go_wp2
    go_loop [1, 5] (fun x i => ∃ k : Nat, k ≤ n ∧ i = .int .i64 k ∧ x = .int .i64 (l - (n : Int) - (sizeM (m.take k) : Nat)) ∧ 0 ≤ l - (n : Int) - (sizeM (m.take k) : Nat)) (fun _ i => n - (intOf i).toNat)
    case atStart => exact ⟨0, by omega, rfl, by simp [sizeM], by simp [sizeM]; omega⟩
    case round =>
      obtain ⟨k, hk, rfl, rfl, hp⟩ := hrel
      by_cases hlt : k < n
      · have hkm : k < m.length := by rw [← HM.out.2]; exact hlt
        obtain ⟨b, o, a', c', rfl, hcell, hrow⟩ := HM.out.1.at k hkm
        obtain ⟨-, hl1, hl2⟩ := hrow.len
        have hs := sizeM_take m k hkm
        have hle := sizeM_take_le m (k + 1)
        obtain ⟨L, hL⟩ : ∃ L, L = (m.getD k []).length := ⟨_, rfl⟩
        obtain ⟨s, hss⟩ : ∃ s, s = sizeM (m.take k) := ⟨_, rfl⟩
        rw [← hL] at hcell hl1 hs
        rw [← hss] at hs hp ⊢
        have HS := Lib.hid (And.intro hs (And.intro hle (And.intro hL hss)))
        clear hs hle hL hss hrow
        go_wp2_with fail
        with_reducible refine (szIntS_any _ _ _ _ _ (by omega) (by omega) (by omega)).mono ?_
        rintro e w1 ⟨rfl, rfl⟩
        unfold leftR
        by_cases h3 : l - (n : Int) - (s : Int) - (L : Int) < 0
        · rw [if_pos h3]
          go_wp2
          go_ret
          refine ⟨ret_int ?_, rfl⟩
          have h4 := HS.out
          have h5 := HM.out.2
          unfold leftM
          rw [← h5, if_pos (by omega)]
        · rw [if_neg h3]
          go_wp2
          go_round
          case rel => exact ⟨k + 1, by omega, by go_num, by rw [HS.out.1]; congr 1; omega, by rw [HS.out.1]; omega⟩
          case measure => simp [intOf]; omega
      · have hkn : k = n := by omega
        have hs := sizeM_all m
        rw [← HM.out.2, ← hkn] at hs
        rw [hs] at hp ⊢
        have HS := Lib.hid hs
        clear hs
        go_wp2
        go_ret
        exact ⟨ret_int (by unfold leftM; rw [← HM.out.2, if_neg (by omega)]), rfl⟩

set_option maxHeartbeats 1000000 in
theorem toIntS_any (v : Value) (xs : List Int) (w : World) (h : ReadsI w v xs) (hs : xs.length ≤ 1048576) :
    Calls Tryd.prog 8 #[v] w fun e w' => e = .returned (.slice (some ⟨w.heap.size, 0, none⟩) xs.length xs.length) ∧ Own w' w.heap.size 3 (.slice (some ⟨w.heap.size, 0, none⟩) xs.length xs.length) (icells xs) ∧ Ext w w' := by
  obtain ⟨a, c, rfl⟩ := h.slice
  obtain ⟨-, hlc, hc⟩ := h.len
  obtain ⟨n, hn⟩ : ∃ n, n = xs.length := ⟨_, rfl⟩
  rw [← hn] at hlc h hs ⊢
  have hmk := run_make_row' (P := Tryd.prog) 22 3 (.int .i64 0) 8 Tryd.underlying22 infoInt rfl .i64 .i64 n (by omega) (by omega)
  have HM := Lib.hid (And.intro h hn)
  clear h hn
  go_enter Tryd.func8, Tryd.ntmps8
  go_wp2
  go_loopw [4] (fun i wr => ∃ k : Nat, k ≤ n ∧ i = .int .i64 k ∧ Own wr w.heap.size 3 (.slice (some ⟨w.heap.size, 0, none⟩) n n) (icells (xs.take k ++ List.replicate (n - k) 0)) ∧ Ext w wr) (fun i _ => n - (intOf i).toNat)
  case atStart =>
    refine ⟨0, by omega, rfl, ?_, Ext.alloc _ _⟩
    have := Own.made w 3 (.int .i64 0) n (by unfold maxLen; omega)
    simpa [icells] using this
  case round =>
    obtain ⟨k, hk, rfl, hown, hx⟩ := hrel
    by_cases hlt : k < n
    · have hkm : k < xs.length := by rw [← HM.out.2]; exact hlt
      obtain ⟨b, o, rfl, hcell⟩ := (HM.out.1.ext hx).at k hkm
      have hc1 := hown.int_at k (by simp; rw [← HM.out.2]; omega)
      have hf1 := hown.frozen k
      have hst := hown.store k (.int .i64 (xs.getD k 0))
      rw [icells_set] at hst
      have e : (xs.take k ++ List.replicate (n - k) 0).set k (xs.getD k 0) = xs.take (k + 1) ++ List.replicate (n - (k + 1)) 0 := by
        rw [List.set_append_right _ _ (by simp; omega), List.length_take, Nat.min_eq_left (by omega), Nat.sub_self, show n - k = (n - (k + 1)) + 1 by omega, List.replicate_succ, List.set_cons_zero, List.take_succ_eq_append_getElem hkm, List.append_assoc]
        simp [List.getD_eq_getElem?_getD, List.getElem?_eq_getElem hkm]
      rw [e] at hst
      have HS := Lib.hid hst
      have hx' := hx.setCell (p := ⟨w.heap.size, k, none⟩) (Nat.le_refl _) (.int .i64 (xs.getD k 0))
      obtain ⟨x, hxx⟩ : ∃ x, x = xs.getD k 0 := ⟨_, rfl⟩
      rw [← hxx] at hcell hx'
      have HX := Lib.hid hxx
      clear e hst hxx
      go_wp2
      go_roundw
      case rel => exact ⟨k + 1, by omega, by go_num, by rw [HX.out]; exact HS.out, hx'⟩
      case measure => simp [intOf]; omega
    · have hkn : k = n := by omega
      subst hkn
      have e : xs.take k ++ List.replicate (k - k) 0 = xs := by rw [List.take_of_length_le (by rw [← HM.out.2]; omega)]; simp
      rw [e] at hown
      clear e
      go_wp2
      go_ret
      exact ⟨rfl, hown, hx⟩
end Go.Proofs.YtngbibaphakifaaDoor
