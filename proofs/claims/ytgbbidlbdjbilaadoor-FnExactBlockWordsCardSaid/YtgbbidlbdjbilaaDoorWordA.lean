/- Contracts: the word at an index, the words of a length. -/
import Derived.Test.YtgbbidlbdjbilaaDoorCodeA
import Derived.Test.YtgbbidlbdjbilaaDoorFacts
import Derived.Test.YtgbbidlbdjbilaaDoorWordMath
namespace Go.Proofs.YtgbbidlbdjbilaaDoor
open Go.RowKit Go.Cm

/-- where the loop of wordAt stands: k letters are still to come -/
structure WordSt (K n i0 : Nat) (k rest : Nat) (fs : List Value) : Prop where
  le : k ≤ n
  len : fs.length = n
  word : ∃ t : List UInt8, wordL K k rest ++ t = wordL K n i0 ∧ fs.drop k = bcells t

theorem wordSt_start (K n i : Nat) : WordSt K n i n i (List.replicate n (.int .u8 0)) :=
  ⟨Nat.le_refl _, by simp, [], by simp, by simp [bcells]⟩
theorem wordSt_step {K n i0 k rest : Nat} {fs : List Value} (hK : K ≤ 3) (hK0 : 0 < K) (h : WordSt K n i0 (k + 1) rest fs) : WordSt K n i0 k (rest / K) (fs.set k (.int .u8 ((97 : Int) + (rest : Int) % (K : Int)))) := by
  obtain ⟨hle, hlen, t, ht, hf⟩ := h
  refine ⟨by omega, by simpa using hlen, letN (rest % K) :: t, ?_, ?_⟩
  · rw [← ht]; simp [wordL]
  · have hk : k < fs.length := by omega
    rw [List.drop_eq_getElem_cons (by simpa using hk)]
    simp only [List.getElem_set_self, bcells, List.map_cons]
    have hm : rest % K < K := Nat.mod_lt _ hK0
    unfold letN
    rw [ofNat_toNat (by omega)]
    have e : ((97 + rest % K : Nat) : Int) = (97 : Int) + (rest : Int) % (K : Int) := by simp
    rw [e]
    congr 1
    rw [List.drop_set_of_lt (by omega)]
    exact hf
theorem wordSt_end {K n i0 rest : Nat} {fs : List Value} (h : WordSt K n i0 0 rest fs) : fs = bcells (wordL K n i0) := by
  obtain ⟨_, _, t, ht, hf⟩ := h
  have : t = wordL K n i0 := by simpa [wordL] using ht
  rw [← this]; simpa using hf

set_option maxHeartbeats 400000 in
theorem impl_wordAt_any (K n i : Nat) (w : World) (hK0 : 0 < K) (hK : K ≤ 3) (hn : n ≤ 16) (hi : i ≤ 43046721) :
    Calls Tryd.prog 47 #[.int .i64 K, .int .i64 n, .int .i64 i] w fun e w' => e = .returned (.string (mkS (wordL K n i))) ∧ Ext w w' := by
  have hmk := run_make_row' (P := Tryd.prog) 44 5 (.int .u8 0) 1 Tryd.underlying44 infoU8 rfl .i64 .i64 n (by omega) (by omega)
  go_enter Tryd.func47, Tryd.ntmps47
  go_wp2
  go_loopw [2, 8] (fun x j wr => ∃ (k rest : Nat) (fs : List Value), j = .int .i64 ((k : Int) - 1) ∧ x = .int .i64 rest ∧ rest ≤ i ∧ WordSt K n i k rest fs ∧ Own wr w.heap.size 5 (.slice (some ⟨w.heap.size, 0, none⟩) n n) fs ∧ Ext w wr) (fun _ j _ => (intOf j + 1).toNat)
  case atStart => exact ⟨n, i, _, rfl, rfl, Nat.le_refl _, wordSt_start K n i, Own.made w _ _ n (by unfold maxLen; omega), Ext.alloc _ _⟩
  case round =>
    obtain ⟨k, rest, fs, rfl, rfl, hri, hst, hown, hx⟩ := hrel
    cases k with
    | zero =>
      have hf := wordSt_end hst
      subst hf
      have hcv := run_convert_own (P := Tryd.prog) (src := 44) (dst := 9) Tryd.underlying44 Tryd.underlying5 Tryd.underlying9 hown
      have HS := Lib.hid hst
      clear hst
      go_wp2
      go_ret
      exact ⟨rfl, hx⟩
    | succ k =>
      have hk : k < n := by have := hst.le; omega
      have hlen := hst.len
      obtain ⟨v, hc⟩ : ∃ v, wr.cell? ⟨w.heap.size, k, none⟩ = some v := ⟨_, hown.cell k (by omega)⟩
      have hfz := hown.frozen k
      have e1 : ((k + 1 : Nat) : Int) - 1 = (k : Int) := by omega
      rw [e1]
      clear e1
      have hm0 : (0 : Int) ≤ (rest : Int) % (K : Int) := Int.emod_nonneg _ (by omega)
      have hm1 : (rest : Int) % (K : Int) < K := Int.emod_lt_of_pos _ (by omega)
      have hd0 : (0 : Int) ≤ (rest : Int) / (K : Int) := Int.ediv_nonneg (by omega) (by omega)
      have hd1 : (rest : Int) / (K : Int) ≤ rest := Int.ediv_le_self _ (by omega)
      have HS := Lib.hid hst
      have HL := Lib.hid hlen
      clear hst hlen
      go_wp2
      go_roundw
      case rel => exact ⟨k, rest / K, _, rfl, by go_num, by have := Nat.div_le_self rest K; omega, wordSt_step hK hK0 HS.out, hown.store k _, hx.setCell (Nat.le_refl _) _⟩
      case measure => simp [intOf]

theorem wordsL_take (k n j : Nat) (hj : j < k ^ n) : (wordsL k n).take (j + 1) = (wordsL k n).take j ++ [wordL k n j] := by
  rw [List.take_succ_eq_append_getElem (by simpa [wordsL] using hj)]
  simp [wordsL]
theorem wordsL_all (k n : Nat) : (wordsL k n).take (k ^ n) = wordsL k n := List.take_of_length_le (by simp [wordsL])
theorem wordsL_take_length (k n j : Nat) (hj : j ≤ k ^ n) : ((wordsL k n).take j).length = j := by simp [wordsL]; omega
/-- words as cells -/
def scells (l : List (List UInt8)) : List Value := l.map fun u => .string (mkS u)
theorem pw_nat (K n : Nat) : pw (K : Int) (n : Int) = ((K ^ n : Nat) : Int) := by simp [pw]

set_option maxHeartbeats 400000 in
theorem impl_wordsOf_any (K n : Nat) (w : World) (hK0 : 0 < K) (hK : K ≤ 3) (hn : n ≤ 16) (hKn : K ^ n ≤ 43046721) :
    Calls Tryd.prog 43 #[.int .i64 K, .int .i64 n] w fun e w' => ∃ v, e = .returned v ∧ Own w' w.heap.size 9 v (scells (wordsL K n)) ∧ Ext w w' := by
  go_enter Tryd.func43, Tryd.ntmps43
  go_wp2_with fail
  refine (impl_power_any _ _ _ (by omega) (by omega) (by omega) (by omega)).mono ?_
  rintro e w1 ⟨rfl, rfl⟩
  rw [pw_nat]
  obtain ⟨N, hN⟩ : ∃ N, N = K ^ n := ⟨_, rfl⟩
  rw [← hN] at hKn ⊢
  have HN := Lib.hid hN
  clear hN
  have hB0 : Own (w.alloc (.cells #[] 9)) w.heap.size 9 (.slice (some ⟨w.heap.size, 0, none⟩) 0 0) [] := Own.lit w 9 [] (by simp)
  go_wp2
  go_loopw [5, 6, 11] (fun v _ i wr => ∃ k : Nat, k ≤ N ∧ i = .int .i64 k ∧ Own wr w.heap.size 9 v (scells ((wordsL K n).take k)) ∧ Ext w wr) (fun _ _ i _ => N - (intOf i).toNat)
  case atStart => exact ⟨0, by omega, rfl, hB0, Ext.alloc _ _⟩
  case round =>
    obtain ⟨k, hk, rfl, hown, hx⟩ := hrel
    by_cases hlt : k < N
    · go_wp2_with fail
      refine (impl_wordAt_any K n k _ hK0 hK hn (by omega)).mono ?_
      rintro e w1 ⟨rfl, hx1⟩
      have hown1 := hown.ext hx1
      have hx01 := hx.trans hx1
      clear hx hx1 hown
      have hlen : (scells ((wordsL K n).take k)).length = k := by simp only [scells, List.length_map]; exact wordsL_take_length K n k (by rw [← HN.out]; exact hk)
      have hl1 : (scells ((wordsL K n).take k)).length + 1 ≤ maxLen := by unfold maxLen; omega
      have hl2 : ((scells ((wordsL K n).take k)).length + 1) * 16 ≤ 140737488355328 := by omega
      have HL := Lib.hid hlen
      clear hlen
      go_wp2_with (at_builtin; refine wpList_append_one rfl (.tmp 14) (.tmp 19) 22 rfl 9 _ _ Tryd.underlying22 infoStr rfl w.heap.size _ _ rfl (hown1.ext (Ext.alloc _ _)) w1.heap.size _ rfl (by simp; rfl) rfl hl1 hl2 w rfl (hx01.trans (Ext.alloc _ _)) ?_; intro v' w2 hown2 hx2 _)
      go_roundw
      case rel => exact ⟨k + 1, by omega, by go_num, by rw [wordsL_take K n k (by rw [← HN.out]; exact hlt)]; simpa [scells] using hown2, hx2⟩
      case measure => simp [intOf]; omega
    · have : k = N := by omega
      subst this
      have hN := HN.out
      rw [hN, wordsL_all] at hown
      clear hN
      go_wp2
      go_ret
      exact ⟨_, rfl, hown, hx⟩
end Go.Proofs.YtgbbidlbdjbilaaDoor
