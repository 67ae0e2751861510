/- Several texts of mine in one: LawCode, L1In, CodeA, CodeB, Facts, WordA, ApplyA, ApplyB, ApplyC, LawMat, LawMatB, LawRes, NumA, Made, Frame, All, MatA, MatB, ZeroA, JoinA, JoinB, Open. -/
import Derived.Test.YtgbbidlbdjbilaaRows
import Derived.Test.YtgbbidlbdjbilaaPkA
import Derived.WalkKit
import Derived.WalkSpells
import Derived.WalkLawsBesides
import Derived.Lib.Hide
import Derived.Test.YtgbbidlbdjbilaaPkB
import Derived.BigQuiet
/- Contracts of the laws' own helpers on codes: the sizes, the copy, the comparison. -/
namespace Go.Proofs.Ytgbbidlbdjbilaa
open Go.RowKit

/-- a size left over -/
def leftS (n : Int) (k : Nat) : Int := if n - k < 0 then -1 else n - k
theorem leftS_le (n : Int) (k : Nat) (h : 0 ≤ n) : leftS n k ≤ n := by unfold leftS; split <;> omega

theorem ret_int {k : IntKind} {a b : Int} (h : a = b) : Ending.returned (.int k a) = .returned (.int k b) := by rw [h]
theorem ret_bool {a b : Bool} (h : a = b) : Ending.returned (.bool a) = .returned (.bool b) := by rw [h]

theorem bytes_eq {s s' : ByteArray} (h : s.toList = s'.toList) : s = s' := by
  rw [ByteArray.toList_eq, ByteArray.toList_eq] at h
  obtain ⟨⟨l⟩⟩ := s
  obtain ⟨⟨l'⟩⟩ := s'
  have : l = l' := h
  rw [this]

def sameCode (L W : Int) (s : ByteArray) (L' W' : Int) (s' : ByteArray) : Bool := decide (L = L' ∧ W = W' ∧ s = s')

end Go.Proofs.Ytgbbidlbdjbilaa

/- Contract: a number within bounds, by the reference. -/
namespace Go.Proofs.Ytgbbidlbdjbilaa
open Go.RowKit

theorem ret_boolB {a b : Bool} (h : a = b) : Ending.returned (.bool a) = .returned (.bool b) := by rw [h]
theorem spec_l1In_any (x lo hi : Int) (w : World) :
    Calls Try.prog 45 #[.int .i64 x, .int .i64 lo, .int .i64 hi] w fun e w' => e = .returned (.bool (decide (lo ≤ x) && decide (x ≤ hi))) ∧ w = w' := by
  by_cases h : lo ≤ x
  · go_enter Try.func45, Try.ntmps45
    go_wp2
    go_ret
    exact ⟨ret_boolB (by simp [h]), rfl⟩
  · have h' : x < lo := by omega
    go_enter Try.func45, Try.ntmps45
    go_wp2
    go_ret
    exact ⟨ret_boolB (by simp; omega), rfl⟩

theorem spec_l1In_yes (x lo hi : Int) (w : World) (h1 : lo ≤ x) (h2 : x ≤ hi) :
    Calls Try.prog 45 #[.int .i64 x, .int .i64 lo, .int .i64 hi] w fun e w' => e = .returned (.bool true) ∧ w = w' :=
  (spec_l1In_any x lo hi w).mono fun _ _ ⟨he, hw⟩ => ⟨he.trans (ret_boolB (by simp [h1, h2])), hw⟩
theorem spec_l1In_no (x lo hi : Int) (w : World) (h : x < lo ∨ hi < x) :
    Calls Try.prog 45 #[.int .i64 x, .int .i64 lo, .int .i64 hi] w fun e w' => e = .returned (.bool false) ∧ w = w' :=
  (spec_l1In_any x lo hi w).mono fun _ _ ⟨he, hw⟩ => ⟨he.trans (ret_boolB (by simp; omega)), hw⟩
end Go.Proofs.Ytgbbidlbdjbilaa

/- Contracts: powers, letters, what a code is. -/
namespace Go.Proofs.Ytgbbidlbdjbilaa
open Go.RowKit Go.Cm

set_option maxHeartbeats 400000 in
theorem impl_power_any (k n : Int) (w : World) (h0 : 0 ≤ k) (h3 : k ≤ 3) (hn : 0 ≤ n) (h16 : n ≤ 16) :
    Calls Try.prog 85 #[.int .i64 k, .int .i64 n] w fun e w' => e = .returned (.int .i64 (pw k n)) ∧ w = w' := by
  obtain ⟨m, rfl⟩ := Int.eq_ofNat_of_zero_le hn
  go_enter Try.func85, Try.ntmps85
  go_wp2
  go_loop [5, 7] (fun p i => ∃ j : Nat, j ≤ m ∧ i = .int .i64 j ∧ p = .int .i64 (pw k j)) (fun _ i => m - (intOf i).toNat)
  case atStart => exact ⟨0, by omega, rfl, by rw [show ((0 : Nat) : Int) = 0 from rfl, pw_zero]⟩
  case round =>
    obtain ⟨j, hj, rfl, rfl⟩ := hrel
    by_cases hlt : j < m
    · have b1 := pw_bd h0 h3 (n := (j : Int)) (by omega) (by omega)
      have b2 := pw_bd h0 h3 (n := ((j + 1 : Nat) : Int)) (by omega) (by omega)
      have e : ((j + 1 : Nat) : Int) = (j : Int) + 1 := by omega
      rw [e, pw_succ] at b2
      obtain ⟨b1l, b1h⟩ := b1
      obtain ⟨b2l, b2h⟩ := b2
      clear e
      go_wp2
      go_round
      case rel => exact ⟨j + 1, by omega, by go_num, by rw [show ((j + 1 : Nat) : Int) = (j : Int) + 1 by omega, pw_succ]⟩
      case measure => simp [intOf]; omega
    · go_wp2
      go_ret
      have : j = m := by omega
      subst this
      exact ⟨rfl, rfl⟩

set_option maxHeartbeats 400000 in
theorem impl_areLetters_any (K : Int) (s : ByteArray) (w : World) (hs : s.size ≤ maxLen) :
    Calls Try.prog 71 #[.int .i64 K, .string s] w fun e w' => e = .returned (.bool (areLet K s.data.toList)) ∧ w = w' := by
  unfold maxLen at hs
  go_enter Try.func71, Try.ntmps71
  go_wp2
  go_loop [5, 8] (fun _ i => ∃ k : Nat, k ≤ s.size ∧ i = .int .i64 k ∧ areLet K (s.data.toList.take k) = true) (fun _ i => s.size - (intOf i).toNat)
  case atStart => exact ⟨0, by omega, rfl, by simp [areLet]⟩
  case round =>
    obtain ⟨k, hk, rfl, hp⟩ := hrel
    have HP := Lib.hid hp
    clear hp
    by_cases hlt : k < s.size
    · have hb := s[k].toNat_lt
      go_wp2
      · go_ret
        exact ⟨ret_bool (areLet_bad hlt (by omega)).symm, rfl⟩
      · go_round
        case rel => exact ⟨k + 1, by omega, by go_num, areLet_snoc hlt HP.out (by omega) (by omega)⟩
        case measure => simp [intOf]; omega
      · go_ret
        exact ⟨ret_bool (areLet_bad hlt (by omega)).symm, rfl⟩
    · have : k = s.size := by omega
      subst this
      go_wp2
      go_ret
      exact ⟨ret_bool (areLet_all HP.out).symm, rfl⟩

theorem codeOk_letters {L W : Int} {s : ByteArray} (h2 : ¬ L = 2) (h3 : ¬ L = 3) : codeOk L W s = false := by simp [codeOk, h2, h3]
theorem codeOk_low {L W : Int} {s : ByteArray} (h : ¬ 1 ≤ W) : codeOk L W s = false := by simp [codeOk, h]
theorem codeOk_high {L W : Int} {s : ByteArray} (h : ¬ W ≤ 4) : codeOk L W s = false := by simp [codeOk, h]
theorem codeOk_width {L W : Int} {s : ByteArray} (h : ¬ (1 ≤ W ∧ W ≤ 4)) : codeOk L W s = false := by
  by_cases h1 : 1 ≤ W
  · exact codeOk_high (fun h4 => h ⟨h1, h4⟩)
  · exact codeOk_low h1
theorem codeOk_great {L W : Int} {s : ByteArray} (h : ¬ pw L W ≤ 27) : codeOk L W s = false := by simp [codeOk, h]
theorem codeOk_size {L W : Int} {s : ByteArray} (h : ¬ (s.size : Int) = pw L W) : codeOk L W s = false := by simp [codeOk, h]
theorem codeOk_rest {L W : Int} {s : ByteArray} (h : L = 2 ∨ L = 3) (h1 : 1 ≤ W) (h2 : W ≤ 4) (h3 : pw L W ≤ 27) (h4 : (s.size : Int) = pw L W) : codeOk L W s = areLet L s.data.toList := by
  unfold codeOk
  rw [decide_eq_true h1, decide_eq_true h2, decide_eq_true h3, decide_eq_true h4]
  rcases h with h | h <;> simp [h]

end Go.Proofs.Ytgbbidlbdjbilaa

/- Contract: the reference's IsCode. -/
namespace Go.Proofs.Ytgbbidlbdjbilaa
open Go.RowKit Go.Cm

theorem codeOk_at {L W : Int} {s : ByteArray} {k : Nat} (hk : k < s.size) (h1 : ¬ (97 ≤ (s[k].toNat : Int) ∧ (s[k].toNat : Int) - 97 < L)) : codeOk L W s = false := by
  unfold codeOk
  rw [areLet_bad hk h1]
  simp

end Go.Proofs.Ytgbbidlbdjbilaa

/- Closed facts on types of this translation. -/
namespace Go.Proofs.Ytgbbidlbdjbilaa
theorem infoU8 : (Try.prog.info? 5).map (fun i => (i.zero, i.size, i.bytes)) = some (some (.int .u8 0), 1, 1) := by kernel_rfl
theorem infoInt : (Try.prog.info? 3).map (fun i => (i.zero, i.size, i.bytes)) = some (some (.int .i64 0), 1, 8) := by kernel_rfl
theorem infoStr : (Try.prog.info? 9).map (fun i => (i.zero, i.size, i.bytes)) = some (some (.string ⟨#[]⟩), 1, 16) := by kernel_rfl
end Go.Proofs.Ytgbbidlbdjbilaa

/- Contracts: the word at an index, the words of a length. -/
namespace Go.Proofs.Ytgbbidlbdjbilaa
open Go.RowKit Go.Cm

/-- where the loop of wordAt stands: k letters are still to come -/
structure WordSt (K n i0 : Nat) (k rest : Nat) (fs : List Value) : Prop where
  le : k ≤ n
  len : fs.length = n
  word : ∃ t : List UInt8, wordL K k rest ++ t = wordL K n i0 ∧ fs.drop k = bcells t

theorem wordSt_start (K n i : Nat) : WordSt K n i n i (List.replicate n (.int .u8 0)) :=
  ⟨Nat.le_refl _, by simp, [], by simp, by simp [bcells]⟩
theorem wordSt_step {K n i0 k rest : Nat} {fs : List Value} (hK : K ≤ 3) (hK0 : 0 < K) (h : WordSt K n i0 (k + 1) rest fs) : WordSt K n i0 k (rest / K) (fs.set k (.int .u8 ((97 : Int) + (rest : Int) % (K : Int)))) := by
  obtain ⟨hle, hlen, t, ht, hf⟩ := h
  refine ⟨by omega, by simpa using hlen, letN (rest % K) :: t, ?_, ?_⟩
  · rw [← ht]; simp [wordL]
  · have hk : k < fs.length := by omega
    rw [List.drop_eq_getElem_cons (by simpa using hk)]
    simp only [List.getElem_set_self, bcells, List.map_cons]
    have hm : rest % K < K := Nat.mod_lt _ hK0
    unfold letN
    rw [ofNat_toNat (by omega)]
    have e : ((97 + rest % K : Nat) : Int) = (97 : Int) + (rest : Int) % (K : Int) := by simp
    rw [e]
    congr 1
    rw [List.drop_set_of_lt (by omega)]
    exact hf
theorem wordSt_end {K n i0 rest : Nat} {fs : List Value} (h : WordSt K n i0 0 rest fs) : fs = bcells (wordL K n i0) := by
  obtain ⟨_, _, t, ht, hf⟩ := h
  have : t = wordL K n i0 := by simpa [wordL] using ht
  rw [← this]; simpa using hf

set_option maxHeartbeats 400000 in
theorem impl_wordAt_any (K n i : Nat) (w : World) (hK0 : 0 < K) (hK : K ≤ 3) (hn : n ≤ 16) (hi : i ≤ 43046721) :
    Calls Try.prog 86 #[.int .i64 K, .int .i64 n, .int .i64 i] w fun e w' => e = .returned (.string (mkS (wordL K n i))) ∧ Ext w w' := by
  have hmk := run_make_row' (P := Try.prog) 70 5 (.int .u8 0) 1 Try.underlying70 infoU8 rfl .i64 .i64 n (by omega) (by omega)
  go_enter Try.func86, Try.ntmps86
  go_wp2
  go_loopw [2, 8] (fun x j wr => ∃ (k rest : Nat) (fs : List Value), j = .int .i64 ((k : Int) - 1) ∧ x = .int .i64 rest ∧ rest ≤ i ∧ WordSt K n i k rest fs ∧ Own wr w.heap.size 5 (.slice (some ⟨w.heap.size, 0, none⟩) n n) fs ∧ Ext w wr) (fun _ j _ => (intOf j + 1).toNat)
  case atStart => exact ⟨n, i, _, rfl, rfl, Nat.le_refl _, wordSt_start K n i, Own.made w _ _ n (by unfold maxLen; omega), Ext.alloc _ _⟩
  case round =>
    obtain ⟨k, rest, fs, rfl, rfl, hri, hst, hown, hx⟩ := hrel
    cases k with
    | zero =>
      have hf := wordSt_end hst
      subst hf
      have hcv := run_convert_own (P := Try.prog) (src := 70) (dst := 9) Try.underlying70 Try.underlying5 Try.underlying9 hown
      have HS := Lib.hid hst
      clear hst
      go_wp2
      go_ret
      exact ⟨rfl, hx⟩
    | succ k =>
      have hk : k < n := by have := hst.le; omega
      have hlen := hst.len
      obtain ⟨v, hc⟩ : ∃ v, wr.cell? ⟨w.heap.size, k, none⟩ = some v := ⟨_, hown.cell k (by omega)⟩
      have hfz := hown.frozen k
      have e1 : ((k + 1 : Nat) : Int) - 1 = (k : Int) := by omega
      rw [e1]
      clear e1
      have hm0 : (0 : Int) ≤ (rest : Int) % (K : Int) := Int.emod_nonneg _ (by omega)
      have hm1 : (rest : Int) % (K : Int) < K := Int.emod_lt_of_pos _ (by omega)
      have hd0 : (0 : Int) ≤ (rest : Int) / (K : Int) := Int.ediv_nonneg (by omega) (by omega)
      have hd1 : (rest : Int) / (K : Int) ≤ rest := Int.ediv_le_self _ (by omega)
      have HS := Lib.hid hst
      have HL := Lib.hid hlen
      clear hst hlen
      go_wp2
      go_roundw
      case rel => exact ⟨k, rest / K, _, rfl, by go_num, by have := Nat.div_le_self rest K; omega, wordSt_step hK hK0 HS.out, hown.store k _, hx.setCell (Nat.le_refl _) _⟩
      case measure => simp [intOf]

theorem wordsL_take (k n j : Nat) (hj : j < k ^ n) : (wordsL k n).take (j + 1) = (wordsL k n).take j ++ [wordL k n j] := by
  rw [List.take_succ_eq_append_getElem (by simpa [wordsL] using hj)]
  simp [wordsL]
theorem wordsL_all (k n : Nat) : (wordsL k n).take (k ^ n) = wordsL k n := List.take_of_length_le (by simp [wordsL])
theorem wordsL_take_length (k n j : Nat) (hj : j ≤ k ^ n) : ((wordsL k n).take j).length = j := by simp [wordsL]; omega
/-- words as cells -/
def scells (l : List (List UInt8)) : List Value := l.map fun u => .string (mkS u)
theorem pw_nat (K n : Nat) : pw (K : Int) (n : Int) = ((K ^ n : Nat) : Int) := by simp [pw]

set_option maxHeartbeats 400000 in
theorem impl_wordsOf_any (K n : Nat) (w : World) (hK0 : 0 < K) (hK : K ≤ 3) (hn : n ≤ 16) (hKn : K ^ n ≤ 43046721) :
    Calls Try.prog 66 #[.int .i64 K, .int .i64 n] w fun e w' => ∃ v, e = .returned v ∧ Own w' w.heap.size 9 v (scells (wordsL K n)) ∧ Ext w w' := by
  go_enter Try.func66, Try.ntmps66
  go_wp2_with fail
  refine (impl_power_any _ _ _ (by omega) (by omega) (by omega) (by omega)).mono ?_
  rintro e w1 ⟨rfl, rfl⟩
  rw [pw_nat]
  obtain ⟨N, hN⟩ : ∃ N, N = K ^ n := ⟨_, rfl⟩
  rw [← hN] at hKn ⊢
  have HN := Lib.hid hN
  clear hN
  have hB0 : Own (w.alloc (.cells #[] 9)) w.heap.size 9 (.slice (some ⟨w.heap.size, 0, none⟩) 0 0) [] := Own.lit w 9 [] (by simp)
  go_wp2
  go_loopw [5, 6, 11] (fun v _ i wr => ∃ k : Nat, k ≤ N ∧ i = .int .i64 k ∧ Own wr w.heap.size 9 v (scells ((wordsL K n).take k)) ∧ Ext w wr) (fun _ _ i _ => N - (intOf i).toNat)
  case atStart => exact ⟨0, by omega, rfl, hB0, Ext.alloc _ _⟩
  case round =>
    obtain ⟨k, hk, rfl, hown, hx⟩ := hrel
    by_cases hlt : k < N
    · go_wp2_with fail
      refine (impl_wordAt_any K n k _ hK0 hK hn (by omega)).mono ?_
      rintro e w1 ⟨rfl, hx1⟩
      have hown1 := hown.ext hx1
      have hx01 := hx.trans hx1
      clear hx hx1 hown
      have hlen : (scells ((wordsL K n).take k)).length = k := by simp only [scells, List.length_map]; exact wordsL_take_length K n k (by rw [← HN.out]; exact hk)
      have hl1 : (scells ((wordsL K n).take k)).length + 1 ≤ maxLen := by unfold maxLen; omega
      have hl2 : ((scells ((wordsL K n).take k)).length + 1) * 16 ≤ 140737488355328 := by omega
      have HL := Lib.hid hlen
      clear hlen
      go_wp2_with (at_builtin; refine wpList_append_one rfl (.tmp 14) (.tmp 19) 22 rfl 9 _ _ Try.underlying22 infoStr rfl w.heap.size _ _ rfl (hown1.ext (Ext.alloc _ _)) w1.heap.size _ rfl (by simp; rfl) rfl hl1 hl2 w rfl (hx01.trans (Ext.alloc _ _)) ?_; intro v' w2 hown2 hx2 _)
      go_roundw
      case rel => exact ⟨k + 1, by omega, by go_num, by rw [wordsL_take K n k (by rw [← HN.out]; exact hlt)]; simpa [scells] using hown2, hx2⟩
      case measure => simp [intOf]; omega
    · have : k = N := by omega
      subst this
      have hN := HN.out
      rw [hN, wordsL_all] at hown
      clear hN
      go_wp2
      go_ret
      exact ⟨_, rfl, hown, hx⟩
end Go.Proofs.Ytgbbidlbdjbilaa

/- Contracts: the index of a word, the letter that a code gives, a code on a word: the program's. -/
namespace Go.Proofs.Ytgbbidlbdjbilaa
open Go.RowKit Go.Cm

theorem impl_isLetters_any (k : Int) (w : World) :
    Calls Try.prog 70 #[.int .i64 k] w fun e w' => e = .returned (.bool (decide (1 ≤ k) && decide (k ≤ 3))) ∧ w = w' := by
  by_cases h : 1 ≤ k
  · go_enter Try.func70, Try.ntmps70
    go_wp2
    go_ret
    exact ⟨ret_bool (by simp [h]), rfl⟩
  · have h' : k < 1 := by omega
    go_enter Try.func70, Try.ntmps70
    go_wp2
    go_ret
    exact ⟨ret_bool (by simp; omega), rfl⟩

end Go.Proofs.Ytgbbidlbdjbilaa

/- Contracts: the letter that a code gives, a code on a word: the program's. -/
namespace Go.Proofs.Ytgbbidlbdjbilaa
open Go.RowKit Go.Cm

/-- a code that is right -/
structure CodeFit (K n : Nat) (o : ByteArray) : Prop where
  k2 : 2 ≤ K
  k3 : K ≤ 3
  n1 : 1 ≤ n
  n4 : n ≤ 4
  le : K ^ n ≤ 27
  size : o.size = K ^ n
  lets : areLet K o.data.toList = true

theorem codeFit_of {L W : Int} {o : ByteArray} (h : codeOk L W o = true) : ∃ K n : Nat, L = K ∧ W = n ∧ CodeFit K n o := by
  obtain ⟨K, n, h1, h2, a, b, c, d, e, f, g⟩ := codeOk_parts h
  exact ⟨K, n, h1, h2, ⟨a, b, c, d, e, f, g⟩⟩

theorem givesL_eq {K n : Nat} {o : ByteArray} (hf : CodeFit K n o) {u : List UInt8} (hl : u.length = n) (ha : areLet K u = true) : ∃ h : idxL K u < o.size, givesL K o u = o[idxL K u] := by
  have h1 := idxL_lt K u ha
  rw [hl, ← hf.size] at h1
  refine ⟨h1, ?_⟩
  unfold givesL
  rw [List.getD_eq_getElem?_getD, List.getElem?_eq_getElem (by simpa using h1)]
  rfl

end Go.Proofs.Ytgbbidlbdjbilaa

/- Contracts: what a word is, the letter that a code gives, a code on a word: the reference's. -/
namespace Go.Proofs.Ytgbbidlbdjbilaa
open Go.RowKit Go.Cm

theorem wordOk_at {k : Int} {s : ByteArray} {i : Nat} (hi : i < s.size) (h1 : ¬ (97 ≤ (s[i].toNat : Int) ∧ (s[i].toNat : Int) - 97 < k)) : wordOk k s = false := by
  unfold wordOk
  rw [areLet_bad hi h1]
  simp

set_option maxHeartbeats 400000 in
theorem spec_IsWord_any (k : Int) (s : ByteArray) (w : World) (hs : s.size ≤ maxLen) :
    Calls Try.prog 69 #[.int .i64 k, .string s] w fun e w' => e = .returned (.bool (wordOk k s)) ∧ w = w' := by
  unfold maxLen at hs
  go_enter Try.func69, Try.ntmps69
  go_wp2
  go_loop [5] (fun i => ∃ j : Nat, j ≤ s.size ∧ i = .int .i64 j ∧ areLet k (s.data.toList.take j) = true) (fun i => s.size - (intOf i).toNat)
  case atStart => exact ⟨0, by omega, rfl, by simp [areLet]⟩
  case round =>
    obtain ⟨j, hj, rfl, hp⟩ := hrel
    have HP := Lib.hid hp
    clear hp
    by_cases hlt : j < s.size
    · have hb := s[j].toNat_lt
      go_wp2
      · go_ret
        exact ⟨ret_bool (wordOk_at hlt (by omega)).symm, rfl⟩
      · go_round
        case rel => exact ⟨j + 1, by omega, by go_num, areLet_snoc hlt HP.out (by omega) (by omega)⟩
        case measure => simp [intOf]; omega
      · go_ret
        exact ⟨ret_bool (wordOk_at hlt (by omega)).symm, rfl⟩
    · have : j = s.size := by omega
      subst this
      have ha := areLet_all HP.out
      have HA := Lib.hid ha
      clear ha
      by_cases h1 : 1 ≤ k ∧ k ≤ 3
      · obtain ⟨h1, h3⟩ := h1
        go_wp2_with (go_at_call 45; refine (spec_l1In_yes _ _ _ _ h1 h3).mono ?_; rintro e w' ⟨rfl, rfl⟩)
        all_goals (go_ret; exact ⟨ret_bool (by simp [wordOk, h1, h3, HA.out]; omega), rfl⟩)
      · have H1 := Lib.hid h1
        clear h1
        go_wp2_with (go_at_call 45; refine (spec_l1In_no k 1 3 _ (by have := H1.out; omega)).mono ?_; rintro e w' ⟨rfl, rfl⟩)
        all_goals (go_ret; exact ⟨ret_bool (by have := H1.out; simp [wordOk]; omega), rfl⟩)

end Go.Proofs.Ytgbbidlbdjbilaa

/- Contracts of the laws' own helpers on lists and tables of numbers: sizes, copies, comparisons, marks. -/
namespace Go.Proofs.Ytgbbidlbdjbilaa
open Go.RowKit

theorem infoRow : (Try.prog.info? 51).map (fun i => (i.zero, i.size, i.bytes)) = some (some (.slice none 0 0), 1, 24) := by kernel_rfl
/-- a row's length taken off -/
def leftR (n : Int) (k : Nat) : Int := if n - k < 0 then -1 else n - k

end Go.Proofs.Ytgbbidlbdjbilaa

/- Contracts of the laws' own helpers on tables of numbers: copies, comparisons, marks. -/
namespace Go.Proofs.Ytgbbidlbdjbilaa
open Go.RowKit

set_option maxHeartbeats 1000000 in
theorem eqIntS_same (v v' : Value) (xs : List Int) (w : World) (h : ReadsI w v xs) (h' : ReadsI w v' xs) :
    Calls Try.prog 52 #[v, v'] w fun e w' => e = .returned (.bool true) ∧ Ext w w' := by
  obtain ⟨a, c, rfl⟩ := h.slice
  obtain ⟨a', c', rfl⟩ := h'.slice
  obtain ⟨-, hlc, hc⟩ := h.len
  obtain ⟨n, hn⟩ : ∃ n, n = xs.length := ⟨_, rfl⟩
  rw [← hn] at hlc h h' ⊢
  have HM := Lib.hid (And.intro h (And.intro h' hn))
  clear h h' hn
  go_enter Try.func52, Try.ntmps52
  go_wp2
  go_loopw [5] (fun i wr => ∃ k : Nat, k ≤ n ∧ i = .int .i64 k ∧ Ext w wr) (fun i _ => n - (intOf i).toNat)
  case atStart => exact ⟨0, by omega, rfl, Ext.refl _⟩
  case round =>
    obtain ⟨k, hk, rfl, hx⟩ := hrel
    by_cases hlt : k < n
    · have hkm : k < xs.length := by rw [← HM.out.2.2]; exact hlt
      obtain ⟨b, o, rfl, hcell⟩ := (HM.out.1.ext hx).at k hkm
      obtain ⟨b', o', rfl, hcell'⟩ := (HM.out.2.1.ext hx).at k hkm
      obtain ⟨x, hxx⟩ : ∃ x, x = xs.getD k 0 := ⟨_, rfl⟩
      rw [← hxx] at hcell hcell'
      clear hxx
      have hxd : ∀ j, Ext w (wr.drewN j) := fun j => hx.drewN j
      go_wp2
      go_quiet (fail)
      go_wp2
      go_roundw
      case rel => exact ⟨k + 1, by omega, by go_num, hxd _⟩
      case measure => simp [intOf]; omega
    · go_wp2
      go_ret
      exact ⟨rfl, hx⟩

set_option maxHeartbeats 1000000 in
theorem eqIntSS_same (v v' : Value) (m : List (List Int)) (w : World) (h : ReadsRows w v m) (h' : ReadsRows w v' m) :
    Calls Try.prog 25 #[v, v'] w fun e w' => e = .returned (.bool true) ∧ Ext w w' := by
  obtain ⟨a, c, rfl⟩ := h.slice
  obtain ⟨a', c', rfl⟩ := h'.slice
  obtain ⟨-, hlc, hc⟩ := h.len
  obtain ⟨n, hn⟩ : ∃ n, n = m.length := ⟨_, rfl⟩
  rw [← hn] at hlc h h' ⊢
  have HM := Lib.hid (And.intro h (And.intro h' hn))
  clear h h' hn
  go_enter Try.func25, Try.ntmps25
  go_wp2
  go_loopw [5] (fun i wr => ∃ k : Nat, k ≤ n ∧ i = .int .i64 k ∧ Ext w wr) (fun i _ => n - (intOf i).toNat)
  case atStart => exact ⟨0, by omega, rfl, Ext.refl _⟩
  case round =>
    obtain ⟨k, hk, rfl, hx⟩ := hrel
    by_cases hlt : k < n
    · have hkm : k < m.length := by rw [← HM.out.2.2]; exact hlt
      obtain ⟨b, o, a1, c1, rfl, hcell, hrow⟩ := (HM.out.1.ext hx).at k hkm
      obtain ⟨b', o', a1', c1', rfl, hcell', hrow'⟩ := (HM.out.2.1.ext hx).at k hkm
      obtain ⟨r, hr⟩ : ∃ r, r = m.getD k [] := ⟨_, rfl⟩
      rw [← hr] at hcell hcell' hrow hrow'
      have HR := Lib.hid (And.intro hrow hrow')
      clear hr hrow hrow'
      obtain ⟨wq, rfl⟩ : ∃ wq : World, wq = wr := ⟨_, rfl⟩
      go_wp2
      refine wp_region_inv (by kernel_rfl) (.known ?hx5_6_v0 :: .known ?hx5_6_v1 :: .known ?hx5_6_v2 :: .known ?hx5_6_v3 :: .known ?hx5_6_v4 :: .known ?hx5_6_v5 :: .known ?hx5_6_v6 :: .known ?hx5_6_v7 :: .known (.bool true) :: .known ?hx5_6_v9 :: []) rfl (by kernel_rfl) ?hx5_6_s ?hx5_6_p
      case hx5_6_s =>
        intro vs
        refine ⟨fun w' hxw hj => ?_, fun w' hxw hj => ?_, fun w' hxw hj => ?_, fun w' hxw hj => ?_, fun w' hxw hj => ?_, fun w' hxw hj => ?_, fun w' hxw hj => ?_, fun w' hxw hj => ?_, fun w' hxw hj => ?_, fun w' hxw hj => ?_, trivial⟩
        · have hcell := Ext.cell_some hxw hcell
          have hcell' := Ext.cell_some hxw hcell'
          clear hj
          go_simp
          try go_bits
          first | rfl | (rw [if_pos (by omega), if_pos (by omega)]; go_simp; rfl) | (rw [if_pos (by omega)]; go_simp; rfl) | skip
        · have hcell := Ext.cell_some hxw hcell
          have hcell' := Ext.cell_some hxw hcell'
          clear hj
          go_simp
          try go_bits
          first | rfl | (rw [if_pos (by omega), if_pos (by omega)]; go_simp; rfl) | (rw [if_pos (by omega)]; go_simp; rfl) | skip
        · have hcell := Ext.cell_some hxw hcell
          have hcell' := Ext.cell_some hxw hcell'
          clear hj
          go_simp
          try go_bits
          first | rfl | (rw [if_pos (by omega), if_pos (by omega)]; go_simp; rfl) | (rw [if_pos (by omega)]; go_simp; rfl) | skip
        · have hcell := Ext.cell_some hxw hcell
          have hcell' := Ext.cell_some hxw hcell'
          clear hj
          go_simp
          try go_bits
          first | rfl | (rw [if_pos (by omega), if_pos (by omega)]; go_simp; rfl) | (rw [if_pos (by omega)]; go_simp; rfl) | skip
        · have hcell := Ext.cell_some hxw hcell
          have hcell' := Ext.cell_some hxw hcell'
          clear hj
          go_simp
          try go_bits
          first | rfl | (rw [if_pos (by omega), if_pos (by omega)]; go_simp; rfl) | (rw [if_pos (by omega)]; go_simp; rfl) | skip
        · have hcell := Ext.cell_some hxw hcell
          have hcell' := Ext.cell_some hxw hcell'
          clear hj
          go_simp
          try go_bits
          first | rfl | (rw [if_pos (by omega), if_pos (by omega)]; go_simp; rfl) | (rw [if_pos (by omega)]; go_simp; rfl) | skip
        · have hcell := Ext.cell_some hxw hcell
          have hcell' := Ext.cell_some hxw hcell'
          clear hj
          go_simp
          try go_bits
          first | rfl | (rw [if_pos (by omega), if_pos (by omega)]; go_simp; rfl) | (rw [if_pos (by omega)]; go_simp; rfl) | skip
        · have hcell := Ext.cell_some hxw hcell
          have hcell' := Ext.cell_some hxw hcell'
          clear hj
          go_simp
          try go_bits
          first | rfl | (rw [if_pos (by omega), if_pos (by omega)]; go_simp; rfl) | (rw [if_pos (by omega)]; go_simp; rfl) | skip
        · have hcell := Ext.cell_some hxw hcell
          have hcell' := Ext.cell_some hxw hcell'
          clear hj
          go_simp
          try go_bits
          exact eqIntS_same _ _ r _ (HR.out.1.ext hxw) (HR.out.2.ext hxw)
        · have hcell := Ext.cell_some hxw hcell
          have hcell' := Ext.cell_some hxw hcell'
          clear hj
          go_simp
          try go_bits
          first | rfl | (rw [if_pos (by omega), if_pos (by omega)]; go_simp; rfl) | (rw [if_pos (by omega)]; go_simp; rfl) | skip
      case' hx5_6_p =>
        intro vs w5 hx5 hk
        clear hk
        replace hcell := Ext.cell_some hx5 hcell
        replace hcell' := Ext.cell_some hx5 hcell'
        replace hx := Ext.trans hx hx5
        go_simp
        clear hx5
        go_wp2
        go_roundw
        case rel => exact ⟨k + 1, by omega, by go_num, hx⟩
        case measure => simp [intOf]; omega
    · go_wp2
      go_ret
      exact ⟨rfl, hx⟩

set_option maxHeartbeats 1000000 in
theorem markIntS_any (B : Nat) (v : Value) (xs : List Int) (q : Int) (w : World) (h : Own w B 3 v (icells xs)) (h0 : 0 ≤ q) (h1 : q + (xs.length : Int) ≤ 4611686018427387904) :
    Calls Try.prog 53 #[v, .int .i64 q] w fun e w' => e = .returned (.int .i64 (q + (xs.length : Int))) ∧ w.grownBy w' v.ownBlock ∧ Own w' B 3 v (icells (countL q xs.length)) := by
  rcases h.shape with ⟨rfl, hnil⟩ | ⟨g, cap, rfl, hg, hgl, hnc, hcm⟩
  · have hx0 : xs = [] := List.eq_nil_of_length_eq_zero (by rw [← icells_length, hnil]; rfl)
    subst hx0
    go_enter Try.func53, Try.ntmps53
    go_wp2
    go_loop [1, 5] (fun x i => x = .int .i64 q ∧ i = .int .i64 0) (fun _ i => 0)
    case atStart => exact ⟨rfl, rfl⟩
    case round =>
      obtain ⟨rfl, rfl⟩ := hrel
      go_wp2
      go_ret
      exact ⟨ret_int (by simp), GB.refl _ _, h⟩
  · rw [icells_length] at h hnc ⊢
    obtain ⟨n, hn⟩ : ∃ n, n = xs.length := ⟨_, rfl⟩
    rw [← hn] at h h1 hnc ⊢
    unfold maxLen at hcm
    have H0 := Lib.hid (And.intro h hn)
    clear h hn
    go_enter Try.func53, Try.ntmps53
    go_wp2
    go_loopw [1, 5] (fun x i wr => ∃ k : Nat, k ≤ n ∧ i = .int .i64 k ∧ x = .int .i64 (q + (k : Int)) ∧ w.grownBy wr (some g) ∧ Own wr B 3 (.slice (some ⟨g, 0, none⟩) n cap) (icells (countL q k ++ xs.drop k))) (fun _ i _ => n - (intOf i).toNat)
    case atStart => exact ⟨0, by omega, rfl, by simp, GB.refl _ _, by simpa [countL] using H0.out.1⟩
    case round =>
      obtain ⟨k, hk, rfl, rfl, hgb, hown⟩ := hrel
      by_cases hlt : k < n
      · have hkm : k < xs.length := by rw [← H0.out.2]; exact hlt
        have hc1 := hown.int_at k (by simp [countL_length]; omega)
        have hf1 := hown.frozen k
        have hst := hown.store k (.int .i64 (q + (k : Int)))
        rw [icells_set] at hst
        have e : (countL q k ++ xs.drop k).set k (q + (k : Int)) = countL q (k + 1) ++ xs.drop (k + 1) := by
          rw [List.set_append_right _ _ (by simp [countL_length]), countL_length, Nat.sub_self, List.drop_eq_getElem_cons hkm, List.set_cons_zero]
          simp [countL, List.range_succ]
        rw [e] at hst
        have hgb' := GB.setCell hgb k (.int .i64 (q + (k : Int)))
        have HS := Lib.hid (And.intro hst hgb')
        clear hst hgb' e hgb hown
        go_wp2
        go_roundw
        case rel => exact ⟨k + 1, by omega, by go_num, by go_num, HS.out.2, HS.out.1⟩
        case measure => simp [intOf]; omega
      · have hkn : k = n := by omega
        subst hkn
        rw [List.drop_of_length_le (by rw [← H0.out.2]; exact Nat.le_refl _), List.append_nil] at hown
        go_wp2
        go_ret
        exact ⟨rfl, hgb, hown⟩

set_option maxHeartbeats 1000000 in
theorem markIntSS_any (B g cap C : Nat) (gs cs : Nat → Nat) (m : List (List Int)) (q : Int) (w : World) (h : MTab w B 51 3 g m.length cap gs cs m) (h0 : 0 ≤ q) (h1 : q + (sizeM m : Int) ≤ 4611686018427387904) (hC : ∀ i, i < m.length → gs i < C) :
    Calls Try.prog 26 #[.slice (some ⟨g, 0, none⟩) m.length cap, .int .i64 q] w fun e w' => e = .returned (.int .i64 (q + (sizeM m : Int))) ∧ Within B C w w' ∧ MTab w' B 51 3 g m.length cap gs cs (markM q m) := by
  obtain ⟨n, hn⟩ : ∃ n, n = m.length := ⟨_, rfl⟩
  have hcp := h.caps
  unfold maxLen at hcp
  obtain ⟨hcp1, hcp2⟩ := hcp
  rw [← hn] at h hcp1 ⊢
  have H0 := Lib.hid (And.intro h (And.intro hn hC))
  clear h hn hC
  go_enter Try.func26, Try.ntmps26
  go_wp2
  go_loopw [1, 5] (fun x i wr => ∃ k : Nat, k ≤ n ∧ i = .int .i64 k ∧ x = .int .i64 (q + (sizeM (m.take k) : Int)) ∧ Within B C w wr ∧ MTab wr B 51 3 g n cap gs cs (markTo q m k)) (fun _ i _ => n - (intOf i).toNat)
  case atStart => exact ⟨0, by omega, rfl, by simp [sizeM], Within.refl _ _ _, by rw [markTo_zero]; exact H0.out.1⟩
  case round =>
    obtain ⟨k, hk, rfl, rfl, hwi, ht⟩ := hrel
    by_cases hlt : k < n
    · have hkm : k < m.length := by rw [← H0.out.2.1]; exact hlt
      have hkt : k < (markTo q m k).length := by rw [markTo_length]; exact hkm
      have hc1 := ht.spot k hkt
      have hrow := ht.row k hkt
      rw [markTo_ge q m k k (by omega) (Nat.le_refl _)] at hc1 hrow
      have hlt1 := ht.rowlt k hkt
      have hs := sizeM_take m k hkm
      have hle := sizeM_take_le m (k + 1)
      have hsucc := markTo_succ q m k hkm
      have hgC := H0.out.2.2 k hkm
      obtain ⟨r, hr⟩ : ∃ r, r = m.getD k [] := ⟨_, rfl⟩
      have hrl : (markTo q m k).getD k [] = r := by rw [hr]; exact markTo_ge q m k k (by omega) (Nat.le_refl _)
      rw [← hr] at hc1 hrow hs hsucc
      obtain ⟨s, hss⟩ : ∃ s, s = sizeM (m.take k) := ⟨_, rfl⟩
      rw [← hss] at hs hsucc ⊢
      have HS := Lib.hid (And.intro hs (And.intro hsucc (And.intro hrl hrow)))
      have hb : q + (s : Int) + (r.length : Int) ≤ 4611686018427387904 := by omega
      clear hs hle hsucc hrl hrow hr hss
      go_wp2_with fail
      with_reducible refine (markIntS_any B _ r _ _ HS.out.2.2.2 (by omega) hb).mono ?_
      rintro e w1 ⟨rfl, hgb, hown⟩
      have hwi' := hwi.trans (Within.grown (C := C) hgb hlt1.1 hgC)
      have ht' := ht.turn k hkt hgb (countL (q + (s : Int)) r.length) (by rw [countL_length, HS.out.2.2.1]) (by rw [countL_length]; exact hown)
      rw [← HS.out.2.1] at ht'
      clear hgb hown ht hwi hc1 hlt1
      go_wp2
      go_roundw
      case rel => exact ⟨k + 1, by omega, by go_num, by rw [HS.out.1]; go_num, hwi', ht'⟩
      case measure => simp [intOf]; omega
    · have hkn : k = n := by omega
      subst hkn
      have e1 := H0.out.2.1
      have e2 : sizeM (m.take k) = sizeM m := by rw [e1]; exact sizeM_all m
      have e3 : markTo q m k = markM q m := by rw [e1]; exact markTo_all q m
      rw [e3] at ht
      rw [e2]
      clear e1 e2 e3
      go_wp2
      go_ret
      exact ⟨rfl, hwi, ht⟩

set_option maxHeartbeats 1000000 in
theorem heldIntS_same (v : Value) (n : Nat) (q : Int) (w : World) (h : ReadsI w v (countL q n)) (h0 : 0 ≤ q) (h1 : q + (n : Int) ≤ 4611686018427387904) :
    Calls Try.prog 54 #[v, .int .i64 q] w fun e w' => e = .returned (.int .i64 (q + (n : Int))) ∧ w = w' := by
  obtain ⟨a, c, rfl⟩ := h.slice
  obtain ⟨-, hlc, hc⟩ := h.len
  rw [countL_length] at h hlc ⊢
  have HM := Lib.hid h
  clear h
  go_enter Try.func54, Try.ntmps54
  go_wp2
  go_loop [1, 5] (fun x i => ∃ k : Nat, k ≤ n ∧ i = .int .i64 k ∧ x = .int .i64 (q + (k : Int))) (fun _ i => n - (intOf i).toNat)
  case atStart => exact ⟨0, by omega, rfl, by simp⟩
  case round =>
    obtain ⟨k, hk, rfl, rfl⟩ := hrel
    by_cases hlt : k < n
    · obtain ⟨b, o, rfl, hcell⟩ := HM.out.at k (by rw [countL_length]; exact hlt)
      rw [countL_at _ _ _ hlt] at hcell
      go_wp2
      go_round
      case rel => exact ⟨k + 1, by omega, by go_num, by go_num⟩
      case measure => simp [intOf]; omega
    · have hkn : k = n := by omega
      subst hkn
      go_wp2
      go_ret
      exact ⟨rfl, rfl⟩

set_option maxHeartbeats 1000000 in
theorem heldIntSS_same (v : Value) (m : List (List Int)) (q : Int) (w : World) (h : ReadsRows w v (markM q m)) (h0 : 0 ≤ q) (h1 : q + (sizeM m : Int) ≤ 4611686018427387904) :
    Calls Try.prog 27 #[v, .int .i64 q] w fun e w' => e = .returned (.int .i64 (q + (sizeM m : Int))) ∧ w = w' := by
  obtain ⟨a, c, rfl⟩ := h.slice
  obtain ⟨-, hlc, hc⟩ := h.len
  rw [markM_length] at h hlc ⊢
  obtain ⟨n, hn⟩ : ∃ n, n = m.length := ⟨_, rfl⟩
  rw [← hn] at h hlc ⊢
  have HM := Lib.hid (And.intro h hn)
  clear h hn
  go_enter Try.func27, Try.ntmps27
  go_wp2
  go_loop [1, 5] (fun x i => ∃ k : Nat, k ≤ n ∧ i = .int .i64 k ∧ x = .int .i64 (q + (sizeM (m.take k) : Int))) (fun _ i => n - (intOf i).toNat)
  case atStart => exact ⟨0, by omega, rfl, by simp [sizeM]⟩
  case round =>
    obtain ⟨k, hk, rfl, rfl⟩ := hrel
    by_cases hlt : k < n
    · have hkm : k < m.length := by rw [← HM.out.2]; exact hlt
      obtain ⟨b, o, a', c', rfl, hcell, hrow⟩ := HM.out.1.at k (by rw [markM_length]; exact hkm)
      rw [markM_at q m k hkm] at hcell hrow
      have hs := sizeM_take m k hkm
      have hle := sizeM_take_le m (k + 1)
      obtain ⟨s, hss⟩ : ∃ s, s = sizeM (m.take k) := ⟨_, rfl⟩
      obtain ⟨L, hL⟩ : ∃ L, L = (m.getD k []).length := ⟨_, rfl⟩
      rw [← hss] at hs hcell hrow ⊢
      rw [← hL] at hs hcell hrow
      have hb : q + (s : Int) + (L : Int) ≤ 4611686018427387904 := by omega
      have HS := Lib.hid (And.intro hs hrow)
      clear hs hle hss hL hrow
      go_wp2_with fail
      with_reducible refine (heldIntS_same _ L _ _ HS.out.2 (by omega) hb).mono ?_
      rintro e w1 ⟨rfl, rfl⟩
      go_wp2
      go_round
      case rel => exact ⟨k + 1, by omega, by go_num, by rw [HS.out.1]; go_num⟩
      case measure => simp [intOf]; omega
    · have hkn : k = n := by omega
      subst hkn
      have e2 : sizeM (m.take k) = sizeM m := by rw [HM.out.2]; exact sizeM_all m
      rw [e2]
      clear e2
      go_wp2
      go_ret
      exact ⟨rfl, rfl⟩
end Go.Proofs.Ytgbbidlbdjbilaa

/- Results of the program's own memory, and how the laws mark them. -/
namespace Go.Proofs.Ytgbbidlbdjbilaa
open Go.RowKit

/-- a table that the call has made, or none -/
def ResM (w : World) (B : Nat) (v : Value) (r : List (List Int)) : Prop :=
  (v = .slice none 0 0 ∧ r = []) ∨ ∃ g cap gs cs, v = .slice (some ⟨g, 0, none⟩) r.length cap ∧ MTab w B 51 3 g r.length cap gs cs r
/-- a list that the call has made, or none -/
def ResI (w : World) (B : Nat) (v : Value) (r : List Int) : Prop := Own w B 3 v (icells r)

theorem ResM.reads {w : World} {B : Nat} {v : Value} {r : List (List Int)} (h : ResM w B v r) : ReadsRows w v r := by
  rcases h with ⟨rfl, rfl⟩ | ⟨g, cap, gs, cs, rfl, ht⟩
  · exact ReadsRows.nil w _ none rfl
  · exact ht.reads rfl
theorem ResM.ext {w w' : World} {B : Nat} {v : Value} {r : List (List Int)} (h : ResM w B v r) (hx : Ext w w') : ResM w' B v r := by
  rcases h with h | ⟨g, cap, gs, cs, hv, ht⟩
  · exact .inl h
  · exact .inr ⟨g, cap, gs, cs, hv, ht.ext hx⟩
theorem ResM.mono {w : World} {B B' : Nat} {v : Value} {r : List (List Int)} (h : ResM w B v r) (hB : B' ≤ B) : ResM w B' v r := by
  rcases h with h | ⟨g, cap, gs, cs, hv, ht⟩
  · exact .inl h
  · exact .inr ⟨g, cap, gs, cs, hv, ht.mono hB⟩
theorem ResM.within {w w' : World} {B B1 C1 : Nat} {v : Value} {r : List (List Int)} (h : ResM w B v r) (k : Within B1 C1 w w') (hC : C1 ≤ B) : ResM w' B v r := by
  rcases h with h | ⟨g, cap, gs, cs, hv, ht⟩
  · exact .inl h
  · exact .inr ⟨g, cap, gs, cs, hv, ht.within k hC⟩
theorem ResI.reads {w : World} {B : Nat} {v : Value} {r : List Int} (h : ResI w B v r) : ReadsI w v r := Own.readsI h
theorem ResI.ext {w w' : World} {B : Nat} {v : Value} {r : List Int} (h : ResI w B v r) (hx : Ext w w') : ResI w' B v r := Own.ext h hx
theorem ResI.mono {w : World} {B B' : Nat} {v : Value} {r : List Int} (h : ResI w B v r) (hB : B' ≤ B) : ResI w B' v r := Own.mono h hB
theorem ResI.within {w w' : World} {B B1 C1 : Nat} {v : Value} {r : List Int} (h : ResI w B v r) (k : Within B1 C1 w w') (hC : C1 ≤ B) : ResI w' B v r := Own.within k h hC

/-- .. with a bound on its blocks -/
def ResMC (w : World) (B C : Nat) (v : Value) (r : List (List Int)) : Prop :=
  (v = .slice none 0 0 ∧ r = []) ∨ ∃ g cap gs cs, v = .slice (some ⟨g, 0, none⟩) r.length cap ∧ MTab w B 51 3 g r.length cap gs cs r ∧ ∀ i, i < r.length → gs i < C
def ResIC (w : World) (B C : Nat) (v : Value) (r : List Int) : Prop := ResI w B v r ∧ ∀ k, v.ownBlock = some k → k < C
theorem ResM.bound {w : World} {B : Nat} {v : Value} {r : List (List Int)} (h : ResM w B v r) : ResMC w B w.heap.size v r := by
  rcases h with h | ⟨g, cap, gs, cs, hv, ht⟩
  · exact .inl h
  · exact .inr ⟨g, cap, gs, cs, hv, ht, fun i hi => (ht.rowlt i hi).2⟩
theorem ResMC.res {w : World} {B C : Nat} {v : Value} {r : List (List Int)} (h : ResMC w B C v r) : ResM w B v r := by
  rcases h with h | ⟨g, cap, gs, cs, hv, ht, _⟩
  · exact .inl h
  · exact .inr ⟨g, cap, gs, cs, hv, ht⟩
theorem ResMC.reads {w : World} {B C : Nat} {v : Value} {r : List (List Int)} (h : ResMC w B C v r) : ReadsRows w v r := h.res.reads
theorem ResMC.ext {w w' : World} {B C : Nat} {v : Value} {r : List (List Int)} (h : ResMC w B C v r) (hx : Ext w w') : ResMC w' B C v r := by
  rcases h with h | ⟨g, cap, gs, cs, hv, ht, hc⟩
  · exact .inl h
  · exact .inr ⟨g, cap, gs, cs, hv, ht.ext hx, hc⟩
theorem ResMC.within {w w' : World} {B C B1 C1 : Nat} {v : Value} {r : List (List Int)} (h : ResMC w B C v r) (k : Within B1 C1 w w') (hC : C1 ≤ B) : ResMC w' B C v r := by
  rcases h with h | ⟨g, cap, gs, cs, hv, ht, hc⟩
  · exact .inl h
  · exact .inr ⟨g, cap, gs, cs, hv, ht.within k hC, hc⟩
theorem ResI.bound {w : World} {B : Nat} {v : Value} {r : List Int} (h : ResI w B v r) : ResIC w B w.heap.size v r := ⟨h, fun k hk => (World.ownsRow.lt h k hk).2⟩
theorem ResIC.reads {w : World} {B C : Nat} {v : Value} {r : List Int} (h : ResIC w B C v r) : ReadsI w v r := h.1.reads
theorem ResIC.ext {w w' : World} {B C : Nat} {v : Value} {r : List Int} (h : ResIC w B C v r) (hx : Ext w w') : ResIC w' B C v r := ⟨h.1.ext hx, h.2⟩
theorem ResIC.within {w w' : World} {B C B1 C1 : Nat} {v : Value} {r : List Int} (h : ResIC w B C v r) (k : Within B1 C1 w w') (hC : C1 ≤ B) : ResIC w' B C v r := ⟨h.1.within k hC, h.2⟩

theorem markRes_any (B C : Nat) (v : Value) (r : List (List Int)) (q : Int) (w : World) (h : ResMC w B C v r) (h0 : 0 ≤ q) (h1 : q + (sizeM r : Int) ≤ 4611686018427387904) :
    Calls Try.prog 26 #[v, .int .i64 q] w fun e w' => e = .returned (.int .i64 (q + (sizeM r : Int))) ∧ Within B C w w' ∧ ResMC w' B C v (markM q r) := by
  rcases h with ⟨rfl, rfl⟩ | ⟨g, cap, gs, cs, rfl, ht, hc⟩
  · go_enter Try.func26, Try.ntmps26
    go_wp2
    go_loop [1, 5] (fun x i => x = .int .i64 q ∧ i = .int .i64 0) (fun _ i => 0)
    case atStart => exact ⟨rfl, rfl⟩
    case round =>
      obtain ⟨rfl, rfl⟩ := hrel
      go_wp2
      go_ret
      exact ⟨ret_int (by simp [sizeM]), Within.refl _ _ _, .inl ⟨rfl, rfl⟩⟩
  · refine (markIntSS_any B g cap C gs cs r q w ht h0 h1 hc).mono fun e w' ⟨he, hw, ht'⟩ => ⟨he, hw, .inr ⟨g, cap, gs, cs, by rw [markM_length], by rw [markM_length]; exact ht', by rw [markM_length]; exact hc⟩⟩
theorem markResI_any (B C : Nat) (v : Value) (r : List Int) (q : Int) (w : World) (h : ResIC w B C v r) (h0 : 0 ≤ q) (h1 : q + (r.length : Int) ≤ 4611686018427387904) :
    Calls Try.prog 53 #[v, .int .i64 q] w fun e w' => e = .returned (.int .i64 (q + (r.length : Int))) ∧ Within B C w w' ∧ ResIC w' B C v (countL q r.length) := by
  refine (markIntS_any B v r q w h.1 h0 h1).mono fun e w' ⟨he, hg, ho⟩ => ⟨he, ?_, ho, h.2⟩
  rcases h.1.shape with ⟨rfl, _⟩ | ⟨g, cap, rfl, hb, hl, _, _⟩
  · exact ⟨hg.os, hg.tape, hg.output, hg.size, fun k hk hj => hg.block k hk (by simp [Value.ownBlock])⟩
  · exact Within.grown hg hb (h.2 g rfl)

theorem leftM_room {m : List (List Int)} {l : Int} (hl : l ≤ 1048576) (h : 0 ≤ leftM l m) : m.length ≤ 1048576 ∧ sizeM m ≤ 1048576 := by
  have := leftM_fits h
  omega
end Go.Proofs.Ytgbbidlbdjbilaa

/- Contracts: small helpers of the reference on numbers. -/
namespace Go.Proofs.Ytgbbidlbdjbilaa
open Go.RowKit

theorem spec_l1Bit_any (b : Bool) (w : World) :
    Calls Try.prog 104 #[.bool b] w fun e w' => e = .returned (.int .i64 (if b = true then 1 else 0)) ∧ w = w' := by
  cases b
  all_goals
    go_enter Try.func104, Try.ntmps104
    go_wp2
    go_ret
    exact ⟨rfl, rfl⟩
end Go.Proofs.Ytgbbidlbdjbilaa

/- Contract: the code that gives letters by a function. -/
namespace Go.Proofs.Ytgbbidlbdjbilaa
open Go.RowKit Go.Cm

/-- may there be a code so wide? -/
def wideOk (L W : Int) : Bool := (decide (L = 2) || decide (L = 3)) && (decide (1 ≤ W) && (decide (W ≤ 4) && decide (pw L W ≤ 27)))

theorem wideOk_yes {L W : Int} (h : wideOk L W = true) : (L = 2 ∨ L = 3) ∧ 1 ≤ W ∧ W ≤ 4 ∧ pw L W ≤ 27 := by
  simpa [wideOk] using h

end Go.Proofs.Ytgbbidlbdjbilaa

/- Cells and frozen marks behind a chain of allocs. -/
namespace Go.Proofs.Ytgbbidlbdjbilaa
open Go.RowKit Go.Cm

theorem cell_new {w : World} {c : Array Value} {t : TypeId} {n i : Nat} {v : Value} (h : n = w.heap.size) (hv : c[i]? = some v) : (w.alloc (.cells c t)).cell? ⟨n, i, none⟩ = some v := by
  subst h
  rw [World.cell?_alloc_new, hv]

theorem cell_old {w : World} {o : Obj} {n i : Nat} {v : Value} (h : w.cell? ⟨n, i, none⟩ = some v) : (w.alloc o).cell? ⟨n, i, none⟩ = some v := by
  rw [World.cell?_alloc_lt _ _ _ (World.block_lt_of_cell? w _ h), h]

theorem frozen_new {w : World} {c : Array Value} {t : TypeId} {n i : Nat} (h : n = w.heap.size) : (w.alloc (.cells c t)).frozen? ⟨n, i, none⟩ = false := by
  subst h
  rw [World.frozen?_alloc_new]

theorem frozen_old {w : World} {o : Obj} {n i : Nat} (h : n < w.heap.size) (hf : w.frozen? ⟨n, i, none⟩ = false) : (w.alloc o).frozen? ⟨n, i, none⟩ = false := by
  rw [World.frozen?_alloc_old _ _ _ (Nat.ne_of_lt h), hf]

theorem Ext.frozen_is {w w' : World} {n i : Nat} (hx : Ext w w') (h : n < w.heap.size) (hf : w.frozen? ⟨n, i, none⟩ = false) : w'.frozen? ⟨n, i, none⟩ = false :=
  (Below.frozen (p := ⟨n, i, none⟩) hx h).trans hf

theorem Ext.frozen_cell {w w' : World} {n i : Nat} {v : Value} (hx : Ext w w') (hc : w.cell? ⟨n, i, none⟩ = some v) (hf : w.frozen? ⟨n, i, none⟩ = false) : w'.frozen? ⟨n, i, none⟩ = false :=
  Ext.frozen_is hx (World.block_lt_of_cell? w _ hc) hf

/-- A block is at hand: its cells and that they are not frozen. -/
structure Blk (w : World) (b : Nat) (c : Array Value) : Prop where
  cell : ∀ i v, c[i]? = some v → w.cell? ⟨b, i, none⟩ = some v
  frozen : ∀ i, w.frozen? ⟨b, i, none⟩ = false
  lt : b < w.heap.size

theorem Blk.mk' {w : World} {c : Array Value} {t : TypeId} {n : Nat} (h : n = w.heap.size) : Blk (w.alloc (.cells c t)) n c :=
  ⟨fun _ _ hv => cell_new h hv, fun _ => frozen_new h, by simp; omega⟩

theorem Blk.old {w : World} {o : Obj} {b : Nat} {c : Array Value} (h : Blk w b c) : Blk (w.alloc o) b c :=
  ⟨fun i v hv => cell_old (h.cell i v hv), fun i => frozen_old h.lt (h.frozen i), by have := h.lt; simp; omega⟩

theorem Blk.ext {w w' : World} {b : Nat} {c : Array Value} (h : Blk w b c) (hx : Ext w w') : Blk w' b c :=
  ⟨fun i v hv => hx.cell_some (h.cell i v hv), fun i => Ext.frozen_is hx h.lt (h.frozen i), Nat.lt_of_lt_of_le h.lt hx.size⟩

/-- Cells of a block behind a store. -/
theorem Blk.set {w : World} {b i : Nat} {c : Array Value} (h : Blk w b c) (hi : i < c.size) (v : Value) : Blk (w.setCell ⟨b, i, none⟩ v) b (c.set i v hi) := by
  refine ⟨fun j u hu => ?_, fun j => by rw [World.frozen?_setCell, h.frozen], by simpa using h.lt⟩
  by_cases e : i = j
  · subst e
    have : u = v := by simpa using hu.symm
    subst this
    exact World.cell?_setCell_same w _ _ (h.cell i c[i] (by simp [hi]))
  · rw [World.cell?_setCell_other _ _ _ _ (by intro h; injection h; contradiction)]
    exact h.cell j u (by simpa [Array.getElem?_set, e] using hu)

theorem Blk.other {w : World} {b b' i : Nat} {c : Array Value} (h : Blk w b c) (hb : b' ≠ b) (v : Value) : Blk (w.setCell ⟨b', i, none⟩ v) b c := by
  refine ⟨fun j u hu => ?_, fun j => by rw [World.frozen?_setCell, h.frozen], by simpa using h.lt⟩
  rw [World.cell?_setCell_other _ _ _ _ (by intro h; injection h; contradiction)]
  exact h.cell j u hu

theorem Blk.c3 {w : World} {b : Nat} {x y z : Value} (h : Blk w b #[x, y, z]) : w.cell? ⟨b, 0, none⟩ = some x ∧ w.cell? ⟨b, 1, none⟩ = some y ∧ w.cell? ⟨b, 2, none⟩ = some z ∧ w.frozen? ⟨b, 0, none⟩ = false ∧ w.frozen? ⟨b, 1, none⟩ = false ∧ w.frozen? ⟨b, 2, none⟩ = false :=
  ⟨h.cell 0 _ rfl, h.cell 1 _ rfl, h.cell 2 _ rfl, h.frozen 0, h.frozen 1, h.frozen 2⟩

theorem Ext.alloced {w w' : World} (h : Ext w w') (o : Obj) : Ext w (w'.alloc o) := h.trans (Ext.alloc _ _)
theorem Ext.stored {w w' : World} {a : Addr} {v : Value} (h : Ext w w') (ha : w.heap.size ≤ a.block) : Ext w (w'.setCell a v) := h.setCell ha v

theorem GB.blk {W wr : World} {row : Option Nat} {b : Nat} {c : Array Value} (h : W.grownBy wr row) (k : Blk W b c) (hne : row ≠ some b) : Blk wr b c :=
  ⟨fun i v hv => GB.cell h (k.cell i v hv) hne, fun i => (GB.frozen h (a := ⟨b, i, none⟩) k.lt hne).trans (k.frozen i), Nat.lt_of_lt_of_le k.lt h.size⟩

end Go.Proofs.Ytgbbidlbdjbilaa

/- Contract: all words of a length, by the reference. -/
namespace Go.Cm
/-- a word with each of the first letters behind it -/
def ext1 (u : List UInt8) (x : Nat) : List (List UInt8) := (List.range x).map fun y => u ++ [letN y]
theorem ext1_succ (u : List UInt8) (x : Nat) : ext1 u (x + 1) = ext1 u x ++ [u ++ [letN x]] := by simp [ext1, List.range_succ]
/-- .. of the first j words -/
def midL (K i j : Nat) : List (List UInt8) := ((wordsL K i).take j).flatMap fun u => ext1 u K
theorem midL_succ (K i j : Nat) (u : List UInt8) (h : (wordsL K i)[j]? = some u) : midL K i (j + 1) = midL K i j ++ ext1 u K := by
  unfold midL
  rw [List.take_add_one, h]
  simp
theorem midL_all (K i : Nat) (hK : 0 < K) : midL K i (K ^ i) = wordsL K (i + 1) := by
  unfold midL
  rw [List.take_of_length_le (by simp [wordsL]), wordsL_succ K i hK]
  rfl
theorem midL_length (K i j : Nat) (hj : j ≤ K ^ i) : (midL K i j).length = j * K := by
  unfold midL
  rw [List.length_flatMap]
  have : ((wordsL K i).take j).map (fun u => (ext1 u K).length) = List.replicate j K := by
    apply List.ext_getElem
    · simp [wordsL]; omega
    · intro a h1 h2; simp [ext1]
  rw [this, List.sum_replicate_nat]
end Go.Cm
namespace Go.Proofs.Ytgbbidlbdjbilaa
open Go.RowKit Go.Cm

set_option maxRecDepth 100000 in
set_option maxHeartbeats 1000000 in
theorem spec_l2All_any (K n : Nat) (w : World) (hK0 : 0 < K) (hK : K ≤ 3) (hn : n ≤ 16) :
    Calls Try.prog 63 #[.int .i64 K, .int .i64 n] w fun e w' => ∃ v, e = .returned v ∧ Own w' w.heap.size 9 v (scells (wordsL K n)) ∧ Ext w w' := by
  go_enter Try.func63, Try.ntmps63
  go_wp2
  have hB0 : Own (w.alloc (.cells #[.string ⟨#[]⟩] 9)) w.heap.size 9 (.slice (some ⟨w.heap.size, 0, none⟩) 1 1) (scells (wordsL K 0)) := Own.lit w 9 [.string ⟨#[]⟩] (by simp [maxLen])
  go_loopw [5, 6, 7, 8, 9] (fun v i _ _ _ wr => ∃ k : Nat, k ≤ n ∧ i = .int .i64 k ∧ Own wr w.heap.size 9 v (scells (wordsL K k)) ∧ Ext w wr) (fun _ i _ _ _ _ => n - (intOf i).toNat)
  case atStart => exact ⟨0, by omega, rfl, hB0, Ext.alloc _ _⟩
  case round =>
    obtain ⟨k, hk, rfl, hown, hx⟩ := hrel
    by_cases hlt : k < n
    · have hlen : (scells (wordsL K k)).length = K ^ k := by simp [scells, wordsL]
      have hNp : 0 < K ^ k := Nat.pow_pos hK0
      have hNb : K ^ k ≤ 43046721 := by
        have h1 : K ^ k ≤ 3 ^ k := Nat.pow_le_pow_left hK k
        have h2 : 3 ^ k ≤ 3 ^ 16 := Nat.pow_le_pow_right (by omega) (by omega)
        have h3 : (3 : Nat) ^ 16 = 43046721 := by decide
        omega
      obtain ⟨N, hN⟩ : ∃ N, N = K ^ k := ⟨_, rfl⟩
      rw [← hN] at hlen hNp hNb
      have hsh := hown.shape
      rw [hlen] at hsh
      rcases hsh with ⟨_, hnil⟩ | ⟨g, cap, hv, _, hgs, _, _⟩
      · exfalso
        rw [hnil] at hlen
        simp at hlen
        omega
      subst hv
      have HN := Lib.hid (And.intro hN hlen)
      clear hN hlen
      have hB1 : Own (wr.alloc (.cells #[] 9)) wr.heap.size 9 (.slice (some ⟨wr.heap.size, 0, none⟩) 0 0) [] := Own.lit wr 9 [] (by simp)
      have hxa := hx.trans (Ext.alloc wr (.cells #[] 9))
      have howna := hown.ext (Ext.alloc wr (.cells #[] 9))
      have hBw : w.heap.size ≤ wr.heap.size := hx.size
      have hB2 := hB1.mono hBw
      have hg0 : ∀ j : Nat, (Value.slice (some ⟨g, 0, none⟩) N cap).ownBlock = some j → (Value.slice (some ⟨wr.heap.size, 0, none⟩) 0 0).ownBlock ≠ some j := by
        intro j hj
        simp [Value.ownBlock] at hj ⊢
        omega
      clear hown hx hB0 hB1
      obtain ⟨wo, rfl⟩ : ∃ wo : World, wo = wr := ⟨_, rfl⟩
      go_wp2
      go_loopw [7, 8, 9] (fun v j _ wm => ∃ q : Nat, q ≤ N ∧ j = .int .i64 q ∧ Own wm w.heap.size 9 v (scells (midL K k q)) ∧ Grew (wo.alloc (.cells #[] 9)) (.slice (some ⟨wo.heap.size, 0, none⟩) 0 0) wm v ∧ Ext w wm) (fun _ j _ _ => N - (intOf j).toNat)
      case atStart => exact ⟨0, by omega, rfl, by simpa [midL, scells] using hB2, Grew.refl _ _, hxa⟩
      case round =>
        obtain ⟨q, hq, rfl, hown, hgr, hx⟩ := hrel
        by_cases hltq : q < N
        · have hlw : q < (wordsL K k).length := by have := HN.out.2; simp [scells] at this; omega
          obtain ⟨u, hu⟩ : ∃ u, u = (wordsL K k)[q] := ⟨_, rfl⟩
          have huq : (wordsL K k)[q]? = some u := by rw [hu]; exact List.getElem?_eq_getElem hlw
          have hsu : (scells (wordsL K k))[q]? = some (.string (mkS u)) := by simp [scells, huq]
          have hul : u.length ≤ 16 := by rw [hu]; simp only [wordsL, List.getElem_map]; rw [wordL_length]; omega
          have hmid := midL_succ K k q u huq
          have hml := midL_length K k q (by have := HN.out.1; omega)
          have HU := Lib.hid (And.intro hsu (And.intro hmid (And.intro hml trivial)))
          clear hu huq hsu hmid hml hlw
          obtain ⟨wp, rfl⟩ : ∃ wp : World, wp = wr := ⟨_, rfl⟩
          go_wp2
          go_loopw [7, 9] (fun v x wi => ∃ y : Nat, y ≤ K ∧ x = .int .i64 y ∧ Own wi w.heap.size 9 v (scells (midL K k q ++ ext1 u y)) ∧ Grew (wo.alloc (.cells #[] 9)) (.slice (some ⟨wo.heap.size, 0, none⟩) 0 0) wi v ∧ Ext w wi) (fun _ x _ => K - (intOf x).toNat)
          case atStart => exact ⟨0, by omega, rfl, by simpa [ext1] using hown, hgr, hx⟩
          case round =>
            obtain ⟨y, hy, rfl, hown, hgr, hx⟩ := hrel
            by_cases hlty : y < K
            · have hcell : wr.cell? ⟨g, q, none⟩ = some (.string (mkS u)) := by
                have h1 := (hgr.own howna hg0).cell q (by rw [HN.out.2]; exact hltq)
                rw [h1]
                have h2 := HU.out.1
                rw [List.getElem?_eq_getElem (by rw [HN.out.2]; exact hltq)] at h2
                exact h2
              have habc := abc_at y (by omega)
              have hcat := mkS_append u [letN y]
              go_wp2
              refine wp_region_tail (by kernel_rfl) 11 [.known u7, .known (.slice (some ⟨g, 0, none⟩) N cap), .known (.int .i64 q), .known (.pointer (some ⟨g, q, none⟩)), .known (.string (mkS u)), .known (.int .i64 y), .known (.int .i64 y), .known (.int .i64 (y + 1)), .known (.string (mkS [letN y])), .known (.string (mkS (u ++ [letN y]))), .box (.string (mkS (u ++ [letN y])))] rfl (by decide) (by kernel_rfl) (by kernel_rfl) ?_ ?_
              · intro vs
                refine ⟨fun w' hx hj => ?_, fun w' hx hj => ?_, fun w' hx hj => ?_, fun w' hx hj => ?_, fun w' hx hj => ?_, fun w' hx hj => ?_, fun w' hx hj => ?_, fun w' hx hj => ?_, fun w' hx hj => ?_, fun w' hx hj => ?_, fun w' hx hj => ?_, trivial⟩
                · clear hj
                  go_simp
                · clear hj
                  go_simp
                · clear hj
                  go_simp
                · clear hj
                  go_simp
                · have c0 := Ext.cell_some hx hcell
                  clear hj
                  go_simp
                · clear hj
                  go_simp
                · clear hj
                  go_simp
                · have e1 : IntKind.i64.wrap ((y : Int) + 1) = y + 1 := IntWalk.i64_in _ (by omega)
                  clear hj
                  go_simp
                · have p1 : (0 : Int) ≤ (y : Int) + 1 := by omega
                  have p2 : (y : Int) + 1 ≤ 3 := by omega
                  have p3 : (y : Int) ≤ y + 1 := by omega
                  clear hj
                  go_simp
                · have p1 : ¬ 9223372036854775807 < (mkS u).size + (mkS [letN y]).size := by rw [mkS_size, mkS_size]; simp; omega
                  clear hj
                  go_simp
                · clear hj
                  go_simp
                  exact boxOf_new _ _ _
              · intro vs w3 hx3 hk
                have k10 : BoxOf (.string (mkS (u ++ [letN y]))) (vs 10) w3 := hk 10 _ rfl
                clear hk
                go_simp
                obtain ⟨bx, hbx, hcx⟩ := k10
                rw [hbx]
                clear hbx
                have hownb := hown.ext hx3
                have hgrb := hgr.ext hx3
                have hxb := hx.trans hx3
                have hln : (scells (midL K k q ++ ext1 u y)).length = q * K + y := by
                  have := HU.out.2.2.1
                  simp [scells, ext1, this]
                have hqK : q * K + y ≤ N * K := by
                  have h1 : (q + 1) * K ≤ N * K := Nat.mul_le_mul_right K (by omega)
                  rw [Nat.succ_mul] at h1
                  omega
                have hNK : N * K ≤ 43046721 * 3 := Nat.mul_le_mul hNb hK
                have hl1 : (scells (midL K k q ++ ext1 u y)).length + 1 ≤ maxLen := by unfold maxLen; omega
                have hl2 : ((scells (midL K k q ++ ext1 u y)).length + 1) * 16 ≤ 140737488355328 := by omega
                clear hln hqK hNK hown hgr hx hx3 hcell habc hcat
                go_wp2_with (at_builtin; refine wpList_append_one rfl (.tmp 28) (.tmp 38) 22 rfl 9 _ _ Try.underlying22 infoStr rfl w.heap.size _ _ rfl hownb bx _ rfl hcx rfl hl1 hl2 w rfl hxb ?_; intro v' w4 hown4 hx4 hmv)
                have hgr4 := hgrb.step hmv
                go_roundw
                case rel => exact ⟨y + 1, by omega, by go_num, by rw [ext1_succ]; simpa [scells] using hown4, hgr4, hx4⟩
                case measure => simp [intOf]; omega
            · have : y = K := by omega
              subst this
              go_wp2
              go_roundw
              case rel => exact ⟨q + 1, by omega, by go_num, by rw [HU.out.2.1]; exact hown, hgr, hx⟩
              case measure => simp [intOf]; omega
        · have : q = N := by omega
          subst this
          go_wp2
          go_roundw
          case rel => exact ⟨k + 1, by omega, by go_num, by have h1 := HN.out.1; rw [h1, midL_all K k hK0] at hown; exact hown, hx⟩
          case measure => simp [intOf]; omega
    · have : k = n := by omega
      subst this
      go_wp2
      go_ret
      exact ⟨_, rfl, hown, hx⟩
end Go.Proofs.Ytgbbidlbdjbilaa

/- Contracts: matrices, small matrices, sums and bounds, by the program. -/
namespace Go.Proofs.Ytgbbidlbdjbilaa
open Go.RowKit Go.Mx

end Go.Proofs.Ytgbbidlbdjbilaa

/- Contracts: matrices and small matrices, by the reference; small ones and sums, by the program. -/
namespace Go.Proofs.Ytgbbidlbdjbilaa
open Go.RowKit Go.Mx

set_option maxHeartbeats 2000000 in
theorem spec_IsMatrix_any (v : Value) (m : List (List Int)) (w : World) (h : ReadsRows w v m) :
    Calls Try.prog 77 #[v] w fun e w' => e = .returned (.bool (isMat m)) ∧ w = w' := by
  obtain ⟨a, c, rfl⟩ := h.slice
  obtain ⟨-, hlc, hc⟩ := h.len
  obtain ⟨n, hn⟩ : ∃ n, n = m.length := ⟨_, rfl⟩
  rw [← hn] at hlc h ⊢
  have HM := Lib.hid (And.intro h hn)
  clear h hn
  go_enter Try.func77, Try.ntmps77
  go_wp2
  go_loop [3] (fun i => ∃ k : Nat, k ≤ n ∧ i = .int .i64 k ∧ (m.take k).all (rowOk n) = true) (fun i => n - (intOf i).toNat)
  case atStart => exact ⟨0, by omega, rfl, by simp⟩
  case round =>
    obtain ⟨k, hk, rfl, hp⟩ := hrel
    have HP := Lib.hid hp
    clear hp
    by_cases hlt : k < n
    · have hkm : k < m.length := by rw [← HM.out.2]; exact hlt
      obtain ⟨b, o, a', c', rfl, hcell, hrow⟩ := HM.out.1.at k hkm
      obtain ⟨-, hl1, hl2⟩ := hrow.len
      obtain ⟨r, hr⟩ : ∃ r, r = m.getD k [] := ⟨_, rfl⟩
      rw [← hr] at hcell hrow hl1
      obtain ⟨L, hL⟩ : ∃ L, L = r.length := ⟨_, rfl⟩
      rw [← hL] at hcell hrow hl1
      have HR := Lib.hid (And.intro hkm (And.intro hr (And.intro hL hrow)))
      clear hkm hr hL hrow
      by_cases hLn : L = n
      · have HL := Lib.hid hLn
        have hLn1 : ((L : Int) != (n : Int)) = false := by simp [hLn]
        have hLn2 : L ≤ n := by omega
        have hLn3 : n ≤ L := by omega
        clear hLn
        go_wp2
        go_loop [4] (fun i => ∃ j : Nat, j ≤ n ∧ i = .int .i64 j ∧ (r.take j).all (fun x => decide (0 ≤ x ∧ x ≤ 1000000)) = true) (fun i => n - (intOf i).toNat)
        case atStart => exact ⟨0, by omega, rfl, by simp⟩
        case round =>
          obtain ⟨j, hj, rfl, hq⟩ := hrel
          have HQ := Lib.hid hq
          clear hq
          by_cases hltj : j < n
          · have hjr : j < r.length := by rw [← HR.out.2.2.1]; omega
            obtain ⟨b', o', rfl, hcell'⟩ := HR.out.2.2.2.at j hjr
            obtain ⟨x, hx⟩ : ∃ x, x = r.getD j 0 := ⟨_, rfl⟩
            rw [← hx] at hcell'
            have HX := Lib.hid (And.intro hjr hx)
            clear hjr hx
            go_wp2_with fail
            with_reducible refine (spec_l1In_any _ _ _ _).mono ?_
            rintro e w1 ⟨rfl, rfl⟩
            cases hb : (decide (0 ≤ x) && decide (x ≤ 1000000)) with
            | true =>
              have HB := Lib.hid hb
              clear hb
              go_wp2
              go_round
              case rel => exact ⟨j + 1, by omega, by go_num, all_next (p := fun x => decide (0 ≤ x ∧ x ≤ 1000000)) 0 HX.out.1 HQ.out (by rw [← HX.out.2]; have := HB.out; simp at this ⊢; omega)⟩
              case measure => simp [intOf]; omega
            | false =>
              have HB := Lib.hid hb
              clear hb
              go_wp2
              go_ret
              refine ⟨ret_bool (isMat_row HR.out.1 ?_).symm, rfl⟩
              rw [← HR.out.2.1]
              unfold rowOk
              rw [all_bad (p := fun x => decide (0 ≤ x ∧ x ≤ 1000000)) 0 HX.out.1 (by rw [← HX.out.2]; have := HB.out; simp at this ⊢; omega), Bool.and_false]
          · have hjL : j = L := by omega
            have hrow : rowOk n r = true := by
              have h1 := HQ.out
              rw [hjL, HR.out.2.2.1] at h1
              rw [rowOk_of (by rw [← HR.out.2.2.1]; exact HL.out)]
              exact all_done h1
            have HO := Lib.hid hrow
            clear hrow
            go_wp2
            go_round
            case rel => exact ⟨k + 1, by omega, by go_num, all_next [] HR.out.1 HP.out (by rw [← HR.out.2.1]; exact HO.out)⟩
            case measure => simp [intOf]; omega
      · have hLn1 : ((L : Int) != (n : Int)) = true := by simp; omega
        have HL := Lib.hid hLn
        clear hLn
        go_wp2
        go_ret
        exact ⟨ret_bool (isMat_row HR.out.1 (by rw [← HR.out.2.1]; exact rowOk_len (by rw [← HR.out.2.2.1, ← HM.out.2]; exact HL.out))).symm, rfl⟩
    · have hkn : k = n := by omega
      have h2 := HP.out
      rw [hkn, HM.out.2] at h2
      have HA := Lib.hid h2
      clear h2
      go_wp2_with fail
      with_reducible refine (spec_l1In_any _ _ _ _).mono ?_
      rintro e w1 ⟨rfl, rfl⟩
      go_wp2
      go_ret
      refine ⟨ret_bool ?_, rfl⟩
      by_cases h19 : 1 ≤ n ∧ n ≤ 9
      · rw [isMat_all (by rw [← HM.out.2]; exact h19) HA.out]; simp; omega
      · rw [isMat_size (by rw [← HM.out.2]; exact h19)]; simp; omega

set_option maxHeartbeats 1000000 in
theorem impl_total_any (v : Value) (xs : List Int) (w : World) (h : ReadsI w v xs) (hl : xs.length ≤ 1000) (hb : ∀ j, 0 ≤ xs.getD j 0 ∧ xs.getD j 0 ≤ 1000000) :
    Calls Try.prog 47 #[v] w fun e w' => e = .returned (.int .i64 xs.sum) ∧ w = w' := by
  obtain ⟨a, c, rfl⟩ := h.slice
  obtain ⟨n, hn⟩ : ∃ n, n = xs.length := ⟨_, rfl⟩
  rw [← hn] at h hl ⊢
  have HM := Lib.hid (And.intro h (And.intro hn hb))
  clear h hn hb
  go_enter Try.func47, Try.ntmps47
  go_wp2
  go_loop [3, 8] (fun v i => ∃ k : Nat, k ≤ n ∧ i = .int .i64 k ∧ v = .int .i64 (xs.take k).sum) (fun _ i => n - (intOf i).toNat)
  case atStart => exact ⟨0, by omega, rfl, by simp⟩
  case round =>
    obtain ⟨k, hk, rfl, rfl⟩ := hrel
    by_cases hlt : k < n
    · have hkm : k < xs.length := by rw [← HM.out.2.1]; exact hlt
      obtain ⟨b, o, rfl, hcell⟩ := HM.out.1.at k hkm
      have hs := sum_take_succ xs k hkm
      obtain ⟨hb1, hb2⟩ := sum_take_pos xs 1000000 (by omega) HM.out.2.2 k
      obtain ⟨hy1, hy2⟩ := HM.out.2.2 k
      obtain ⟨y, hy⟩ : ∃ y, y = xs.getD k 0 := ⟨_, rfl⟩
      obtain ⟨s, hss⟩ : ∃ s, s = (xs.take k).sum := ⟨_, rfl⟩
      rw [← hy] at hcell hs hy1 hy2
      rw [← hss] at hs hb1 hb2 ⊢
      have hb3 : s ≤ 1000000000 := by omega
      have HS := Lib.hid hs
      clear hs hy hss hb2
      go_wp2
      go_round
      case rel => exact ⟨k + 1, by omega, by go_num, by rw [HS.out]⟩
      case measure => simp [intOf]; omega
    · have hkn : k = n := by omega
      have e : xs.take k = xs := by rw [hkn, HM.out.2.1]; exact List.take_length
      rw [e]
      clear e
      go_wp2
      go_ret
      exact ⟨rfl, rfl⟩
end Go.Proofs.Ytgbbidlbdjbilaa

/- Contracts: tables of zeros, by the program and by the reference. -/
namespace Go.Proofs.Ytgbbidlbdjbilaa
open Go.RowKit Go.Mx

set_option maxHeartbeats 2000000 in
theorem impl_zeros_any (n : Nat) (w : World) (hn : n ≤ 1000) :
    Calls Try.prog 50 #[.int .i64 n] w fun e w' => ∃ g cap gs cs, e = .returned (.slice (some ⟨g, 0, none⟩) n cap) ∧ MTab w' w.heap.size 51 3 g n cap gs cs (tabF n n fun _ _ => 0) ∧ Ext w w' := by
  obtain ⟨c, hc⟩ : ∃ c, c = n := ⟨_, rfl⟩
  have hcn : (n : Int) = (c : Int) := by omega
  rw [show (tabF n n fun _ _ => (0 : Int)) = tabF n c fun _ _ => 0 by rw [hc]]
  have hcc : c ≤ 1000 := by omega
  clear hc
  have hmk := run_make_row' (P := Try.prog) 51 3 (.int .i64 0) 8 Try.underlying51 infoInt rfl .i64 .i64 c (by omega) (by omega)
  have hB0 : MTab (w.alloc (.cells #[] 51)) w.heap.size 51 3 w.heap.size 0 0 (fun _ => 0) (fun _ => 0) (tabF 0 c fun _ _ => 0) := MTab.nil (Own.lit w 51 [] (by simp)) _ _
  go_enter Try.func50, Try.ntmps50
  go_wp2
  go_loopw [3, 6] (fun v i wr => ∃ (k g cap : Nat) (gs cs : Nat → Nat), k ≤ n ∧ i = .int .i64 k ∧ v = .slice (some ⟨g, 0, none⟩) k cap ∧ MTab wr w.heap.size 51 3 g k cap gs cs (tabF k c fun _ _ => 0) ∧ Ext w wr) (fun _ i _ => n - (intOf i).toNat)
  case atStart => exact ⟨0, _, _, _, _, by omega, rfl, rfl, hB0, Ext.alloc _ _⟩
  case round =>
    clear hB0
    obtain ⟨k, g, cap, gs, cs, hk, rfl, rfl, ht, hx⟩ := hrel
    by_cases hlt : k < n
    · have hfull := ht.full (tabF_length _ _ _).symm
      have hgl := ht.lt
      have hgsl := ht.rowlt
      have hv1 : (rowsV gs cs (tabF k c fun _ _ => 0)).length + 1 ≤ maxLen := by rw [rowsV_length, tabF_length]; unfold maxLen; omega
      have hv2 : ((rowsV gs cs (tabF k c fun _ _ => 0)).length + 1) * 24 ≤ 140737488355328 := by rw [rowsV_length, tabF_length]; omega
      have hz : Own (wr.alloc (.cells (madeCells #[.int .i64 0] c) 3)) wr.heap.size 3 (.slice (some ⟨wr.heap.size, 0, none⟩) c c) (icells (rowF c fun _ => 0)) := by
        have := Own.made wr 3 (.int .i64 0) c (by unfold maxLen; omega)
        rw [rowF_zero, icells_replicate]; exact this
      have HS := Lib.hid (And.intro hfull (And.intro hgl (And.intro hgsl (And.intro ht (And.intro hv1 (And.intro hv2 hz))))))
      clear hfull hgl hgsl ht hv1 hv2 hz
      go_wp2_with (at_builtin; refine wpList_append_one rfl (.tmp 8) (.tmp 11) 36 rfl 51 _ _ Try.underlying36 infoRow rfl w.heap.size _ (rowsV gs cs (tabF k c fun _ _ => 0)) rfl ((HS.out.1.ext (Ext.alloc _ _)).ext (Ext.alloc _ _)) _ _ rfl (by simp; rfl) rfl HS.out.2.2.2.2.1 HS.out.2.2.2.2.2.1 w rfl ((hx.trans (Ext.alloc _ _)).trans (Ext.alloc _ _)) ?_; intro v4 w4 hown4 hx4 hmv4; have H4 := Lib.hid (And.intro hown4 (And.intro hx4 hmv4)); clear hown4 hx4 hmv4)
      go_roundw
      case rel =>
        have ht3 := (HS.out.2.2.2.1.ext (Ext.alloc wr (.cells (madeCells #[.int .i64 0] c) 3))).ext (Ext.alloc _ (.cells #[.slice (some ⟨wr.heap.size, 0, none⟩) c c] 51))
        have hlen3 : (rowF c fun _ => (0 : Int)).length = c := rowF_length _ _
        obtain ⟨g', cap', gs', cs', hv', ht'⟩ := ht3.push (r := rowF c fun _ => 0) (gr := wr.heap.size) (cr := c) (tabF_length _ _ _).symm (by rw [hlen3]; exact ((HS.out.2.2.2.2.2.2.mono hx.size).ext (Ext.alloc _ _))) (by have := HS.out.2.1; omega) (fun i hi => by have := HS.out.2.2.1 i hi; omega) (by rw [hlen3]; exact H4.out.1) H4.out.2.2
        rw [← tabF_succ k c fun _ _ => 0] at ht'
        exact ⟨k + 1, g', cap', gs', cs', by omega, by go_num, hv', ht', H4.out.2.1⟩
      case measure => simp [intOf]; omega
    · have hkn : k = n := by omega
      subst hkn
      go_wp2
      go_ret
      exact ⟨g, cap, gs, cs, rfl, ht, hx⟩

set_option maxHeartbeats 2000000 in
theorem spec_l4Zero_any (n c : Nat) (w : World) (hc : c ≤ 1000) (hn : n ≤ 1000) :
    Calls Try.prog 48 #[.int .i64 n, .int .i64 c] w fun e w' => ∃ g cap gs cs, e = .returned (.slice (some ⟨g, 0, none⟩) n cap) ∧ MTab w' w.heap.size 51 3 g n cap gs cs (tabF n c fun _ _ => 0) ∧ Ext w w' := by
  have hmk := run_make_row' (P := Try.prog) 51 3 (.int .i64 0) 8 Try.underlying51 infoInt rfl .i64 .i64 c (by omega) (by omega)
  have hB0 : MTab (w.alloc (.cells #[] 51)) w.heap.size 51 3 w.heap.size 0 0 (fun _ => 0) (fun _ => 0) (tabF 0 c fun _ _ => 0) := MTab.nil (Own.lit w 51 [] (by simp)) _ _
  go_enter Try.func48, Try.ntmps48
  go_wp2
  go_loopw [5, 6] (fun v i wr => ∃ (k g cap : Nat) (gs cs : Nat → Nat), k ≤ n ∧ i = .int .i64 k ∧ v = .slice (some ⟨g, 0, none⟩) k cap ∧ MTab wr w.heap.size 51 3 g k cap gs cs (tabF k c fun _ _ => 0) ∧ Ext w wr) (fun _ i _ => n - (intOf i).toNat)
  case atStart => exact ⟨0, _, _, _, _, by omega, rfl, rfl, hB0, Ext.alloc _ _⟩
  case round =>
    clear hB0
    obtain ⟨k, g, cap, gs, cs, hk, rfl, rfl, ht, hx⟩ := hrel
    by_cases hlt : k < n
    · have hfull := ht.full (tabF_length _ _ _).symm
      have hgl := ht.lt
      have hgsl := ht.rowlt
      have hv1 : (rowsV gs cs (tabF k c fun _ _ => 0)).length + 1 ≤ maxLen := by rw [rowsV_length, tabF_length]; unfold maxLen; omega
      have hv2 : ((rowsV gs cs (tabF k c fun _ _ => 0)).length + 1) * 24 ≤ 140737488355328 := by rw [rowsV_length, tabF_length]; omega
      have hz : Own (wr.alloc (.cells (madeCells #[.int .i64 0] c) 3)) wr.heap.size 3 (.slice (some ⟨wr.heap.size, 0, none⟩) c c) (icells (rowF c fun _ => 0)) := by
        have := Own.made wr 3 (.int .i64 0) c (by unfold maxLen; omega)
        rw [rowF_zero, icells_replicate]; exact this
      have HS := Lib.hid (And.intro hfull (And.intro hgl (And.intro hgsl (And.intro ht (And.intro hv1 (And.intro hv2 hz))))))
      clear hfull hgl hgsl ht hv1 hv2 hz
      go_wp2_with (at_builtin; refine wpList_append_one rfl (.tmp 13) (.tmp 16) 36 rfl 51 _ _ Try.underlying36 infoRow rfl w.heap.size _ (rowsV gs cs (tabF k c fun _ _ => 0)) rfl ((HS.out.1.ext (Ext.alloc _ _)).ext (Ext.alloc _ _)) _ _ rfl (by simp; rfl) rfl HS.out.2.2.2.2.1 HS.out.2.2.2.2.2.1 w rfl ((hx.trans (Ext.alloc _ _)).trans (Ext.alloc _ _)) ?_; intro v4 w4 hown4 hx4 hmv4; have H4 := Lib.hid (And.intro hown4 (And.intro hx4 hmv4)); clear hown4 hx4 hmv4)
      go_roundw
      case rel =>
        have ht3 := (HS.out.2.2.2.1.ext (Ext.alloc wr (.cells (madeCells #[.int .i64 0] c) 3))).ext (Ext.alloc _ (.cells #[.slice (some ⟨wr.heap.size, 0, none⟩) c c] 51))
        have hlen3 : (rowF c fun _ => (0 : Int)).length = c := rowF_length _ _
        obtain ⟨g', cap', gs', cs', hv', ht'⟩ := ht3.push (r := rowF c fun _ => 0) (gr := wr.heap.size) (cr := c) (tabF_length _ _ _).symm (by rw [hlen3]; exact ((HS.out.2.2.2.2.2.2.mono hx.size).ext (Ext.alloc _ _))) (by have := HS.out.2.1; omega) (fun i hi => by have := HS.out.2.2.1 i hi; omega) (by rw [hlen3]; exact H4.out.1) H4.out.2.2
        rw [← tabF_succ k c fun _ _ => 0] at ht'
        exact ⟨k + 1, g', cap', gs', cs', by omega, by go_num, hv', ht', H4.out.2.1⟩
      case measure => simp [intOf]; omega
    · have hkn : k = n := by omega
      subst hkn
      go_wp2
      go_ret
      exact ⟨g, cap, gs, cs, rfl, ht, hx⟩
end Go.Proofs.Ytgbbidlbdjbilaa

/- Contracts: two graphs joined, by the program. -/
namespace Go.Proofs.Ytgbbidlbdjbilaa
open Go.RowKit Go.Mx

theorem infoIntSize : (Try.prog.info? 3).map (·.size) = some 1 := by kernel_rfl

end Go.Proofs.Ytgbbidlbdjbilaa

/- Contracts: two graphs joined, by the reference. -/
namespace Go.Proofs.Ytgbbidlbdjbilaa
open Go.RowKit Go.Mx

theorem spec_nil_rows (w : World) : ReadsRows (w.alloc (.cells #[] 51)) (.slice (some ⟨w.heap.size, 0, none⟩) 0 0) [] := ReadsRows.nil _ _ _ rfl

end Go.Proofs.Ytgbbidlbdjbilaa

/- The closed facts that every row's proof asks. -/
namespace Go.Proofs.Ytgbbidlbdjbilaa

theorem own : ownKnob Try.prog.godebug = none := by kernel_rfl
theorem laidOut : laidOutB Try.prog = true := by kernel_rfl

-- The head's words, read off the list of the text's letters: the kernel is spared the reading of a text.
set_option maxRecDepth 100000 in
theorem headWords : ∃ l, Try.prog.initOrder.toList = l ∧ (behindMainWord (wordsSigns l)).head? = some "cut".toList :=
  ⟨_, String.toList_ofList, by kernel_rfl⟩
theorem headCut : (behindMainWord (wordsSigns Try.prog.initOrder.toList)).head? = some "cut".toList := by
  obtain ⟨l, h1, h2⟩ := headWords
  rw [h1]; exact h2
theorem laysNone : Try.prog.laysLater = false := by kernel_rfl
theorem bearsNone : Try.prog.bearsReflect = false := by kernel_rfl
theorem doorNone : Try.prog.doorFits [] = true := by kernel_rfl
theorem mayEnter_it : Try.prog.mayEnter = true := mayEnter_of headCut laysNone bearsNone doorNone
theorem liftsFinal_it : Try.prog.liftsFinal = false := liftsFinal_of headCut
theorem make_it : Try.prog.make = some .cut := make_of headCut
end Go.Proofs.Ytgbbidlbdjbilaa

