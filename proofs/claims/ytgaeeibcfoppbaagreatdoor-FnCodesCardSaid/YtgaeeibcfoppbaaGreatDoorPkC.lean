/- Several texts of mine in one: LawCode, L1In, CodeA, Facts, WordA, Made, Frame, CodeB, ApplyA, ApplyB, ApplyC, All. -/
import Derived.Test.YtgaeeibcfoppbaaGreatDoorRows
import Derived.Test.YtgaeeibcfoppbaaGreatDoorPkM
import Derived.WalkKit
import Derived.WalkSpells
import Derived.WalkLawsBesides
import Derived.Lib.Hide
import Derived.BigQuiet
/- Contracts of the laws' own helpers on codes: the sizes, the copy, the comparison. -/
namespace Go.Proofs.YtgaeeibcfoppbaaGreatDoor
open Go.RowKit

/-- a size left over -/
def leftS (n : Int) (k : Nat) : Int := if n - k < 0 then -1 else n - k
theorem leftS_le (n : Int) (k : Nat) (h : 0 ≤ n) : leftS n k ≤ n := by unfold leftS; split <;> omega

theorem ret_int {k : IntKind} {a b : Int} (h : a = b) : Ending.returned (.int k a) = .returned (.int k b) := by rw [h]
theorem ret_bool {a b : Bool} (h : a = b) : Ending.returned (.bool a) = .returned (.bool b) := by rw [h]

theorem bytes_eq {s s' : ByteArray} (h : s.toList = s'.toList) : s = s' := by
  rw [ByteArray.toList_eq, ByteArray.toList_eq] at h
  obtain ⟨⟨l⟩⟩ := s
  obtain ⟨⟨l'⟩⟩ := s'
  have : l = l' := h
  rw [this]

def sameCode (L W : Int) (s : ByteArray) (L' W' : Int) (s' : ByteArray) : Bool := decide (L = L' ∧ W = W' ∧ s = s')

theorem impl_EqualCode_any (L W L' W' : Int) (s s' : ByteArray) (w : World) :
    Calls Tryz.prog 22 #[.agg #[.int .i64 L, .int .i64 W, .string s], .agg #[.int .i64 L', .int .i64 W', .string s']] w fun e w' => e = .returned (.bool (sameCode L W s L' W' s')) ∧ Ext w w' := by
  go_enter Tryz.func22, Tryz.ntmps22
  go_wp2
  all_goals (go_ret; refine ⟨ret_bool ?_, (Ext.alloc _ _).trans (Ext.alloc _ _)⟩)
  · have h3 : s = s' := bytes_eq ‹_›
    simp [sameCode, *]
  · have h3 : ¬ s = s' := fun e => absurd (congrArg ByteArray.toList e) ‹_›
    simp [sameCode, h3]
  all_goals simp [sameCode, *]
end Go.Proofs.YtgaeeibcfoppbaaGreatDoor

/- Contract: a number within bounds, by the reference. -/
namespace Go.Proofs.YtgaeeibcfoppbaaGreatDoor
open Go.RowKit

theorem ret_boolB {a b : Bool} (h : a = b) : Ending.returned (.bool a) = .returned (.bool b) := by rw [h]
theorem spec_l1In_any (x lo hi : Int) (w : World) :
    Calls Tryz.prog 47 #[.int .i64 x, .int .i64 lo, .int .i64 hi] w fun e w' => e = .returned (.bool (decide (lo ≤ x) && decide (x ≤ hi))) ∧ w = w' := by
  by_cases h : lo ≤ x
  · go_enter Tryz.func47, Tryz.ntmps47
    go_wp2
    go_ret
    exact ⟨ret_boolB (by simp [h]), rfl⟩
  · have h' : x < lo := by omega
    go_enter Tryz.func47, Tryz.ntmps47
    go_wp2
    go_ret
    exact ⟨ret_boolB (by simp; omega), rfl⟩

theorem spec_l1In_yes (x lo hi : Int) (w : World) (h1 : lo ≤ x) (h2 : x ≤ hi) :
    Calls Tryz.prog 47 #[.int .i64 x, .int .i64 lo, .int .i64 hi] w fun e w' => e = .returned (.bool true) ∧ w = w' :=
  (spec_l1In_any x lo hi w).mono fun _ _ ⟨he, hw⟩ => ⟨he.trans (ret_boolB (by simp [h1, h2])), hw⟩
theorem spec_l1In_no (x lo hi : Int) (w : World) (h : x < lo ∨ hi < x) :
    Calls Tryz.prog 47 #[.int .i64 x, .int .i64 lo, .int .i64 hi] w fun e w' => e = .returned (.bool false) ∧ w = w' :=
  (spec_l1In_any x lo hi w).mono fun _ _ ⟨he, hw⟩ => ⟨he.trans (ret_boolB (by simp; omega)), hw⟩
end Go.Proofs.YtgaeeibcfoppbaaGreatDoor

/- Contracts: powers, letters, what a code is. -/
namespace Go.Proofs.YtgaeeibcfoppbaaGreatDoor
open Go.RowKit Go.Cm

set_option maxHeartbeats 400000 in
theorem impl_power_any (k n : Int) (w : World) (h0 : 0 ≤ k) (h3 : k ≤ 3) (hn : 0 ≤ n) (h16 : n ≤ 16) :
    Calls Tryz.prog 48 #[.int .i64 k, .int .i64 n] w fun e w' => e = .returned (.int .i64 (pw k n)) ∧ w = w' := by
  obtain ⟨m, rfl⟩ := Int.eq_ofNat_of_zero_le hn
  go_enter Tryz.func48, Tryz.ntmps48
  go_wp2
  go_loop [5, 7] (fun p i => ∃ j : Nat, j ≤ m ∧ i = .int .i64 j ∧ p = .int .i64 (pw k j)) (fun _ i => m - (intOf i).toNat)
  case atStart => exact ⟨0, by omega, rfl, by rw [show ((0 : Nat) : Int) = 0 from rfl, pw_zero]⟩
  case round =>
    obtain ⟨j, hj, rfl, rfl⟩ := hrel
    by_cases hlt : j < m
    · have b1 := pw_bd h0 h3 (n := (j : Int)) (by omega) (by omega)
      have b2 := pw_bd h0 h3 (n := ((j + 1 : Nat) : Int)) (by omega) (by omega)
      have e : ((j + 1 : Nat) : Int) = (j : Int) + 1 := by omega
      rw [e, pw_succ] at b2
      obtain ⟨b1l, b1h⟩ := b1
      obtain ⟨b2l, b2h⟩ := b2
      clear e
      go_wp2
      go_round
      case rel => exact ⟨j + 1, by omega, by go_num, by rw [show ((j + 1 : Nat) : Int) = (j : Int) + 1 by omega, pw_succ]⟩
      case measure => simp [intOf]; omega
    · go_wp2
      go_ret
      have : j = m := by omega
      subst this
      exact ⟨rfl, rfl⟩

set_option maxHeartbeats 400000 in
theorem spec_l11Power_any (k n : Int) (w : World) (h0 : 0 ≤ k) (h3 : k ≤ 3) (hn : 0 ≤ n) (h16 : n ≤ 16) :
    Calls Tryz.prog 30 #[.int .i64 k, .int .i64 n] w fun e w' => e = .returned (.int .i64 (pw k n)) ∧ w = w' := by
  obtain ⟨m, rfl⟩ := Int.eq_ofNat_of_zero_le hn
  go_enter Tryz.func30, Tryz.ntmps30
  go_wp2
  go_loop [5, 6] (fun p i => ∃ j : Nat, j ≤ m ∧ i = .int .i64 j ∧ p = .int .i64 (pw k j)) (fun _ i => m - (intOf i).toNat)
  case atStart => exact ⟨0, by omega, rfl, by rw [show ((0 : Nat) : Int) = 0 from rfl, pw_zero]⟩
  case round =>
    obtain ⟨j, hj, rfl, rfl⟩ := hrel
    by_cases hlt : j < m
    · have b1 := pw_bd h0 h3 (n := (j : Int)) (by omega) (by omega)
      have b2 := pw_bd h0 h3 (n := ((j + 1 : Nat) : Int)) (by omega) (by omega)
      have e : ((j + 1 : Nat) : Int) = (j : Int) + 1 := by omega
      rw [e, pw_succ] at b2
      obtain ⟨b1l, b1h⟩ := b1
      obtain ⟨b2l, b2h⟩ := b2
      clear e
      go_wp2
      go_round
      case rel => exact ⟨j + 1, by omega, by go_num, by rw [show ((j + 1 : Nat) : Int) = (j : Int) + 1 by omega, pw_succ]⟩
      case measure => simp [intOf]; omega
    · go_wp2
      go_ret
      have : j = m := by omega
      subst this
      exact ⟨rfl, rfl⟩

set_option maxHeartbeats 400000 in
theorem impl_areLetters_any (K : Int) (s : ByteArray) (w : World) (hs : s.size ≤ maxLen) :
    Calls Tryz.prog 49 #[.int .i64 K, .string s] w fun e w' => e = .returned (.bool (areLet K s.data.toList)) ∧ w = w' := by
  unfold maxLen at hs
  go_enter Tryz.func49, Tryz.ntmps49
  go_wp2
  go_loop [5, 8] (fun _ i => ∃ k : Nat, k ≤ s.size ∧ i = .int .i64 k ∧ areLet K (s.data.toList.take k) = true) (fun _ i => s.size - (intOf i).toNat)
  case atStart => exact ⟨0, by omega, rfl, by simp [areLet]⟩
  case round =>
    obtain ⟨k, hk, rfl, hp⟩ := hrel
    have HP := Lib.hid hp
    clear hp
    by_cases hlt : k < s.size
    · have hb := s[k].toNat_lt
      go_wp2
      · go_ret
        exact ⟨ret_bool (areLet_bad hlt (by omega)).symm, rfl⟩
      · go_round
        case rel => exact ⟨k + 1, by omega, by go_num, areLet_snoc hlt HP.out (by omega) (by omega)⟩
        case measure => simp [intOf]; omega
      · go_ret
        exact ⟨ret_bool (areLet_bad hlt (by omega)).symm, rfl⟩
    · have : k = s.size := by omega
      subst this
      go_wp2
      go_ret
      exact ⟨ret_bool (areLet_all HP.out).symm, rfl⟩

theorem codeOk_letters {L W : Int} {s : ByteArray} (h2 : ¬ L = 2) (h3 : ¬ L = 3) : codeOk L W s = false := by simp [codeOk, h2, h3]
theorem codeOk_low {L W : Int} {s : ByteArray} (h : ¬ 1 ≤ W) : codeOk L W s = false := by simp [codeOk, h]
theorem codeOk_high {L W : Int} {s : ByteArray} (h : ¬ W ≤ 4) : codeOk L W s = false := by simp [codeOk, h]
theorem codeOk_width {L W : Int} {s : ByteArray} (h : ¬ (1 ≤ W ∧ W ≤ 4)) : codeOk L W s = false := by
  by_cases h1 : 1 ≤ W
  · exact codeOk_high (fun h4 => h ⟨h1, h4⟩)
  · exact codeOk_low h1
theorem codeOk_great {L W : Int} {s : ByteArray} (h : ¬ pw L W ≤ 27) : codeOk L W s = false := by simp [codeOk, h]
theorem codeOk_size {L W : Int} {s : ByteArray} (h : ¬ (s.size : Int) = pw L W) : codeOk L W s = false := by simp [codeOk, h]
theorem codeOk_rest {L W : Int} {s : ByteArray} (h : L = 2 ∨ L = 3) (h1 : 1 ≤ W) (h2 : W ≤ 4) (h3 : pw L W ≤ 27) (h4 : (s.size : Int) = pw L W) : codeOk L W s = areLet L s.data.toList := by
  unfold codeOk
  rw [decide_eq_true h1, decide_eq_true h2, decide_eq_true h3, decide_eq_true h4]
  rcases h with h | h <;> simp [h]

set_option maxHeartbeats 2000000 in
theorem impl_IsCode_any (L W : Int) (s : ByteArray) (w : World) (hs : s.size ≤ maxLen) :
    Calls Tryz.prog 20 #[.agg #[.int .i64 L, .int .i64 W, .string s]] w fun e w' => e = .returned (.bool (codeOk L W s)) ∧ Ext w w' := by
  have hs' : s.size ≤ maxLen := hs
  unfold maxLen at hs
  by_cases h1 : L = 2 ∨ L = 3
  · have hl : 2 ≤ L ∧ L ≤ 3 := by omega
    obtain ⟨hl2, hl3⟩ := hl
    have t1 : ((L == 2) = true) ∨ ((L == 2) = false ∧ (L == 3) = true) := by rcases h1 with h | h <;> simp [h]
    have H1 := Lib.hid h1
    clear h1
    by_cases h2 : 1 ≤ W
    · have t2 : decide (1 ≤ W) = true := by simpa using h2
      by_cases h3 : W ≤ 4
      · have t3 : decide (W ≤ 4) = true := by simpa using h3
        by_cases h4 : pw L W ≤ 27
        · have t4 : decide (pw L W ≤ 27) = true := by simpa using h4
          by_cases h5 : (s.size : Int) = pw L W
          · have t5 : ((s.size : Int) == pw L W) = true := by simpa using h5
            have H5 := Lib.hid (codeOk_rest (s := s) H1.out h2 h3 h4 h5)
            clear h5
            rcases t1 with t1 | ⟨t1, t1'⟩
            all_goals
              go_enter Tryz.func20, Tryz.ntmps20
              go_wp2
              go_quiet (first | (go_at_call 48; exact Calls.quiet_is (impl_power_any _ _ _ (by omega) (by omega) (by omega) (by omega))) | (go_at_call 49; exact Calls.quiet_is (impl_areLetters_any _ _ _ hs')))
              go_wp2
              go_ret
              exact ⟨ret_bool H5.out.symm, (Ext.alloc _ _).drewN _⟩
          · have t5 : ((s.size : Int) == pw L W) = false := by simpa using h5
            have H5 := Lib.hid h5
            clear h5
            rcases t1 with t1 | ⟨t1, t1'⟩
            all_goals
              go_enter Tryz.func20, Tryz.ntmps20
              go_wp2
              go_quiet ((go_at_call 48; exact Calls.quiet_is (impl_power_any _ _ _ (by omega) (by omega) (by omega) (by omega))))
              go_wp2
              go_ret
              exact ⟨ret_bool (codeOk_size H5.out).symm, (Ext.alloc _ _).drewN _⟩
        · have t4 : decide (pw L W ≤ 27) = false := by simpa using h4
          rcases t1 with t1 | ⟨t1, t1'⟩
          all_goals
            go_enter Tryz.func20, Tryz.ntmps20
            go_wp2
            go_quiet ((go_at_call 48; exact Calls.quiet_is (impl_power_any _ _ _ (by omega) (by omega) (by omega) (by omega))))
            go_wp2
            go_ret
            exact ⟨ret_bool (codeOk_great (by omega)).symm, (Ext.alloc _ _).drewN _⟩
      · have t3 : decide (W ≤ 4) = false := by simpa using h3
        rcases t1 with t1 | ⟨t1, t1'⟩
        all_goals
          go_enter Tryz.func20, Tryz.ntmps20
          go_wp2
          go_quiet (fail)
          go_wp2
          go_ret
          exact ⟨ret_bool (codeOk_high (by omega)).symm, (Ext.alloc _ _).drewN _⟩
    · have t2 : decide (1 ≤ W) = false := by simpa using h2
      rcases t1 with t1 | ⟨t1, t1'⟩
      all_goals
        go_enter Tryz.func20, Tryz.ntmps20
        go_wp2
        go_quiet (fail)
        go_wp2
        go_ret
        exact ⟨ret_bool (codeOk_low (by omega)).symm, (Ext.alloc _ _).drewN _⟩
  · have n2 : ¬ L = 2 := fun h => h1 (.inl h)
    have n3 : ¬ L = 3 := fun h => h1 (.inr h)
    have t1 : (L == 2) = false := by simpa using n2
    have t1' : (L == 3) = false := by simpa using n3
    go_enter Tryz.func20, Tryz.ntmps20
    go_wp2
    go_quiet (fail)
    go_wp2
    go_ret
    exact ⟨ret_bool (codeOk_letters n2 n3).symm, (Ext.alloc _ _).drewN _⟩
end Go.Proofs.YtgaeeibcfoppbaaGreatDoor

/- Closed facts on types of this translation. -/
namespace Go.Proofs.YtgaeeibcfoppbaaGreatDoor
theorem infoU8 : (Tryz.prog.info? 5).map (fun i => (i.zero, i.size, i.bytes)) = some (some (.int .u8 0), 1, 1) := by kernel_rfl
theorem infoInt : (Tryz.prog.info? 3).map (fun i => (i.zero, i.size, i.bytes)) = some (some (.int .i64 0), 1, 8) := by kernel_rfl
theorem infoStr : (Tryz.prog.info? 9).map (fun i => (i.zero, i.size, i.bytes)) = some (some (.string ⟨#[]⟩), 1, 16) := by kernel_rfl
end Go.Proofs.YtgaeeibcfoppbaaGreatDoor

/- Contracts: the word at an index, the words of a length. -/
namespace Go.Proofs.YtgaeeibcfoppbaaGreatDoor
open Go.RowKit Go.Cm

/-- where the loop of wordAt stands: k letters are still to come -/
structure WordSt (K n i0 : Nat) (k rest : Nat) (fs : List Value) : Prop where
  le : k ≤ n
  len : fs.length = n
  word : ∃ t : List UInt8, wordL K k rest ++ t = wordL K n i0 ∧ fs.drop k = bcells t

theorem wordSt_start (K n i : Nat) : WordSt K n i n i (List.replicate n (.int .u8 0)) :=
  ⟨Nat.le_refl _, by simp, [], by simp, by simp [bcells]⟩
theorem wordSt_step {K n i0 k rest : Nat} {fs : List Value} (hK : K ≤ 3) (hK0 : 0 < K) (h : WordSt K n i0 (k + 1) rest fs) : WordSt K n i0 k (rest / K) (fs.set k (.int .u8 ((97 : Int) + (rest : Int) % (K : Int)))) := by
  obtain ⟨hle, hlen, t, ht, hf⟩ := h
  refine ⟨by omega, by simpa using hlen, letN (rest % K) :: t, ?_, ?_⟩
  · rw [← ht]; simp [wordL]
  · have hk : k < fs.length := by omega
    rw [List.drop_eq_getElem_cons (by simpa using hk)]
    simp only [List.getElem_set_self, bcells, List.map_cons]
    have hm : rest % K < K := Nat.mod_lt _ hK0
    unfold letN
    rw [ofNat_toNat (by omega)]
    have e : ((97 + rest % K : Nat) : Int) = (97 : Int) + (rest : Int) % (K : Int) := by simp
    rw [e]
    congr 1
    rw [List.drop_set_of_lt (by omega)]
    exact hf
theorem wordSt_end {K n i0 rest : Nat} {fs : List Value} (h : WordSt K n i0 0 rest fs) : fs = bcells (wordL K n i0) := by
  obtain ⟨_, _, t, ht, hf⟩ := h
  have : t = wordL K n i0 := by simpa [wordL] using ht
  rw [← this]; simpa using hf

set_option maxHeartbeats 400000 in
theorem impl_wordAt_any (K n i : Nat) (w : World) (hK0 : 0 < K) (hK : K ≤ 3) (hn : n ≤ 16) (hi : i ≤ 43046721) :
    Calls Tryz.prog 69 #[.int .i64 K, .int .i64 n, .int .i64 i] w fun e w' => e = .returned (.string (mkS (wordL K n i))) ∧ Ext w w' := by
  have hmk := run_make_row' (P := Tryz.prog) 22 5 (.int .u8 0) 1 Tryz.underlying22 infoU8 rfl .i64 .i64 n (by omega) (by omega)
  go_enter Tryz.func69, Tryz.ntmps69
  go_wp2
  go_loopw [2, 8] (fun x j wr => ∃ (k rest : Nat) (fs : List Value), j = .int .i64 ((k : Int) - 1) ∧ x = .int .i64 rest ∧ rest ≤ i ∧ WordSt K n i k rest fs ∧ Own wr w.heap.size 5 (.slice (some ⟨w.heap.size, 0, none⟩) n n) fs ∧ Ext w wr) (fun _ j _ => (intOf j + 1).toNat)
  case atStart => exact ⟨n, i, _, rfl, rfl, Nat.le_refl _, wordSt_start K n i, Own.made w _ _ n (by unfold maxLen; omega), Ext.alloc _ _⟩
  case round =>
    obtain ⟨k, rest, fs, rfl, rfl, hri, hst, hown, hx⟩ := hrel
    cases k with
    | zero =>
      have hf := wordSt_end hst
      subst hf
      have hcv := run_convert_own (P := Tryz.prog) (src := 22) (dst := 9) Tryz.underlying22 Tryz.underlying5 Tryz.underlying9 hown
      have HS := Lib.hid hst
      clear hst
      go_wp2
      go_ret
      exact ⟨rfl, hx⟩
    | succ k =>
      have hk : k < n := by have := hst.le; omega
      have hlen := hst.len
      obtain ⟨v, hc⟩ : ∃ v, wr.cell? ⟨w.heap.size, k, none⟩ = some v := ⟨_, hown.cell k (by omega)⟩
      have hfz := hown.frozen k
      have e1 : ((k + 1 : Nat) : Int) - 1 = (k : Int) := by omega
      rw [e1]
      clear e1
      have hm0 : (0 : Int) ≤ (rest : Int) % (K : Int) := Int.emod_nonneg _ (by omega)
      have hm1 : (rest : Int) % (K : Int) < K := Int.emod_lt_of_pos _ (by omega)
      have hd0 : (0 : Int) ≤ (rest : Int) / (K : Int) := Int.ediv_nonneg (by omega) (by omega)
      have hd1 : (rest : Int) / (K : Int) ≤ rest := Int.ediv_le_self _ (by omega)
      have HS := Lib.hid hst
      have HL := Lib.hid hlen
      clear hst hlen
      go_wp2
      go_roundw
      case rel => exact ⟨k, rest / K, _, rfl, by go_num, by have := Nat.div_le_self rest K; omega, wordSt_step hK hK0 HS.out, hown.store k _, hx.setCell (Nat.le_refl _) _⟩
      case measure => simp [intOf]

theorem wordsL_take (k n j : Nat) (hj : j < k ^ n) : (wordsL k n).take (j + 1) = (wordsL k n).take j ++ [wordL k n j] := by
  rw [List.take_succ_eq_append_getElem (by simpa [wordsL] using hj)]
  simp [wordsL]
theorem wordsL_all (k n : Nat) : (wordsL k n).take (k ^ n) = wordsL k n := List.take_of_length_le (by simp [wordsL])
theorem wordsL_take_length (k n j : Nat) (hj : j ≤ k ^ n) : ((wordsL k n).take j).length = j := by simp [wordsL]; omega
/-- words as cells -/
def scells (l : List (List UInt8)) : List Value := l.map fun u => .string (mkS u)
theorem pw_nat (K n : Nat) : pw (K : Int) (n : Int) = ((K ^ n : Nat) : Int) := by simp [pw]

set_option maxHeartbeats 400000 in
theorem impl_wordsOf_any (K n : Nat) (w : World) (hK0 : 0 < K) (hK : K ≤ 3) (hn : n ≤ 16) (hKn : K ^ n ≤ 43046721) :
    Calls Tryz.prog 53 #[.int .i64 K, .int .i64 n] w fun e w' => ∃ v, e = .returned v ∧ Own w' w.heap.size 9 v (scells (wordsL K n)) ∧ Ext w w' := by
  go_enter Tryz.func53, Tryz.ntmps53
  go_wp2_with fail
  refine (impl_power_any _ _ _ (by omega) (by omega) (by omega) (by omega)).mono ?_
  rintro e w1 ⟨rfl, rfl⟩
  rw [pw_nat]
  obtain ⟨N, hN⟩ : ∃ N, N = K ^ n := ⟨_, rfl⟩
  rw [← hN] at hKn ⊢
  have HN := Lib.hid hN
  clear hN
  have hB0 : Own (w.alloc (.cells #[] 9)) w.heap.size 9 (.slice (some ⟨w.heap.size, 0, none⟩) 0 0) [] := Own.lit w 9 [] (by simp)
  go_wp2
  go_loopw [5, 6, 11] (fun v _ i wr => ∃ k : Nat, k ≤ N ∧ i = .int .i64 k ∧ Own wr w.heap.size 9 v (scells ((wordsL K n).take k)) ∧ Ext w wr) (fun _ _ i _ => N - (intOf i).toNat)
  case atStart => exact ⟨0, by omega, rfl, hB0, Ext.alloc _ _⟩
  case round =>
    obtain ⟨k, hk, rfl, hown, hx⟩ := hrel
    by_cases hlt : k < N
    · go_wp2_with fail
      refine (impl_wordAt_any K n k _ hK0 hK hn (by omega)).mono ?_
      rintro e w1 ⟨rfl, hx1⟩
      have hown1 := hown.ext hx1
      have hx01 := hx.trans hx1
      clear hx hx1 hown
      have hlen : (scells ((wordsL K n).take k)).length = k := by simp only [scells, List.length_map]; exact wordsL_take_length K n k (by rw [← HN.out]; exact hk)
      have hl1 : (scells ((wordsL K n).take k)).length + 1 ≤ maxLen := by unfold maxLen; omega
      have hl2 : ((scells ((wordsL K n).take k)).length + 1) * 16 ≤ 140737488355328 := by omega
      have HL := Lib.hid hlen
      clear hlen
      go_wp2_with (at_builtin; refine wpList_append_one rfl (.tmp 14) (.tmp 19) 42 rfl 9 _ _ Tryz.underlying42 infoStr rfl w.heap.size _ _ rfl (hown1.ext (Ext.alloc _ _)) w1.heap.size _ rfl (by simp; rfl) rfl hl1 hl2 w rfl (hx01.trans (Ext.alloc _ _)) ?_; intro v' w2 hown2 hx2 _)
      go_roundw
      case rel => exact ⟨k + 1, by omega, by go_num, by rw [wordsL_take K n k (by rw [← HN.out]; exact hlt)]; simpa [scells] using hown2, hx2⟩
      case measure => simp [intOf]; omega
    · have : k = N := by omega
      subst this
      have hN := HN.out
      rw [hN, wordsL_all] at hown
      clear hN
      go_wp2
      go_ret
      exact ⟨_, rfl, hown, hx⟩
end Go.Proofs.YtgaeeibcfoppbaaGreatDoor

/- Contract: the code that gives letters by a function. -/
namespace Go.Proofs.YtgaeeibcfoppbaaGreatDoor
open Go.RowKit Go.Cm

/-- may there be a code so wide? -/
def wideOk (L W : Int) : Bool := (decide (L = 2) || decide (L = 3)) && (decide (1 ≤ W) && (decide (W ≤ 4) && decide (pw L W ≤ 27)))

theorem wideOk_yes {L W : Int} (h : wideOk L W = true) : (L = 2 ∨ L = 3) ∧ 1 ≤ W ∧ W ≤ 4 ∧ pw L W ≤ 27 := by
  simpa [wideOk] using h

set_option maxHeartbeats 1000000 in
theorem impl_madeCode_no (L W : Int) (g : Value) (w : World) (h : wideOk L W = false) :
    Calls Tryz.prog 26 #[.int .i64 L, .int .i64 W, g] w fun e w' => e = .returned (.tuple #[.agg #[.int .i64 0, .int .i64 0, .string ⟨#[]⟩], .bool false]) ∧ Ext w w' := by
  by_cases h1 : L = 2 ∨ L = 3
  · have hl : 2 ≤ L ∧ L ≤ 3 := by omega
    obtain ⟨hl2, hl3⟩ := hl
    have t1 : ((L != 2) = false) ∨ ((L != 2) = true ∧ (L != 3) = false) := by rcases h1 with h | h <;> simp [h]
    have H1 := Lib.hid h1
    clear h1
    by_cases h2 : 1 ≤ W
    · by_cases h3 : W ≤ 4
      · have h4 : 27 < pw L W := by
          have h1 := H1.out
          simp [wideOk, h1, h2, h3] at h
          omega
        have t4 : decide (27 < pw L W) = true := by simpa using h4
        clear h
        rcases t1 with t1 | ⟨t1, t1'⟩
        all_goals
          go_enter Tryz.func26, Tryz.ntmps26
          go_wp2_with fail
          refine (impl_power_any _ _ _ (by omega) (by omega) (by omega) (by omega)).mono ?_
          rintro e w1 ⟨rfl, rfl⟩
          go_wp2
          refine bodyPost_ret (v := .tuple #[.agg #[.int .i64 0, .int .i64 0, .string ⟨#[]⟩], .bool false]) (by simp [results, Tryz.results26, go_sem]) rfl ⟨rfl, Ext.alloc _ _⟩
      · clear h
        rcases t1 with t1 | ⟨t1, t1'⟩
        all_goals
          go_enter Tryz.func26, Tryz.ntmps26
          go_wp2
          refine bodyPost_ret (v := .tuple #[.agg #[.int .i64 0, .int .i64 0, .string ⟨#[]⟩], .bool false]) (by simp [results, Tryz.results26, go_sem]) rfl ⟨rfl, Ext.alloc _ _⟩
    · clear h
      rcases t1 with t1 | ⟨t1, t1'⟩
      all_goals
        go_enter Tryz.func26, Tryz.ntmps26
        go_wp2
        refine bodyPost_ret (v := .tuple #[.agg #[.int .i64 0, .int .i64 0, .string ⟨#[]⟩], .bool false]) (by simp [results, Tryz.results26, go_sem]) rfl ⟨rfl, Ext.alloc _ _⟩
  · have t1 : (L != 2) = true := by simp; omega
    have t1' : (L != 3) = true := by simp; omega
    clear h h1
    go_enter Tryz.func26, Tryz.ntmps26
    go_wp2
    refine bodyPost_ret (v := .tuple #[.agg #[.int .i64 0, .int .i64 0, .string ⟨#[]⟩], .bool false]) (by simp [results, Tryz.results26, go_sem]) rfl ⟨rfl, Ext.alloc _ _⟩

set_option maxRecDepth 100000 in
set_option maxHeartbeats 1000000 in
theorem impl_madeCode_yes (K n : Nat) (f : FuncId) (cap : Array Value) (G : List UInt8 → UInt8) (w : World) (h : wideOk K n = true) (hcf : ∀ args w, (callFunc f args).run Tryz.prog w = .ok (.enter f args) w)
    (hgive : ∀ u w', u ∈ wordsL K n → Ext w w' → Calls Tryz.prog f (#[.string (mkS u)] ++ cap) w' fun e w'' => e = .returned (.int .u8 ((G u).toNat : Int)) ∧ Ext w' w'') :
    Calls Tryz.prog 26 #[.int .i64 K, .int .i64 n, .func (.func f) #[] cap] w fun e w' => e = .returned (.tuple #[.agg #[.int .i64 K, .int .i64 n, .string (mkS ((wordsL K n).map G))], .bool true]) ∧ Ext w w' := by
  obtain ⟨hL, h1, h4, h27⟩ := wideOk_yes h
  have t1 : (((K : Int) != 2) = false) ∨ (((K : Int) != 2) = true ∧ ((K : Int) != 3) = false) := by rcases hL with h | h <;> simp [h]
  have hK0 : 0 < K := by omega
  have hK3 : K ≤ 3 := by omega
  have hn1 : 1 ≤ n := by omega
  have hn4 : n ≤ 4 := by omega
  rw [pw_nat] at h27
  have hN27 : K ^ n ≤ 27 := by omega
  have HG := Lib.hid hgive
  clear hgive h hL h1 h4 h27
  have hN4 : K ^ n ≤ 43046721 := by omega
  obtain ⟨N, hN⟩ : ∃ N, N = K ^ n := ⟨_, rfl⟩
  have hNp : 0 < N := by rw [hN]; exact Nat.pow_pos hK0
  have hN27' : N ≤ 27 := by omega
  have HN := Lib.hid hN
  have H4 := Lib.hid hN4
  clear hN hN4 hN27
  rcases t1 with t1 | ⟨t1, t1'⟩
  all_goals
    go_enter Tryz.func26, Tryz.ntmps26
    go_wp2_with fail
    refine (impl_power_any _ _ _ (by omega) (by omega) (by omega) (by omega)).mono ?_
    rintro e w1 ⟨rfl, rfl⟩
    rw [pw_nat, ← HN.out]
    go_wp2_with fail
    refine (impl_wordsOf_any K n _ hK0 hK3 (by omega) H4.out).mono ?_
    rintro e w2 ⟨v35, rfl, hw, hx⟩
    have hwl : (scells (wordsL K n)).length = N := by rw [HN.out]; simp [scells, wordsL]
    have hsh := hw.shape
    rw [hwl] at hsh
    rcases hsh with ⟨_, hnil⟩ | ⟨g, cap, rfl, hg, _, _, _⟩
    · exfalso
      rw [hnil] at hwl
      simp at hwl
      omega
    have hg' : w.heap.size + 1 < g := by simp at hg; omega
    clear hg
    have hxw := ((Ext.alloc _ _).trans (Ext.alloc _ _)).trans hx
    have hB0 : Own w2 w.heap.size 5 (.slice (some ⟨w.heap.size + 1, 0, none⟩) 0 0) [] := by
      have h := (Own.lit (w.alloc (.cells #[.int .i64 0, .int .i64 0, .string ⟨#[]⟩] 25)) 5 [] (by simp)).ext hx
      simp only [World.size_alloc, List.length_nil] at h
      exact h.mono (by omega)
    have f0 : w2.frozen? ⟨w.heap.size, 0, none⟩ = false := (Below.frozen (p := ⟨w.heap.size, 0, none⟩) hx (by simp; omega)).trans (by simp)
    have f1 : w2.frozen? ⟨w.heap.size, 1, none⟩ = false := (Below.frozen (p := ⟨w.heap.size, 1, none⟩) hx (by simp; omega)).trans (by simp)
    have f2 : w2.frozen? ⟨w.heap.size, 2, none⟩ = false := (Below.frozen (p := ⟨w.heap.size, 2, none⟩) hx (by simp; omega)).trans (by simp)
    have c0 : w2.cell? ⟨w.heap.size, 0, none⟩ = some (.int .i64 0) := hx.cell_some (by simp)
    have c1 : w2.cell? ⟨w.heap.size, 1, none⟩ = some (.int .i64 0) := hx.cell_some (by simp)
    have c2 : w2.cell? ⟨w.heap.size, 2, none⟩ = some (.string ⟨#[]⟩) := hx.cell_some (by simp)
    have hsz : w.heap.size + 1 < w2.heap.size := by have := hx.size; simp at this; omega
    clear hx
    have HWL := Lib.hid hwl
    clear hwl
    go_wp2
    go_loopw [8, 10, 37] (fun v _ i wr => ∃ k : Nat, k ≤ N ∧ i = .int .i64 k ∧ Own wr w.heap.size 5 v (bcells (((wordsL K n).take k).map G)) ∧ Grew w2 (.slice (some ⟨w.heap.size + 1, 0, none⟩) 0 0) wr v ∧ Ext w wr) (fun _ _ i _ => N - (intOf i).toNat)
    case atStart => exact ⟨0, by omega, rfl, hB0, Grew.refl _ _, hxw⟩
    case round =>
      obtain ⟨k, hk, rfl, hown, hgr, hxr⟩ := hrel
      by_cases hlt : k < N
      · have hlw : k < (wordsL K n).length := by have := HWL.out; simp [scells] at this; omega
        have hwc : wr.cell? ⟨g, k, none⟩ = some (.string (mkS (wordsL K n)[k])) := by
          have := (hgr.own hw (by intro j hj; simp [Value.ownBlock] at hj ⊢; omega)).cell k (by rw [HWL.out]; exact hlt)
          simpa [scells] using this
        obtain ⟨u, hu⟩ : ∃ u, u = (wordsL K n)[k] := ⟨_, rfl⟩
        rw [← hu] at hwc
        have hmem : u ∈ wordsL K n := by rw [hu]; exact List.getElem_mem _
        have htk : (wordsL K n).take (k + 1) = (wordsL K n).take k ++ [u] := by rw [hu]; exact List.take_succ_eq_append_getElem hlw
        have HT := Lib.hid (And.intro hmem htk)
        have HW := Lib.hid hw
        clear hu hmem htk hlw hw
        go_wp2_with fail
        refine (HG.out u _ HT.out.1 hxr).mono ?_
        rintro e w3 ⟨rfl, hx3⟩
        have hown3 := hown.ext hx3
        have hgr3 := hgr.ext hx3
        have hxr3 := hxr.trans hx3
        clear hown hgr hxr hx3 hwc
        have hl : (bcells (((wordsL K n).take k).map G)).length = k := by have := HWL.out; simp [bcells, scells] at this ⊢; omega
        have hl1 : (bcells (((wordsL K n).take k).map G)).length + 1 ≤ maxLen := by unfold maxLen; omega
        have hl2 : ((bcells (((wordsL K n).take k).map G)).length + 1) * 1 ≤ 140737488355328 := by omega
        clear hl
        go_wp2_with (at_builtin; refine wpList_append_one rfl (.tmp 41) (.tmp 45) 22 rfl 5 _ _ Tryz.underlying22 infoU8 rfl w.heap.size _ _ rfl (hown3.ext (Ext.alloc _ _)) w3.heap.size _ rfl (by simp; rfl) rfl hl1 hl2 w rfl (hxr3.trans (Ext.alloc _ _)) ?_; intro v' w4 hown4 hx4 hmv)
        have hgr4 := (hgr3.ext (Ext.alloc _ _)).step hmv
        go_roundw
        case rel => exact ⟨k + 1, by omega, by go_num, by rw [HT.out.2]; simpa [bcells] using hown4, hgr4, hx4⟩
        case measure => simp [intOf]; omega
      · have : k = N := by omega
        subst this
        have htk : (wordsL K n).take k = wordsL K n := List.take_of_length_le (by have := HWL.out; simp [scells] at this; omega)
        rw [htk] at hown
        clear htk
        have hcv := run_convert_own (P := Tryz.prog) (src := 22) (dst := 9) Tryz.underlying22 Tryz.underlying5 Tryz.underlying9 hown
        have d0 := hgr.cell c0 (by simp [Value.ownBlock])
        have d1 := hgr.cell c1 (by simp [Value.ownBlock])
        have d2 := hgr.cell c2 (by simp [Value.ownBlock])
        have g0 := (hgr.frozen (a := ⟨w.heap.size, 0, none⟩) (by simp; omega) (by simp [Value.ownBlock])).trans f0
        have g1 := (hgr.frozen (a := ⟨w.heap.size, 1, none⟩) (by simp; omega) (by simp [Value.ownBlock])).trans f1
        have g2 := (hgr.frozen (a := ⟨w.heap.size, 2, none⟩) (by simp; omega) (by simp [Value.ownBlock])).trans f2
        clear hgr c0 c1 c2 f0 f1 f2
        go_wp2
        refine bodyPost_ret (v := .tuple #[.agg #[.int .i64 K, .int .i64 n, .string (mkS ((wordsL K n).map G))], .bool true]) ?_ rfl ⟨rfl, ((hxr.setCell (Nat.le_refl _) _).setCell (Nat.le_refl _) _).setCell (Nat.le_refl _) _⟩
        simp [results, Tryz.results26, go_sem, d0, d1, d2, mkS]

theorem made_cf : ∀ args w, (callFunc 46 args).run Tryz.prog w = .ok (.enter 46 args) w := by
  intro args w
  kernel_rfl
theorem made_cf2 : ∀ args w, (callFunc 27 args).run Tryz.prog w = .ok (.enter 27 args) w := by
  intro args w
  kernel_rfl
end Go.Proofs.YtgaeeibcfoppbaaGreatDoor

/- Cells and frozen marks behind a chain of allocs. -/
namespace Go.Proofs.YtgaeeibcfoppbaaGreatDoor
open Go.RowKit Go.Cm

theorem cell_new {w : World} {c : Array Value} {t : TypeId} {n i : Nat} {v : Value} (h : n = w.heap.size) (hv : c[i]? = some v) : (w.alloc (.cells c t)).cell? ⟨n, i, none⟩ = some v := by
  subst h
  rw [World.cell?_alloc_new, hv]

theorem cell_old {w : World} {o : Obj} {n i : Nat} {v : Value} (h : w.cell? ⟨n, i, none⟩ = some v) : (w.alloc o).cell? ⟨n, i, none⟩ = some v := by
  rw [World.cell?_alloc_lt _ _ _ (World.block_lt_of_cell? w _ h), h]

theorem frozen_new {w : World} {c : Array Value} {t : TypeId} {n i : Nat} (h : n = w.heap.size) : (w.alloc (.cells c t)).frozen? ⟨n, i, none⟩ = false := by
  subst h
  rw [World.frozen?_alloc_new]

theorem frozen_old {w : World} {o : Obj} {n i : Nat} (h : n < w.heap.size) (hf : w.frozen? ⟨n, i, none⟩ = false) : (w.alloc o).frozen? ⟨n, i, none⟩ = false := by
  rw [World.frozen?_alloc_old _ _ _ (Nat.ne_of_lt h), hf]

theorem Ext.frozen_is {w w' : World} {n i : Nat} (hx : Ext w w') (h : n < w.heap.size) (hf : w.frozen? ⟨n, i, none⟩ = false) : w'.frozen? ⟨n, i, none⟩ = false :=
  (Below.frozen (p := ⟨n, i, none⟩) hx h).trans hf

theorem Ext.frozen_cell {w w' : World} {n i : Nat} {v : Value} (hx : Ext w w') (hc : w.cell? ⟨n, i, none⟩ = some v) (hf : w.frozen? ⟨n, i, none⟩ = false) : w'.frozen? ⟨n, i, none⟩ = false :=
  Ext.frozen_is hx (World.block_lt_of_cell? w _ hc) hf

/-- A block is at hand: its cells and that they are not frozen. -/
structure Blk (w : World) (b : Nat) (c : Array Value) : Prop where
  cell : ∀ i v, c[i]? = some v → w.cell? ⟨b, i, none⟩ = some v
  frozen : ∀ i, w.frozen? ⟨b, i, none⟩ = false
  lt : b < w.heap.size

theorem Blk.mk' {w : World} {c : Array Value} {t : TypeId} {n : Nat} (h : n = w.heap.size) : Blk (w.alloc (.cells c t)) n c :=
  ⟨fun _ _ hv => cell_new h hv, fun _ => frozen_new h, by simp; omega⟩

theorem Blk.old {w : World} {o : Obj} {b : Nat} {c : Array Value} (h : Blk w b c) : Blk (w.alloc o) b c :=
  ⟨fun i v hv => cell_old (h.cell i v hv), fun i => frozen_old h.lt (h.frozen i), by have := h.lt; simp; omega⟩

theorem Blk.ext {w w' : World} {b : Nat} {c : Array Value} (h : Blk w b c) (hx : Ext w w') : Blk w' b c :=
  ⟨fun i v hv => hx.cell_some (h.cell i v hv), fun i => Ext.frozen_is hx h.lt (h.frozen i), Nat.lt_of_lt_of_le h.lt hx.size⟩

/-- Cells of a block behind a store. -/
theorem Blk.set {w : World} {b i : Nat} {c : Array Value} (h : Blk w b c) (hi : i < c.size) (v : Value) : Blk (w.setCell ⟨b, i, none⟩ v) b (c.set i v hi) := by
  refine ⟨fun j u hu => ?_, fun j => by rw [World.frozen?_setCell, h.frozen], by simpa using h.lt⟩
  by_cases e : i = j
  · subst e
    have : u = v := by simpa using hu.symm
    subst this
    exact World.cell?_setCell_same w _ _ (h.cell i c[i] (by simp [hi]))
  · rw [World.cell?_setCell_other _ _ _ _ (by intro h; injection h; contradiction)]
    exact h.cell j u (by simpa [Array.getElem?_set, e] using hu)

theorem Blk.other {w : World} {b b' i : Nat} {c : Array Value} (h : Blk w b c) (hb : b' ≠ b) (v : Value) : Blk (w.setCell ⟨b', i, none⟩ v) b c := by
  refine ⟨fun j u hu => ?_, fun j => by rw [World.frozen?_setCell, h.frozen], by simpa using h.lt⟩
  rw [World.cell?_setCell_other _ _ _ _ (by intro h; injection h; contradiction)]
  exact h.cell j u hu

theorem Blk.c3 {w : World} {b : Nat} {x y z : Value} (h : Blk w b #[x, y, z]) : w.cell? ⟨b, 0, none⟩ = some x ∧ w.cell? ⟨b, 1, none⟩ = some y ∧ w.cell? ⟨b, 2, none⟩ = some z ∧ w.frozen? ⟨b, 0, none⟩ = false ∧ w.frozen? ⟨b, 1, none⟩ = false ∧ w.frozen? ⟨b, 2, none⟩ = false :=
  ⟨h.cell 0 _ rfl, h.cell 1 _ rfl, h.cell 2 _ rfl, h.frozen 0, h.frozen 1, h.frozen 2⟩

theorem Ext.alloced {w w' : World} (h : Ext w w') (o : Obj) : Ext w (w'.alloc o) := h.trans (Ext.alloc _ _)
theorem Ext.stored {w w' : World} {a : Addr} {v : Value} (h : Ext w w') (ha : w.heap.size ≤ a.block) : Ext w (w'.setCell a v) := h.setCell ha v

theorem GB.blk {W wr : World} {row : Option Nat} {b : Nat} {c : Array Value} (h : W.grownBy wr row) (k : Blk W b c) (hne : row ≠ some b) : Blk wr b c :=
  ⟨fun i v hv => GB.cell h (k.cell i v hv) hne, fun i => (GB.frozen h (a := ⟨b, i, none⟩) k.lt hne).trans (k.frozen i), Nat.lt_of_lt_of_le k.lt h.size⟩

end Go.Proofs.YtgaeeibcfoppbaaGreatDoor

/- Contract: the reference's IsCode. -/
namespace Go.Proofs.YtgaeeibcfoppbaaGreatDoor
open Go.RowKit Go.Cm

theorem codeOk_at {L W : Int} {s : ByteArray} {k : Nat} (hk : k < s.size) (h1 : ¬ (97 ≤ (s[k].toNat : Int) ∧ (s[k].toNat : Int) - 97 < L)) : codeOk L W s = false := by
  unfold codeOk
  rw [areLet_bad hk h1]
  simp

set_option maxHeartbeats 2000000 in
theorem spec_IsCode_any (L W : Int) (s : ByteArray) (w : World) (hs : s.size ≤ maxLen) :
    Calls Tryz.prog 21 #[.agg #[.int .i64 L, .int .i64 W, .string s]] w fun e w' => e = .returned (.bool (codeOk L W s)) ∧ Ext w w' := by
  unfold maxLen at hs
  by_cases h1 : 2 ≤ L ∧ L ≤ 3
  · obtain ⟨hl2, hl3⟩ := h1
    by_cases h2 : 1 ≤ W ∧ W ≤ 4
    · obtain ⟨hw1, hw4⟩ := h2
      by_cases h4 : pw L W ≤ 27
      · by_cases h5 : (s.size : Int) = pw L W
        · have t5 : ((s.size : Int) != pw L W) = false := by simpa using h5
          have t4 : decide (27 < pw L W) = false := by simpa using h4
          have H5 := Lib.hid (codeOk_rest (s := s) (L := L) (by omega) hw1 hw4 h4 h5)
          clear h5
          go_enter Tryz.func21, Tryz.ntmps21
          go_wp2
          go_quiet (first | (go_at_call 30; exact Calls.quiet_is (spec_l11Power_any _ _ _ (by omega) (by omega) (by omega) (by omega))) | (go_at_call 47; exact Calls.quiet_is (spec_l1In_yes _ _ _ _ (by omega) (by omega))))
          go_wp2
          go_loopw [3] (fun i wr => ∃ k : Nat, k ≤ s.size ∧ i = .int .i64 k ∧ areLet L (s.data.toList.take k) = true ∧ Ext (w.alloc (.cells #[.int .i64 L, .int .i64 W, .string s] 25)) wr) (fun i _ => s.size - (intOf i).toNat)
          case atStart => exact ⟨0, by omega, rfl, by simp [areLet], (Ext.refl _).drewN _⟩
          case round =>
            obtain ⟨k, hk, rfl, hp, hx⟩ := hrel
            have HP := Lib.hid hp
            clear hp
            have c0 : wr.cell? ⟨w.heap.size, 0, none⟩ = some (.int .i64 L) := hx.cell_some (by simp)
            have c2 : wr.cell? ⟨w.heap.size, 2, none⟩ = some (.string s) := hx.cell_some (by simp)
            by_cases hlt : k < s.size
            · have hb := s[k].toNat_lt
              by_cases hle : 97 ≤ (s[k].toNat : Int) ∧ (s[k].toNat : Int) - 97 < L
              · obtain ⟨hle1, hle2⟩ := hle
                have q1 : (0 : Int) ≤ (s[k].toNat : Int) - 97 := by omega
                have q2 : (s[k].toNat : Int) - 97 ≤ L - 1 := by omega
                go_wp2
                have e0 : IntKind.i64.wrap (s[k].toNat : Int) = (s[k].toNat : Int) := IntWalk.i64_in _ (by omega)
                have e1 : IntKind.i64.wrap ((s[k].toNat : Int) - 97) = (s[k].toNat : Int) - 97 := IntWalk.i64_in _ (by omega)
                have e2 : IntKind.i64.wrap (L - 1) = L - 1 := IntWalk.i64_in _ (by omega)
                go_quiet ((go_at_call 47; exact Calls.quiet_is (spec_l1In_yes _ _ _ _ q1 q2)))
                clear e0 e1 e2
                go_wp2
                go_roundw
                case rel => exact ⟨k + 1, by omega, by go_num, areLet_snoc hlt HP.out (by omega) (by omega), hx.drewN _⟩
                case measure => simp [intOf]; omega
              · have q1 : (s[k].toNat : Int) - 97 < 0 ∨ L - 1 < (s[k].toNat : Int) - 97 := by omega
                have Q1 := Lib.hid q1
                have HLE := Lib.hid hle
                clear q1 hle
                go_wp2
                have e0 : IntKind.i64.wrap (s[k].toNat : Int) = (s[k].toNat : Int) := IntWalk.i64_in _ (by omega)
                have e1 : IntKind.i64.wrap ((s[k].toNat : Int) - 97) = (s[k].toNat : Int) - 97 := IntWalk.i64_in _ (by omega)
                have e2 : IntKind.i64.wrap (L - 1) = L - 1 := IntWalk.i64_in _ (by omega)
                go_quiet ((go_at_call 47; exact Calls.quiet_is (spec_l1In_no _ _ _ _ Q1.out)))
                clear e0 e1 e2
                go_wp2
                go_ret
                exact ⟨ret_bool (codeOk_at hlt HLE.out).symm, (Ext.alloc _ _).trans (hx.drewN _)⟩
            · have : k = s.size := by omega
              subst this
              go_wp2
              go_ret
              exact ⟨ret_bool (H5.out.trans (areLet_all HP.out)).symm, (Ext.alloc _ _).trans hx⟩
        · have t5 : ((s.size : Int) != pw L W) = true := by simpa using h5
          have t4 : decide (27 < pw L W) = false := by simpa using h4
          have H5 := Lib.hid h5
          clear h5
          go_enter Tryz.func21, Tryz.ntmps21
          go_wp2
          go_quiet (first | (go_at_call 30; exact Calls.quiet_is (spec_l11Power_any _ _ _ (by omega) (by omega) (by omega) (by omega))) | (go_at_call 47; exact Calls.quiet_is (spec_l1In_yes _ _ _ _ (by omega) (by omega))))
          go_wp2
          go_ret
          exact ⟨ret_bool (codeOk_size H5.out).symm, (Ext.alloc _ _).drewN _⟩
      · have t4 : decide (27 < pw L W) = true := by simpa using h4
        go_enter Tryz.func21, Tryz.ntmps21
        go_wp2
        go_quiet (first | (go_at_call 30; exact Calls.quiet_is (spec_l11Power_any _ _ _ (by omega) (by omega) (by omega) (by omega))) | (go_at_call 47; exact Calls.quiet_is (spec_l1In_yes _ _ _ _ (by omega) (by omega))))
        go_wp2
        go_ret
        exact ⟨ret_bool (codeOk_great (by omega)).symm, (Ext.alloc _ _).drewN _⟩
    · go_enter Tryz.func21, Tryz.ntmps21
      go_wp2
      go_quiet (first | (go_at_call 47; exact Calls.quiet_is (spec_l1In_yes _ _ _ _ (by omega) (by omega))) | (go_at_call 47; exact Calls.quiet_is (spec_l1In_no _ _ _ _ (by omega))))
      go_wp2
      go_ret
      exact ⟨ret_bool (by first | exact (codeOk_low (by omega)).symm | exact (codeOk_high (by omega)).symm | exact (codeOk_width (by omega)).symm), (Ext.alloc _ _).drewN _⟩
  · go_enter Tryz.func21, Tryz.ntmps21
    go_wp2
    go_quiet ((go_at_call 47; exact Calls.quiet_is (spec_l1In_no _ _ _ _ (by omega))))
    go_wp2
    go_ret
    exact ⟨ret_bool (codeOk_letters (by omega) (by omega)).symm, (Ext.alloc _ _).drewN _⟩
end Go.Proofs.YtgaeeibcfoppbaaGreatDoor

/- Contracts: the index of a word, the letter that a code gives, a code on a word: the program's. -/
namespace Go.Proofs.YtgaeeibcfoppbaaGreatDoor
open Go.RowKit Go.Cm

theorem impl_isLetters_any (k : Int) (w : World) :
    Calls Tryz.prog 60 #[.int .i64 k] w fun e w' => e = .returned (.bool (decide (1 ≤ k) && decide (k ≤ 3))) ∧ w = w' := by
  by_cases h : 1 ≤ k
  · go_enter Tryz.func60, Tryz.ntmps60
    go_wp2
    go_ret
    exact ⟨ret_bool (by simp [h]), rfl⟩
  · have h' : k < 1 := by omega
    go_enter Tryz.func60, Tryz.ntmps60
    go_wp2
    go_ret
    exact ⟨ret_bool (by simp; omega), rfl⟩

set_option maxHeartbeats 400000 in
theorem impl_IsWord_any (k : Int) (s : ByteArray) (w : World) (hs : s.size ≤ maxLen) :
    Calls Tryz.prog 35 #[.int .i64 k, .string s] w fun e w' => e = .returned (.bool (wordOk k s)) ∧ w = w' := by
  have hs' : s.size ≤ maxLen := hs
  unfold maxLen at hs
  by_cases h1 : 1 ≤ k ∧ k ≤ 3
  · obtain ⟨h1, h3⟩ := h1
    by_cases h2 : s.size ≤ 16
    · go_enter Tryz.func35, Tryz.ntmps35
      go_wp2_with (first | (go_at_call 60; refine (impl_isLetters_any _ _).mono ?_; rintro e w' ⟨rfl, rfl⟩) | (go_at_call 49; refine (impl_areLetters_any _ _ _ hs').mono ?_; rintro e w' ⟨rfl, rfl⟩))
      go_ret
      exact ⟨ret_bool (by simp [wordOk, h1, h3, h2]), rfl⟩
    · go_enter Tryz.func35, Tryz.ntmps35
      go_wp2_with (first | (go_at_call 60; refine (impl_isLetters_any _ _).mono ?_; rintro e w' ⟨rfl, rfl⟩))
      go_ret
      exact ⟨ret_bool (by simp [wordOk]; omega), rfl⟩
  · have hb : (decide (1 ≤ k) && decide (k ≤ 3)) = false := by simp; omega
    have HB := Lib.hid h1
    clear h1
    go_enter Tryz.func35, Tryz.ntmps35
    go_wp2_with (first | (go_at_call 60; refine (impl_isLetters_any _ _).mono ?_; rintro e w' ⟨rfl, rfl⟩; rw [hb]))
    go_ret
    exact ⟨ret_bool (by have := HB.out; simp [wordOk]; omega), rfl⟩

set_option maxHeartbeats 400000 in
theorem impl_indexOf_any (K : Nat) (s : ByteArray) (w : World) (hK0 : 0 < K) (hK : K ≤ 3) (hs : s.size ≤ 16) (ha : areLet K s.data.toList = true) :
    Calls Tryz.prog 54 #[.int .i64 K, .string s] w fun e w' => e = .returned (.int .i64 (idxL K s.data.toList)) ∧ w = w' := by
  have HA := Lib.hid ha
  clear ha
  go_enter Tryz.func54, Tryz.ntmps54
  go_wp2
  go_loop [5, 6, 9] (fun x _ i => ∃ k : Nat, k ≤ s.size ∧ i = .int .i64 k ∧ x = .int .i64 (idxL K (s.data.toList.take k))) (fun _ _ i => s.size - (intOf i).toNat)
  case atStart => exact ⟨0, by omega, rfl, by simp [idxL]⟩
  case round =>
    obtain ⟨k, hk, rfl, rfl⟩ := hrel
    by_cases hlt : k < s.size
    · have hb := s[k].toNat_lt
      have hlet : isLet K s[k] = true := by
        have h1 := HA.out
        unfold areLet at h1
        rw [List.all_eq_true] at h1
        refine h1 _ ?_
        have : s.data.toList[k]'(by simpa using hlt) = s[k] := rfl
        rw [← this]; exact List.getElem_mem _
      simp only [isLet, Bool.and_eq_true, decide_eq_true_eq] at hlet
      obtain ⟨hl1, hl2⟩ := hlet
      have hi : idxL K (s.data.toList.take k) < 43046721 := by
        have h1 := idxL_lt K (s.data.toList.take k) (by
          have h1 := HA.out
          unfold areLet at *
          rw [List.all_eq_true] at *
          intro c hc
          exact h1 c (List.mem_of_mem_take hc))
        have h2 : (s.data.toList.take k).length ≤ 16 := by simp; omega
        have h3 : K ^ (s.data.toList.take k).length ≤ 3 ^ 16 := Nat.le_trans (Nat.pow_le_pow_left hK _) (Nat.pow_le_pow_right (by omega) h2)
        have h4 : (3 : Nat) ^ 16 = 43046721 := by decide
        omega
      have hs1 := take_snoc s k hlt
      obtain ⟨x, hx⟩ : ∃ x, x = idxL K (s.data.toList.take k) := ⟨_, rfl⟩
      have hx2 : idxL K (s.data.toList.take (k + 1)) = x * K + (s[k].toNat - 97) := by rw [hs1, idxL_snoc, hx]
      rw [← hx] at hi ⊢
      have HX := Lib.hid hx2
      have hm0 : (0 : Int) ≤ (x : Int) * (K : Int) := Int.mul_nonneg (by omega) (by omega)
      have hm1 : (x : Int) * (K : Int) ≤ 129140163 := by
        have : x * K ≤ 43046721 * 3 := Nat.mul_le_mul (by omega) hK
        have h2 : ((x * K : Nat) : Int) ≤ 129140163 := by omega
        simpa using h2
      clear hs1 hx hx2
      go_wp2
      go_round
      case rel => exact ⟨k + 1, by omega, by go_num, by rw [HX.out]; first | (congr 1; simp; omega) | go_num⟩
      case measure => simp [intOf]; omega
    · have : k = s.size := by omega
      subst this
      have ht := take_all s
      rw [ht]
      clear ht
      go_wp2
      go_ret
      exact ⟨rfl, rfl⟩
end Go.Proofs.YtgaeeibcfoppbaaGreatDoor

/- Contracts: the letter that a code gives, a code on a word: the program's. -/
namespace Go.Proofs.YtgaeeibcfoppbaaGreatDoor
open Go.RowKit Go.Cm

/-- a code that is right -/
structure CodeFit (K n : Nat) (o : ByteArray) : Prop where
  k2 : 2 ≤ K
  k3 : K ≤ 3
  n1 : 1 ≤ n
  n4 : n ≤ 4
  le : K ^ n ≤ 27
  size : o.size = K ^ n
  lets : areLet K o.data.toList = true

theorem codeFit_of {L W : Int} {o : ByteArray} (h : codeOk L W o = true) : ∃ K n : Nat, L = K ∧ W = n ∧ CodeFit K n o := by
  obtain ⟨K, n, h1, h2, a, b, c, d, e, f, g⟩ := codeOk_parts h
  exact ⟨K, n, h1, h2, ⟨a, b, c, d, e, f, g⟩⟩

theorem givesL_eq {K n : Nat} {o : ByteArray} (hf : CodeFit K n o) {u : List UInt8} (hl : u.length = n) (ha : areLet K u = true) : ∃ h : idxL K u < o.size, givesL K o u = o[idxL K u] := by
  have h1 := idxL_lt K u ha
  rw [hl, ← hf.size] at h1
  refine ⟨h1, ?_⟩
  unfold givesL
  rw [List.getD_eq_getElem?_getD, List.getElem?_eq_getElem (by simpa using h1)]
  rfl

set_option maxHeartbeats 400000 in
theorem impl_gives_any (K n : Nat) (o : ByteArray) (u : List UInt8) (w : World) (hf : CodeFit K n o) (hl : u.length = n) (ha : areLet K u = true) :
    Calls Tryz.prog 28 #[.agg #[.int .i64 K, .int .i64 n, .string o], .string (mkS u)] w fun e w' => e = .returned (.int .u8 ((givesL K o u).toNat : Int)) ∧ Ext w w' := by
  obtain ⟨hi, hg⟩ := givesL_eq hf hl ha
  have hk3 := hf.k3
  have hk2 := hf.k2
  have hn4 := hf.n4
  have ha' : areLet K (mkS u).data.toList = true := by rw [mkS_data]; exact ha
  have hsz : (mkS u).size ≤ 16 := by rw [mkS_size]; omega
  obtain ⟨x, hx⟩ : ∃ x, x = idxL K u := ⟨_, rfl⟩
  have hg' : ∃ h : x < o.size, givesL K o u = o[x] := by subst hx; exact ⟨hi, hg⟩
  obtain ⟨hxo, hgx⟩ := hg'
  have HX := Lib.hid hx
  have HA := Lib.hid ha'
  clear hg hi hl ha ha' hx
  go_enter Tryz.func28, Tryz.ntmps28
  go_wp2
  refine wp_region_inv (by kernel_rfl) [.known (.pointer (some ⟨w.heap.size, 2, none⟩)), .known (.string o), .known (.pointer (some ⟨w.heap.size, 0, none⟩)), .known (.int .i64 K), .known (.string (mkS u)), .known (.int .i64 x), .known (.int .u8 (o[x].toNat : Int)), .known (.int .u8 (o[x].toNat : Int))] rfl (by kernel_rfl) ?_ ?_
  · intro vs
    refine ⟨fun w' hx hj => ?_, fun w' hx hj => ?_, fun w' hx hj => ?_, fun w' hx hj => ?_, fun w' hx hj => ?_, fun w' hx hj => ?_, fun w' hx hj => ?_, fun w' hx hj => ?_, trivial⟩
    · clear hj
      go_simp
    · have c0 := Ext.cell_some hx (a := ⟨w.heap.size, 2, none⟩) (v := .string o) (by simp)
      clear hj
      go_simp
    · clear hj
      go_simp
    · have c0 := Ext.cell_some hx (a := ⟨w.heap.size, 0, none⟩) (v := .int .i64 K) (by simp)
      clear hj
      go_simp
    · clear hj
      go_simp
    · clear hj
      go_simp
      rw [HX.out, ← mkS_data u]
      exact (impl_indexOf_any K (mkS u) _ (by omega) hk3 hsz HA.out).mono fun _ _ ⟨h1, h2⟩ => ⟨h1, h2 ▸ Ext.refl _⟩
    · clear hj
      go_simp
    · clear hj
      go_simp
  · intro vs w1 hx1 hk
    clear hk
    go_simp
    go_wp2
    go_ret
    exact ⟨ret_int (k := .u8) (by rw [hgx]), (Ext.alloc _ _).trans hx1⟩

set_option maxRecDepth 100000 in
set_option maxHeartbeats 1000000 in
theorem impl_apply_any (K n : Nat) (o s : ByteArray) (w : World) (hf : CodeFit K n o) (hs : s.size ≤ 1048576) (ha : areLet K s.data.toList = true) :
    Calls Tryz.prog 29 #[.agg #[.int .i64 K, .int .i64 n, .string o], .string s] w fun e w' => e = .returned (.string (mkS (applyL K n o s.data.toList))) ∧ Ext w w' := by
  have hn1 := hf.n1
  have hn4 := hf.n4
  obtain ⟨M, hM⟩ : ∃ M, M = s.size + 1 - n := ⟨_, rfl⟩
  have hMs : M + n ≤ s.size + 1 ∨ M = 0 := by omega
  have hMl : s.size + 1 ≤ M + n := by omega
  have hB0 : Own ((w.alloc (.cells #[.int .i64 K, .int .i64 n, .string o] 25)).alloc (.cells #[] 5)) w.heap.size 5 (.slice (some ⟨w.heap.size + 1, 0, none⟩) 0 0) [] := by
    have h := Own.lit (w.alloc (.cells #[.int .i64 K, .int .i64 n, .string o] 25)) 5 [] (by simp)
    simp only [World.size_alloc, List.length_nil] at h
    exact h.mono (by omega)
  have HM := Lib.hid hM
  have HA := Lib.hid ha
  clear hM ha
  go_enter Tryz.func29, Tryz.ntmps29
  go_wp2
  go_loopw [5, 6] (fun v i wr => ∃ k : Nat, k ≤ M ∧ i = .int .i64 k ∧ Own wr w.heap.size 5 v (bcells (applyTo K n o s.data.toList k)) ∧ Grew ((w.alloc (.cells #[.int .i64 K, .int .i64 n, .string o] 25)).alloc (.cells #[] 5)) (.slice (some ⟨w.heap.size + 1, 0, none⟩) 0 0) wr v ∧ Ext w wr) (fun _ i _ => M - (intOf i).toNat)
  case atStart => exact ⟨0, by omega, rfl, by simpa [applyTo, bcells] using hB0, Grew.refl _ _, (Ext.alloc _ _).trans (Ext.alloc _ _)⟩
  case round =>
    obtain ⟨k, hk, rfl, hown, hgr, hx⟩ := hrel
    have c0 : wr.cell? ⟨w.heap.size, 0, none⟩ = some (.int .i64 K) := hgr.cell (by simp) (by simp [Value.ownBlock])
    have c1 : wr.cell? ⟨w.heap.size, 1, none⟩ = some (.int .i64 n) := hgr.cell (by simp) (by simp [Value.ownBlock])
    have c2 : wr.cell? ⟨w.heap.size, 2, none⟩ = some (.string o) := hgr.cell (by simp) (by simp [Value.ownBlock])
    by_cases hlt : k < M
    · have hkn : k + n ≤ s.size := by omega
      have hpl : (partL n k s.data.toList).length = n := partL_length (by simpa using hkn)
      have hpa := areLet_part n k HA.out
      have hex := extract_part s k n
      have HP := Lib.hid (And.intro hpl hpa)
      have hl1 : (bcells (applyTo K n o s.data.toList k)).length + 1 ≤ maxLen := by simp only [bcells, List.length_map, applyTo_length]; unfold maxLen; omega
      have hl2 : ((bcells (applyTo K n o s.data.toList k)).length + 1) * 1 ≤ 140737488355328 := by simp only [bcells, List.length_map, applyTo_length]; omega
      clear hpl hpa
      go_wp2
      refine wp_region_tail (by kernel_rfl) 11 [.known u5, .known (.agg #[.int .i64 K, .int .i64 n, .string o]), .known (.string s), .known (.int .i64 k), .known (.int .i64 k), .known (.pointer (some ⟨w.heap.size, 1, none⟩)), .known (.int .i64 n), .known (.int .i64 (k + n)), .known (.string (mkS (partL n k s.data.toList))), .known (.int .u8 ((givesL K o (partL n k s.data.toList)).toNat : Int)), .box (.int .u8 ((givesL K o (partL n k s.data.toList)).toNat : Int))] rfl (by decide) (by kernel_rfl) (by kernel_rfl) ?_ ?_
      · intro vs
        refine ⟨fun w' hx hj => ?_, fun w' hx hj => ?_, fun w' hx hj => ?_, fun w' hx hj => ?_, fun w' hx hj => ?_, fun w' hx hj => ?_, fun w' hx hj => ?_, fun w' hx hj => ?_, fun w' hx hj => ?_, fun w' hx hj => ?_, fun w' hx hj => ?_, trivial⟩
        · clear hj
          go_simp
        · have c0 := Ext.cell_some hx c0
          have c1 := Ext.cell_some hx c1
          have c2 := Ext.cell_some hx c2
          clear hj
          go_simp
        · clear hj
          go_simp
        · clear hj
          go_simp
        · clear hj
          go_simp
        · clear hj
          go_simp
        · have c0 := Ext.cell_some hx c1
          clear hj
          go_simp
        · have e1 : IntKind.i64.wrap ((k : Int) + (n : Int)) = k + n := IntWalk.i64_in _ (by omega)
          clear hj
          go_simp
        · have p1 : (0 : Int) ≤ (k : Int) + n := by omega
          have p2 : (k : Int) + n ≤ s.size := by omega
          have p3 : (k : Int) ≤ k + n := by omega
          have p4 : ((k : Int) + n).toNat = k + n := by omega
          clear hj
          go_simp
        · clear hj
          go_simp
          exact impl_gives_any K n o _ _ hf HP.out.1 HP.out.2
        · clear hj
          go_simp
          exact boxOf_new _ _ _
      · intro vs w3 hx3 hk
        have k10 : BoxOf (.int .u8 ((givesL K o (partL n k s.data.toList)).toNat : Int)) (vs 10) w3 := hk 10 _ rfl
        clear hk
        go_simp
        obtain ⟨bx, hbx, hcx⟩ := k10
        rw [hbx]
        have hown3 := hown.ext hx3
        have hgr3 := hgr.ext hx3
        have hx03 := hx.trans hx3
        clear hbx hown hgr hx hx3 hex c0 c1 c2
        go_wp2_with (at_builtin; refine wpList_append_one rfl (.tmp 17) (.tmp 27) 22 rfl 5 _ _ Tryz.underlying22 infoU8 rfl w.heap.size _ _ rfl hown3 bx _ rfl hcx rfl hl1 hl2 w rfl hx03 ?_; intro v' w4 hown4 hx4 hmv)
        have hgr4 := hgr3.step hmv
        go_roundw
        case rel => exact ⟨k + 1, by omega, by go_num, by rw [applyTo_succ]; simpa [bcells] using hown4, hgr4, hx4⟩
        case measure => simp [intOf]; omega
    · have : k = M := by omega
      subst this
      have hto : applyTo K n o s.data.toList k = applyL K n o s.data.toList := by unfold applyTo applyL; rw [HM.out]; simp
      rw [hto] at hown
      clear hto
      have hcv := run_convert_own (P := Tryz.prog) (src := 22) (dst := 9) Tryz.underlying22 Tryz.underlying5 Tryz.underlying9 hown
      clear hgr
      go_wp2
      go_ret
      exact ⟨rfl, hx⟩
end Go.Proofs.YtgaeeibcfoppbaaGreatDoor

/- Contracts: what a word is, the letter that a code gives, a code on a word: the reference's. -/
namespace Go.Proofs.YtgaeeibcfoppbaaGreatDoor
open Go.RowKit Go.Cm

theorem wordOk_at {k : Int} {s : ByteArray} {i : Nat} (hi : i < s.size) (h1 : ¬ (97 ≤ (s[i].toNat : Int) ∧ (s[i].toNat : Int) - 97 < k)) : wordOk k s = false := by
  unfold wordOk
  rw [areLet_bad hi h1]
  simp

set_option maxHeartbeats 400000 in
theorem spec_IsWord_any (k : Int) (s : ByteArray) (w : World) (hs : s.size ≤ maxLen) :
    Calls Tryz.prog 36 #[.int .i64 k, .string s] w fun e w' => e = .returned (.bool (wordOk k s)) ∧ w = w' := by
  unfold maxLen at hs
  go_enter Tryz.func36, Tryz.ntmps36
  go_wp2
  go_loop [5] (fun i => ∃ j : Nat, j ≤ s.size ∧ i = .int .i64 j ∧ areLet k (s.data.toList.take j) = true) (fun i => s.size - (intOf i).toNat)
  case atStart => exact ⟨0, by omega, rfl, by simp [areLet]⟩
  case round =>
    obtain ⟨j, hj, rfl, hp⟩ := hrel
    have HP := Lib.hid hp
    clear hp
    by_cases hlt : j < s.size
    · have hb := s[j].toNat_lt
      go_wp2
      · go_ret
        exact ⟨ret_bool (wordOk_at hlt (by omega)).symm, rfl⟩
      · go_round
        case rel => exact ⟨j + 1, by omega, by go_num, areLet_snoc hlt HP.out (by omega) (by omega)⟩
        case measure => simp [intOf]; omega
      · go_ret
        exact ⟨ret_bool (wordOk_at hlt (by omega)).symm, rfl⟩
    · have : j = s.size := by omega
      subst this
      have ha := areLet_all HP.out
      have HA := Lib.hid ha
      clear ha
      by_cases h1 : 1 ≤ k ∧ k ≤ 3
      · obtain ⟨h1, h3⟩ := h1
        go_wp2_with (go_at_call 47; refine (spec_l1In_yes _ _ _ _ h1 h3).mono ?_; rintro e w' ⟨rfl, rfl⟩)
        all_goals (go_ret; exact ⟨ret_bool (by simp [wordOk, h1, h3, HA.out]; omega), rfl⟩)
      · have H1 := Lib.hid h1
        clear h1
        go_wp2_with (go_at_call 47; refine (spec_l1In_no k 1 3 _ (by have := H1.out; omega)).mono ?_; rintro e w' ⟨rfl, rfl⟩)
        all_goals (go_ret; exact ⟨ret_bool (by have := H1.out; simp [wordOk]; omega), rfl⟩)

set_option maxHeartbeats 1000000 in
theorem spec_l11Letter_any (K n : Nat) (o : ByteArray) (u : List UInt8) (w : World) (hf : CodeFit K n o) (hl : u.length = n) (ha : areLet K u = true) :
    Calls Tryz.prog 32 #[.agg #[.int .i64 K, .int .i64 n, .string o], .string (mkS u)] w fun e w' => e = .returned (.string (mkS [givesL K o u])) ∧ Ext w w' := by
  obtain ⟨hi, hg⟩ := givesL_eq hf hl ha
  have hk3 := hf.k3
  have hn4 := hf.n4
  have hle := hf.le
  have hos := hf.size
  obtain ⟨s, hs⟩ : ∃ s, s = mkS u := ⟨_, rfl⟩
  have hsd : s.data.toList = u := by rw [hs, mkS_data]
  have hss : s.size = n := by rw [hs, mkS_size, hl]
  have hol : o.size ≤ 27 := by omega
  rw [← hs]
  have HA := Lib.hid (And.intro hsd (And.intro ha (And.intro hi trivial)))
  clear hs hsd ha hi hg hl hle hos
  go_enter Tryz.func32, Tryz.ntmps32
  go_wp2
  go_loopw [5, 6] (fun x i wr => ∃ k : Nat, k ≤ s.size ∧ i = .int .i64 k ∧ x = .int .i64 (idxL K (s.data.toList.take k)) ∧ Ext (w.alloc (.cells #[.int .i64 K, .int .i64 n, .string o] 25)) wr) (fun _ i _ => s.size - (intOf i).toNat)
  case atStart => exact ⟨0, by omega, rfl, by simp [idxL], Ext.refl _⟩
  case round =>
    obtain ⟨k, hk, rfl, rfl, hx⟩ := hrel
    have c0 : wr.cell? ⟨w.heap.size, 0, none⟩ = some (.int .i64 K) := hx.cell_some (by simp)
    have c2 : wr.cell? ⟨w.heap.size, 2, none⟩ = some (.string o) := hx.cell_some (by simp)
    by_cases hlt : k < s.size
    · have hb := s[k].toNat_lt
      have hAu : areLet K s.data.toList = true := by rw [HA.out.1]; exact HA.out.2.1
      have hlet : isLet K s[k] = true := by
        have h1 := hAu
        unfold areLet at h1
        rw [List.all_eq_true] at h1
        refine h1 _ ?_
        have : s.data.toList[k]'(by simpa using hlt) = s[k] := rfl
        rw [← this]; exact List.getElem_mem _
      simp only [isLet, Bool.and_eq_true, decide_eq_true_eq] at hlet
      obtain ⟨hl1, hl2⟩ := hlet
      have hi : idxL K (s.data.toList.take k) < 43046721 := by
        have h1 := idxL_lt K (s.data.toList.take k) (by
          have h1 := hAu
          unfold areLet at *
          rw [List.all_eq_true] at *
          intro c hc
          exact h1 c (List.mem_of_mem_take hc))
        have h2 : (s.data.toList.take k).length ≤ 16 := by simp; omega
        have h3 : K ^ (s.data.toList.take k).length ≤ 3 ^ 16 := Nat.le_trans (Nat.pow_le_pow_left hk3 _) (Nat.pow_le_pow_right (by omega) h2)
        have h4 : (3 : Nat) ^ 16 = 43046721 := by decide
        omega
      have hs1 := take_snoc s k hlt
      obtain ⟨x, hx'⟩ : ∃ x, x = idxL K (s.data.toList.take k) := ⟨_, rfl⟩
      have hx2 : idxL K (s.data.toList.take (k + 1)) = x * K + (s[k].toNat - 97) := by rw [hs1, idxL_snoc, hx']
      rw [← hx'] at hi ⊢
      have HX := Lib.hid hx2
      have hm0 : (0 : Int) ≤ (x : Int) * (K : Int) := Int.mul_nonneg (by omega) (by omega)
      have hm1 : (x : Int) * (K : Int) ≤ 129140163 := by
        have : x * K ≤ 43046721 * 3 := Nat.mul_le_mul (by omega) hk3
        have h2 : ((x * K : Nat) : Int) ≤ 129140163 := by omega
        simpa using h2
      clear hs1 hx' hx2 hAu
      obtain ⟨y, hy⟩ : ∃ y : Nat, (y : Int) = (x : Int) * (K : Int) + (s[k].toNat : Int) - 97 := ⟨((x : Int) * (K : Int) + (s[k].toNat : Int) - 97).toNat, by omega⟩
      have HY := Lib.hid hy
      clear hy
      go_wp2
      refine wp_region_inv (by kernel_rfl) [.known (.int .i64 x), .known (.pointer (some ⟨w.heap.size, 0, none⟩)), .known (.int .i64 K), .known (.int .i64 ((x : Int) * (K : Int))), .known (.string s), .known (.int .i64 k), .known (.int .u8 (s[k].toNat : Int)), .known (.int .i64 (s[k].toNat : Int)), .known (.int .i64 ((x : Int) * (K : Int) + (s[k].toNat : Int))), .known (.int .i64 y), .known (.int .i64 y)] rfl (by kernel_rfl) ?_ ?_
      · intro vs
        refine ⟨fun w' hx hj => ?_, fun w' hx hj => ?_, fun w' hx hj => ?_, fun w' hx hj => ?_, fun w' hx hj => ?_, fun w' hx hj => ?_, fun w' hx hj => ?_, fun w' hx hj => ?_, fun w' hx hj => ?_, fun w' hx hj => ?_, fun w' hx hj => ?_, trivial⟩
        · clear hj
          go_simp
        · clear hj
          go_simp
        · have c0 := Ext.cell_some hx c0
          clear hj
          go_simp
        · have e1 : IntKind.i64.wrap ((x : Int) * (K : Int)) = x * K := IntWalk.i64_in _ (by omega)
          clear hj
          go_simp
        · clear hj
          go_simp
        · clear hj
          go_simp
        · clear hj
          go_simp
        · have e1 : IntKind.i64.wrap (s[k].toNat : Int) = s[k].toNat := IntWalk.i64_in _ (by omega)
          clear hj
          go_simp
        · have e1 : IntKind.i64.wrap ((x : Int) * (K : Int) + (s[k].toNat : Int)) = x * K + s[k].toNat := IntWalk.i64_in _ (by omega)
          clear hj
          go_simp
        · have e1 : IntKind.i64.wrap ((x : Int) * (K : Int) + (s[k].toNat : Int) - 97) = y := by rw [HY.out]; exact IntWalk.i64_in _ (by omega)
          clear hj
          go_simp
        · clear hj
          go_simp
      · intro vs w1 hx1 hk
        clear hk
        go_simp
        go_wp2
        go_roundw
        case rel => exact ⟨k + 1, by omega, by go_num, by rw [HX.out]; congr 1; have := HY.out; simp; omega, hx.trans hx1⟩
        case measure => simp [intOf]; omega
    · have : k = s.size := by omega
      subst this
      have ht := take_all s
      have hsd := HA.out.1
      rw [ht, hsd]
      obtain ⟨x, hx'⟩ : ∃ x, x = idxL K u := ⟨_, rfl⟩
      have hxo : x < o.size := by rw [hx']; exact HA.out.2.2.1
      have hgo : o.extract x (x + 1) = mkS [givesL K o u] := by
        have h1 := mkS_slice o.data.toList x (by simpa using hxo)
        rw [mkS_data_self] at h1
        rw [h1, hx']
        rfl
      rw [← hx']
      clear ht hsd hx'
      go_wp2
      go_ret
      exact ⟨by rw [← hgo]; rfl, (Ext.alloc _ _).trans hx⟩
end Go.Proofs.YtgaeeibcfoppbaaGreatDoor

/- Contract: all words of a length, by the reference. -/
namespace Go.Cm
/-- a word with each of the first letters behind it -/
def ext1 (u : List UInt8) (x : Nat) : List (List UInt8) := (List.range x).map fun y => u ++ [letN y]
theorem ext1_succ (u : List UInt8) (x : Nat) : ext1 u (x + 1) = ext1 u x ++ [u ++ [letN x]] := by simp [ext1, List.range_succ]
/-- .. of the first j words -/
def midL (K i j : Nat) : List (List UInt8) := ((wordsL K i).take j).flatMap fun u => ext1 u K
theorem midL_succ (K i j : Nat) (u : List UInt8) (h : (wordsL K i)[j]? = some u) : midL K i (j + 1) = midL K i j ++ ext1 u K := by
  unfold midL
  rw [List.take_add_one, h]
  simp
theorem midL_all (K i : Nat) (hK : 0 < K) : midL K i (K ^ i) = wordsL K (i + 1) := by
  unfold midL
  rw [List.take_of_length_le (by simp [wordsL]), wordsL_succ K i hK]
  rfl
theorem midL_length (K i j : Nat) (hj : j ≤ K ^ i) : (midL K i j).length = j * K := by
  unfold midL
  rw [List.length_flatMap]
  have : ((wordsL K i).take j).map (fun u => (ext1 u K).length) = List.replicate j K := by
    apply List.ext_getElem
    · simp [wordsL]; omega
    · intro a h1 h2; simp [ext1]
  rw [this, List.sum_replicate_nat]
end Go.Cm
namespace Go.Proofs.YtgaeeibcfoppbaaGreatDoor
open Go.RowKit Go.Cm

set_option maxRecDepth 100000 in
set_option maxHeartbeats 1000000 in
theorem spec_l2All_any (K n : Nat) (w : World) (hK0 : 0 < K) (hK : K ≤ 3) (hn : n ≤ 16) :
    Calls Tryz.prog 31 #[.int .i64 K, .int .i64 n] w fun e w' => ∃ v, e = .returned v ∧ Own w' w.heap.size 9 v (scells (wordsL K n)) ∧ Ext w w' := by
  go_enter Tryz.func31, Tryz.ntmps31
  go_wp2
  have hB0 : Own (w.alloc (.cells #[.string ⟨#[]⟩] 9)) w.heap.size 9 (.slice (some ⟨w.heap.size, 0, none⟩) 1 1) (scells (wordsL K 0)) := Own.lit w 9 [.string ⟨#[]⟩] (by simp [maxLen])
  go_loopw [5, 6, 7, 8, 9] (fun v i _ _ _ wr => ∃ k : Nat, k ≤ n ∧ i = .int .i64 k ∧ Own wr w.heap.size 9 v (scells (wordsL K k)) ∧ Ext w wr) (fun _ i _ _ _ _ => n - (intOf i).toNat)
  case atStart => exact ⟨0, by omega, rfl, hB0, Ext.alloc _ _⟩
  case round =>
    obtain ⟨k, hk, rfl, hown, hx⟩ := hrel
    by_cases hlt : k < n
    · have hlen : (scells (wordsL K k)).length = K ^ k := by simp [scells, wordsL]
      have hNp : 0 < K ^ k := Nat.pow_pos hK0
      have hNb : K ^ k ≤ 43046721 := by
        have h1 : K ^ k ≤ 3 ^ k := Nat.pow_le_pow_left hK k
        have h2 : 3 ^ k ≤ 3 ^ 16 := Nat.pow_le_pow_right (by omega) (by omega)
        have h3 : (3 : Nat) ^ 16 = 43046721 := by decide
        omega
      obtain ⟨N, hN⟩ : ∃ N, N = K ^ k := ⟨_, rfl⟩
      rw [← hN] at hlen hNp hNb
      have hsh := hown.shape
      rw [hlen] at hsh
      rcases hsh with ⟨_, hnil⟩ | ⟨g, cap, hv, _, hgs, _, _⟩
      · exfalso
        rw [hnil] at hlen
        simp at hlen
        omega
      subst hv
      have HN := Lib.hid (And.intro hN hlen)
      clear hN hlen
      have hB1 : Own (wr.alloc (.cells #[] 9)) wr.heap.size 9 (.slice (some ⟨wr.heap.size, 0, none⟩) 0 0) [] := Own.lit wr 9 [] (by simp)
      have hxa := hx.trans (Ext.alloc wr (.cells #[] 9))
      have howna := hown.ext (Ext.alloc wr (.cells #[] 9))
      have hBw : w.heap.size ≤ wr.heap.size := hx.size
      have hB2 := hB1.mono hBw
      have hg0 : ∀ j : Nat, (Value.slice (some ⟨g, 0, none⟩) N cap).ownBlock = some j → (Value.slice (some ⟨wr.heap.size, 0, none⟩) 0 0).ownBlock ≠ some j := by
        intro j hj
        simp [Value.ownBlock] at hj ⊢
        omega
      clear hown hx hB0 hB1
      obtain ⟨wo, rfl⟩ : ∃ wo : World, wo = wr := ⟨_, rfl⟩
      go_wp2
      go_loopw [7, 8, 9] (fun v j _ wm => ∃ q : Nat, q ≤ N ∧ j = .int .i64 q ∧ Own wm w.heap.size 9 v (scells (midL K k q)) ∧ Grew (wo.alloc (.cells #[] 9)) (.slice (some ⟨wo.heap.size, 0, none⟩) 0 0) wm v ∧ Ext w wm) (fun _ j _ _ => N - (intOf j).toNat)
      case atStart => exact ⟨0, by omega, rfl, by simpa [midL, scells] using hB2, Grew.refl _ _, hxa⟩
      case round =>
        obtain ⟨q, hq, rfl, hown, hgr, hx⟩ := hrel
        by_cases hltq : q < N
        · have hlw : q < (wordsL K k).length := by have := HN.out.2; simp [scells] at this; omega
          obtain ⟨u, hu⟩ : ∃ u, u = (wordsL K k)[q] := ⟨_, rfl⟩
          have huq : (wordsL K k)[q]? = some u := by rw [hu]; exact List.getElem?_eq_getElem hlw
          have hsu : (scells (wordsL K k))[q]? = some (.string (mkS u)) := by simp [scells, huq]
          have hul : u.length ≤ 16 := by rw [hu]; simp only [wordsL, List.getElem_map]; rw [wordL_length]; omega
          have hmid := midL_succ K k q u huq
          have hml := midL_length K k q (by have := HN.out.1; omega)
          have HU := Lib.hid (And.intro hsu (And.intro hmid (And.intro hml trivial)))
          clear hu huq hsu hmid hml hlw
          obtain ⟨wp, rfl⟩ : ∃ wp : World, wp = wr := ⟨_, rfl⟩
          go_wp2
          go_loopw [7, 9] (fun v x wi => ∃ y : Nat, y ≤ K ∧ x = .int .i64 y ∧ Own wi w.heap.size 9 v (scells (midL K k q ++ ext1 u y)) ∧ Grew (wo.alloc (.cells #[] 9)) (.slice (some ⟨wo.heap.size, 0, none⟩) 0 0) wi v ∧ Ext w wi) (fun _ x _ => K - (intOf x).toNat)
          case atStart => exact ⟨0, by omega, rfl, by simpa [ext1] using hown, hgr, hx⟩
          case round =>
            obtain ⟨y, hy, rfl, hown, hgr, hx⟩ := hrel
            by_cases hlty : y < K
            · have hcell : wr.cell? ⟨g, q, none⟩ = some (.string (mkS u)) := by
                have h1 := (hgr.own howna hg0).cell q (by rw [HN.out.2]; exact hltq)
                rw [h1]
                have h2 := HU.out.1
                rw [List.getElem?_eq_getElem (by rw [HN.out.2]; exact hltq)] at h2
                exact h2
              have habc := abc_at y (by omega)
              have hcat := mkS_append u [letN y]
              go_wp2
              refine wp_region_tail (by kernel_rfl) 11 [.known u7, .known (.slice (some ⟨g, 0, none⟩) N cap), .known (.int .i64 q), .known (.pointer (some ⟨g, q, none⟩)), .known (.string (mkS u)), .known (.int .i64 y), .known (.int .i64 y), .known (.int .i64 (y + 1)), .known (.string (mkS [letN y])), .known (.string (mkS (u ++ [letN y]))), .box (.string (mkS (u ++ [letN y])))] rfl (by decide) (by kernel_rfl) (by kernel_rfl) ?_ ?_
              · intro vs
                refine ⟨fun w' hx hj => ?_, fun w' hx hj => ?_, fun w' hx hj => ?_, fun w' hx hj => ?_, fun w' hx hj => ?_, fun w' hx hj => ?_, fun w' hx hj => ?_, fun w' hx hj => ?_, fun w' hx hj => ?_, fun w' hx hj => ?_, fun w' hx hj => ?_, trivial⟩
                · clear hj
                  go_simp
                · clear hj
                  go_simp
                · clear hj
                  go_simp
                · clear hj
                  go_simp
                · have c0 := Ext.cell_some hx hcell
                  clear hj
                  go_simp
                · clear hj
                  go_simp
                · clear hj
                  go_simp
                · have e1 : IntKind.i64.wrap ((y : Int) + 1) = y + 1 := IntWalk.i64_in _ (by omega)
                  clear hj
                  go_simp
                · have p1 : (0 : Int) ≤ (y : Int) + 1 := by omega
                  have p2 : (y : Int) + 1 ≤ 3 := by omega
                  have p3 : (y : Int) ≤ y + 1 := by omega
                  clear hj
                  go_simp
                · have p1 : ¬ 9223372036854775807 < (mkS u).size + (mkS [letN y]).size := by rw [mkS_size, mkS_size]; simp; omega
                  clear hj
                  go_simp
                · clear hj
                  go_simp
                  exact boxOf_new _ _ _
              · intro vs w3 hx3 hk
                have k10 : BoxOf (.string (mkS (u ++ [letN y]))) (vs 10) w3 := hk 10 _ rfl
                clear hk
                go_simp
                obtain ⟨bx, hbx, hcx⟩ := k10
                rw [hbx]
                clear hbx
                have hownb := hown.ext hx3
                have hgrb := hgr.ext hx3
                have hxb := hx.trans hx3
                have hln : (scells (midL K k q ++ ext1 u y)).length = q * K + y := by
                  have := HU.out.2.2.1
                  simp [scells, ext1, this]
                have hqK : q * K + y ≤ N * K := by
                  have h1 : (q + 1) * K ≤ N * K := Nat.mul_le_mul_right K (by omega)
                  rw [Nat.succ_mul] at h1
                  omega
                have hNK : N * K ≤ 43046721 * 3 := Nat.mul_le_mul hNb hK
                have hl1 : (scells (midL K k q ++ ext1 u y)).length + 1 ≤ maxLen := by unfold maxLen; omega
                have hl2 : ((scells (midL K k q ++ ext1 u y)).length + 1) * 16 ≤ 140737488355328 := by omega
                clear hln hqK hNK hown hgr hx hx3 hcell habc hcat
                go_wp2_with (at_builtin; refine wpList_append_one rfl (.tmp 28) (.tmp 38) 42 rfl 9 _ _ Tryz.underlying42 infoStr rfl w.heap.size _ _ rfl hownb bx _ rfl hcx rfl hl1 hl2 w rfl hxb ?_; intro v' w4 hown4 hx4 hmv)
                have hgr4 := hgrb.step hmv
                go_roundw
                case rel => exact ⟨y + 1, by omega, by go_num, by rw [ext1_succ]; simpa [scells] using hown4, hgr4, hx4⟩
                case measure => simp [intOf]; omega
            · have : y = K := by omega
              subst this
              go_wp2
              go_roundw
              case rel => exact ⟨q + 1, by omega, by go_num, by rw [HU.out.2.1]; exact hown, hgr, hx⟩
              case measure => simp [intOf]; omega
        · have : q = N := by omega
          subst this
          go_wp2
          go_roundw
          case rel => exact ⟨k + 1, by omega, by go_num, by have h1 := HN.out.1; rw [h1, midL_all K k hK0] at hown; exact hown, hx⟩
          case measure => simp [intOf]; omega
    · have : k = n := by omega
      subst this
      go_wp2
      go_ret
      exact ⟨_, rfl, hown, hx⟩
end Go.Proofs.YtgaeeibcfoppbaaGreatDoor

