/- What the law of composed codes asks: each function's answer for any code, and what the answers have to do with each other.. -/
import Derived.Test.YtgaeeibcfoppbaaGreatDoorPkM
import Derived.Test.YtgaeeibcfoppbaaGreatDoorCompB
import Derived.Test.YtgaeeibcfoppbaaGreatDoorCopyB
import Derived.Test.YtgaeeibcfoppbaaGreatDoorRingB
import Derived.Test.YtgaeeibcfoppbaaGreatDoorApplyD
import Derived.Test.YtgaeeibcfoppbaaGreatDoorTextA
import Derived.Test.YtgaeeibcfoppbaaGreatDoorPcD
namespace Go.Proofs.YtgaeeibcfoppbaaGreatDoor
open Go.RowKit Go.Cm

theorem apply_facts (L W : Int) (o s : ByteArray) (ho : o.size ≤ maxLen) (hs : s.size ≤ maxLen) : ∃ (v : ByteArray) (b : Bool),
    (∀ w, Calls Tryz.prog 9 #[.agg #[.int .i64 L, .int .i64 W, .string o], .string s] w fun e w' => e = .returned (.tuple #[.string v, .bool b]) ∧ Ext w w') ∧
    (∀ w, Calls Tryz.prog 10 #[.agg #[.int .i64 L, .int .i64 W, .string o], .string s] w fun e w' => e = .returned (.tuple #[.string v, .bool b]) ∧ Ext w w') := by
  cases h : (codeOk L W o && wordOk L s) with
  | false => exact ⟨_, _, fun w => impl_ApplyCode_no L W o s w ho hs h, fun w => spec_ApplyCode_no L W o s w ho hs h⟩
  | true =>
    simp only [Bool.and_eq_true] at h
    obtain ⟨hc, hw⟩ := h
    obtain ⟨K, n, rfl, rfl, hf⟩ := codeFit_of hc
    exact ⟨_, _, fun w => impl_ApplyCode_yes K n o s w hc hf hw, fun w => spec_ApplyCode_yes K n o s w hc hf hw⟩

theorem ring_facts (L W : Int) (o s : ByteArray) (ho : o.size ≤ maxLen) (hs : s.size ≤ maxLen) : ∃ (v : ByteArray) (b : Bool),
    (∀ w, Calls Tryz.prog 12 #[.agg #[.int .i64 L, .int .i64 W, .string o], .string s] w fun e w' => e = .returned (.tuple #[.string v, .bool b]) ∧ Ext w w') ∧
    (∀ w, Calls Tryz.prog 13 #[.agg #[.int .i64 L, .int .i64 W, .string o], .string s] w fun e w' => e = .returned (.tuple #[.string v, .bool b]) ∧ Ext w w') ∧
    (b = true → v.size = s.size) := by
  cases h : ringOk L W o s with
  | false => exact ⟨_, _, fun w => impl_ApplyRing_no L W o s w ho hs h, fun w => spec_ApplyRing_no L W o s w ho hs h, fun hb => by cases hb⟩
  | true =>
    unfold ringOk at h
    simp only [Bool.and_eq_true, decide_eq_true_eq] at h
    obtain ⟨hc, hw, h1⟩ := h
    obtain ⟨K, n, rfl, rfl, hf⟩ := codeFit_of hc
    refine ⟨_, _, fun w => impl_ApplyRing_yes K n o s w hc hf hw h1, fun w => spec_ApplyRing_yes K n o s w hc hf hw h1, fun _ => ?_⟩
    have hl : s.data.toList.length = s.size := Array.length_toList
    rw [mkS_size, ringL_length hf.n1 (by omega), hl]

theorem copy_facts (L W a : Int) : ∃ (x y : Int) (s : ByteArray) (b : Bool),
    (∀ w, Calls Tryz.prog 18 #[.int .i64 L, .int .i64 W, .int .i64 a] w fun e w' => e = .returned (.tuple #[.agg #[.int .i64 x, .int .i64 y, .string s], .bool b]) ∧ Ext w w') ∧
    (∀ w, Calls Tryz.prog 19 #[.int .i64 L, .int .i64 W, .int .i64 a] w fun e w' => e = .returned (.tuple #[.agg #[.int .i64 x, .int .i64 y, .string s], .bool b]) ∧ Ext w w') := by
  cases h : copyOk L W a with
  | false => exact ⟨_, _, _, _, fun w => impl_CopyCode_no L W a w h, fun w => spec_CopyCode_no L W a w h⟩
  | true =>
    have hh : wideOk L W = true ∧ 0 ≤ a ∧ a < W := by simpa [copyOk] using h
    have hw := wideOk_yes hh.1
    obtain ⟨K, rfl⟩ := Int.eq_ofNat_of_zero_le (show 0 ≤ L by omega)
    obtain ⟨n, rfl⟩ := Int.eq_ofNat_of_zero_le (show 0 ≤ W by omega)
    obtain ⟨a, rfl⟩ := Int.eq_ofNat_of_zero_le (show 0 ≤ a by omega)
    exact ⟨_, _, _, _, fun w => impl_CopyCode_yes K n a w h, fun w => spec_CopyCode_yes K n a w h⟩

/-- two codes one behind the other, on a word of five letters -/
def Behind (c d x : Value) (u : List UInt8) : Prop := ∃ p q r t : ByteArray,
  (∀ w, Calls Tryz.prog 9 #[d, .string (mkS u)] w fun e w' => e = .returned (.tuple #[.string p, .bool true]) ∧ Ext w w') ∧
  (∀ w, Calls Tryz.prog 9 #[c, .string p] w fun e w' => e = .returned (.tuple #[.string q, .bool true]) ∧ Ext w w') ∧
  (∀ w, Calls Tryz.prog 9 #[x, .string (mkS u)] w fun e w' => e = .returned (.tuple #[.string q, .bool true]) ∧ Ext w w') ∧
  (∀ w, Calls Tryz.prog 12 #[d, .string (mkS u)] w fun e w' => e = .returned (.tuple #[.string r, .bool true]) ∧ Ext w w') ∧
  (∀ w, Calls Tryz.prog 12 #[c, .string r] w fun e w' => e = .returned (.tuple #[.string t, .bool true]) ∧ Ext w w') ∧
  (∀ w, Calls Tryz.prog 12 #[x, .string (mkS u)] w fun e w' => e = .returned (.tuple #[.string t, .bool true]) ∧ Ext w w')

theorem compose_facts (L W L' W' : Int) (o o' : ByteArray) (ho : o.size ≤ maxLen) (ho' : o'.size ≤ maxLen) : ∃ (x y : Int) (s : ByteArray) (b : Bool),
    (∀ w, Calls Tryz.prog 6 #[.agg #[.int .i64 L, .int .i64 W, .string o], .agg #[.int .i64 L', .int .i64 W', .string o']] w fun e w' => e = .returned (.tuple #[.agg #[.int .i64 x, .int .i64 y, .string s], .bool b]) ∧ Ext w w') ∧
    (∀ w, Calls Tryz.prog 7 #[.agg #[.int .i64 L, .int .i64 W, .string o], .agg #[.int .i64 L', .int .i64 W', .string o']] w fun e w' => e = .returned (.tuple #[.agg #[.int .i64 x, .int .i64 y, .string s], .bool b]) ∧ Ext w w') ∧
    (b = true → ∀ u, areLet 2 u = true → u.length = 5 → Behind (.agg #[.int .i64 L, .int .i64 W, .string o]) (.agg #[.int .i64 L', .int .i64 W', .string o']) (.agg #[.int .i64 x, .int .i64 y, .string s]) u) := by
  cases h : (codeOk L W o && (codeOk L' W' o' && decide (L = L'))) with
  | false => exact ⟨_, _, _, _, fun w => impl_ComposeCodes_no L W L' W' o o' w ho ho' h, fun w => spec_ComposeCodes_no L W L' W' o o' w ho ho' h, fun hb => by cases hb⟩
  | true =>
    simp only [Bool.and_eq_true, decide_eq_true_eq] at h
    obtain ⟨h1, h2, h3⟩ := h
    subst h3
    obtain ⟨K, n, rfl, rfl, hf⟩ := codeFit_of h1
    obtain ⟨K', m, hK, rfl, hf'⟩ := codeFit_of h2
    obtain rfl : K = K' := by omega
    have hn := hf.n1
    have hm := hf'.n1
    have hk2 := hf.k2
    have hk3 := hf.k3
    have hn4 := hf.n4
    have hm4 := hf'.n4
    cases hw : wideOk K ((n + m - 1 : Nat) : Int) with
    | false => exact ⟨_, _, _, _, fun w => impl_ComposeCodes_yes K n m o o' w h1 h2 hf hf' _ false (by rw [hw]; simp), fun w => spec_ComposeCodes_wide K n m o o' w h1 h2 hf hf' hw, fun hb => by cases hb⟩
    | true =>
      refine ⟨_, _, _, _, fun w => impl_ComposeCodes_yes K n m o o' w h1 h2 hf hf' _ true (by rw [hw]; simp), fun w => spec_ComposeCodes_yes K n m (n + m - 1) o o' w h1 h2 hf hf' (by omega) hw, fun _ u hu2 hl => ?_⟩
      have hwd := wideOk_yes hw
      rw [pw_nat] at hwd
      have hu : areLet K u = true := by
        unfold areLet at *
        rw [List.all_eq_true] at *
        intro c hc
        have := hu2 c hc
        simp only [isLet, Bool.and_eq_true, decide_eq_true_eq] at this ⊢
        omega
      have htl : ((wordsL K (n + m - 1)).map (composeL K m o o')).length = K ^ (n + m - 1) := by rw [List.length_map, wordsL_length]
      have hta : areLet K ((wordsL K (n + m - 1)).map (composeL K m o o')) = true := by
        unfold areLet
        rw [List.all_eq_true]
        intro c hc
        rw [List.mem_map] at hc
        obtain ⟨v, hv, rfl⟩ := hc
        obtain ⟨hvl, hva⟩ := mem_wordsL hv (by omega) hk3
        have hal := areLet_apply hf'.size hf'.lets hva
        have hll : (applyL K m o' v).length = n := by rw [applyL_length, hvl]; omega
        unfold composeL givesL
        refine isLet_getD hf.lets ?_
        have := idxL_lt K _ hal
        rw [hll] at this
        rw [Array.length_toList]
        exact Nat.lt_of_lt_of_eq this hf.size.symm
      have hq4 : n + m - 1 ≤ 4 := by omega
      have hq27 : K ^ (n + m - 1) ≤ 27 := by omega
      obtain ⟨q, hq⟩ : ∃ q, q = n + m - 1 := ⟨_, rfl⟩
      have hx1 : codeOk K q (mkS ((wordsL K (n + m - 1)).map (composeL K m o o'))) = true := by
        have e : (K : Int) ^ q = ((K ^ q : Nat) : Int) := by simp
        have h27' : (K : Int) ^ q ≤ 27 := by rw [e, hq]; omega
        unfold codeOk
        rw [mkS_size, mkS_data, hta, pw_nat, htl, ← hq]
        simp
        omega
      have hfx : CodeFit K q (mkS ((wordsL K (n + m - 1)).map (composeL K m o o'))) := ⟨hk2, hk3, by omega, by omega, by rw [hq]; exact hq27, by rw [mkS_size, htl, hq], by rw [mkS_data]; exact hta⟩
      have wok : ∀ t : List UInt8, areLet K t = true → t.length ≤ 16 → wordOk K (mkS t) = true := fun t h1 h2 => by
        unfold wordOk
        rw [mkS_size, mkS_data, h1]
        simp
        omega
      have hp := areLet_apply hf'.size hf'.lets hu
      have hpl : (applyL K m o' u).length ≤ 16 := by rw [applyL_length]; omega
      have hrl := ringL_length (K := K) (n := m) (o := o') (u := u) hm (by omega)
      have hr : areLet K (ringL K m o' u) = true := areLet_apply hf'.size hf'.lets (areLet_ring hu m)
      refine ⟨mkS (applyL K m o' u), mkS (applyL K n o (applyL K m o' u)), mkS (ringL K m o' u), mkS (ringL K n o (ringL K m o' u)), fun w => ?_, fun w => ?_, fun w => ?_, fun w => ?_, fun w => ?_, fun w => ?_⟩
      · have := impl_ApplyCode_yes K m o' (mkS u) w h2 hf' (wok u hu (by omega))
        rwa [mkS_data] at this
      · have := impl_ApplyCode_yes K n o (mkS (applyL K m o' u)) w h1 hf (wok _ hp hpl)
        rwa [mkS_data] at this
      · have := impl_ApplyCode_yes K q _ (mkS u) w hx1 hfx (wok u hu (by omega))
        rw [mkS_data, hq, compose_apply hk3 hn hm o o' hu] at this
        exact this
      · have := impl_ApplyRing_yes K m o' (mkS u) w h2 hf' (wok u hu (by omega)) (by rw [mkS_size]; omega)
        rwa [mkS_data] at this
      · have := impl_ApplyRing_yes K n o (mkS (ringL K m o' u)) w h1 hf (wok _ hr (by omega)) (by rw [mkS_size]; omega)
        rwa [mkS_data] at this
      · have := impl_ApplyRing_yes K q _ (mkS u) w hx1 hfx (wok u hu (by omega)) (by rw [mkS_size]; omega)
        rw [mkS_data, hq, compose_ring hk3 hn hm o o' hu (by omega)] at this
        exact this

/-- a code's text read back -/
theorem codeT_data (K n : Nat) (o : ByteArray) : (codeT K n o).data.toList = digC K :: 32 :: digC n :: 32 :: o.data.toList := by
  unfold codeT digS
  simp [ByteArray.data_append, digC]

theorem split_text {K n : Nat} (hK : K < 10) (hn : n < 10) {o : List UInt8} (ho : ∀ c ∈ o, c ≠ 32) : splitL 32 (digC K :: 32 :: digC n :: 32 :: o) = [[digC K], [digC n], o] := by
  have d : ∀ {k : Nat}, k < 10 → ¬ (32 : UInt8) ∈ [digC k] := by
    intro k hk h
    have h1 : (32 : UInt8) = digC k := by simpa using h
    have h2 := congrArg UInt8.toNat h1
    rw [digC_toNat hk] at h2
    have h3 : (32 : UInt8).toNat = 32 := rfl
    omega
  have h1 := splitL_at (a := [digC K]) (digC n :: 32 :: o) (d hK)
  have h2 := splitL_at (a := [digC n]) o (d hn)
  have h3 := splitL_none (c := 32) (l := o) (fun h => ho 32 h rfl)
  rw [List.singleton_append] at h1 h2
  rw [h1, h2, h3]

/-- what the walk asks of the library's variables -/
def MTE (w : World) : Prop := MaxC w ∧ TabC w ∧ ErrC w
theorem MTE.ext {w w' : World} (h : MTE w) (hx : Ext w w') : MTE w' := ⟨h.1.ext hx, h.2.1.ext hx, h.2.2.ext hx⟩

theorem parse_both (l : List UInt8) (hl : l.length ≤ 1048576) : ∃ (x y : Int) (o : ByteArray) (b : Bool),
    (∀ w, Calls Tryz.prog 16 #[.string (mkS l)] w fun e w' => e = .returned (.tuple #[.agg #[.int .i64 x, .int .i64 y, .string o], .bool b]) ∧ Ext w w') ∧
    (∀ w, MTE w → Calls Tryz.prog 15 #[.string (mkS l)] w fun e w' => e = .returned (.tuple #[.agg #[.int .i64 x, .int .i64 y, .string o], .bool b]) ∧ Ext w w') ∧
    (∀ k n q, parseC l = some (k, n, q) → x = (k : Nat) ∧ y = (n : Nat) ∧ o = q ∧ b = true) ∧ (parseC l = none → b = false) := by
  cases hp : parseC l with
  | none =>
    refine ⟨0, 0, ⟨#[]⟩, false, fun w => (spec_ParseCode_any l w hl).mono ?_, fun w h => (impl_ParseCode_any l w hl h.1 h.2.1 h.2.2).mono ?_, fun k n q h => (by cases h), fun _ => rfl⟩
    · rintro e w' (⟨k, n, o, h1, _⟩ | ⟨_, h2, h3⟩)
      · rw [hp] at h1; cases h1
      · exact ⟨h2, h3⟩
    · rintro e w' (⟨k, n, o, h1, _⟩ | ⟨_, h2, h3⟩)
      · rw [hp] at h1; cases h1
      · exact ⟨h2, h3⟩
  | some r =>
    obtain ⟨k, n, o⟩ := r
    refine ⟨k, n, o, true, fun w => (spec_ParseCode_any l w hl).mono ?_, fun w h => (impl_ParseCode_any l w hl h.1 h.2.1 h.2.2).mono ?_, fun k' n' q h => ?_, fun h => (by cases h)⟩
    · rintro e w' (⟨k', n', o', h1, h2, _, h3⟩ | ⟨h1, _⟩)
      · rw [hp] at h1
        cases h1
        exact ⟨h2, h3⟩
      · rw [hp] at h1; cases h1
    · rintro e w' (⟨k', n', o', h1, h2, _, h3⟩ | ⟨h1, _⟩)
      · rw [hp] at h1
        cases h1
        exact ⟨h2, h3⟩
      · rw [hp] at h1; cases h1
    · cases h
      exact ⟨rfl, rfl, rfl, rfl⟩

/-- a code's text is read back: as the code, exactly if it is one -/
theorem text_facts (L W : Int) (o : ByteArray) (ho : o.size ≤ maxLen) : ∃ (t : ByteArray) (x y : Int) (s : ByteArray) (b : Bool),
    (∀ w, Calls Tryz.prog 23 #[.agg #[.int .i64 L, .int .i64 W, .string o]] w fun e w' => e = .returned (.string t) ∧ Ext w w') ∧
    (∀ w, Calls Tryz.prog 24 #[.agg #[.int .i64 L, .int .i64 W, .string o]] w fun e w' => e = .returned (.string t) ∧ Ext w w') ∧
    (∀ w, MTE w → Calls Tryz.prog 15 #[.string t] w fun e w' => e = .returned (.tuple #[.agg #[.int .i64 x, .int .i64 y, .string s], .bool b]) ∧ Ext w w') ∧
    b = codeOk L W o ∧ (b = true → x = L ∧ y = W ∧ s = o) := by
  cases h : codeOk L W o with
  | false =>
    obtain ⟨x, y, s, b, -, h2, -, h4⟩ := parse_both [] (by simp)
    have hp : parseC [] = none := parseC_few (by simp [splitL])
    refine ⟨_, x, y, s, b, fun w => impl_CodeText_no L W o w ho h, fun w => spec_CodeText_no L W o w ho h, h2, h4 hp, fun hb => ?_⟩
    rw [h4 hp] at hb
    cases hb
  | true =>
    have h0 := h
    obtain ⟨K, n, rfl, rfl, hf⟩ := codeFit_of h
    have hk2 := hf.k2
    have hk3 := hf.k3
    have hn1 := hf.n1
    have hn4 := hf.n4
    have hos : o.size ≤ 27 := by have := hf.size; have := hf.le; omega
    have hdat := codeT_data K n o
    have hol : o.data.toList.length = o.size := Array.length_toList
    obtain ⟨x, y, s, b, -, h2, h3, -⟩ := parse_both (codeT K n o).data.toList (by rw [hdat]; simp; omega)
    have hlet : ∀ c ∈ o.data.toList, c ≠ 32 := by
      intro c hc e
      have := hf.lets
      unfold areLet at this
      rw [List.all_eq_true] at this
      have := this c hc
      subst e
      simp [isLet] at this
    have hp : parseC (codeT K n o).data.toList = some (K, n, mkS o.data.toList) := by
      rw [hdat]
      exact parseC_yes (split_text (by omega) (by omega) hlet) (by omega) (by omega) rfl rfl (by rw [mkS_data_self]; exact h0)
    obtain ⟨rfl, rfl, rfl, rfl⟩ := h3 _ _ _ hp
    rw [mkS_data_self] at h2
    refine ⟨_, _, _, _, _, fun w => impl_CodeText_yes K n o w h0 (by omega) (by omega) hn1 (by omega) hos, fun w => spec_CodeText_yes K n o w h0 (by omega) (by omega) hn1 (by omega) hos, h2, rfl, fun _ => ⟨rfl, rfl, mkS_data_self o⟩⟩
end Go.Proofs.YtgaeeibcfoppbaaGreatDoor
