/- Contracts: a numeral read, by the reference and by the program. -/
import Derived.Test.YtgaeeibcfoppbaaDoorPcA
import Derived.Lib.SmallJoins
namespace Go.Cm
theorem digC_toNat {d : Nat} (h : d < 10) : (digC d).toNat = 48 + d := by
  have h1 : (digC d).toNat = (48 + d) % 256 := rfl
  omega
theorem mkS_tail2 (l : List UInt8) (a : Nat) : (mkS l).extract a (mkS l).size = mkS (l.drop a) := by
  apply ByteArray.ext
  apply Array.ext'
  rw [Lib.extract_data, mkS_data, mkS_data, mkS_size]
  exact List.take_of_length_le (by simp)
theorem not_dig_at {T : List UInt8} {k : Nat} (hk : k < T.length) (h : (T.getD k 0).toNat < 48 ∨ 57 < (T.getD k 0).toNat) : ∀ d, d < 10 → T ≠ [digC d] := by
  rintro d hd rfl
  have hk0 : k = 0 := by simpa using hk
  subst hk0
  have := digC_toNat hd
  simp only [List.getD_cons_zero] at h
  omega
theorem not_dig_len {T : List UInt8} (h : T.length ≠ 1) : ∀ d, d < 10 → T ≠ [digC d] := by
  rintro d _ rfl
  simp at h
theorem not_dig_minus {r : List UInt8} : ∀ d, d < 10 → (45 : UInt8) :: r ≠ [digC d] := by
  intro d hd h
  injection h with h1 h2
  have := digC_toNat hd
  rw [← h1] at this
  simp at this
  omega
/-- how the number that is read so far goes with a text of one digit -/
def OneD (T : List UInt8) (k m : Nat) : Prop := ∀ d, d < 10 → T = [digC d] → m = if k = 0 then 0 else d
theorem OneD.start (T : List UInt8) : OneD T 0 0 := fun _ _ _ => rfl
theorem OneD.step {T : List UInt8} {k m x : Nat} (h : OneD T k m) (hk : k < T.length) (hx : (T.getD k 0).toNat = 48 + x) : OneD T (k + 1) (10 * m + x) := by
  rintro d hd rfl
  have hk0 : k = 0 := by simpa using hk
  subst hk0
  have h1 := h d hd rfl
  simp only [List.getD_cons_zero] at hx
  have := digC_toNat hd
  simp at h1 ⊢
  omega
end Go.Cm
namespace Go.Proofs.YtgaeeibcfoppbaaDoor
open Go.RowKit Go.Cm

/-- what the reader of numerals gives -/
def NumOut (s : List UInt8) (w : World) (e : Ending) (w' : World) : Prop := ∃ (z : Int) (b : Bool), e = .returned (.tuple #[.int .i64 z, .bool b]) ∧ NumR s z b ∧ (-9223372036854775808 ≤ z ∧ z ≤ 9223372036854775807) ∧ Ext w w'
set_option maxRecDepth 100000 in
set_option maxHeartbeats 2000000 in
theorem spec_l1Read_any (s : List UInt8) (w : World) (hs : s.length ≤ 1048576) :
    Calls Tryd.prog 13 #[.string (mkS s), .int .i64 12] w fun e w' => NumOut s w e w' := by
  obtain ⟨n, hn⟩ : ∃ n, n = s.length := ⟨_, rfl⟩
  have hsz : (mkS s).size = n := by rw [mkS_size, hn]
  rw [← hn] at hs
  by_cases h0 : n = 0
  · have HN := Lib.hid (not_dig_len (T := s) (by omega))
    subst h0
    clear hn
    go_enter Tryd.func13, Tryd.ntmps13
    go_wp2
    refine bodyPost_ret (v := .tuple #[.int .i64 0, .bool false]) (by simp [results, Tryd.results13]) rfl ⟨0, false, rfl, NumR.no HN.out, by omega, Ext.refl _⟩
  have hget0 := mkS_get s 0 (by rw [hsz]; omega)
  have h0s : 0 < (mkS s).size := by rw [hsz]; omega
  have hpos : 0 < n := by omega
  by_cases hmin : s.getD 0 0 = 45
  · have hb : (((mkS s)[0].toNat : Int) == 45) = true := by rw [hget0, hmin]; rfl
    obtain ⟨T, hT⟩ : ∃ T, T = s.drop 1 := ⟨_, rfl⟩
    have hsT : s = 45 :: T := by
      cases s with
      | nil => simp at hn; omega
      | cons x r =>
        simp only [List.getD_cons_zero] at hmin
        rw [hT, hmin]
        rfl
    have hsl := mkS_tail2 s 1
    rw [hsz, ← hT] at hsl
    obtain ⟨L, hL⟩ : ∃ L, L = n - 1 := ⟨_, rfl⟩
    have hlT : T.length = L := by rw [hT, List.length_drop, hL, hn]
    have h1n : (1 : Int) ≤ (n : Int) := by omega
    have hLn : (n : Int) - 1 = (L : Int) := by omega
    have HM := Lib.hid (show ∀ d, d < 10 → s ≠ [digC d] by rw [hsT]; exact not_dig_minus)
    clear hT hn hget0 hmin hsT hL
    have hTl : (mkS T).size = L := (by rw [mkS_size]; exact hlT)
    by_cases hbad : L < 1
    · first
        | (exfalso; omega)
        | (have HN := Lib.hid (show ∀ d, d < 10 → s ≠ [digC d] from HM.out)
           go_enter Tryd.func13, Tryd.ntmps13
           go_wp2
           refine bodyPost_ret (v := .tuple #[.int .i64 0, .bool false]) (by simp [results, Tryd.results13]) rfl ⟨0, false, rfl, NumR.no HN.out, by omega, Ext.refl _⟩)
    by_cases hbad2 : 12 < L
    · have HN := Lib.hid (show ∀ d, d < 10 → s ≠ [digC d] from HM.out)
      go_enter Tryd.func13, Tryd.ntmps13
      go_wp2
      refine bodyPost_ret (v := .tuple #[.int .i64 0, .bool false]) (by simp [results, Tryd.results13]) rfl ⟨0, false, rfl, NumR.no HN.out, by omega, Ext.refl _⟩
    have hL1 : 1 ≤ L := by omega
    have hL12 : L ≤ 12 := by omega
    clear hbad hbad2
    go_enter Tryd.func13, Tryd.ntmps13
    go_wp2
    go_loop [8, 9] (fun v i => ∃ k m : Nat, k ≤ L ∧ i = .int .i64 k ∧ v = .int .i64 m ∧ m < 10 ^ k ∧ OneD T k m) (fun _ i => L - (intOf i).toNat)
    case atStart => exact ⟨0, 0, by omega, rfl, rfl, by simp, OneD.start _⟩
    case round =>
      obtain ⟨k, m, hk, rfl, rfl, hm, ho⟩ := hrel
      have hpow : 10 ^ k ≤ 10 ^ 12 := Nat.pow_le_pow_right (by omega) (by omega)
      have hm12 : m ≤ 1000000000000 := by omega
      by_cases hlt : k < L
      · have hkt : k < (mkS T).size := by rw [hTl]; exact hlt
        have hget := mkS_get T k hkt
        by_cases hd : ((mkS T)[k]).toNat < 48
        · have HN := Lib.hid (show ∀ d, d < 10 → s ≠ [digC d] from (fun (_ : (T.getD k 0).toNat < 48 ∨ 57 < (T.getD k 0).toNat) => HM.out) (.inl (by rw [← hget]; exact hd)))
          clear hget hm hpow ho
          go_wp2
          refine bodyPost_ret (v := .tuple #[.int .i64 0, .bool false]) (by simp [results, Tryd.results13]) rfl ⟨0, false, rfl, NumR.no HN.out, by omega, Ext.refl _⟩
        by_cases hd2 : 57 < ((mkS T)[k]).toNat
        · have HN := Lib.hid (show ∀ d, d < 10 → s ≠ [digC d] from (fun (_ : (T.getD k 0).toNat < 48 ∨ 57 < (T.getD k 0).toNat) => HM.out) (.inr (by rw [← hget]; exact hd2)))
          clear hget hm hpow ho
          go_wp2
          refine bodyPost_ret (v := .tuple #[.int .i64 0, .bool false]) (by simp [results, Tryd.results13]) rfl ⟨0, false, rfl, NumR.no HN.out, by omega, Ext.refl _⟩
        obtain ⟨x, hx⟩ : ∃ x, ((mkS T)[k]).toNat = 48 + x := ⟨((mkS T)[k]).toNat - 48, by omega⟩
        have hx9 : x ≤ 9 := by omega
        have ho2 := ho.step (by rw [← mkS_size T]; exact hkt) (by rw [← hget]; exact hx)
        have hm2 : 10 * m + x < 10 ^ (k + 1) := by rw [Nat.pow_succ]; omega
        have HO := Lib.hid (And.intro ho2 hm2)
        clear ho ho2 hm2 hm hpow hget
        go_wp2
        go_round
        case rel => exact ⟨k + 1, 10 * m + x, by omega, by go_num, by go_num, HO.out.2, HO.out.1⟩
        case measure => simp [intOf]; omega
      · have hkL : k = L := by omega
        subst hkL
        have hf := fun w => spec_FormatInt_any (-(m : Int)) w (by omega) (by omega)
        have hbq := mkS_beq (Lib.itoa (-(m : Int))) s
        obtain ⟨a, ha⟩ : ∃ a : List UInt8, a = Lib.itoa (-(m : Int)) := ⟨_, rfl⟩
        rw [← ha] at hf hbq
        have HF := Lib.hid (And.intro hf (And.intro ha ho))
        clear hf ha ho hm hpow
        by_cases he : a = s
        · have hb1 : ((mkS a).toList == (mkS s).toList) = true := by rw [hbq]; simpa using he
          clear hbq
          go_wp2_with fail
          with_reducible refine (HF.out.1 _).mono ?_
          rintro e w1 ⟨rfl, hx⟩
          go_wp2
          refine bodyPost_ret (v := .tuple #[.int .i64 (-(m : Int)), .bool true]) (by simp [results, Tryd.results13]) rfl ⟨(-(m : Int)), true, rfl, NumR.yes (by rw [← he]; exact HF.out.2.1) (fun d hd e => absurd e (HM.out d hd)), by omega, hx⟩
        · have hb1 : ((mkS a).toList == (mkS s).toList) = false := by rw [hbq]; simpa using he
          clear hbq
          go_wp2_with fail
          with_reducible refine (HF.out.1 _).mono ?_
          rintro e w1 ⟨rfl, hx⟩
          go_wp2
          refine bodyPost_ret (v := .tuple #[.int .i64 0, .bool false]) (by simp [results, Tryd.results13]) rfl ⟨0, false, rfl, NumR.no HM.out, by omega, hx⟩
  · have hb : (((mkS s)[0].toNat : Int) == 45) = false := by
      rw [hget0, beq_eq_false_iff_ne]
      intro e
      exact hmin (UInt8.toNat_inj.1 (by show (s.getD 0 0).toNat = 45; omega))
    clear hget0 hmin
    have hTl : (mkS s).size = n := hsz
    by_cases hbad : n < 1
    · first
        | (exfalso; omega)
        | (have HN := Lib.hid (show ∀ d, d < 10 → s ≠ [digC d] from (not_dig_len (by omega)))
           go_enter Tryd.func13, Tryd.ntmps13
           go_wp2
           refine bodyPost_ret (v := .tuple #[.int .i64 0, .bool false]) (by simp [results, Tryd.results13]) rfl ⟨0, false, rfl, NumR.no HN.out, by omega, Ext.refl _⟩)
    by_cases hbad2 : 12 < n
    · have HN := Lib.hid (show ∀ d, d < 10 → s ≠ [digC d] from (not_dig_len (by omega)))
      go_enter Tryd.func13, Tryd.ntmps13
      go_wp2
      refine bodyPost_ret (v := .tuple #[.int .i64 0, .bool false]) (by simp [results, Tryd.results13]) rfl ⟨0, false, rfl, NumR.no HN.out, by omega, Ext.refl _⟩
    have hL1 : 1 ≤ n := by omega
    have hL12 : n ≤ 12 := by omega
    clear hbad hbad2
    go_enter Tryd.func13, Tryd.ntmps13
    go_wp2
    go_loop [8, 9] (fun v i => ∃ k m : Nat, k ≤ n ∧ i = .int .i64 k ∧ v = .int .i64 m ∧ m < 10 ^ k ∧ OneD s k m) (fun _ i => n - (intOf i).toNat)
    case atStart => exact ⟨0, 0, by omega, rfl, rfl, by simp, OneD.start _⟩
    case round =>
      obtain ⟨k, m, hk, rfl, rfl, hm, ho⟩ := hrel
      have hpow : 10 ^ k ≤ 10 ^ 12 := Nat.pow_le_pow_right (by omega) (by omega)
      have hm12 : m ≤ 1000000000000 := by omega
      by_cases hlt : k < n
      · have hkt : k < (mkS s).size := by rw [hTl]; exact hlt
        have hget := mkS_get s k hkt
        by_cases hd : ((mkS s)[k]).toNat < 48
        · have HN := Lib.hid (show ∀ d, d < 10 → s ≠ [digC d] from (not_dig_at (by rw [← mkS_size]; exact hkt)) (.inl (by rw [← hget]; exact hd)))
          clear hget hm hpow ho
          go_wp2
          refine bodyPost_ret (v := .tuple #[.int .i64 0, .bool false]) (by simp [results, Tryd.results13]) rfl ⟨0, false, rfl, NumR.no HN.out, by omega, Ext.refl _⟩
        by_cases hd2 : 57 < ((mkS s)[k]).toNat
        · have HN := Lib.hid (show ∀ d, d < 10 → s ≠ [digC d] from (not_dig_at (by rw [← mkS_size]; exact hkt)) (.inr (by rw [← hget]; exact hd2)))
          clear hget hm hpow ho
          go_wp2
          refine bodyPost_ret (v := .tuple #[.int .i64 0, .bool false]) (by simp [results, Tryd.results13]) rfl ⟨0, false, rfl, NumR.no HN.out, by omega, Ext.refl _⟩
        obtain ⟨x, hx⟩ : ∃ x, ((mkS s)[k]).toNat = 48 + x := ⟨((mkS s)[k]).toNat - 48, by omega⟩
        have hx9 : x ≤ 9 := by omega
        have ho2 := ho.step (by rw [← mkS_size s]; exact hkt) (by rw [← hget]; exact hx)
        have hm2 : 10 * m + x < 10 ^ (k + 1) := by rw [Nat.pow_succ]; omega
        have HO := Lib.hid (And.intro ho2 hm2)
        clear ho ho2 hm2 hm hpow hget
        go_wp2
        go_round
        case rel => exact ⟨k + 1, 10 * m + x, by omega, by go_num, by go_num, HO.out.2, HO.out.1⟩
        case measure => simp [intOf]; omega
      · have hkL : k = n := by omega
        subst hkL
        have hf := fun w => spec_FormatInt_any (m : Int) w (by omega) (by omega)
        have hbq := mkS_beq (Lib.itoa (m : Int)) s
        obtain ⟨a, ha⟩ : ∃ a : List UInt8, a = Lib.itoa (m : Int) := ⟨_, rfl⟩
        rw [← ha] at hf hbq
        have HF := Lib.hid (And.intro hf (And.intro ha ho))
        clear hf ha ho hm hpow
        by_cases he : a = s
        · have hb1 : ((mkS a).toList == (mkS s).toList) = true := by rw [hbq]; simpa using he
          clear hbq
          go_wp2_with fail
          with_reducible refine (HF.out.1 _).mono ?_
          rintro e w1 ⟨rfl, hx⟩
          go_wp2
          refine bodyPost_ret (v := .tuple #[.int .i64 (m : Int), .bool true]) (by simp [results, Tryd.results13]) rfl ⟨(m : Int), true, rfl, NumR.yes (by rw [← he]; exact HF.out.2.1) (fun d hd e => by have h1 := HF.out.2.2 d hd e; rw [if_neg (by omega)] at h1; rw [h1]), by omega, hx⟩
        · have hb1 : ((mkS a).toList == (mkS s).toList) = false := by rw [hbq]; simpa using he
          clear hbq
          go_wp2_with fail
          with_reducible refine (HF.out.1 _).mono ?_
          rintro e w1 ⟨rfl, hx⟩
          go_wp2
          refine bodyPost_ret (v := .tuple #[.int .i64 0, .bool false]) (by simp [results, Tryd.results13]) rfl ⟨0, false, rfl, NumR.no (fun d hd e => he (by have h1 := HF.out.2.2 d hd e; rw [if_neg (by omega)] at h1; rw [HF.out.2.1, h1, itoa_dig hd]; exact e.symm)), by omega, hx⟩
end Go.Proofs.YtgaeeibcfoppbaaDoor
