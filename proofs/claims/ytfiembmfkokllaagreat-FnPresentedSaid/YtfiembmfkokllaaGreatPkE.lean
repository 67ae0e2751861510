/- Several texts of mine in one: ApplyA, ApplyB, ApplyC, ShR, ShA, ShB, All. -/
import Derived.Test.YtfiembmfkokllaaGreatPkD
import Derived.Test.YtfiembmfkokllaaGreatPkA
import Derived.Test.YtfiembmfkokllaaGreatPkC
import Derived.Test.YtfiembmfkokllaaGreatShelf
import Derived.WalkLawsBesides
/- Contracts: the index of a word, the letter that a code gives, a code on a word: the program's. -/
namespace Go.Proofs.YtfiembmfkokllaaGreat
open Go.RowKit Go.Cm

theorem impl_isLetters_any (k : Int) (w : World) :
    Calls Tryz.prog 69 #[.int .i64 k] w fun e w' => e = .returned (.bool (decide (1 ≤ k) && decide (k ≤ 3))) ∧ w = w' := by
  by_cases h : 1 ≤ k
  · go_enter Tryz.func69, Tryz.ntmps69
    go_wp2
    go_ret
    exact ⟨ret_bool (by simp [h]), rfl⟩
  · have h' : k < 1 := by omega
    go_enter Tryz.func69, Tryz.ntmps69
    go_wp2
    go_ret
    exact ⟨ret_bool (by simp; omega), rfl⟩

end Go.Proofs.YtfiembmfkokllaaGreat

/- Contracts: the letter that a code gives, a code on a word: the program's. -/
namespace Go.Proofs.YtfiembmfkokllaaGreat
open Go.RowKit Go.Cm

/-- a code that is right -/
structure CodeFit (K n : Nat) (o : ByteArray) : Prop where
  k2 : 2 ≤ K
  k3 : K ≤ 3
  n1 : 1 ≤ n
  n4 : n ≤ 4
  le : K ^ n ≤ 27
  size : o.size = K ^ n
  lets : areLet K o.data.toList = true

end Go.Proofs.YtfiembmfkokllaaGreat

/- Contracts: what a word is, the letter that a code gives, a code on a word: the reference's. -/
namespace Go.Proofs.YtfiembmfkokllaaGreat
open Go.RowKit Go.Cm

theorem wordOk_at {k : Int} {s : ByteArray} {i : Nat} (hi : i < s.size) (h1 : ¬ (97 ≤ (s[i].toNat : Int) ∧ (s[i].toNat : Int) - 97 < k)) : wordOk k s = false := by
  unfold wordOk
  rw [areLet_bad hi h1]
  simp

set_option maxHeartbeats 400000 in
theorem spec_IsWord_any (k : Int) (s : ByteArray) (w : World) (hs : s.size ≤ maxLen) :
    Calls Tryz.prog 63 #[.int .i64 k, .string s] w fun e w' => e = .returned (.bool (wordOk k s)) ∧ w = w' := by
  unfold maxLen at hs
  go_enter Tryz.func63, Tryz.ntmps63
  go_wp2
  go_loop [5] (fun i => ∃ j : Nat, j ≤ s.size ∧ i = .int .i64 j ∧ areLet k (s.data.toList.take j) = true) (fun i => s.size - (intOf i).toNat)
  case atStart => exact ⟨0, by omega, rfl, by simp [areLet]⟩
  case round =>
    obtain ⟨j, hj, rfl, hp⟩ := hrel
    have HP := Lib.hid hp
    clear hp
    by_cases hlt : j < s.size
    · have hb := s[j].toNat_lt
      go_wp2
      · go_ret
        exact ⟨ret_bool (wordOk_at hlt (by omega)).symm, rfl⟩
      · go_round
        case rel => exact ⟨j + 1, by omega, by go_num, areLet_snoc hlt HP.out (by omega) (by omega)⟩
        case measure => simp [intOf]; omega
      · go_ret
        exact ⟨ret_bool (wordOk_at hlt (by omega)).symm, rfl⟩
    · have : j = s.size := by omega
      subst this
      have ha := areLet_all HP.out
      have HA := Lib.hid ha
      clear ha
      by_cases h1 : 1 ≤ k ∧ k ≤ 3
      · obtain ⟨h1, h3⟩ := h1
        go_wp2_with (go_at_call 53; refine (spec_l1In_yes _ _ _ _ h1 h3).mono ?_; rintro e w' ⟨rfl, rfl⟩)
        all_goals (go_ret; exact ⟨ret_bool (by simp [wordOk, h1, h3, HA.out]; omega), rfl⟩)
      · have H1 := Lib.hid h1
        clear h1
        go_wp2_with (go_at_call 53; refine (spec_l1In_no k 1 3 _ (by have := H1.out; omega)).mono ?_; rintro e w' ⟨rfl, rfl⟩)
        all_goals (go_ret; exact ⟨ret_bool (by have := H1.out; simp [wordOk]; omega), rfl⟩)

end Go.Proofs.YtfiembmfkokllaaGreat

/- Rows of words; the library's variable. -/
namespace Go.Proofs.YtfiembmfkokllaaGreat
open Go.RowKit Go.Cm

/-- the library's variable holds some number -/
def MaxC (w : World) : Prop := ∃ m, w.cell? ⟨0, 0, none⟩ = some (.int .i64 m)
theorem MaxC.ext {w w' : World} (h : MaxC w) (hx : Ext w w') : MaxC w' := by
  obtain ⟨m, hm⟩ := h
  exact ⟨m, hx.cell_some hm⟩

/-- a row of words -/
def ReadsW (w : World) (v : Value) (F : List (List UInt8)) : Prop := Reads w v (scells F)
theorem ReadsW.ext {w w' : World} {v : Value} {F : List (List UInt8)} (h : ReadsW w v F) (hx : Ext w w') : ReadsW w' v F := Reads.ext h hx
theorem ReadsW.slice {w : World} {v : Value} {F : List (List UInt8)} (h : ReadsW w v F) : ∃ a c, v = .slice a F.length c := by
  obtain ⟨a', cap, hv, _⟩ := h
  exact ⟨a', cap, by simpa [scells] using hv⟩
theorem ReadsW.len {w : World} {a : Option Addr} {n c : Nat} {F : List (List UInt8)} (h : ReadsW w (.slice a n c) F) : n = F.length ∧ n ≤ c ∧ c ≤ 9223372036854775807 := by
  obtain ⟨a', cap, hv, h1, h2, h3⟩ := h
  injection hv with e1 e2 e3
  unfold maxLen at h2
  simp [scells] at h1 e2
  omega
theorem ReadsW.at {w : World} {a : Option Addr} {n c : Nat} {F : List (List UInt8)} (h : ReadsW w (.slice a n c) F) (j : Nat) (hj : j < F.length) :
    ∃ b o, a = some ⟨b, o, none⟩ ∧ w.cell? ⟨b, o + j, none⟩ = some (.string (mkS (F.getD j []))) := by
  obtain ⟨a', cap, hv, h1, h2, h3⟩ := h
  injection hv with e1 e2 e3
  obtain ⟨b, o, ha, hc⟩ := h3 j (by simpa [scells] using hj)
  exact ⟨b, o, e1.trans ha, by rw [hc]; simp [scells, List.getD_eq_getElem?_getD, List.getElem?_eq_getElem hj]⟩
theorem Own.readsW {w : World} {B : Nat} {E : TypeId} {v : Value} {F : List (List UInt8)} (h : Own w B E v (scells F)) : ReadsW w v F := h.reads
theorem scells_length (F : List (List UInt8)) : (scells F).length = F.length := by simp [scells]
theorem scells_at (F : List (List UInt8)) (j : Nat) (h : j < F.length) : (scells F)[j]'(by rw [scells_length]; exact h) = .string (mkS (F.getD j [])) := by
  simp [scells, List.getD_eq_getElem?_getD, List.getElem?_eq_getElem h]
theorem mkS_list (l : List UInt8) : (mkS l).toList = l := by
  rw [Lib.toList_data, mkS_data]
theorem mkS_beq (a b : List UInt8) : ((mkS a).toList == (mkS b).toList) = (a == b) := by rw [mkS_list, mkS_list]
theorem mkS_part (u : List UInt8) (a n : Nat) : (mkS u).extract a (a + n) = mkS ((u.drop a).take n) := by
  rw [extract_part, mkS_data]
  rfl
end Go.Proofs.YtfiembmfkokllaaGreat

/- Contracts: parts of words, words without forbidden parts, by the program and by the reference. -/
namespace Go.Proofs.YtfiembmfkokllaaGreat
open Go.RowKit Go.Cm

theorem MaxC.of {w : World} (h : w.ShapedOpen Tryz.prog) : MaxC w := Tryz.laysM144.s1_3 w h

theorem contains_any (u f : List UInt8) (w : World) (hm : MaxC w) (hl : u.length ≤ 1048576) :
    Calls Tryz.prog 73 #[.string (mkS u), .string (mkS f)] w fun e w' => e = .returned (.bool (occ u f)) ∧ w = w' := by
  obtain ⟨m, hm⟩ := hm
  refine (Tryz.strings_Contains (mkS u) (mkS f) m w (by rw [mkS_size]; omega) hm).mono fun e w' ⟨h1, h2⟩ => ?_
  rw [mkS_data, mkS_data] at h1
  exact ⟨h1, h2.symm⟩

set_option maxHeartbeats 400000 in
theorem impl_avoids_any (L : Int) (v : Value) (F : List (List UInt8)) (x : List UInt8) (w : World) (h : ReadsW w v F) (hm : MaxC w) (hl : x.length ≤ 1048576) :
    Calls Tryz.prog 36 #[.agg #[.int .i64 L, v], .string (mkS x)] w fun e w' => e = .returned (.bool (avoidL F x)) ∧ Ext w w' := by
  obtain ⟨a, c, rfl⟩ := h.slice
  obtain ⟨-, hlc, hc⟩ := h.len
  obtain ⟨n, hn⟩ : ∃ n, n = F.length := ⟨_, rfl⟩
  rw [← hn] at hlc h ⊢
  have hx := Ext.alloc w (.cells #[.int .i64 L, .slice a n c] 26)
  have HM := Lib.hid (And.intro (h.ext hx) (And.intro hn (hm.ext hx)))
  clear h hn hm
  go_enter Tryz.func36, Tryz.ntmps36
  go_wp2
  go_loop [6, 10] (fun _ i => ∃ k : Nat, k ≤ n ∧ i = .int .i64 k ∧ ∀ j, j < k → occ x (F.getD j []) = false) (fun _ i => n - (intOf i).toNat)
  case atStart => exact ⟨0, by omega, rfl, fun j hj => by omega⟩
  case round =>
    obtain ⟨k, hk, rfl, hp⟩ := hrel
    have HP := Lib.hid hp
    clear hp
    by_cases hlt : k < n
    · have hkm : k < F.length := by rw [← HM.out.2.1]; exact hlt
      obtain ⟨b, o, rfl, hcell⟩ := HM.out.1.at k hkm
      have hmem : F.getD k [] ∈ F := by
        rw [List.getD_eq_getElem?_getD, List.getElem?_eq_getElem hkm]
        exact List.getElem_mem hkm
      obtain ⟨f, hf⟩ : ∃ f, f = F.getD k [] := ⟨_, rfl⟩
      rw [← hf] at hcell hmem
      have HF := Lib.hid (And.intro hmem hf)
      clear hmem hf hkm
      go_wp2_with fail
      with_reducible refine (contains_any x f _ HM.out.2.2 hl).mono ?_
      rintro e w1 ⟨rfl, rfl⟩
      cases ho : occ x f
      · go_wp2
        go_round
        case rel => exact ⟨k + 1, by omega, by go_num, fun j hj => by
          by_cases e : j = k
          · subst e; rw [← HF.out.2]; exact ho
          · exact HP.out j (by omega)⟩
        case measure => simp [intOf]; omega
      · go_wp2
        go_ret
        exact ⟨ret_bool (avoidL_bad HF.out.1 ho).symm, Ext.alloc _ _⟩
    · have hkn : k = n := by omega
      have hv : avoidL F x = true := by
        unfold avoidL
        rw [List.all_eq_true]
        intro f hf
        obtain ⟨j, hj, rfl⟩ := List.mem_iff_getElem.1 hf
        have := HP.out j (by rw [hkn, HM.out.2.1]; exact hj)
        rw [List.getD_eq_getElem?_getD, List.getElem?_eq_getElem hj, Option.getD_some] at this
        rw [this]; rfl
      have HV := Lib.hid hv
      clear hv
      go_wp2
      go_ret
      exact ⟨ret_bool HV.out.symm, Ext.alloc _ _⟩

set_option maxHeartbeats 400000 in
theorem spec_OccursIn_any (u f : List UInt8) (w : World) (hl : u.length ≤ 1048576) (hf : f.length ≤ 1048576) :
    Calls Tryz.prog 74 #[.string (mkS u), .string (mkS f)] w fun e w' => e = .returned (.bool (occ u f)) ∧ w = w' := by
  have hs1 : (mkS u).size = u.length := mkS_size u
  have hs2 : (mkS f).size = f.length := mkS_size f
  go_enter Tryz.func74, Tryz.ntmps74
  go_wp2
  go_loop [5] (fun i => ∃ j : Nat, j ≤ u.length + 1 ∧ i = .int .i64 j ∧ ∀ q, q < j → q + f.length ≤ u.length → atB u f q = false) (fun i => u.length + 1 - (intOf i).toNat)
  case atStart => exact ⟨0, by omega, rfl, fun q hq => by omega⟩
  case round =>
    obtain ⟨j, hj, rfl, hp⟩ := hrel
    have HP := Lib.hid hp
    clear hp
    by_cases hlt : j + f.length ≤ u.length
    · have hsl := mkS_part u j f.length
      have hbq := mkS_beq ((u.drop j).take f.length) f
      rw [show ((u.drop j).take f.length == f) = atB u f j from rfl] at hbq
      cases ha : atB u f j
      · rw [ha] at hbq
        go_wp2
        go_round
        case rel => exact ⟨j + 1, by omega, by go_num, fun q hq hq2 => by
          by_cases e : q = j
          · subst e; exact ha
          · exact HP.out q (by omega) hq2⟩
        case measure => simp [intOf]; omega
      · rw [ha] at hbq
        have HO := Lib.hid (occ_of_at ha)
        go_wp2
        go_ret
        exact ⟨ret_bool HO.out.symm, rfl⟩
    · have HO := Lib.hid (occ_none (s := u) (f := f) fun q hq => HP.out q (by omega) hq)
      go_wp2
      go_ret
      exact ⟨ret_bool HO.out.symm, rfl⟩

set_option maxHeartbeats 400000 in
theorem spec_l3Avoids_any (v : Value) (F : List (List UInt8)) (x : List UInt8) (w : World) (h : ReadsW w v F) (hF : ∀ f ∈ F, f.length ≤ 1048576) (hl : x.length ≤ 1048576) :
    Calls Tryz.prog 38 #[v, .string (mkS x)] w fun e w' => e = .returned (.bool (avoidL F x)) ∧ w = w' := by
  obtain ⟨a, c, rfl⟩ := h.slice
  obtain ⟨-, hlc, hc⟩ := h.len
  obtain ⟨n, hn⟩ : ∃ n, n = F.length := ⟨_, rfl⟩
  rw [← hn] at hlc h ⊢
  have HM := Lib.hid (And.intro h (And.intro hn hF))
  clear h hn hF
  go_enter Tryz.func38, Tryz.ntmps38
  go_wp2
  go_loop [5] (fun i => ∃ k : Nat, k ≤ n ∧ i = .int .i64 k ∧ ∀ j, j < k → occ x (F.getD j []) = false) (fun i => n - (intOf i).toNat)
  case atStart => exact ⟨0, by omega, rfl, fun j hj => by omega⟩
  case round =>
    obtain ⟨k, hk, rfl, hp⟩ := hrel
    have HP := Lib.hid hp
    clear hp
    by_cases hlt : k < n
    · have hkm : k < F.length := by rw [← HM.out.2.1]; exact hlt
      obtain ⟨b, o, rfl, hcell⟩ := HM.out.1.at k hkm
      have hmem : F.getD k [] ∈ F := by
        rw [List.getD_eq_getElem?_getD, List.getElem?_eq_getElem hkm]
        exact List.getElem_mem hkm
      obtain ⟨f, hf⟩ : ∃ f, f = F.getD k [] := ⟨_, rfl⟩
      rw [← hf] at hcell hmem
      have HF := Lib.hid (And.intro hmem hf)
      clear hmem hf hkm
      go_wp2_with fail
      with_reducible refine (spec_OccursIn_any x f _ hl (HM.out.2.2 f HF.out.1)).mono ?_
      rintro e w1 ⟨rfl, rfl⟩
      cases ho : occ x f
      · go_wp2
        go_round
        case rel => exact ⟨k + 1, by omega, by go_num, fun j hj => by
          by_cases e : j = k
          · subst e; rw [← HF.out.2]; exact ho
          · exact HP.out j (by omega)⟩
        case measure => simp [intOf]; omega
      · go_wp2
        go_ret
        exact ⟨ret_bool (avoidL_bad HF.out.1 ho).symm, rfl⟩
    · have hkn : k = n := by omega
      have hv : avoidL F x = true := by
        unfold avoidL
        rw [List.all_eq_true]
        intro f hf
        obtain ⟨j, hj, rfl⟩ := List.mem_iff_getElem.1 hf
        have := HP.out j (by rw [hkn, HM.out.2.1]; exact hj)
        rw [List.getD_eq_getElem?_getD, List.getElem?_eq_getElem hj, Option.getD_some] at this
        rw [this]; rfl
      have HV := Lib.hid hv
      clear hv
      go_wp2
      go_ret
      exact ⟨ret_bool HV.out.symm, rfl⟩

set_option maxHeartbeats 400000 in
theorem spec_l2HasText_any (v : Value) (F : List (List UInt8)) (x : List UInt8) (w : World) (h : ReadsW w v F) :
    Calls Tryz.prog 57 #[v, .string (mkS x)] w fun e w' => e = .returned (.bool (F.any fun u => u == x)) ∧ w = w' := by
  obtain ⟨a, c, rfl⟩ := h.slice
  obtain ⟨-, hlc, hc⟩ := h.len
  obtain ⟨n, hn⟩ : ∃ n, n = F.length := ⟨_, rfl⟩
  rw [← hn] at hlc h ⊢
  have HM := Lib.hid (And.intro h hn)
  clear h hn
  go_enter Tryz.func57, Tryz.ntmps57
  go_wp2
  go_loop [5] (fun i => ∃ k : Nat, k ≤ n ∧ i = .int .i64 k ∧ ∀ j, j < k → (F.getD j [] == x) = false) (fun i => n - (intOf i).toNat)
  case atStart => exact ⟨0, by omega, rfl, fun j hj => by omega⟩
  case round =>
    obtain ⟨k, hk, rfl, hp⟩ := hrel
    have HP := Lib.hid hp
    clear hp
    by_cases hlt : k < n
    · have hkm : k < F.length := by rw [← HM.out.2]; exact hlt
      obtain ⟨b, o, rfl, hcell⟩ := HM.out.1.at k hkm
      have hmem : F.getD k [] ∈ F := by
        rw [List.getD_eq_getElem?_getD, List.getElem?_eq_getElem hkm]
        exact List.getElem_mem hkm
      obtain ⟨f, hf⟩ : ∃ f, f = F.getD k [] := ⟨_, rfl⟩
      rw [← hf] at hcell hmem
      have HF := Lib.hid (And.intro hmem hf)
      clear hmem hf hkm
      have hbq := mkS_beq f x
      cases ha : (f == x)
      · rw [ha] at hbq
        go_wp2
        go_round
        case rel => exact ⟨k + 1, by omega, by go_num, fun j hj => by
          by_cases e : j = k
          · subst e; rw [← HF.out.2]; exact ha
          · exact HP.out j (by omega)⟩
        case measure => simp [intOf]; omega
      · rw [ha] at hbq
        have HV := Lib.hid (show (F.any fun u => u == x) = true by rw [List.any_eq_true]; exact ⟨f, HF.out.1, ha⟩)
        go_wp2
        go_ret
        exact ⟨ret_bool HV.out.symm, rfl⟩
    · have hkn : k = n := by omega
      have hv : (F.any fun u => u == x) = false := by
        rw [List.any_eq_false]
        intro f hf
        obtain ⟨j, hj, rfl⟩ := List.mem_iff_getElem.1 hf
        have := HP.out j (by rw [hkn, HM.out.2]; exact hj)
        rw [List.getD_eq_getElem?_getD, List.getElem?_eq_getElem hj, Option.getD_some] at this
        rw [this]; simp
      have HV := Lib.hid hv
      clear hv
      go_wp2
      go_ret
      exact ⟨ret_bool HV.out.symm, rfl⟩
end Go.Proofs.YtfiembmfkokllaaGreat

/- Contracts: valid shifts, by the program and by the reference. -/
namespace Go.Proofs.YtfiembmfkokllaaGreat
open Go.RowKit Go.Cm

theorem shOkAt_at {L : Int} {F : List (List UInt8)} {k : Nat} {x : List UInt8} (hx : x = F.getD k []) : shOkAt L F k = ((areLet L x && (decide (1 ≤ x.length) && decide (x.length ≤ 3))) && (decide (k = 0) || lessW (F.getD (k - 1) []) x)) := by
  unfold shOkAt
  rw [← hx]
theorem mkS_less (a b : List UInt8) : Op.bytesLess (mkS a).toList (mkS b).toList = lessW a b := by rw [mkS_list, mkS_list]; rfl

set_option maxRecDepth 100000 in
set_option maxHeartbeats 2000000 in
theorem impl_IsShift_any (L : Int) (u : Value) (F : List (List UInt8)) (w : World) (h : ReadsW w u F) (hF : ∀ f ∈ F, f.length ≤ maxLen) :
    Calls Tryz.prog 32 #[.agg #[.int .i64 L, u]] w fun e w' => e = .returned (.bool (shiftOk L F)) ∧ Ext w w' := by
  obtain ⟨pa, ca, rfl⟩ := h.slice
  obtain ⟨-, hlc, hc⟩ := h.len
  obtain ⟨n, hn⟩ : ∃ n, n = F.length := ⟨_, rfl⟩
  rw [← hn] at hlc h ⊢
  have hx := Ext.alloc w (.cells #[.int .i64 L, .slice pa n ca] 26)
  have HM := Lib.hid (And.intro (h.ext hx) (And.intro hn hF))
  clear h hn hF hx
  by_cases hL : 1 ≤ L ∧ L ≤ 3
  rotate_left
  · have HB := Lib.hid (And.intro (shiftOk_head (L := L) (F := F) (.inl hL)) (show (decide (1 ≤ L) && decide (L ≤ 3)) = false by rw [Bool.eq_false_iff]; simp; omega))
    clear hL
    go_enter Tryz.func32, Tryz.ntmps32
    go_wp2_with fail
    with_reducible refine (impl_isLetters_any _ _).mono ?_
    rintro e w' ⟨rfl, rfl⟩
    rw [HB.out.2]
    go_wp2
    go_ret
    exact ⟨ret_bool HB.out.1.symm, Ext.alloc _ _⟩
  by_cases h8 : n ≤ 8
  rotate_left
  · have HB := Lib.hid (And.intro (shiftOk_head (L := L) (F := F) (.inr (by rw [← HM.out.2.1]; exact h8))) (show (decide (1 ≤ L) && decide (L ≤ 3)) = true by simp; omega))
    clear hL
    go_enter Tryz.func32, Tryz.ntmps32
    go_wp2_with fail
    with_reducible refine (impl_isLetters_any _ _).mono ?_
    rintro e w' ⟨rfl, rfl⟩
    rw [HB.out.2]
    go_wp2
    go_ret
    exact ⟨ret_bool HB.out.1.symm, Ext.alloc _ _⟩
  have HB := Lib.hid (show (decide (1 ≤ L) && decide (L ≤ 3)) = true by simp; omega)
  have HA := Lib.hid (show ((decide (1 ≤ L) && decide (L ≤ 3)) && decide (F.length ≤ 8)) = true by rw [HB.out, ← HM.out.2.1, decide_eq_true h8]; rfl)
  clear hL
  go_enter Tryz.func32, Tryz.ntmps32
  go_wp2_with fail
  with_reducible refine (impl_isLetters_any _ _).mono ?_
  rintro e w' ⟨rfl, rfl⟩
  rw [HB.out]
  go_wp2
  go_loop [3, 4, 18] (fun _ _ i => ∃ k : Nat, k ≤ n ∧ i = .int .i64 k ∧ ∀ j, j < k → shOkAt L F j = true) (fun _ _ i => n - (intOf i).toNat)
  case atStart => exact ⟨0, by omega, rfl, fun j hj => by omega⟩
  case round =>
    obtain ⟨k, hk, rfl, hp⟩ := hrel
    have HP := Lib.hid hp
    clear hp
    by_cases hlt : k < n
    · have hkm : k < F.length := by rw [← HM.out.2.1]; exact hlt
      obtain ⟨b, o, rfl, hcell⟩ := HM.out.1.at k hkm
      have hmem : F.getD k [] ∈ F := by
        rw [List.getD_eq_getElem?_getD, List.getElem?_eq_getElem hkm]
        exact List.getElem_mem hkm
      have hfl := HM.out.2.2 _ hmem
      obtain ⟨f, hf⟩ : ∃ f, f = F.getD k [] := ⟨_, rfl⟩
      rw [← hf] at hcell hfl
      have hsz : (mkS f).size = f.length := mkS_size f
      have hfl' : (mkS f).size ≤ maxLen := by rw [hsz]; exact hfl
      have HF := Lib.hid (And.intro (shOkAt_at (L := L) hf) (And.intro hfl' hkm))
      have hfb : f.length ≤ 9223372036854775807 := by unfold maxLen at hfl; omega
      clear hmem hf hfl hfl'
      obtain ⟨A, hA⟩ : ∃ A, A = areLet L f := ⟨_, rfl⟩
      have hcall := fun w => impl_areLetters_any L (mkS f) w HF.out.2.1
      rw [mkS_data, ← hA] at hcall
      have HC := Lib.hid (And.intro hcall hA)
      clear hcall hA
      cases A
      · have HZ := Lib.hid (shiftOk_bad (L := L) HF.out.2.2 (by rw [HF.out.1, ← HC.out.2]; rfl))
        go_wp2_with fail
        with_reducible refine (HC.out.1 _).mono ?_
        rintro e w' ⟨rfl, rfl⟩
        go_wp2
        go_ret
        exact ⟨ret_bool HZ.out.symm, Ext.alloc _ _⟩
      by_cases h1 : f.length < 1
      · have HZ := Lib.hid (shiftOk_bad (L := L) HF.out.2.2 (by rw [HF.out.1, decide_eq_false (show ¬ 1 ≤ f.length by omega)]; simp))
        go_wp2_with fail
        with_reducible refine (HC.out.1 _).mono ?_
        rintro e w' ⟨rfl, rfl⟩
        go_wp2
        go_ret
        exact ⟨ret_bool HZ.out.symm, Ext.alloc _ _⟩
      by_cases h3 : 3 < f.length
      · have HZ := Lib.hid (shiftOk_bad (L := L) HF.out.2.2 (by rw [HF.out.1, decide_eq_false (show ¬ f.length ≤ 3 by omega)]; simp))
        go_wp2_with fail
        with_reducible refine (HC.out.1 _).mono ?_
        rintro e w' ⟨rfl, rfl⟩
        go_wp2
        go_ret
        exact ⟨ret_bool HZ.out.symm, Ext.alloc _ _⟩
      have HG := Lib.hid (show shOkAt L F k = (decide (k = 0) || lessW (F.getD (k - 1) []) f) by rw [HF.out.1, ← HC.out.2, decide_eq_true (show 1 ≤ f.length by omega), decide_eq_true (show f.length ≤ 3 by omega)]; rfl)
      by_cases hk0 : k = 0
      · subst hk0
        simp only [Nat.add_zero] at hcell
        go_wp2_with fail
        with_reducible refine (HC.out.1 _).mono ?_
        rintro e w' ⟨rfl, rfl⟩
        go_wp2
        go_round
        case rel => exact ⟨1, by omega, by go_num, fun j hj => by
          have e : j = 0 := by omega
          subst e; rw [HG.out]; rfl⟩
        case measure => simp [intOf]; omega
      · obtain ⟨j, hj⟩ : ∃ j, k = j + 1 := ⟨k - 1, by omega⟩
        have hkj : (k : Int) - 1 = (j : Int) := by omega
        have hjn : j < n := by omega
        have hk0' : 0 < k := by omega
        obtain ⟨_, _, e, hprev⟩ := HM.out.1.at j (by rw [← HM.out.2.1]; exact hjn)
        cases e
        have hcmp := mkS_less (F.getD j []) f
        obtain ⟨g, hg⟩ : ∃ g, g = F.getD j [] := ⟨_, rfl⟩
        obtain ⟨c, hcc⟩ : ∃ c, c = lessW g f := ⟨_, rfl⟩
        rw [← hg] at hprev hcmp
        rw [← hcc] at hcmp
        have HK := Lib.hid (show shOkAt L F k = c by rw [HG.out, decide_eq_false hk0, Bool.false_or, show k - 1 = j by omega, ← hg, ← hcc])
        clear hg hcc hj
        cases c
        · have HZ := Lib.hid (shiftOk_bad (L := L) HF.out.2.2 HK.out)
          go_wp2_with fail
          with_reducible refine (HC.out.1 _).mono ?_
          rintro e w' ⟨rfl, rfl⟩
          go_wp2
          go_ret
          exact ⟨ret_bool HZ.out.symm, Ext.alloc _ _⟩
        · go_wp2_with fail
          with_reducible refine (HC.out.1 _).mono ?_
          rintro e w' ⟨rfl, rfl⟩
          go_wp2
          go_round
          case rel => exact ⟨k + 1, by omega, by go_num, fun q hq => by
            by_cases e : q = k
            · subst e; exact HK.out
            · exact HP.out q (by omega)⟩
          case measure => simp [intOf]; omega
    · have hkn : k = n := by omega
      have HZ := Lib.hid ((shiftOk_all (L := L) (F := F) fun j hj => HP.out j (by rw [hkn, HM.out.2.1]; exact hj)).trans HA.out)
      go_wp2
      go_ret
      exact ⟨ret_bool HZ.out.symm, Ext.alloc _ _⟩

/-- .. by the reference, which looks at the words first -/
def shSpecAt (L : Int) (F : List (List UInt8)) (k : Nat) : Bool := (wordOk L (mkS (F.getD k [])) && (decide (1 ≤ (F.getD k []).length) && decide ((F.getD k []).length ≤ 3))) && (decide (k = 0) || lessW (F.getD (k - 1) []) (F.getD k []))
theorem shSpecAt_at {L : Int} {F : List (List UInt8)} {k : Nat} {x : List UInt8} (hx : x = F.getD k []) : shSpecAt L F k = ((wordOk L (mkS x) && (decide (1 ≤ x.length) && decide (x.length ≤ 3))) && (decide (k = 0) || lessW (F.getD (k - 1) []) x)) := by
  unfold shSpecAt
  rw [← hx]
theorem shSpecAt_ok {L : Int} {F : List (List UInt8)} (hL : 1 ≤ L ∧ L ≤ 3) (k : Nat) : shSpecAt L F k = shOkAt L F k := by
  unfold shSpecAt shOkAt wordOk
  rw [mkS_size, mkS_data, decide_eq_true hL.1, decide_eq_true hL.2]
  by_cases h : (F.getD k []).length ≤ 3
  · rw [decide_eq_true (show (F.getD k []).length ≤ 16 by omega)]
    simp
  · rw [decide_eq_false h]
    simp
theorem shSpec_bad {L : Int} {F : List (List UInt8)} {k : Nat} (hk : k < F.length) (h : shSpecAt L F k = false) : shiftOk L F = false := by
  by_cases hL : 1 ≤ L ∧ L ≤ 3
  · rw [shSpecAt_ok hL] at h
    exact shiftOk_bad hk h
  · exact shiftOk_head (.inl hL)
theorem shSpec_all {L : Int} {F : List (List UInt8)} (h : ∀ j, j < F.length → shSpecAt L F j = true) : shiftOk L F = ((decide (1 ≤ L) && decide (L ≤ 3)) && decide (F.length ≤ 8)) := by
  by_cases hL : 1 ≤ L ∧ L ≤ 3
  · exact shiftOk_all fun j hj => by rw [← shSpecAt_ok hL]; exact h j hj
  · rw [shiftOk_head (.inl hL)]
    symm
    simp
    omega

set_option maxRecDepth 100000 in
set_option maxHeartbeats 2000000 in
theorem spec_IsShift_any (L : Int) (u : Value) (F : List (List UInt8)) (w : World) (h : ReadsW w u F) (hF : ∀ f ∈ F, f.length ≤ maxLen) :
    Calls Tryz.prog 43 #[.agg #[.int .i64 L, u]] w fun e w' => e = .returned (.bool (shiftOk L F)) ∧ Ext w w' := by
  obtain ⟨pa, ca, rfl⟩ := h.slice
  obtain ⟨-, hlc, hc⟩ := h.len
  obtain ⟨n, hn⟩ : ∃ n, n = F.length := ⟨_, rfl⟩
  rw [← hn] at hlc h ⊢
  have hx := Ext.alloc w (.cells #[.int .i64 L, .slice pa n ca] 26)
  have HM := Lib.hid (And.intro (h.ext hx) (And.intro hn hF))
  clear h hn hF hx
  go_enter Tryz.func43, Tryz.ntmps43
  go_wp2
  go_loop [3, 4] (fun i _ => ∃ k : Nat, k ≤ n ∧ i = .int .i64 k ∧ ∀ j, j < k → shSpecAt L F j = true) (fun i _ => n - (intOf i).toNat)
  case atStart => exact ⟨0, by omega, rfl, fun j hj => by omega⟩
  case round =>
    obtain ⟨k, hk, rfl, hp⟩ := hrel
    have HP := Lib.hid hp
    clear hp
    by_cases hlt : k < n
    · have hkm : k < F.length := by rw [← HM.out.2.1]; exact hlt
      obtain ⟨b, o, rfl, hcell⟩ := HM.out.1.at k hkm
      have hmem : F.getD k [] ∈ F := by
        rw [List.getD_eq_getElem?_getD, List.getElem?_eq_getElem hkm]
        exact List.getElem_mem hkm
      have hfl := HM.out.2.2 _ hmem
      obtain ⟨f, hf⟩ : ∃ f, f = F.getD k [] := ⟨_, rfl⟩
      rw [← hf] at hcell hfl
      have hsz : (mkS f).size = f.length := mkS_size f
      have hfl' : (mkS f).size ≤ maxLen := by rw [hsz]; exact hfl
      have HF := Lib.hid (And.intro (shSpecAt_at (L := L) hf) (And.intro hfl' hkm))
      have hfb : f.length ≤ 9223372036854775807 := by unfold maxLen at hfl; omega
      clear hmem hf hfl hfl'
      obtain ⟨A, hA⟩ : ∃ A, A = wordOk L (mkS f) := ⟨_, rfl⟩
      have hcall := fun w => spec_IsWord_any L (mkS f) w HF.out.2.1
      rw [← hA] at hcall
      obtain ⟨E, hE⟩ : ∃ E, E = (decide ((1 : Int) ≤ (f.length : Int)) && decide ((f.length : Int) ≤ 3)) := ⟨_, rfl⟩
      have hcall2 := fun w => spec_l1In_any (f.length : Int) 1 3 w
      rw [← hE] at hcall2
      have hE' : (decide (1 ≤ f.length) && decide (f.length ≤ 3)) = E := by
        rw [hE, Bool.eq_iff_iff]
        simp
        omega
      have HC := Lib.hid (And.intro hcall (And.intro hA (And.intro hcall2 hE')))
      clear hcall hA hcall2 hE hE'
      cases A
      · have HZ := Lib.hid (shSpec_bad (L := L) HF.out.2.2 (by rw [HF.out.1, ← HC.out.2.1]; rfl))
        go_wp2_with fail
        with_reducible refine (HC.out.1 _).mono ?_
        rintro e w' ⟨rfl, rfl⟩
        go_wp2
        go_ret
        exact ⟨ret_bool HZ.out.symm, Ext.alloc _ _⟩
      cases E
      · have HZ := Lib.hid (shSpec_bad (L := L) HF.out.2.2 (by rw [HF.out.1, HC.out.2.2.2]; simp))
        go_wp2_with fail
        with_reducible refine (HC.out.1 _).mono ?_
        rintro e w' ⟨rfl, rfl⟩
        go_wp2_with fail
        with_reducible refine (HC.out.2.2.1 _).mono ?_
        rintro e w' ⟨rfl, rfl⟩
        go_wp2
        go_ret
        exact ⟨ret_bool HZ.out.symm, Ext.alloc _ _⟩
      have HG := Lib.hid (show shSpecAt L F k = (decide (k = 0) || lessW (F.getD (k - 1) []) f) by rw [HF.out.1, ← HC.out.2.1, HC.out.2.2.2]; rfl)
      by_cases hk0 : k = 0
      · subst hk0
        simp only [Nat.add_zero] at hcell
        go_wp2_with fail
        with_reducible refine (HC.out.1 _).mono ?_
        rintro e w' ⟨rfl, rfl⟩
        go_wp2_with fail
        with_reducible refine (HC.out.2.2.1 _).mono ?_
        rintro e w' ⟨rfl, rfl⟩
        go_wp2
        go_round
        case rel => exact ⟨1, by omega, by go_num, fun j hj => by
          have e : j = 0 := by omega
          subst e; rw [HG.out]; rfl⟩
        case measure => simp [intOf]; omega
      · obtain ⟨j, hj⟩ : ∃ j, k = j + 1 := ⟨k - 1, by omega⟩
        have hkj : (k : Int) - 1 = (j : Int) := by omega
        have hjn : j < n := by omega
        have hk0' : 0 < k := by omega
        obtain ⟨_, _, e, hprev⟩ := HM.out.1.at j (by rw [← HM.out.2.1]; exact hjn)
        cases e
        have hcmp := mkS_less (F.getD j []) f
        obtain ⟨g, hg⟩ : ∃ g, g = F.getD j [] := ⟨_, rfl⟩
        obtain ⟨c, hcc⟩ : ∃ c, c = lessW g f := ⟨_, rfl⟩
        rw [← hg] at hprev hcmp
        rw [← hcc] at hcmp
        have HK := Lib.hid (show shSpecAt L F k = c by rw [HG.out, decide_eq_false hk0, Bool.false_or, show k - 1 = j by omega, ← hg, ← hcc])
        clear hg hcc hj
        cases c
        · have HZ := Lib.hid (shSpec_bad (L := L) HF.out.2.2 HK.out)
          go_wp2_with fail
          with_reducible refine (HC.out.1 _).mono ?_
          rintro e w' ⟨rfl, rfl⟩
          go_wp2_with fail
          with_reducible refine (HC.out.2.2.1 _).mono ?_
          rintro e w' ⟨rfl, rfl⟩
          go_wp2
          go_ret
          exact ⟨ret_bool HZ.out.symm, Ext.alloc _ _⟩
        · go_wp2_with fail
          with_reducible refine (HC.out.1 _).mono ?_
          rintro e w' ⟨rfl, rfl⟩
          go_wp2_with fail
          with_reducible refine (HC.out.2.2.1 _).mono ?_
          rintro e w' ⟨rfl, rfl⟩
          go_wp2
          go_round
          case rel => exact ⟨k + 1, by omega, by go_num, fun q hq => by
            by_cases e : q = k
            · subst e; exact HK.out
            · exact HP.out q (by omega)⟩
          case measure => simp [intOf]; omega
    · have hkn : k = n := by omega
      have HZ := Lib.hid (shSpec_all (L := L) (F := F) fun j hj => HP.out j (by rw [hkn, HM.out.2.1]; exact hj))
      cases hb : (decide (1 ≤ L) && decide (L ≤ 3))
      · go_wp2_with fail
        with_reducible refine (spec_l1In_any _ _ _ _).mono ?_
        rintro e w' ⟨rfl, rfl⟩
        rw [hb]
        go_wp2
        go_ret
        exact ⟨ret_bool (by rw [HZ.out, hb]; rfl), Ext.alloc _ _⟩
      · have HN := Lib.hid (show decide (F.length ≤ 8) = decide (n ≤ 8) by rw [HM.out.2.1])
        go_wp2_with fail
        with_reducible refine (spec_l1In_any _ _ _ _).mono ?_
        rintro e w' ⟨rfl, rfl⟩
        rw [hb]
        go_wp2
        go_ret
        exact ⟨ret_bool (by rw [HZ.out, hb, HN.out, Bool.true_and, decide_eq_decide]; omega), Ext.alloc _ _⟩
end Go.Proofs.YtfiembmfkokllaaGreat

/- Contract: all words of a length, by the reference. -/
namespace Go.Cm
/-- a word with each of the first letters behind it -/
def ext1 (u : List UInt8) (x : Nat) : List (List UInt8) := (List.range x).map fun y => u ++ [letN y]
theorem ext1_succ (u : List UInt8) (x : Nat) : ext1 u (x + 1) = ext1 u x ++ [u ++ [letN x]] := by simp [ext1, List.range_succ]
/-- .. of the first j words -/
def midL (K i j : Nat) : List (List UInt8) := ((wordsL K i).take j).flatMap fun u => ext1 u K
theorem midL_succ (K i j : Nat) (u : List UInt8) (h : (wordsL K i)[j]? = some u) : midL K i (j + 1) = midL K i j ++ ext1 u K := by
  unfold midL
  rw [List.take_add_one, h]
  simp
theorem midL_all (K i : Nat) (hK : 0 < K) : midL K i (K ^ i) = wordsL K (i + 1) := by
  unfold midL
  rw [List.take_of_length_le (by simp [wordsL]), wordsL_succ K i hK]
  rfl
theorem midL_length (K i j : Nat) (hj : j ≤ K ^ i) : (midL K i j).length = j * K := by
  unfold midL
  rw [List.length_flatMap]
  have : ((wordsL K i).take j).map (fun u => (ext1 u K).length) = List.replicate j K := by
    apply List.ext_getElem
    · simp [wordsL]; omega
    · intro a h1 h2; simp [ext1]
  rw [this, List.sum_replicate_nat]
end Go.Cm
namespace Go.Proofs.YtfiembmfkokllaaGreat
open Go.RowKit Go.Cm

set_option maxRecDepth 100000 in
set_option maxHeartbeats 1000000 in
theorem spec_l2All_any (K n : Nat) (w : World) (hK0 : 0 < K) (hK : K ≤ 3) (hn : n ≤ 16) :
    Calls Tryz.prog 46 #[.int .i64 K, .int .i64 n] w fun e w' => ∃ v, e = .returned v ∧ Own w' w.heap.size 9 v (scells (wordsL K n)) ∧ Ext w w' := by
  go_enter Tryz.func46, Tryz.ntmps46
  go_wp2
  have hB0 : Own (w.alloc (.cells #[.string ⟨#[]⟩] 9)) w.heap.size 9 (.slice (some ⟨w.heap.size, 0, none⟩) 1 1) (scells (wordsL K 0)) := Own.lit w 9 [.string ⟨#[]⟩] (by simp [maxLen])
  go_loopw [5, 6, 7, 8, 9] (fun v i _ _ _ wr => ∃ k : Nat, k ≤ n ∧ i = .int .i64 k ∧ Own wr w.heap.size 9 v (scells (wordsL K k)) ∧ Ext w wr) (fun _ i _ _ _ _ => n - (intOf i).toNat)
  case atStart => exact ⟨0, by omega, rfl, hB0, Ext.alloc _ _⟩
  case round =>
    obtain ⟨k, hk, rfl, hown, hx⟩ := hrel
    by_cases hlt : k < n
    · have hlen : (scells (wordsL K k)).length = K ^ k := by simp [scells, wordsL]
      have hNp : 0 < K ^ k := Nat.pow_pos hK0
      have hNb : K ^ k ≤ 43046721 := by
        have h1 : K ^ k ≤ 3 ^ k := Nat.pow_le_pow_left hK k
        have h2 : 3 ^ k ≤ 3 ^ 16 := Nat.pow_le_pow_right (by omega) (by omega)
        have h3 : (3 : Nat) ^ 16 = 43046721 := by decide
        omega
      obtain ⟨N, hN⟩ : ∃ N, N = K ^ k := ⟨_, rfl⟩
      rw [← hN] at hlen hNp hNb
      have hsh := hown.shape
      rw [hlen] at hsh
      rcases hsh with ⟨_, hnil⟩ | ⟨g, cap, hv, _, hgs, _, _⟩
      · exfalso
        rw [hnil] at hlen
        simp at hlen
        omega
      subst hv
      have HN := Lib.hid (And.intro hN hlen)
      clear hN hlen
      have hB1 : Own (wr.alloc (.cells #[] 9)) wr.heap.size 9 (.slice (some ⟨wr.heap.size, 0, none⟩) 0 0) [] := Own.lit wr 9 [] (by simp)
      have hxa := hx.trans (Ext.alloc wr (.cells #[] 9))
      have howna := hown.ext (Ext.alloc wr (.cells #[] 9))
      have hBw : w.heap.size ≤ wr.heap.size := hx.size
      have hB2 := hB1.mono hBw
      have hg0 : ∀ j : Nat, (Value.slice (some ⟨g, 0, none⟩) N cap).ownBlock = some j → (Value.slice (some ⟨wr.heap.size, 0, none⟩) 0 0).ownBlock ≠ some j := by
        intro j hj
        simp [Value.ownBlock] at hj ⊢
        omega
      clear hown hx hB0 hB1
      obtain ⟨wo, rfl⟩ : ∃ wo : World, wo = wr := ⟨_, rfl⟩
      go_wp2
      go_loopw [7, 8, 9] (fun v j _ wm => ∃ q : Nat, q ≤ N ∧ j = .int .i64 q ∧ Own wm w.heap.size 9 v (scells (midL K k q)) ∧ Grew (wo.alloc (.cells #[] 9)) (.slice (some ⟨wo.heap.size, 0, none⟩) 0 0) wm v ∧ Ext w wm) (fun _ j _ _ => N - (intOf j).toNat)
      case atStart => exact ⟨0, by omega, rfl, by simpa [midL, scells] using hB2, Grew.refl _ _, hxa⟩
      case round =>
        obtain ⟨q, hq, rfl, hown, hgr, hx⟩ := hrel
        by_cases hltq : q < N
        · have hlw : q < (wordsL K k).length := by have := HN.out.2; simp [scells] at this; omega
          obtain ⟨u, hu⟩ : ∃ u, u = (wordsL K k)[q] := ⟨_, rfl⟩
          have huq : (wordsL K k)[q]? = some u := by rw [hu]; exact List.getElem?_eq_getElem hlw
          have hsu : (scells (wordsL K k))[q]? = some (.string (mkS u)) := by simp [scells, huq]
          have hul : u.length ≤ 16 := by rw [hu]; simp only [wordsL, List.getElem_map]; rw [wordL_length]; omega
          have hmid := midL_succ K k q u huq
          have hml := midL_length K k q (by have := HN.out.1; omega)
          have HU := Lib.hid (And.intro hsu (And.intro hmid (And.intro hml trivial)))
          clear hu huq hsu hmid hml hlw
          obtain ⟨wp, rfl⟩ : ∃ wp : World, wp = wr := ⟨_, rfl⟩
          go_wp2
          go_loopw [7, 9] (fun v x wi => ∃ y : Nat, y ≤ K ∧ x = .int .i64 y ∧ Own wi w.heap.size 9 v (scells (midL K k q ++ ext1 u y)) ∧ Grew (wo.alloc (.cells #[] 9)) (.slice (some ⟨wo.heap.size, 0, none⟩) 0 0) wi v ∧ Ext w wi) (fun _ x _ => K - (intOf x).toNat)
          case atStart => exact ⟨0, by omega, rfl, by simpa [ext1] using hown, hgr, hx⟩
          case round =>
            obtain ⟨y, hy, rfl, hown, hgr, hx⟩ := hrel
            by_cases hlty : y < K
            · have hcell : wr.cell? ⟨g, q, none⟩ = some (.string (mkS u)) := by
                have h1 := (hgr.own howna hg0).cell q (by rw [HN.out.2]; exact hltq)
                rw [h1]
                have h2 := HU.out.1
                rw [List.getElem?_eq_getElem (by rw [HN.out.2]; exact hltq)] at h2
                exact h2
              have habc := abc_at y (by omega)
              have hcat := mkS_append u [letN y]
              go_wp2
              refine wp_region_tail (by kernel_rfl) 11 [.known u7, .known (.slice (some ⟨g, 0, none⟩) N cap), .known (.int .i64 q), .known (.pointer (some ⟨g, q, none⟩)), .known (.string (mkS u)), .known (.int .i64 y), .known (.int .i64 y), .known (.int .i64 (y + 1)), .known (.string (mkS [letN y])), .known (.string (mkS (u ++ [letN y]))), .box (.string (mkS (u ++ [letN y])))] rfl (by decide) (by kernel_rfl) (by kernel_rfl) ?_ ?_
              · intro vs
                refine ⟨fun w' hx hj => ?_, fun w' hx hj => ?_, fun w' hx hj => ?_, fun w' hx hj => ?_, fun w' hx hj => ?_, fun w' hx hj => ?_, fun w' hx hj => ?_, fun w' hx hj => ?_, fun w' hx hj => ?_, fun w' hx hj => ?_, fun w' hx hj => ?_, trivial⟩
                · clear hj
                  go_simp
                · clear hj
                  go_simp
                · clear hj
                  go_simp
                · clear hj
                  go_simp
                · have c0 := Ext.cell_some hx hcell
                  clear hj
                  go_simp
                · clear hj
                  go_simp
                · clear hj
                  go_simp
                · have e1 : IntKind.i64.wrap ((y : Int) + 1) = y + 1 := IntWalk.i64_in _ (by omega)
                  clear hj
                  go_simp
                · have p1 : (0 : Int) ≤ (y : Int) + 1 := by omega
                  have p2 : (y : Int) + 1 ≤ 3 := by omega
                  have p3 : (y : Int) ≤ y + 1 := by omega
                  clear hj
                  go_simp
                · have p1 : ¬ 9223372036854775807 < (mkS u).size + (mkS [letN y]).size := by rw [mkS_size, mkS_size]; simp; omega
                  clear hj
                  go_simp
                · clear hj
                  go_simp
                  exact boxOf_new _ _ _
              · intro vs w3 hx3 hk
                have k10 : BoxOf (.string (mkS (u ++ [letN y]))) (vs 10) w3 := hk 10 _ rfl
                clear hk
                go_simp
                obtain ⟨bx, hbx, hcx⟩ := k10
                rw [hbx]
                clear hbx
                have hownb := hown.ext hx3
                have hgrb := hgr.ext hx3
                have hxb := hx.trans hx3
                have hln : (scells (midL K k q ++ ext1 u y)).length = q * K + y := by
                  have := HU.out.2.2.1
                  simp [scells, ext1, this]
                have hqK : q * K + y ≤ N * K := by
                  have h1 : (q + 1) * K ≤ N * K := Nat.mul_le_mul_right K (by omega)
                  rw [Nat.succ_mul] at h1
                  omega
                have hNK : N * K ≤ 43046721 * 3 := Nat.mul_le_mul hNb hK
                have hl1 : (scells (midL K k q ++ ext1 u y)).length + 1 ≤ maxLen := by unfold maxLen; omega
                have hl2 : ((scells (midL K k q ++ ext1 u y)).length + 1) * 16 ≤ 140737488355328 := by omega
                clear hln hqK hNK hown hgr hx hx3 hcell habc hcat
                go_wp2_with (at_builtin; refine wpList_append_one rfl (.tmp 28) (.tmp 38) 24 rfl 9 _ _ Tryz.underlying24 infoStr rfl w.heap.size _ _ rfl hownb bx _ rfl hcx rfl hl1 hl2 w rfl hxb ?_; intro v' w4 hown4 hx4 hmv)
                have hgr4 := hgrb.step hmv
                go_roundw
                case rel => exact ⟨y + 1, by omega, by go_num, by rw [ext1_succ]; simpa [scells] using hown4, hgr4, hx4⟩
                case measure => simp [intOf]; omega
            · have : y = K := by omega
              subst this
              go_wp2
              go_roundw
              case rel => exact ⟨q + 1, by omega, by go_num, by rw [HU.out.2.1]; exact hown, hgr, hx⟩
              case measure => simp [intOf]; omega
        · have : q = N := by omega
          subst this
          go_wp2
          go_roundw
          case rel => exact ⟨k + 1, by omega, by go_num, by have h1 := HN.out.1; rw [h1, midL_all K k hK0] at hown; exact hown, hx⟩
          case measure => simp [intOf]; omega
    · have : k = n := by omega
      subst this
      go_wp2
      go_ret
      exact ⟨_, rfl, hown, hx⟩
end Go.Proofs.YtfiembmfkokllaaGreat

