/- Contracts: parts of words, words without forbidden parts, by the program and by the reference. -/
import Derived.Test.YtgbbidlbdjbilaaDoorShMath
import Derived.Test.YtgbbidlbdjbilaaDoorApplyA
import Derived.Test.YtgbbidlbdjbilaaDoorApplyC
import Derived.Test.YtgbbidlbdjbilaaDoorLawMat
import Derived.Test.YtgbbidlbdjbilaaDoorShelf
namespace Go.Proofs.YtgbbidlbdjbilaaDoor
open Go.RowKit Go.Cm

/-- the library's variable holds some number -/
def MaxC (w : World) : Prop := ∃ m, w.cell? ⟨0, 0, none⟩ = some (.int .i64 m)
theorem MaxC.ext {w w' : World} (h : MaxC w) (hx : Ext w w') : MaxC w' := by
  obtain ⟨m, hm⟩ := h
  exact ⟨m, hx.cell_some hm⟩
theorem MaxC.of {w : World} (h : w.ShapedOpen Tryd.prog) : MaxC w := Tryd.laysM144.s1_3 w h

/-- a row of words -/
def ReadsW (w : World) (v : Value) (F : List (List UInt8)) : Prop := Reads w v (scells F)
theorem ReadsW.ext {w w' : World} {v : Value} {F : List (List UInt8)} (h : ReadsW w v F) (hx : Ext w w') : ReadsW w' v F := Reads.ext h hx
theorem ReadsW.slice {w : World} {v : Value} {F : List (List UInt8)} (h : ReadsW w v F) : ∃ a c, v = .slice a F.length c := by
  obtain ⟨a', cap, hv, _⟩ := h
  exact ⟨a', cap, by simpa [scells] using hv⟩
theorem ReadsW.len {w : World} {a : Option Addr} {n c : Nat} {F : List (List UInt8)} (h : ReadsW w (.slice a n c) F) : n = F.length ∧ n ≤ c ∧ c ≤ 9223372036854775807 := by
  obtain ⟨a', cap, hv, h1, h2, h3⟩ := h
  injection hv with e1 e2 e3
  unfold maxLen at h2
  simp [scells] at h1 e2
  omega
theorem ReadsW.at {w : World} {a : Option Addr} {n c : Nat} {F : List (List UInt8)} (h : ReadsW w (.slice a n c) F) (j : Nat) (hj : j < F.length) :
    ∃ b o, a = some ⟨b, o, none⟩ ∧ w.cell? ⟨b, o + j, none⟩ = some (.string (mkS (F.getD j []))) := by
  obtain ⟨a', cap, hv, h1, h2, h3⟩ := h
  injection hv with e1 e2 e3
  obtain ⟨b, o, ha, hc⟩ := h3 j (by simpa [scells] using hj)
  exact ⟨b, o, e1.trans ha, by rw [hc]; simp [scells, List.getD_eq_getElem?_getD, List.getElem?_eq_getElem hj]⟩
theorem Own.readsW {w : World} {B : Nat} {E : TypeId} {v : Value} {F : List (List UInt8)} (h : Own w B E v (scells F)) : ReadsW w v F := h.reads
theorem scells_length (F : List (List UInt8)) : (scells F).length = F.length := by simp [scells]
theorem scells_at (F : List (List UInt8)) (j : Nat) (h : j < F.length) : (scells F)[j]'(by rw [scells_length]; exact h) = .string (mkS (F.getD j [])) := by
  simp [scells, List.getD_eq_getElem?_getD, List.getElem?_eq_getElem h]
theorem Own.word_at {w : World} {B : Nat} {E : TypeId} {g n cap : Nat} {F : List (List UInt8)} (h : Own w B E (.slice (some ⟨g, 0, none⟩) n cap) (scells F)) (j : Nat) (hj : j < F.length) : w.cell? ⟨g, j, none⟩ = some (.string (mkS (F.getD j []))) := by
  have := h.cell j (by rw [scells_length]; exact hj)
  rw [scells_at _ _ hj] at this
  exact this

theorem mkS_list (l : List UInt8) : (mkS l).toList = l := by
  rw [Lib.toList_data, mkS_data]
theorem mkS_beq (a b : List UInt8) : ((mkS a).toList == (mkS b).toList) = (a == b) := by rw [mkS_list, mkS_list]
theorem mkS_part (u : List UInt8) (a n : Nat) : (mkS u).extract a (a + n) = mkS ((u.drop a).take n) := by
  rw [extract_part, mkS_data]
  rfl

theorem contains_any (u f : List UInt8) (w : World) (hm : MaxC w) (hl : u.length ≤ 1048576) :
    Calls Tryd.prog 44 #[.string (mkS u), .string (mkS f)] w fun e w' => e = .returned (.bool (occ u f)) ∧ w = w' := by
  obtain ⟨m, hm⟩ := hm
  refine (Tryd.strings_Contains (mkS u) (mkS f) m w (by rw [mkS_size]; omega) hm).mono fun e w' ⟨h1, h2⟩ => ?_
  rw [mkS_data, mkS_data] at h1
  exact ⟨h1, h2.symm⟩

set_option maxHeartbeats 400000 in
theorem impl_avoids_any (L : Int) (v : Value) (F : List (List UInt8)) (x : List UInt8) (w : World) (h : ReadsW w v F) (hm : MaxC w) (hl : x.length ≤ 1048576) :
    Calls Tryd.prog 41 #[.agg #[.int .i64 L, v], .string (mkS x)] w fun e w' => e = .returned (.bool (avoidL F x)) ∧ Ext w w' := by
  obtain ⟨a, c, rfl⟩ := h.slice
  obtain ⟨-, hlc, hc⟩ := h.len
  obtain ⟨n, hn⟩ : ∃ n, n = F.length := ⟨_, rfl⟩
  rw [← hn] at hlc h ⊢
  have hx := Ext.alloc w (.cells #[.int .i64 L, .slice a n c] 27)
  have HM := Lib.hid (And.intro (h.ext hx) (And.intro hn (hm.ext hx)))
  clear h hn hm
  go_enter Tryd.func41, Tryd.ntmps41
  go_wp2
  go_loop [6, 10] (fun _ i => ∃ k : Nat, k ≤ n ∧ i = .int .i64 k ∧ ∀ j, j < k → occ x (F.getD j []) = false) (fun _ i => n - (intOf i).toNat)
  case atStart => exact ⟨0, by omega, rfl, fun j hj => by omega⟩
  case round =>
    obtain ⟨k, hk, rfl, hp⟩ := hrel
    have HP := Lib.hid hp
    clear hp
    by_cases hlt : k < n
    · have hkm : k < F.length := by rw [← HM.out.2.1]; exact hlt
      obtain ⟨b, o, rfl, hcell⟩ := HM.out.1.at k hkm
      have hmem : F.getD k [] ∈ F := by
        rw [List.getD_eq_getElem?_getD, List.getElem?_eq_getElem hkm]
        exact List.getElem_mem hkm
      obtain ⟨f, hf⟩ : ∃ f, f = F.getD k [] := ⟨_, rfl⟩
      rw [← hf] at hcell hmem
      have HF := Lib.hid (And.intro hmem hf)
      clear hmem hf hkm
      go_wp2_with fail
      with_reducible refine (contains_any x f _ HM.out.2.2 hl).mono ?_
      rintro e w1 ⟨rfl, rfl⟩
      cases ho : occ x f
      · go_wp2
        go_round
        case rel => exact ⟨k + 1, by omega, by go_num, fun j hj => by
          by_cases e : j = k
          · subst e; rw [← HF.out.2]; exact ho
          · exact HP.out j (by omega)⟩
        case measure => simp [intOf]; omega
      · go_wp2
        go_ret
        exact ⟨ret_bool (avoidL_bad HF.out.1 ho).symm, Ext.alloc _ _⟩
    · have hkn : k = n := by omega
      have hv : avoidL F x = true := by
        unfold avoidL
        rw [List.all_eq_true]
        intro f hf
        obtain ⟨j, hj, rfl⟩ := List.mem_iff_getElem.1 hf
        have := HP.out j (by rw [hkn, HM.out.2.1]; exact hj)
        rw [List.getD_eq_getElem?_getD, List.getElem?_eq_getElem hj, Option.getD_some] at this
        rw [this]; rfl
      have HV := Lib.hid hv
      clear hv
      go_wp2
      go_ret
      exact ⟨ret_bool HV.out.symm, Ext.alloc _ _⟩

set_option maxHeartbeats 400000 in
theorem spec_OccursIn_any (u f : List UInt8) (w : World) (hl : u.length ≤ 1048576) (hf : f.length ≤ 1048576) :
    Calls Tryd.prog 40 #[.string (mkS u), .string (mkS f)] w fun e w' => e = .returned (.bool (occ u f)) ∧ w = w' := by
  have hs1 : (mkS u).size = u.length := mkS_size u
  have hs2 : (mkS f).size = f.length := mkS_size f
  go_enter Tryd.func40, Tryd.ntmps40
  go_wp2
  go_loop [5] (fun i => ∃ j : Nat, j ≤ u.length + 1 ∧ i = .int .i64 j ∧ ∀ q, q < j → q + f.length ≤ u.length → atB u f q = false) (fun i => u.length + 1 - (intOf i).toNat)
  case atStart => exact ⟨0, by omega, rfl, fun q hq => by omega⟩
  case round =>
    obtain ⟨j, hj, rfl, hp⟩ := hrel
    have HP := Lib.hid hp
    clear hp
    by_cases hlt : j + f.length ≤ u.length
    · have hsl := mkS_part u j f.length
      have hbq := mkS_beq ((u.drop j).take f.length) f
      rw [show ((u.drop j).take f.length == f) = atB u f j from rfl] at hbq
      cases ha : atB u f j
      · rw [ha] at hbq
        go_wp2
        go_round
        case rel => exact ⟨j + 1, by omega, by go_num, fun q hq hq2 => by
          by_cases e : q = j
          · subst e; exact ha
          · exact HP.out q (by omega) hq2⟩
        case measure => simp [intOf]; omega
      · rw [ha] at hbq
        have HO := Lib.hid (occ_of_at ha)
        go_wp2
        go_ret
        exact ⟨ret_bool HO.out.symm, rfl⟩
    · have HO := Lib.hid (occ_none (s := u) (f := f) fun q hq => HP.out q (by omega) hq)
      go_wp2
      go_ret
      exact ⟨ret_bool HO.out.symm, rfl⟩

set_option maxHeartbeats 400000 in
theorem spec_l3Avoids_any (v : Value) (F : List (List UInt8)) (x : List UInt8) (w : World) (h : ReadsW w v F) (hF : ∀ f ∈ F, f.length ≤ 1048576) (hl : x.length ≤ 1048576) :
    Calls Tryd.prog 38 #[v, .string (mkS x)] w fun e w' => e = .returned (.bool (avoidL F x)) ∧ w = w' := by
  obtain ⟨a, c, rfl⟩ := h.slice
  obtain ⟨-, hlc, hc⟩ := h.len
  obtain ⟨n, hn⟩ : ∃ n, n = F.length := ⟨_, rfl⟩
  rw [← hn] at hlc h ⊢
  have HM := Lib.hid (And.intro h (And.intro hn hF))
  clear h hn hF
  go_enter Tryd.func38, Tryd.ntmps38
  go_wp2
  go_loop [5] (fun i => ∃ k : Nat, k ≤ n ∧ i = .int .i64 k ∧ ∀ j, j < k → occ x (F.getD j []) = false) (fun i => n - (intOf i).toNat)
  case atStart => exact ⟨0, by omega, rfl, fun j hj => by omega⟩
  case round =>
    obtain ⟨k, hk, rfl, hp⟩ := hrel
    have HP := Lib.hid hp
    clear hp
    by_cases hlt : k < n
    · have hkm : k < F.length := by rw [← HM.out.2.1]; exact hlt
      obtain ⟨b, o, rfl, hcell⟩ := HM.out.1.at k hkm
      have hmem : F.getD k [] ∈ F := by
        rw [List.getD_eq_getElem?_getD, List.getElem?_eq_getElem hkm]
        exact List.getElem_mem hkm
      obtain ⟨f, hf⟩ : ∃ f, f = F.getD k [] := ⟨_, rfl⟩
      rw [← hf] at hcell hmem
      have HF := Lib.hid (And.intro hmem hf)
      clear hmem hf hkm
      go_wp2_with fail
      with_reducible refine (spec_OccursIn_any x f _ hl (HM.out.2.2 f HF.out.1)).mono ?_
      rintro e w1 ⟨rfl, rfl⟩
      cases ho : occ x f
      · go_wp2
        go_round
        case rel => exact ⟨k + 1, by omega, by go_num, fun j hj => by
          by_cases e : j = k
          · subst e; rw [← HF.out.2]; exact ho
          · exact HP.out j (by omega)⟩
        case measure => simp [intOf]; omega
      · go_wp2
        go_ret
        exact ⟨ret_bool (avoidL_bad HF.out.1 ho).symm, rfl⟩
    · have hkn : k = n := by omega
      have hv : avoidL F x = true := by
        unfold avoidL
        rw [List.all_eq_true]
        intro f hf
        obtain ⟨j, hj, rfl⟩ := List.mem_iff_getElem.1 hf
        have := HP.out j (by rw [hkn, HM.out.2.1]; exact hj)
        rw [List.getD_eq_getElem?_getD, List.getElem?_eq_getElem hj, Option.getD_some] at this
        rw [this]; rfl
      have HV := Lib.hid hv
      clear hv
      go_wp2
      go_ret
      exact ⟨ret_bool HV.out.symm, rfl⟩

set_option maxHeartbeats 400000 in
theorem spec_l2HasText_any (v : Value) (F : List (List UInt8)) (x : List UInt8) (w : World) (h : ReadsW w v F) :
    Calls Tryd.prog 39 #[v, .string (mkS x)] w fun e w' => e = .returned (.bool (F.any fun u => u == x)) ∧ w = w' := by
  obtain ⟨a, c, rfl⟩ := h.slice
  obtain ⟨-, hlc, hc⟩ := h.len
  obtain ⟨n, hn⟩ : ∃ n, n = F.length := ⟨_, rfl⟩
  rw [← hn] at hlc h ⊢
  have HM := Lib.hid (And.intro h hn)
  clear h hn
  go_enter Tryd.func39, Tryd.ntmps39
  go_wp2
  go_loop [5] (fun i => ∃ k : Nat, k ≤ n ∧ i = .int .i64 k ∧ ∀ j, j < k → (F.getD j [] == x) = false) (fun i => n - (intOf i).toNat)
  case atStart => exact ⟨0, by omega, rfl, fun j hj => by omega⟩
  case round =>
    obtain ⟨k, hk, rfl, hp⟩ := hrel
    have HP := Lib.hid hp
    clear hp
    by_cases hlt : k < n
    · have hkm : k < F.length := by rw [← HM.out.2]; exact hlt
      obtain ⟨b, o, rfl, hcell⟩ := HM.out.1.at k hkm
      have hmem : F.getD k [] ∈ F := by
        rw [List.getD_eq_getElem?_getD, List.getElem?_eq_getElem hkm]
        exact List.getElem_mem hkm
      obtain ⟨f, hf⟩ : ∃ f, f = F.getD k [] := ⟨_, rfl⟩
      rw [← hf] at hcell hmem
      have HF := Lib.hid (And.intro hmem hf)
      clear hmem hf hkm
      have hbq := mkS_beq f x
      cases ha : (f == x)
      · rw [ha] at hbq
        go_wp2
        go_round
        case rel => exact ⟨k + 1, by omega, by go_num, fun j hj => by
          by_cases e : j = k
          · subst e; rw [← HF.out.2]; exact ha
          · exact HP.out j (by omega)⟩
        case measure => simp [intOf]; omega
      · rw [ha] at hbq
        have HV := Lib.hid (show (F.any fun u => u == x) = true by rw [List.any_eq_true]; exact ⟨f, HF.out.1, ha⟩)
        go_wp2
        go_ret
        exact ⟨ret_bool HV.out.symm, rfl⟩
    · have hkn : k = n := by omega
      have hv : (F.any fun u => u == x) = false := by
        rw [List.any_eq_false]
        intro f hf
        obtain ⟨j, hj, rfl⟩ := List.mem_iff_getElem.1 hf
        have := HP.out j (by rw [hkn, HM.out.2]; exact hj)
        rw [List.getD_eq_getElem?_getD, List.getElem?_eq_getElem hj, Option.getD_some] at this
        rw [this]; simp
      have HV := Lib.hid hv
      clear hv
      go_wp2
      go_ret
      exact ⟨ret_bool HV.out.symm, rfl⟩
end Go.Proofs.YtgbbidlbdjbilaaDoor
