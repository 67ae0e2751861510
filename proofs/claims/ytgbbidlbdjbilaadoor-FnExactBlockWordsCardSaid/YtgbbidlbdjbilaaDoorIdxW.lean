/- Contracts: the index of a word in a list, by the library and by the reference. -/
import Derived.Test.YtgbbidlbdjbilaaDoorShI
namespace Go.Cm
/-- the index of a word in a list, -1 if it isn't there -/
def idxW (A : List (List UInt8)) (x : List UInt8) : Int := match A.findIdx? (· == x) with | some k => (k : Int) | none => -1
theorem idxW_hit {A : List (List UInt8)} {x : List UInt8} {k : Nat} (hk : k < A.length) (he : A.getD k [] = x) (hn : ∀ j, j < k → A.getD j [] ≠ x) : idxW A x = k := by
  have : A.findIdx? (· == x) = some k := by
    rw [List.findIdx?_eq_some_iff_getElem]
    refine ⟨hk, ?_, fun j hj => ?_⟩
    · rw [List.getD_eq_getElem?_getD, List.getElem?_eq_getElem hk] at he
      simpa using he
    · have := hn j hj
      rw [List.getD_eq_getElem?_getD, List.getElem?_eq_getElem (by omega)] at this
      simpa using this
  unfold idxW
  rw [this]
theorem idxW_miss {A : List (List UInt8)} {x : List UInt8} (hn : ∀ j, j < A.length → A.getD j [] ≠ x) : idxW A x = -1 := by
  have : A.findIdx? (· == x) = none := by
    rw [List.findIdx?_eq_none_iff]
    intro y hy
    obtain ⟨j, hj, rfl⟩ := List.mem_iff_getElem.1 hy
    have := hn j hj
    rw [List.getD_eq_getElem?_getD, List.getElem?_eq_getElem hj] at this
    simpa using this
  unfold idxW
  rw [this]
theorem idxW_bd (A : List (List UInt8)) (x : List UInt8) : -1 ≤ idxW A x ∧ idxW A x ≤ A.length := by
  unfold idxW
  cases h : A.findIdx? (· == x) with
  | none => simp
  | some k =>
    obtain ⟨hk, _⟩ := List.findIdx?_eq_some_iff_getElem.1 h
    simp only
    omega
end Go.Cm
namespace Go.Proofs.YtgbbidlbdjbilaaDoor
open Go.RowKit Go.Cm

set_option maxHeartbeats 1000000 in
theorem spec_l10Index_any (v : Value) (A : List (List UInt8)) (x : List UInt8) (w : World) (h : ReadsW w v A) (hA : A.length ≤ 1000) :
    Calls Tryd.prog 18 #[v, .string (mkS x)] w fun e w' => e = .returned (.int .i64 (idxW A x)) ∧ Ext w w' := by
  obtain ⟨pa, ca, rfl⟩ := h.slice
  obtain ⟨n, hn⟩ : ∃ n, n = A.length := ⟨_, rfl⟩
  rw [← hn] at h hA ⊢
  have HA := Lib.hid (And.intro h hn)
  clear h hn
  go_enter Tryd.func18, Tryd.ntmps18
  go_wp2
  go_loop [5] (fun i => ∃ k : Nat, k ≤ n ∧ i = .int .i64 k ∧ ∀ j, j < k → A.getD j [] ≠ x) (fun i => n - (intOf i).toNat)
  case atStart => exact ⟨0, by omega, rfl, fun j hj => by omega⟩
  case round =>
    obtain ⟨k, hk, rfl, hp⟩ := hrel
    have HP := Lib.hid hp
    clear hp
    by_cases hlt : k < n
    · obtain ⟨b, o, rfl, hcell⟩ := HA.out.1.at k (by rw [← HA.out.2]; exact hlt)
      have hbq := mkS_beq (A.getD k []) x
      have hbq2 := mkS_beq x (A.getD k [])
      obtain ⟨y, hy⟩ : ∃ y, y = A.getD k [] := ⟨_, rfl⟩
      rw [← hy] at hcell hbq hbq2
      have HY := Lib.hid hy
      clear hy
      by_cases he : y = x
      · have hbt : ((mkS y).toList == (mkS x).toList) = true := by rw [hbq]; simpa using he
        have hbt2 : ((mkS x).toList == (mkS y).toList) = true := by rw [hbq2]; simpa using he.symm
        have HE := Lib.hid (idxW_hit (A := A) (x := x) (k := k) (by rw [← HA.out.2]; exact hlt) (by rw [← HY.out]; exact he) HP.out)
        clear hbq hbq2 he
        go_wp2
        go_ret
        exact ⟨by rw [HE.out]; rfl, Ext.refl _⟩
      · have hbt : ((mkS y).toList == (mkS x).toList) = false := by rw [hbq]; simpa using he
        have hbt2 : ((mkS x).toList == (mkS y).toList) = false := by rw [hbq2]; simpa using fun e => he e.symm
        have HE := Lib.hid (show A.getD k [] ≠ x by rw [← HY.out]; exact he)
        clear hbq hbq2 he
        go_wp2
        go_round
        case rel => exact ⟨k + 1, by omega, by go_num, fun j hj => by
          by_cases e : j = k
          · rw [e]; exact HE.out
          · exact HP.out j (by omega)⟩
        case measure => simp [intOf]; omega
    · have hkn : k = n := by omega
      subst hkn
      have HE := Lib.hid (idxW_miss (A := A) (x := x) (by rw [← HA.out.2]; exact HP.out))
      go_wp2
      go_ret
      exact ⟨by rw [HE.out]; rfl, Ext.refl _⟩
set_option maxHeartbeats 1000000 in
theorem slicesIndexW_any (v : Value) (A : List (List UInt8)) (x : List UInt8) (w : World) (h : ReadsW w v A) (hA : A.length ≤ 1000) :
    Calls Tryd.prog 23 #[v, .string (mkS x)] w fun e w' => e = .returned (.int .i64 (idxW A x)) ∧ Ext w w' := by
  obtain ⟨pa, ca, rfl⟩ := h.slice
  obtain ⟨n, hn⟩ : ∃ n, n = A.length := ⟨_, rfl⟩
  rw [← hn] at h hA ⊢
  have HA := Lib.hid (And.intro h hn)
  clear h hn
  go_enter Tryd.func23, Tryd.ntmps23
  go_wp2
  go_loop [8] (fun i => ∃ k : Nat, k ≤ n ∧ i = .int .i64 k ∧ ∀ j, j < k → A.getD j [] ≠ x) (fun i => n - (intOf i).toNat)
  case atStart => exact ⟨0, by omega, rfl, fun j hj => by omega⟩
  case round =>
    obtain ⟨k, hk, rfl, hp⟩ := hrel
    have HP := Lib.hid hp
    clear hp
    by_cases hlt : k < n
    · obtain ⟨b, o, rfl, hcell⟩ := HA.out.1.at k (by rw [← HA.out.2]; exact hlt)
      have hbq := mkS_beq (A.getD k []) x
      have hbq2 := mkS_beq x (A.getD k [])
      obtain ⟨y, hy⟩ : ∃ y, y = A.getD k [] := ⟨_, rfl⟩
      rw [← hy] at hcell hbq hbq2
      have HY := Lib.hid hy
      clear hy
      by_cases he : y = x
      · have hbt : ((mkS y).toList == (mkS x).toList) = true := by rw [hbq]; simpa using he
        have hbt2 : ((mkS x).toList == (mkS y).toList) = true := by rw [hbq2]; simpa using he.symm
        have HE := Lib.hid (idxW_hit (A := A) (x := x) (k := k) (by rw [← HA.out.2]; exact hlt) (by rw [← HY.out]; exact he) HP.out)
        clear hbq hbq2 he
        go_wp2
        go_ret
        exact ⟨by rw [HE.out]; rfl, Ext.refl _⟩
      · have hbt : ((mkS y).toList == (mkS x).toList) = false := by rw [hbq]; simpa using he
        have hbt2 : ((mkS x).toList == (mkS y).toList) = false := by rw [hbq2]; simpa using fun e => he e.symm
        have HE := Lib.hid (show A.getD k [] ≠ x by rw [← HY.out]; exact he)
        clear hbq hbq2 he
        go_wp2
        go_round
        case rel => exact ⟨k + 1, by omega, by go_num, fun j hj => by
          by_cases e : j = k
          · rw [e]; exact HE.out
          · exact HP.out j (by omega)⟩
        case measure => simp [intOf]; omega
    · have hkn : k = n := by omega
      subst hkn
      have HE := Lib.hid (idxW_miss (A := A) (x := x) (by rw [← HA.out.2]; exact HP.out))
      go_wp2
      go_ret
      exact ⟨by rw [HE.out]; rfl, Ext.refl _⟩
end Go.Proofs.YtgbbidlbdjbilaaDoor
