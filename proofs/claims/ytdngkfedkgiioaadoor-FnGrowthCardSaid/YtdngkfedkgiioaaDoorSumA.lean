/- Contracts: sums of matrices, graphs, by the program and by the reference. -/
import Derived.Test.YtdngkfedkgiioaaDoorPkC
import Derived.Test.YtdngkfedkgiioaaDoorPkB
namespace Go.Proofs.YtdngkfedkgiioaaDoor
open Go.RowKit Go.Mx

def sumV (m : List (List Int)) : Int := if isMat m = true then sumM m else -1
theorem sumV_yes {m : List (List Int)} (h : isMat m = true) : sumV m = sumM m := if_pos h
theorem sumV_no {m : List (List Int)} (h : isMat m = false) : sumV m = -1 := if_neg (by simp [h])

set_option maxHeartbeats 2000000 in
theorem spec_SumOf_any (v : Value) (m : List (List Int)) (w : World) (h : ReadsRows w v m) :
    Calls Tryd.prog 94 #[v] w fun e w' => e = .returned (.int .i64 (sumV m)) ∧ w = w' := by
  have hi := spec_IsMatrix_any v m w h
  cases hm : isMat m with
  | false =>
    rw [hm] at hi
    have HI := Lib.hid (And.intro hi (sumV_no hm))
    clear hi hm
    go_enter Tryd.func94, Tryd.ntmps94
    go_wp2_with (go_at_call 64; with_reducible refine HI.out.1.mono ?_; rintro e w' ⟨rfl, rfl⟩)
    go_ret
    exact ⟨by rw [HI.out.2]; rfl, rfl⟩
  | true =>
    rw [hm] at hi
    have hM := isMat_yes hm
    have h9 := hM.le
    have hv := sumV_yes hm
    obtain ⟨a, c, rfl⟩ := h.slice
    obtain ⟨-, hlc, hc⟩ := h.len
    have hall : sumTo m m.length = sumM m := rfl
    obtain ⟨n, hn⟩ : ∃ n, n = m.length := ⟨_, rfl⟩
    rw [← hn] at h hlc hM h9 hi hall ⊢
    have HM := Lib.hid (And.intro h (And.intro hn (And.intro hM (And.intro hi (And.intro hv hall)))))
    clear h hn hM hi hm hv hall
    go_enter Tryd.func94, Tryd.ntmps94
    go_wp2_with (go_at_call 64; with_reducible refine HM.out.2.2.2.1.mono ?_; rintro e w' ⟨rfl, rfl⟩)
    go_loop [3, 4] (fun s i => ∃ k : Nat, k ≤ n ∧ i = .int .i64 k ∧ s = .int .i64 (sumTo m k)) (fun _ i => n - (intOf i).toNat)
    case atStart => exact ⟨0, by omega, rfl, rfl⟩
    case round =>
      obtain ⟨k, hk, rfl, rfl⟩ := hrel
      by_cases hlt : k < n
      · obtain ⟨b, o, a', c', rfl, hcell, hrow⟩ := HM.out.1.at k (by rw [← HM.out.2.1]; exact hlt)
        have hlr := HM.out.2.2.1.row k hlt
        rw [hlr] at hcell hrow
        have hlc2 := hrow.len.2.1
        obtain ⟨hs1, hs2⟩ := HM.out.2.2.1.sumTo_bd k
        have hsucc := sumTo_succ m k
        obtain ⟨r, hr⟩ : ∃ r, r = m.getD k [] := ⟨_, rfl⟩
        obtain ⟨s, hss⟩ : ∃ s, s = sumTo m k := ⟨_, rfl⟩
        have hrb : ∀ j, 0 ≤ r.getD j 0 ∧ r.getD j 0 ≤ 1000000 := fun j => by rw [hr]; exact ⟨HM.out.2.2.1.low k j, HM.out.2.2.1.high k j⟩
        rw [← hss] at hs1 hs2 hsucc ⊢
        rw [← hr] at hsucc hlr hrow
        have hs3 : s ≤ 9000000000 := by omega
        have HT := Lib.hid (And.intro hsucc (And.intro hlr (And.intro hrow hrb)))
        clear hsucc hss hr hrow hs2 hlr hrb
        go_wp2
        go_loop [3, 5] (fun z i => ∃ j : Nat, j ≤ n ∧ i = .int .i64 j ∧ z = .int .i64 (s + (r.take j).sum)) (fun _ i => n - (intOf i).toNat)
        case atStart => exact ⟨0, by omega, rfl, by simp⟩
        case round =>
          obtain ⟨j, hj, rfl, rfl⟩ := hrel
          by_cases hltj : j < n
          · obtain ⟨b', o', rfl, hcell'⟩ := HT.out.2.2.1.at j (by rw [HT.out.2.1]; exact hltj)
            have hsj := sum_take_succ r j (by rw [HT.out.2.1]; exact hltj)
            obtain ⟨hp1, hp2⟩ := sum_take_pos r 1000000 (by omega) HT.out.2.2.2 j
            obtain ⟨hy1, hy2⟩ := HT.out.2.2.2 j
            obtain ⟨y, hyy⟩ : ∃ y, y = r.getD j 0 := ⟨_, rfl⟩
            obtain ⟨p, hp⟩ : ∃ y, y = (r.take j).sum := ⟨_, rfl⟩
            rw [← hyy] at hcell' hsj hy1 hy2
            rw [← hp] at hsj hp1 hp2 ⊢
            have hp3 : p ≤ 9000000 := by omega
            have HJ := Lib.hid hsj
            clear hsj hyy hp hp2
            go_wp2
            go_round
            case rel => exact ⟨j + 1, by omega, by go_num, by rw [HJ.out, Int.add_assoc]⟩
            case measure => simp [intOf]; omega
          · have hjn : j = n := by omega
            have e : s + (r.take j).sum = sumTo m (k + 1) := by rw [HT.out.1, hjn, ← HT.out.2.1, List.take_length]
            rw [e]
            have HE := Lib.hid e
            clear e
            subst hjn
            go_wp2
            go_round
            case rel => exact ⟨k + 1, by omega, by go_num, rfl⟩
            case measure => simp [intOf]; omega
      · have hkn : k = n := by omega
        subst hkn
        go_wp2
        go_ret
        exact ⟨by rw [HM.out.2.2.2.2.1, ← HM.out.2.2.2.2.2]; rfl, rfl⟩

def isGr (m : List (List Int)) : Bool := isMat m && decide (sumM m ≤ 60)
end Go.Proofs.YtdngkfedkgiioaaDoor
