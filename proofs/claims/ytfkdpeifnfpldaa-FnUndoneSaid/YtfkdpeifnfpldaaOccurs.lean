/- Contract: the reference's OccursIn, for one letter. -/
import Derived.Test.YtfkdpeifnfpldaaPkC
namespace Go.Proofs.Ytfkdpeifnfpldaa
open Go.RowKit Go.Cm

set_option maxHeartbeats 400000 in
theorem spec_OccursIn_one (l : List UInt8) (c : UInt8) (w : World) (hl : l.length ≤ 1048576) :
    Calls Try.prog 75 #[.string (mkS l), .string (mkS [c])] w fun e w' => e = .returned (.bool (decide (c ∈ l))) ∧ w = w' := by
  have hs1 : (mkS l).size = l.length := mkS_size l
  have hs2 : (mkS [c]).size = 1 := mkS_size [c]
  go_enter Try.func75, Try.ntmps75
  go_wp2
  go_loop [5] (fun i => ∃ j : Nat, j ≤ l.length ∧ i = .int .i64 j ∧ c ∉ l.take j) (fun i => l.length - (intOf i).toNat)
  case atStart => exact ⟨0, by omega, rfl, by simp⟩
  case round =>
    obtain ⟨j, hj, rfl, hp⟩ := hrel
    have HP := Lib.hid hp
    clear hp
    by_cases hlt : j < l.length
    · have hsl := mkS_slice l j hlt
      have htk : l.take (j + 1) = l.take j ++ [l.getD j 0] := by
        rw [List.getD_eq_getElem?_getD, List.getElem?_eq_getElem hlt]; exact List.take_succ_eq_append_getElem hlt
      have hmem : l.getD j 0 ∈ l := by
        rw [List.getD_eq_getElem?_getD, List.getElem?_eq_getElem hlt]; exact List.getElem_mem _
      obtain ⟨d, hd⟩ : ∃ d, d = l.getD j 0 := ⟨_, rfl⟩
      rw [← hd] at hsl htk hmem
      have HT := Lib.hid (And.intro htk hmem)
      clear htk hmem hd
      by_cases hcd : d = c
      · subst hcd
        go_wp2
        go_ret
        exact ⟨ret_bool (by simpa using HT.out.2), rfl⟩
      · have hne : ((mkS [d]).toList == (mkS [c]).toList) = false := by
          simp only [beq_eq_false_iff_ne, ne_eq]
          intro h
          have := congrArg (fun s : ByteArray => s.data.toList) (bytes_eq h)
          simp only [mkS_data] at this
          exact hcd (by simpa using this)
        go_wp2
        go_round
        case rel =>
          refine ⟨j + 1, by omega, by go_num, ?_⟩
          rw [HT.out.1]
          intro h
          rcases List.mem_append.1 h with h | h
          · exact HP.out h
          · have h2 : c = d := by simpa using h
            exact hcd h2.symm
        case measure => simp [intOf]; omega
    · have hjl : j = l.length := by omega
      subst hjl
      go_wp2
      go_ret
      have hn : c ∉ l := by have := HP.out; rwa [List.take_length] at this
      exact ⟨ret_bool (by simp [hn]), rfl⟩
end Go.Proofs.Ytfkdpeifnfpldaa
