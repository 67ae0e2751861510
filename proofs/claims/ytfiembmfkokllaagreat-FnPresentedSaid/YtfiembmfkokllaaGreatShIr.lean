/- Contracts: whether the graph of a shift is irreducible, by the program and by the reference. -/
import Derived.Test.YtfiembmfkokllaaGreatShGs
import Derived.Test.YtfiembmfkokllaaGreatReachB
namespace Go.Proofs.YtfiembmfkokllaaGreat
open Go.RowKit Go.Cm Go.Mx

theorem containsI_any (v : Value) (xs : List Int) (x : Int) (w : World) (h : ReadsI w v xs) :
    Calls Tryz.prog 86 #[v, .int .i64 x] w fun e w' => e = .returned (.bool (xs.contains x)) ∧ w = w' := by
  obtain ⟨a, c, rfl⟩ := h.slice
  obtain ⟨-, hlc, hc⟩ := h.len
  by_cases h0 : xs.length = 0
  · have hx : xs = [] := List.eq_nil_of_length_eq_zero h0
    subst hx
    exact (Tryz.slices_Contains_int_empty a c x w).mono fun e w' ⟨h1, h2⟩ => ⟨by rw [h1]; rfl, h2.symm⟩
  obtain ⟨b, o, rfl, _⟩ := h.at 0 (by omega)
  refine (Tryz.slices_Contains_int b o xs.length c xs x w (Nat.le_refl _) (by omega) fun j hj => ?_).mono fun e w' ⟨h1, h2⟩ => ⟨?_, h2.symm⟩
  · obtain ⟨_, _, e, hcell⟩ := h.at j hj
    cases e
    exact hcell
  · rw [h1, List.take_length]

/-- all vertices reach all -/
def irrB (m : List (List Int)) : Bool := (reachM m).all fun r => !(r.contains 0)

set_option maxHeartbeats 2000000 in
theorem impl_isIrreducible_any (v : Value) (m : List (List Int)) (n : Nat) (w : World) (h : ReadsRows w v m) (hm : IsM n m) :
    Calls Tryz.prog 58 #[v] w fun e w' => e = .returned (.bool (irrB m)) ∧ Ext w w' := by
  have hr := impl_reach_any v m n w h hm
  obtain ⟨R, hR⟩ : ∃ R, R = reachM m := ⟨_, rfl⟩
  have hv : irrB m = R.all fun r => !(r.contains 0) := by rw [hR]; rfl
  rw [← hR] at hr
  have HR := Lib.hid (And.intro hr hv)
  clear hr hR hv h hm
  go_enter Tryz.func58, Tryz.ntmps58
  go_wp2_with fail
  with_reducible refine HR.out.1.mono ?_
  rintro e w1 ⟨u, rfl, hres, hx⟩
  obtain ⟨pa, ca, rfl⟩ := hres.reads.slice
  obtain ⟨-, hla1, hla2⟩ := hres.reads.len
  obtain ⟨k, hk⟩ : ∃ k, k = R.length := ⟨_, rfl⟩
  have hrd := hres.reads
  rw [← hk] at hla1 hrd ⊢
  have HM := Lib.hid (And.intro hrd hk)
  clear hrd hk hres
  go_wp2
  go_loop [4, 8] (fun _ i => ∃ q : Nat, q ≤ k ∧ i = .int .i64 q ∧ ∀ j, j < q → ((R.getD j []).contains 0) = false) (fun _ i => k - (intOf i).toNat)
  case atStart => exact ⟨0, by omega, rfl, fun j hj => by omega⟩
  case round =>
    obtain ⟨q, hq, rfl, hp⟩ := hrel
    have HP := Lib.hid hp
    clear hp
    by_cases hlt : q < k
    · have hqR : q < R.length := by rw [← HM.out.2]; exact hlt
      obtain ⟨b, o, a', c', rfl, hcell, hrow⟩ := HM.out.1.at q hqR
      have hmem : R.getD q [] ∈ R := by
        rw [List.getD_eq_getElem?_getD, List.getElem?_eq_getElem hqR]
        exact List.getElem_mem hqR
      obtain ⟨r, hr⟩ : ∃ r, r = R.getD q [] := ⟨_, rfl⟩
      rw [← hr] at hcell hrow hmem
      have HX := Lib.hid (And.intro hmem (And.intro hr hrow))
      clear hmem hr hrow hqR
      go_wp2_with fail
      with_reducible refine (containsI_any _ r 0 _ HX.out.2.2).mono ?_
      rintro e w2 ⟨rfl, rfl⟩
      cases hb : r.contains 0
      · go_wp2
        go_round
        case rel => exact ⟨q + 1, by omega, by go_num, fun j hj => by
          by_cases e : j = q
          · subst e; rw [← HX.out.2.1]; exact hb
          · exact HP.out j (by omega)⟩
        case measure => simp [intOf]; omega
      · have HV := Lib.hid (show irrB m = false by rw [HR.out.2, List.all_eq_false]; exact ⟨r, HX.out.1, by rw [hb]; simp⟩)
        go_wp2
        go_ret
        exact ⟨ret_bool HV.out.symm, hx⟩
    · have hqk : q = k := by omega
      have hv : irrB m = true := by
        rw [HR.out.2, List.all_eq_true]
        intro r hr
        obtain ⟨j, hj, rfl⟩ := List.mem_iff_getElem.1 hr
        have := HP.out j (by rw [hqk, HM.out.2]; exact hj)
        rw [List.getD_eq_getElem?_getD, List.getElem?_eq_getElem hj, Option.getD_some] at this
        rw [this]; rfl
      have HV := Lib.hid hv
      clear hv
      go_wp2
      go_ret
      exact ⟨ret_bool HV.out.symm, hx⟩

theorem irrB_bad {m : List (List Int)} {i j : Nat} (hi : i < (reachM m).length) (hj : j < ((reachM m).getD i []).length) (h : ((reachM m).getD i []).getD j 0 = 0) : irrB m = false := by
  unfold irrB
  rw [List.all_eq_false]
  refine ⟨(reachM m).getD i [], ?_, ?_⟩
  · rw [List.getD_eq_getElem?_getD, List.getElem?_eq_getElem hi]
    exact List.getElem_mem hi
  · have : (0 : Int) ∈ (reachM m).getD i [] := by
      rw [List.getD_eq_getElem?_getD (l := (reachM m).getD i []), List.getElem?_eq_getElem hj, Option.getD_some] at h
      rw [← h]
      exact List.getElem_mem hj
    rw [List.contains_iff_mem.2 this]
    decide
theorem irrB_all {m : List (List Int)} (h : ∀ i j, i < (reachM m).length → j < ((reachM m).getD i []).length → ¬ ((reachM m).getD i []).getD j 0 = 0) : irrB m = true := by
  unfold irrB
  rw [List.all_eq_true]
  intro r hr
  obtain ⟨i, hi, rfl⟩ := List.mem_iff_getElem.1 hr
  have h0 : ¬ (0 : Int) ∈ (reachM m)[i] := by
    intro hm
    obtain ⟨j, hj, e⟩ := List.mem_iff_getElem.1 hm
    have h1 := h i j hi (by rw [List.getD_eq_getElem?_getD, List.getElem?_eq_getElem hi]; exact hj)
    apply h1
    rw [List.getD_eq_getElem?_getD (l := reachM m), List.getElem?_eq_getElem hi, Option.getD_some, List.getD_eq_getElem?_getD, List.getElem?_eq_getElem hj, Option.getD_some, e]
  cases hc : (reachM m)[i].contains 0 with
  | false => rfl
  | true => exact absurd (List.contains_iff_mem.1 hc) h0

set_option maxRecDepth 100000 in
set_option maxHeartbeats 2000000 in
theorem spec_IsIrreducible_any (v : Value) (m : List (List Int)) (w : World) (h : ReadsRows w v m) (hm : isMat m = true) :
    Calls Tryz.prog 59 #[v] w fun e w' => e = .returned (.bool (irrB m)) ∧ Ext w w' := by
  have hr := spec_ReachOf_any v m w h hm
  have hi := fun w' (hx : Ext w w') => spec_IsMatrix_any v m w' (h.ext hx)
  rw [hm] at hi
  have hbad := fun i j h1 h2 h3 => irrB_bad (m := m) (i := i) (j := j) h1 h2 h3
  have hall := fun h => irrB_all (m := m) h
  have hlen : ∀ i, i < (reachM m).length → ((reachM m).getD i []).length = (reachM m).length := by
    intro i hi
    have e : (reachM m).length = m.length := by unfold reachM; exact tabF_length _ _ _
    rw [e] at hi ⊢
    unfold reachM
    rw [tabF_row _ _ _ _ hi, rowF_length]
  obtain ⟨R, hR⟩ : ∃ R, R = reachM m := ⟨_, rfl⟩
  obtain ⟨z, hz⟩ : ∃ z, z = irrB m := ⟨_, rfl⟩
  rw [← hR] at hr hbad hall hlen
  rw [← hz] at hbad hall ⊢
  have HR := Lib.hid (And.intro hr (And.intro hi (And.intro hbad (And.intro hall hlen))))
  clear hr hR h hi hbad hall hlen hz hm
  go_enter Tryz.func59, Tryz.ntmps59
  go_wp2_with fail
  with_reducible refine HR.out.1.mono ?_
  rintro e w1 ⟨u, rfl, hres, hx⟩
  obtain ⟨pa, ca, rfl⟩ := hres.reads.slice
  obtain ⟨-, hla1, hla2⟩ := hres.reads.len
  obtain ⟨k, hk⟩ : ∃ k, k = R.length := ⟨_, rfl⟩
  have hrd := hres.reads
  rw [← hk] at hla1 hrd ⊢
  have HM := Lib.hid (And.intro hrd hk)
  clear hrd hk hres
  go_wp2
  go_loop [4] (fun i => ∃ p : Nat, p ≤ k ∧ i = .int .i64 p ∧ ∀ a b, a < p → b < k → ¬ (R.getD a []).getD b 0 = 0) (fun i => k - (intOf i).toNat)
  case atStart => exact ⟨0, by omega, rfl, fun a b ha => by omega⟩
  case round =>
    obtain ⟨p, hp, rfl, hpp⟩ := hrel
    have HP := Lib.hid hpp
    clear hpp
    by_cases hlt : p < k
    · have hpR : p < R.length := by rw [← HM.out.2]; exact hlt
      obtain ⟨b, o, a', c', rfl, hcell, hrow⟩ := HM.out.1.at p hpR
      have hrl := HR.out.2.2.2.2 p hpR
      rw [← HM.out.2] at hrl
      obtain ⟨r, hr⟩ : ∃ r, r = R.getD p [] := ⟨_, rfl⟩
      rw [← hr] at hcell hrow hrl
      have HX := Lib.hid (And.intro hrl (And.intro hr hrow))
      have hlc' := hrow.len.2.1
      rw [hrl] at hcell hlc'
      clear hr hrow hpR hrl
      go_wp2
      go_loop [5] (fun i => ∃ q : Nat, q ≤ k ∧ i = .int .i64 q ∧ ∀ b, b < q → ¬ r.getD b 0 = 0) (fun i => k - (intOf i).toNat)
      case atStart => exact ⟨0, by omega, rfl, fun b hb => by omega⟩
      case round =>
        obtain ⟨q, hq, rfl, hqq⟩ := hrel
        have HQ := Lib.hid hqq
        clear hqq
        by_cases hltq : q < k
        · obtain ⟨b2, o2, rfl, hc2⟩ := HX.out.2.2.at q (by rw [HX.out.1]; exact hltq)
          obtain ⟨x, hx'⟩ : ∃ x, x = r.getD q 0 := ⟨_, rfl⟩
          rw [← hx'] at hc2
          have HY := Lib.hid hx'
          clear hx'
          by_cases hx0 : x = 0
          · have HV := Lib.hid (HR.out.2.2.1 p q (by rw [← HM.out.2]; exact hlt) (by rw [← HX.out.2.1, HX.out.1]; exact hltq) (by rw [← HX.out.2.1, ← HY.out]; exact hx0))
            subst hx0
            go_wp2
            go_ret
            exact ⟨ret_bool HV.out.symm, hx⟩
          · have hb : (x == 0) = false := by simpa using hx0
            have HN := Lib.hid hx0
            clear hx0
            go_wp2
            go_round
            case rel => exact ⟨q + 1, by omega, by go_num, fun b hb => by
              by_cases e : b = q
              · subst e; rw [← HY.out]; exact HN.out
              · exact HQ.out b (by omega)⟩
            case measure => simp [intOf]; omega
        · have hqk : q = k := by omega
          go_wp2
          go_round
          case rel => exact ⟨p + 1, by omega, by go_num, fun a b ha hb => by
            by_cases e : a = p
            · subst e; rw [← HX.out.2.1]; exact HQ.out b (by omega)
            · exact HP.out a b (by omega) hb⟩
          case measure => simp [intOf]; omega
    · have hpk : p = k := by omega
      have HV := Lib.hid (HR.out.2.2.2.1 fun i j h1 h2 => HP.out i j (by rw [hpk, HM.out.2]; exact h1) (by rw [HR.out.2.2.2.2 i h1] at h2; rw [HM.out.2]; exact h2))
      go_wp2_with fail
      with_reducible refine (HR.out.2.1 _ hx).mono ?_
      rintro e w2 ⟨rfl, rfl⟩
      go_wp2
      go_ret
      exact ⟨ret_bool HV.out.symm, hx⟩

theorem graph_isMat {L : Int} {F : List (List UInt8)} {m : List (List Int)} (h : graphO L F = some m) : isMat m = true := by
  unfold graphO at h
  by_cases h0 : (langOf L F 2).length = 0
  · rw [if_pos h0] at h; cases h
  · rw [if_neg h0] at h
    rw [← Option.some.inj h]
    exact tabF_isMat (by omega) (lang2_facts h0).1 fun i j _ _ => by
      unfold gF
      split <;> omega
/-- the graph of a shift is irreducible -/
def connB (L : Int) (F : List (List UInt8)) : Bool := match graphO L F with
  | some m => irrB m
  | none => false
theorem connB_none {L : Int} {F : List (List UInt8)} (h : graphO L F = none) : connB L F = false := by unfold connB; rw [h]
theorem connB_some {L : Int} {F : List (List UInt8)} {m : List (List Int)} (h : graphO L F = some m) : connB L F = irrB m := by unfold connB; rw [h]

set_option maxHeartbeats 1000000 in
theorem impl_IsConnected_any (L : Int) (v : Value) (F : List (List UInt8)) (w : World) (h : ReadsW w v F) (hm : MaxC w) (hF : ∀ f ∈ F, f.length ≤ maxLen) :
    Calls Tryz.prog 19 #[.agg #[.int .i64 L, v]] w fun e w' => e = .returned (.bool (connB L F)) ∧ Ext w w' := by
  obtain ⟨pa, ca, rfl⟩ := h.slice
  have hx := Ext.alloc w (.cells #[.int .i64 L, .slice pa F.length ca] 26)
  have hg := impl_GraphOf_any L (.slice pa F.length ca) F _ (h.ext hx) (hm.ext hx) hF
  cases ho : graphO L F with
  | none =>
    rw [ho] at hg
    have HG := Lib.hid (And.intro hg (connB_none ho))
    clear hg ho
    go_enter Tryz.func19, Tryz.ntmps19
    go_wp2_with fail
    with_reducible refine HG.out.1.mono ?_
    rintro e w1 ⟨u, rfl, hres, hx1⟩
    clear hres
    replace hx := hx.trans hx1
    clear hx1
    go_wp2
    go_ret
    exact ⟨ret_bool HG.out.2.symm, hx⟩
  | some m =>
    rw [ho] at hg
    have HG := Lib.hid (And.intro hg (And.intro (connB_some ho) (graph_isMat ho)))
    clear hg ho
    go_enter Tryz.func19, Tryz.ntmps19
    go_wp2_with fail
    with_reducible refine HG.out.1.mono ?_
    rintro e w1 ⟨u, rfl, hres, hx1⟩
    have HR := Lib.hid hres
    replace hx := hx.trans hx1
    clear hx1 hres
    go_wp2_with fail
    with_reducible refine (impl_isIrreducible_any _ m m.length _ HR.out.reads (isMat_yes HG.out.2.2)).mono ?_
    rintro e w2 ⟨rfl, hx2⟩
    go_wp2
    go_ret
    exact ⟨ret_bool HG.out.2.1.symm, hx.trans hx2⟩
set_option maxHeartbeats 1000000 in
theorem spec_IsConnected_any (L : Int) (v : Value) (F : List (List UInt8)) (w : World) (h : ReadsW w v F) (hF : ∀ f ∈ F, f.length ≤ maxLen) :
    Calls Tryz.prog 20 #[.agg #[.int .i64 L, v]] w fun e w' => e = .returned (.bool (connB L F)) ∧ Ext w w' := by
  obtain ⟨pa, ca, rfl⟩ := h.slice
  have hx := Ext.alloc w (.cells #[.int .i64 L, .slice pa F.length ca] 26)
  have hg := spec_GraphOf_any L (.slice pa F.length ca) F _ (h.ext hx) hF
  cases ho : graphO L F with
  | none =>
    rw [ho] at hg
    have HG := Lib.hid (And.intro hg (connB_none ho))
    clear hg ho
    go_enter Tryz.func20, Tryz.ntmps20
    go_wp2_with fail
    with_reducible refine HG.out.1.mono ?_
    rintro e w1 ⟨u, rfl, hres, hx1⟩
    clear hres
    replace hx := hx.trans hx1
    clear hx1
    go_wp2
    go_ret
    exact ⟨ret_bool HG.out.2.symm, hx⟩
  | some m =>
    rw [ho] at hg
    have HG := Lib.hid (And.intro hg (And.intro (connB_some ho) (graph_isMat ho)))
    clear hg ho
    go_enter Tryz.func20, Tryz.ntmps20
    go_wp2_with fail
    with_reducible refine HG.out.1.mono ?_
    rintro e w1 ⟨u, rfl, hres, hx1⟩
    have HR := Lib.hid hres
    replace hx := hx.trans hx1
    clear hx1 hres
    go_wp2_with fail
    with_reducible refine (spec_IsIrreducible_any _ m _ HR.out HG.out.2.2).mono ?_
    rintro e w2 ⟨rfl, hx2⟩
    go_wp2
    go_ret
    exact ⟨ret_bool HG.out.2.1.symm, hx.trans hx2⟩
end Go.Proofs.YtfiembmfkokllaaGreat
