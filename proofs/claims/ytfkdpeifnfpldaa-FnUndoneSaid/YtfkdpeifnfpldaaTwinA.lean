/- Contracts: TwinsOf of the program. -/
import Derived.Test.YtfkdpeifnfpldaaFstA
import Derived.Test.YtfkdpeifnfpldaaPkM
import Derived.Test.YtfkdpeifnfpldaaPkC
namespace Go.Proofs.Ytfkdpeifnfpldaa
open Go.RowKit Go.Cm

theorem mkS_take (l : List UInt8) (a : Nat) : (mkS l).extract 0 a = mkS (l.take a) := by
  apply ByteArray.ext
  apply Array.ext'
  rw [Lib.extract_data, mkS_data, mkS_data]
  simp
theorem twin_beq (x y : List UInt8) : ((mkS x).toList == (mkS y).toList) = decide (x = y) := by
  by_cases h : x = y
  · subst h; simp
  · have : ¬ (mkS x).toList = (mkS y).toList := by
      intro e
      have e2 := bytes_eq e
      have := congrArg (fun s => s.data.toList) e2
      simp only [mkS_data] at this
      exact h this
    simp [h, this]
theorem twinB_eq {K n e q m : Nat} {o : ByteArray} {u v : List UInt8} (he : e = n - 1) (hq : q + e = m) (hu : u.length = m) (hv : v.length = m) :
    twinB K n o u v = (((mkS u).extract 0 e).toList == ((mkS v).extract 0 e).toList && (((mkS u).extract q (mkS u).size).toList == ((mkS v).extract q (mkS v).size).toList && ((mkS (applyL K n o u)).toList == (mkS (applyL K n o v)).toList))) := by
  rw [mkS_take, mkS_take, mkS_drop, mkS_drop, twin_beq, twin_beq, twin_beq]
  unfold twinB
  rw [hu, hv, ← he, show m - e = q by omega]

/-- what is returned -/
def twV (r : Option (List UInt8 × List UInt8)) : Value := match r with
  | none => .tuple #[.string ⟨#[]⟩, .string ⟨#[]⟩, .bool false]
  | some p => .tuple #[.string (mkS p.1), .string (mkS p.2), .bool true]

theorem pow2_small {m : Nat} (hm : m ≤ 7) : 2 ^ m ≤ 128 := by
  have h2 : 2 ^ m ≤ 2 ^ 7 := Nat.pow_le_pow_right (by omega) hm
  have h3 : (2 : Nat) ^ 7 = 128 := by decide
  omega

def twinG (n : Nat) (o : ByteArray) (l : List (List UInt8)) (i j : Nat) : Option (List UInt8 × List UInt8) := if i < j ∧ twinB 2 n o (l.getD i []) (l.getD j []) = true then some (l.getD i [], l.getD j []) else none
def twinF (n : Nat) (o : ByteArray) (m : Nat) : Option (List UInt8 × List UInt8) := if n ≤ m then twinOf 2 n o m else none

theorem wordsL_cell {w : World} {B g V cap K d i : Nat} (hK0 : 0 < K) (hK : K ≤ 3) (hw : Own w B 9 (.slice (some ⟨g, 0, none⟩) V cap) (scells (wordsL K d))) (hV : V = K ^ d) (hi : i < V) :
    ∃ u, u = (wordsL K d).getD i [] ∧ w.cell? ⟨g, i, none⟩ = some (.string (mkS u)) ∧ u.length = d ∧ areLet K u = true := by
  have hl : (scells (wordsL K d)).length = V := by rw [hV]; simp [scells, wordsL]
  have hlw : i < (wordsL K d).length := by simp [wordsL]; omega
  have h0 := hw.cell i (by rw [hl]; exact hi)
  have e : (wordsL K d).getD i [] = (wordsL K d)[i] := by rw [List.getD_eq_getElem?_getD, List.getElem?_eq_getElem hlw]; rfl
  refine ⟨_, rfl, ?_, ?_⟩
  · rw [h0, e]; simp [scells]
  · rw [e]; exact mem_wordsL (List.getElem_mem _) hK0 hK

set_option maxRecDepth 100000 in
set_option maxHeartbeats 4000000 in
theorem impl_TwinsOf_yes (n : Nat) (o : ByteArray) (w : World) (hf : CodeFit 2 n o) (hcd : codeOk 2 n o = true) :
    Calls Try.prog 16 #[.agg #[.int .i64 2, .int .i64 n, .string o]] w fun e w' => e = .returned (twV (twinL 2 n o)) ∧ Ext w w' := by
  have hn1 := hf.n1
  have hn4 := hf.n4
  have ho : o.size ≤ maxLen := by have := hf.size; have := hf.le; unfold maxLen; omega
  obtain ⟨e, he⟩ : ∃ e, e = n - 1 := ⟨_, rfl⟩
  have hei : (n : Int) - 1 = (e : Int) := by omega
  have hen : e + 1 ≤ n := by omega
  obtain ⟨r, hr⟩ : ∃ r, r = firstOf 8 (twinF n o) := ⟨_, rfl⟩
  have e0 : twinL 2 n o = r := by rw [hr]; rfl
  rw [e0]
  have hca : ∀ (u : List UInt8) (w : World), u.length ≤ 7 → areLet 2 u = true → Calls Try.prog 55 #[.agg #[.int .i64 2, .int .i64 n, .string o], .string (mkS u)] w fun e w' => e = .returned (.string (mkS (applyL 2 n o u))) ∧ Ext w w' := by
    intro u w hl ha
    have h := impl_apply_any 2 n o (mkS u) w hf (by rw [mkS_size]; omega) (by rw [mkS_data]; exact ha)
    rw [mkS_data] at h
    exact h
  have hwo : ∀ (m : Nat) (w : World), m ≤ 7 → Calls Try.prog 54 #[.int .i64 2, .int .i64 m] w fun e w' => ∃ v, e = .returned v ∧ Own w' w.heap.size 9 v (scells (wordsL 2 m)) ∧ Ext w w' := by
    intro m w hm
    have := pow2_small hm
    exact impl_wordsOf_any 2 m w (by omega) (by omega) (by omega) (by omega)
  have HC := Lib.hid hcd
  have HR := Lib.hid (And.intro hr (And.intro he (And.intro hca hwo)))
  clear hr e0 he hca hwo hcd
  go_enter Try.func16, Try.ntmps16
  go_wp2_with fail
  with_reducible refine (impl_IsCode_any _ _ _ _ ho).mono ?_
  rintro e w1 ⟨rfl, hx⟩
  rw [HC.out]
  have bo := (show Blk _ w.heap.size #[.int .i64 2, .int .i64 n, .string o] by (repeat (first | (refine Blk.mk' ?_; (simp; done)) | apply Blk.old))).ext hx
  replace hx : Ext w w1 := Ext.trans (by (repeat (first | exact (Ext.refl w) | exact Ext.refl _ | exact Ext.alloc _ _ | refine Ext.alloced ?_ _ | (refine Ext.stored ?_ ?_; rotate_left; (· (first | (show _ ≤ _; omega) | (simp; done) | (simp; omega))))))) hx
  obtain ⟨c0, c1, c2, -, -, -⟩ := bo.c3
  go_wp2
  go_loopw [6] (fun i wr => ∃ m : Nat, n ≤ m ∧ m ≤ 8 ∧ i = .int .i64 m ∧ NoneTo (twinF n o) m ∧ Ext w wr ∧ Blk wr w.heap.size #[.int .i64 2, .int .i64 n, .string o]) (fun i _ => 8 - (intOf i).toNat)
  case atStart => exact ⟨n, by omega, by omega, rfl, fun y hy => by unfold twinF; rw [if_neg (by omega)], hx, bo⟩
  case round =>
    clear hx bo c0 c1 c2
    obtain ⟨m, hnm, hm8, rfl, hno, hx, bo⟩ := hrel
    by_cases hlt : m ≤ 7
    · obtain ⟨wq, rfl⟩ : ∃ wq : World, wq = wr := ⟨_, rfl⟩
      go_wp2_with fail
      with_reducible refine (HR.out.2.2.2 m _ hlt).mono ?_
      rintro e w2 ⟨v7, rfl, hw, hx2⟩
      obtain ⟨V, hV⟩ : ∃ V, V = 2 ^ m := ⟨_, rfl⟩
      have hV128 := pow2_small hlt
      rw [← hV] at hV128
      have hV1 : 0 < V := by rw [hV]; exact Nat.pow_pos (by omega)
      have hwl : (scells (wordsL 2 m)).length = V := by rw [hV]; simp [scells, wordsL]
      have hsh := hw.shape
      rw [hwl] at hsh
      rcases hsh with ⟨_, hnil⟩ | ⟨g, cap, rfl, hg, _, hcap, hcapm⟩
      · exfalso
        rw [hnil] at hwl
        simp at hwl
        omega
      have hx2' := hx.trans hx2
      replace bo := bo.ext hx2
      clear hx
      unfold maxLen at hcapm
      have HV := Lib.hid (And.intro hV hwl)
      clear hwl hV hg hx2
      have h00 : NoneTo (fun i => twinAt 2 n o (wordsL 2 m) i) 0 := NoneTo.zero _
      obtain ⟨q, hq⟩ : ∃ q, q + e = m := ⟨m - e, by omega⟩
      have hmq : (m : Int) - (e : Int) = (q : Int) := by omega
      have hqm : q ≤ m := by omega
      have HQ := Lib.hid hq
      clear hq
      go_wp2
      go_loopw [33] (fun i wr => ∃ k : Nat, k ≤ V ∧ i = .int .i64 k ∧ NoneTo (fun i => twinAt 2 n o (wordsL 2 m) i) k ∧ Ext w2 wr) (fun i _ => V - (intOf i).toNat)
      case atStart => exact ⟨0, by omega, rfl, h00, Ext.refl _⟩
      case round =>
        clear h00
        obtain ⟨k, hk, rfl, hno2, hxr⟩ := hrel
        by_cases hltk : k < V
        · have hwr := hw.ext hxr
          obtain ⟨u, hu, hcell, hul, hua⟩ := wordsL_cell (by omega) (by omega) hwr HV.out.1 hltk
          obtain ⟨S, hS⟩ : ∃ S, S = mkS u := ⟨_, rfl⟩
          have hSs : S.size ≤ m := by rw [hS, mkS_size]; omega
          have hSs2 : m ≤ S.size := by rw [hS, mkS_size]; omega
          rw [← hS] at hcell
          have HU := Lib.hid (And.intro hu (And.intro hul (And.intro hua hS)))
          clear hu hul hua hS
          have h0 : NoneTo (twinG n o (wordsL 2 m) k) (k + 1) := fun y hy => by unfold twinG; rw [if_neg (by omega)]
          obtain ⟨wp, rfl⟩ : ∃ wp : World, wp = wr := ⟨_, rfl⟩
          obtain ⟨L, hL⟩ : ∃ L, k + 1 + L = V := ⟨V - (k + 1), by omega⟩
          have hLV : V - (k + 1) = L := by omega
          have h0' : NoneTo (twinG n o (wordsL 2 m) k) (k + 1 + 0) := h0
          by_cases hck : cap = k + 1
          · have hL0 : L = 0 := by omega
            go_wp2
            go_loopw [43] (fun i wr => ∃ j : Nat, j ≤ L ∧ i = .int .i64 j ∧ NoneTo (twinG n o (wordsL 2 m) k) (k + 1 + j) ∧ Ext w2 wr) (fun i _ => L - (intOf i).toNat)
            case atStart => exact ⟨0, by omega, rfl, h0', hxr⟩
            case round =>
              obtain ⟨j, hj, rfl, hno3, hxs⟩ := hrel
              have hjL : j = L := by omega
              have hnone : twinAt 2 n o (wordsL 2 m) k = none := by
                have e : (wordsL 2 m).length = k + 1 + j := by rw [hjL, hL, HV.out.1]; simp [wordsL]
                unfold twinAt
                rw [e]
                exact firstOf_none hno3
              have HN := Lib.hid hnone
              clear hnone
              subst hjL
              go_wp2
              go_roundw
              case rel => exact ⟨k + 1, by omega, by go_num, hno2.succ HN.out, hxs⟩
              case measure => simp [intOf]; omega
          · go_wp2
            go_loopw [43] (fun i wr => ∃ j : Nat, j ≤ L ∧ i = .int .i64 j ∧ NoneTo (twinG n o (wordsL 2 m) k) (k + 1 + j) ∧ Ext w2 wr) (fun i _ => L - (intOf i).toNat)
            case atStart => exact ⟨0, by omega, rfl, h0', hxr⟩
            case round =>
              obtain ⟨j, hj, rfl, hno3, hxs⟩ := hrel
              by_cases hltj : j < L
              · have hws := hw.ext hxs
                obtain ⟨v, hv, hcellv, hvl, hva⟩ := wordsL_cell (i := k + 1 + j) (by omega) (by omega) hws HV.out.1 (by omega)
                obtain ⟨d0, d1, d2, -, -, -⟩ := (bo.ext hxs).c3
                have htw := twinB_eq (K := 2) (o := o) HR.out.2.1 HQ.out HU.out.2.1 hvl
                have hG : twinG n o (wordsL 2 m) k (k + 1 + j) = if twinB 2 n o u v = true then some (u, v) else none := by
                  unfold twinG
                  rw [← HU.out.1, ← hv]
                  simp [show k < k + 1 + j by omega]
                rw [← HU.out.2.2.2] at htw
                obtain ⟨T, hT⟩ : ∃ T, T = mkS v := ⟨_, rfl⟩
                have hTs : T.size ≤ m := by rw [hT, mkS_size]; omega
                have hTs2 : m ≤ T.size := by rw [hT, mkS_size]; omega
                rw [← hT] at hcellv htw
                have hcu := fun w => HR.out.2.2.1 u w (by have := HU.out.2.1; omega) HU.out.2.2.1
                have hcv := fun w => HR.out.2.2.1 v w (by omega) hva
                rw [← HU.out.2.2.2] at hcu
                rw [← hT] at hcv
                obtain ⟨X, hX⟩ : ∃ X, X = mkS (applyL 2 n o u) := ⟨_, rfl⟩
                obtain ⟨Y, hY⟩ : ∃ Y, Y = mkS (applyL 2 n o v) := ⟨_, rfl⟩
                rw [← hX, ← hY] at htw
                rw [← hX] at hcu
                rw [← hY] at hcv
                have HP := Lib.hid (And.intro hG (And.intro htw (And.intro hcu (And.intro hcv hT))))
                clear hG htw hcu hcv hv hvl hva hT hX hY hws
                cases tA : ((S.extract 0 e).toList == (T.extract 0 e).toList) with
                | false =>
                  have hGn : twinG n o (wordsL 2 m) k (k + 1 + j) = none := by rw [HP.out.1, HP.out.2.1]; simp_all
                  have HGN := Lib.hid hGn
                  clear hGn
                  go_wp2
                  refine wp_region_inv (by kernel_rfl) (.known ?hx5_55_v0 :: .known ?hx5_55_v1 :: .known ?hx5_55_v2 :: .known ?hx5_55_v3 :: .known ?hx5_55_v4 :: .known ?hx5_55_v5 :: .known ?hx5_55_v6 :: .known ?hx5_55_v7 :: .known ?hx5_55_v8 :: .known ?hx5_55_v9 :: .known ?hx5_55_v10 :: .known ?hx5_55_v11 :: .known ?hx5_55_v12 :: .known ?hx5_55_v13 :: .known ?hx5_55_v14 :: .known ?hx5_55_v15 :: .known ?hx5_55_v16 :: .known ?hx5_55_v17 :: .known ?hx5_55_v18 :: .known ?hx5_55_v19 :: .known ?hx5_55_v20 :: .known ?hx5_55_v21 :: .known ?hx5_55_v22 :: .known ?hx5_55_v23 :: .known ?hx5_55_v24 :: .known ?hx5_55_v25 :: .known ?hx5_55_v26 :: .known ?hx5_55_v27 :: .known ?hx5_55_v28 :: []) rfl (by kernel_rfl) ?hx5_55_s ?hx5_55_p
                  case hx5_55_s =>
                    intro vs
                    refine ⟨fun w' hxw hj => ?_, fun w' hxw hj => ?_, fun w' hxw hj => ?_, fun w' hxw hj => ?_, fun w' hxw hj => ?_, fun w' hxw hj => ?_, fun w' hxw hj => ?_, fun w' hxw hj => ?_, fun w' hxw hj => ?_, fun w' hxw hj => ?_, fun w' hxw hj => ?_, fun w' hxw hj => ?_, fun w' hxw hj => ?_, fun w' hxw hj => ?_, fun w' hxw hj => ?_, fun w' hxw hj => ?_, fun w' hxw hj => ?_, fun w' hxw hj => ?_, fun w' hxw hj => ?_, fun w' hxw hj => ?_, fun w' hxw hj => ?_, fun w' hxw hj => ?_, fun w' hxw hj => ?_, fun w' hxw hj => ?_, fun w' hxw hj => ?_, fun w' hxw hj => ?_, fun w' hxw hj => ?_, fun w' hxw hj => ?_, fun w' hxw hj => ?_, trivial⟩
                    · have d0 := Ext.cell_some hxw d0
                      have d1 := Ext.cell_some hxw d1
                      have d2 := Ext.cell_some hxw d2
                      clear hj
                      go_simp
                      try go_bits
                      first | rfl | (rw [if_pos (by omega), if_pos (by omega)]; go_simp; rfl) | (rw [if_pos (by omega)]; go_simp; rfl) | skip
                    · have d0 := Ext.cell_some hxw d0
                      have d1 := Ext.cell_some hxw d1
                      have d2 := Ext.cell_some hxw d2
                      clear hj
                      go_simp
                      try go_bits
                      first | rfl | (rw [if_pos (by omega), if_pos (by omega)]; go_simp; rfl) | (rw [if_pos (by omega)]; go_simp; rfl) | skip
                    · have d0 := Ext.cell_some hxw d0
                      have d1 := Ext.cell_some hxw d1
                      have d2 := Ext.cell_some hxw d2
                      clear hj
                      go_simp
                      try go_bits
                      first | rfl | (rw [if_pos (by omega), if_pos (by omega)]; go_simp; rfl) | (rw [if_pos (by omega)]; go_simp; rfl) | skip
                    · have d0 := Ext.cell_some hxw d0
                      have d1 := Ext.cell_some hxw d1
                      have d2 := Ext.cell_some hxw d2
                      clear hj
                      go_simp
                      try go_bits
                      first | rfl | (rw [if_pos (by omega), if_pos (by omega)]; go_simp; rfl) | (rw [if_pos (by omega)]; go_simp; rfl) | skip
                    · have d0 := Ext.cell_some hxw d0
                      have d1 := Ext.cell_some hxw d1
                      have d2 := Ext.cell_some hxw d2
                      clear hj
                      go_simp
                      try go_bits
                      first | rfl | (rw [if_pos (by omega), if_pos (by omega)]; go_simp; rfl) | (rw [if_pos (by omega)]; go_simp; rfl) | skip
                    · have d0 := Ext.cell_some hxw d0
                      have d1 := Ext.cell_some hxw d1
                      have d2 := Ext.cell_some hxw d2
                      clear hj
                      go_simp
                      try go_bits
                      first | rfl | (rw [if_pos (by omega), if_pos (by omega)]; go_simp; rfl) | (rw [if_pos (by omega)]; go_simp; rfl) | skip
                    · have d0 := Ext.cell_some hxw d0
                      have d1 := Ext.cell_some hxw d1
                      have d2 := Ext.cell_some hxw d2
                      clear hj
                      go_simp
                      try go_bits
                      first | rfl | (rw [if_pos (by omega), if_pos (by omega)]; go_simp; rfl) | (rw [if_pos (by omega)]; go_simp; rfl) | skip
                    · have d0 := Ext.cell_some hxw d0
                      have d1 := Ext.cell_some hxw d1
                      have d2 := Ext.cell_some hxw d2
                      clear hj
                      go_simp
                      try go_bits
                      first | rfl | (rw [if_pos (by omega), if_pos (by omega)]; go_simp; rfl) | (rw [if_pos (by omega)]; go_simp; rfl) | skip
                    · have d0 := Ext.cell_some hxw d0
                      have d1 := Ext.cell_some hxw d1
                      have d2 := Ext.cell_some hxw d2
                      clear hj
                      go_simp
                      try go_bits
                      first | rfl | (rw [if_pos (by omega), if_pos (by omega)]; go_simp; rfl) | (rw [if_pos (by omega)]; go_simp; rfl) | skip
                    · have d0 := Ext.cell_some hxw d0
                      have d1 := Ext.cell_some hxw d1
                      have d2 := Ext.cell_some hxw d2
                      clear hj
                      go_simp
                      try go_bits
                      first | rfl | (rw [if_pos (by omega), if_pos (by omega)]; go_simp; rfl) | (rw [if_pos (by omega)]; go_simp; rfl) | skip
                    · have d0 := Ext.cell_some hxw d0
                      have d1 := Ext.cell_some hxw d1
                      have d2 := Ext.cell_some hxw d2
                      clear hj
                      go_simp
                      try go_bits
                      first | rfl | (rw [if_pos (by omega), if_pos (by omega)]; go_simp; rfl) | (rw [if_pos (by omega)]; go_simp; rfl) | skip
                    · have d0 := Ext.cell_some hxw d0
                      have d1 := Ext.cell_some hxw d1
                      have d2 := Ext.cell_some hxw d2
                      clear hj
                      go_simp
                      try go_bits
                      first | rfl | (rw [if_pos (by omega), if_pos (by omega)]; go_simp; rfl) | (rw [if_pos (by omega)]; go_simp; rfl) | skip
                    · have d0 := Ext.cell_some hxw d0
                      have d1 := Ext.cell_some hxw d1
                      have d2 := Ext.cell_some hxw d2
                      clear hj
                      go_simp
                      try go_bits
                      first | rfl | (rw [if_pos (by omega), if_pos (by omega)]; go_simp; rfl) | (rw [if_pos (by omega)]; go_simp; rfl) | skip
                    · have d0 := Ext.cell_some hxw d0
                      have d1 := Ext.cell_some hxw d1
                      have d2 := Ext.cell_some hxw d2
                      clear hj
                      go_simp
                      try go_bits
                      first | rfl | (rw [if_pos (by omega), if_pos (by omega)]; go_simp; rfl) | (rw [if_pos (by omega)]; go_simp; rfl) | skip
                    · have d0 := Ext.cell_some hxw d0
                      have d1 := Ext.cell_some hxw d1
                      have d2 := Ext.cell_some hxw d2
                      clear hj
                      go_simp
                      try go_bits
                      first | rfl | (rw [if_pos (by omega), if_pos (by omega)]; go_simp; rfl) | (rw [if_pos (by omega)]; go_simp; rfl) | skip
                    · have d0 := Ext.cell_some hxw d0
                      have d1 := Ext.cell_some hxw d1
                      have d2 := Ext.cell_some hxw d2
                      clear hj
                      go_simp
                      try go_bits
                      first | rfl | (rw [if_pos (by omega), if_pos (by omega)]; go_simp; rfl) | (rw [if_pos (by omega)]; go_simp; rfl) | skip
                    · have d0 := Ext.cell_some hxw d0
                      have d1 := Ext.cell_some hxw d1
                      have d2 := Ext.cell_some hxw d2
                      clear hj
                      go_simp
                      try go_bits
                      first | rfl | (rw [if_pos (by omega), if_pos (by omega)]; go_simp; rfl) | (rw [if_pos (by omega)]; go_simp; rfl) | skip
                    · have d0 := Ext.cell_some hxw d0
                      have d1 := Ext.cell_some hxw d1
                      have d2 := Ext.cell_some hxw d2
                      clear hj
                      go_simp
                      try go_bits
                      first | rfl | (rw [if_pos (by omega), if_pos (by omega)]; go_simp; rfl) | (rw [if_pos (by omega)]; go_simp; rfl) | skip
                    · have d0 := Ext.cell_some hxw d0
                      have d1 := Ext.cell_some hxw d1
                      have d2 := Ext.cell_some hxw d2
                      clear hj
                      go_simp
                      try go_bits
                      first | rfl | (rw [if_pos (by omega), if_pos (by omega)]; go_simp; rfl) | (rw [if_pos (by omega)]; go_simp; rfl) | skip
                    · have d0 := Ext.cell_some hxw d0
                      have d1 := Ext.cell_some hxw d1
                      have d2 := Ext.cell_some hxw d2
                      clear hj
                      go_simp
                      try go_bits
                      first | rfl | (rw [if_pos (by omega), if_pos (by omega)]; go_simp; rfl) | (rw [if_pos (by omega)]; go_simp; rfl) | skip
                    · have d0 := Ext.cell_some hxw d0
                      have d1 := Ext.cell_some hxw d1
                      have d2 := Ext.cell_some hxw d2
                      clear hj
                      go_simp
                      try go_bits
                      first | rfl | (rw [if_pos (by omega), if_pos (by omega)]; go_simp; rfl) | (rw [if_pos (by omega)]; go_simp; rfl) | skip
                    · have d0 := Ext.cell_some hxw d0
                      have d1 := Ext.cell_some hxw d1
                      have d2 := Ext.cell_some hxw d2
                      clear hj
                      go_simp
                      try go_bits
                      first | rfl | (rw [if_pos (by omega), if_pos (by omega)]; go_simp; rfl) | (rw [if_pos (by omega)]; go_simp; rfl) | skip
                    · have d0 := Ext.cell_some hxw d0
                      have d1 := Ext.cell_some hxw d1
                      have d2 := Ext.cell_some hxw d2
                      clear hj
                      go_simp
                      try go_bits
                      first | rfl | (rw [if_pos (by omega), if_pos (by omega)]; go_simp; rfl) | (rw [if_pos (by omega)]; go_simp; rfl) | skip
                    · have d0 := Ext.cell_some hxw d0
                      have d1 := Ext.cell_some hxw d1
                      have d2 := Ext.cell_some hxw d2
                      clear hj
                      go_simp
                      try go_bits
                      first | rfl | (rw [if_pos (by omega), if_pos (by omega)]; go_simp; rfl) | (rw [if_pos (by omega)]; go_simp; rfl) | skip
                    · have d0 := Ext.cell_some hxw d0
                      have d1 := Ext.cell_some hxw d1
                      have d2 := Ext.cell_some hxw d2
                      clear hj
                      go_simp
                      try go_bits
                      first | rfl | (rw [if_pos (by omega), if_pos (by omega)]; go_simp; rfl) | (rw [if_pos (by omega)]; go_simp; rfl) | skip
                    · have d0 := Ext.cell_some hxw d0
                      have d1 := Ext.cell_some hxw d1
                      have d2 := Ext.cell_some hxw d2
                      clear hj
                      go_simp
                      try go_bits
                      first | rfl | (rw [if_pos (by omega), if_pos (by omega)]; go_simp; rfl) | (rw [if_pos (by omega)]; go_simp; rfl) | skip
                    · have d0 := Ext.cell_some hxw d0
                      have d1 := Ext.cell_some hxw d1
                      have d2 := Ext.cell_some hxw d2
                      clear hj
                      go_simp
                      try go_bits
                      first | rfl | (rw [if_pos (by omega), if_pos (by omega)]; go_simp; rfl) | (rw [if_pos (by omega)]; go_simp; rfl) | skip
                    · have d0 := Ext.cell_some hxw d0
                      have d1 := Ext.cell_some hxw d1
                      have d2 := Ext.cell_some hxw d2
                      clear hj
                      go_simp
                      try go_bits
                      first | rfl | (rw [if_pos (by omega), if_pos (by omega)]; go_simp; rfl) | (rw [if_pos (by omega)]; go_simp; rfl) | skip
                    · have d0 := Ext.cell_some hxw d0
                      have d1 := Ext.cell_some hxw d1
                      have d2 := Ext.cell_some hxw d2
                      clear hj
                      go_simp
                      try go_bits
                      first | rfl | (rw [if_pos (by omega), if_pos (by omega)]; go_simp; rfl) | (rw [if_pos (by omega)]; go_simp; rfl) | skip
                  case' hx5_55_p =>
                    intro vs w5 hx5 hk
                    clear hk
                    replace d0 := Ext.cell_some hx5 d0
                    replace d1 := Ext.cell_some hx5 d1
                    replace d2 := Ext.cell_some hx5 d2
                    replace hxs := Ext.trans hxs hx5
                    go_simp
                    clear hx5 d0 d1 d2
                    go_wp2
                    go_roundw
                    case rel => exact ⟨j + 1, by omega, by go_num, by rw [← Nat.add_assoc]; exact hno3.succ HGN.out, hxs⟩
                    case measure => simp [intOf]; omega
                | true => cases tB : ((S.extract q S.size).toList == (T.extract q T.size).toList) with
                | false =>
                  have hGn : twinG n o (wordsL 2 m) k (k + 1 + j) = none := by rw [HP.out.1, HP.out.2.1]; simp_all
                  have HGN := Lib.hid hGn
                  clear hGn
                  go_wp2
                  refine wp_region_inv (by kernel_rfl) (.known ?hx5_56_v0 :: .known ?hx5_56_v1 :: .known ?hx5_56_v2 :: .known ?hx5_56_v3 :: .known ?hx5_56_v4 :: .known ?hx5_56_v5 :: .known ?hx5_56_v6 :: .known ?hx5_56_v7 :: .known ?hx5_56_v8 :: .known ?hx5_56_v9 :: .known ?hx5_56_v10 :: .known ?hx5_56_v11 :: .known ?hx5_56_v12 :: .known ?hx5_56_v13 :: .known ?hx5_56_v14 :: .known ?hx5_56_v15 :: .known ?hx5_56_v16 :: .known ?hx5_56_v17 :: .known ?hx5_56_v18 :: .known ?hx5_56_v19 :: .known ?hx5_56_v20 :: .known ?hx5_56_v21 :: .known ?hx5_56_v22 :: .known ?hx5_56_v23 :: .known ?hx5_56_v24 :: .known ?hx5_56_v25 :: .known ?hx5_56_v26 :: .known ?hx5_56_v27 :: .known ?hx5_56_v28 :: []) rfl (by kernel_rfl) ?hx5_56_s ?hx5_56_p
                  case hx5_56_s =>
                    intro vs
                    refine ⟨fun w' hxw hj => ?_, fun w' hxw hj => ?_, fun w' hxw hj => ?_, fun w' hxw hj => ?_, fun w' hxw hj => ?_, fun w' hxw hj => ?_, fun w' hxw hj => ?_, fun w' hxw hj => ?_, fun w' hxw hj => ?_, fun w' hxw hj => ?_, fun w' hxw hj => ?_, fun w' hxw hj => ?_, fun w' hxw hj => ?_, fun w' hxw hj => ?_, fun w' hxw hj => ?_, fun w' hxw hj => ?_, fun w' hxw hj => ?_, fun w' hxw hj => ?_, fun w' hxw hj => ?_, fun w' hxw hj => ?_, fun w' hxw hj => ?_, fun w' hxw hj => ?_, fun w' hxw hj => ?_, fun w' hxw hj => ?_, fun w' hxw hj => ?_, fun w' hxw hj => ?_, fun w' hxw hj => ?_, fun w' hxw hj => ?_, fun w' hxw hj => ?_, trivial⟩
                    · have d0 := Ext.cell_some hxw d0
                      have d1 := Ext.cell_some hxw d1
                      have d2 := Ext.cell_some hxw d2
                      clear hj
                      go_simp
                      try go_bits
                      first | rfl | (rw [if_pos (by omega), if_pos (by omega)]; go_simp; rfl) | (rw [if_pos (by omega)]; go_simp; rfl) | skip
                    · have d0 := Ext.cell_some hxw d0
                      have d1 := Ext.cell_some hxw d1
                      have d2 := Ext.cell_some hxw d2
                      clear hj
                      go_simp
                      try go_bits
                      first | rfl | (rw [if_pos (by omega), if_pos (by omega)]; go_simp; rfl) | (rw [if_pos (by omega)]; go_simp; rfl) | skip
                    · have d0 := Ext.cell_some hxw d0
                      have d1 := Ext.cell_some hxw d1
                      have d2 := Ext.cell_some hxw d2
                      clear hj
                      go_simp
                      try go_bits
                      first | rfl | (rw [if_pos (by omega), if_pos (by omega)]; go_simp; rfl) | (rw [if_pos (by omega)]; go_simp; rfl) | skip
                    · have d0 := Ext.cell_some hxw d0
                      have d1 := Ext.cell_some hxw d1
                      have d2 := Ext.cell_some hxw d2
                      clear hj
                      go_simp
                      try go_bits
                      first | rfl | (rw [if_pos (by omega), if_pos (by omega)]; go_simp; rfl) | (rw [if_pos (by omega)]; go_simp; rfl) | skip
                    · have d0 := Ext.cell_some hxw d0
                      have d1 := Ext.cell_some hxw d1
                      have d2 := Ext.cell_some hxw d2
                      clear hj
                      go_simp
                      try go_bits
                      first | rfl | (rw [if_pos (by omega), if_pos (by omega)]; go_simp; rfl) | (rw [if_pos (by omega)]; go_simp; rfl) | skip
                    · have d0 := Ext.cell_some hxw d0
                      have d1 := Ext.cell_some hxw d1
                      have d2 := Ext.cell_some hxw d2
                      clear hj
                      go_simp
                      try go_bits
                      first | rfl | (rw [if_pos (by omega), if_pos (by omega)]; go_simp; rfl) | (rw [if_pos (by omega)]; go_simp; rfl) | skip
                    · have d0 := Ext.cell_some hxw d0
                      have d1 := Ext.cell_some hxw d1
                      have d2 := Ext.cell_some hxw d2
                      clear hj
                      go_simp
                      try go_bits
                      first | rfl | (rw [if_pos (by omega), if_pos (by omega)]; go_simp; rfl) | (rw [if_pos (by omega)]; go_simp; rfl) | skip
                    · have d0 := Ext.cell_some hxw d0
                      have d1 := Ext.cell_some hxw d1
                      have d2 := Ext.cell_some hxw d2
                      clear hj
                      go_simp
                      try go_bits
                      first | rfl | (rw [if_pos (by omega), if_pos (by omega)]; go_simp; rfl) | (rw [if_pos (by omega)]; go_simp; rfl) | skip
                    · have d0 := Ext.cell_some hxw d0
                      have d1 := Ext.cell_some hxw d1
                      have d2 := Ext.cell_some hxw d2
                      clear hj
                      go_simp
                      try go_bits
                      first | rfl | (rw [if_pos (by omega), if_pos (by omega)]; go_simp; rfl) | (rw [if_pos (by omega)]; go_simp; rfl) | skip
                    · have d0 := Ext.cell_some hxw d0
                      have d1 := Ext.cell_some hxw d1
                      have d2 := Ext.cell_some hxw d2
                      clear hj
                      go_simp
                      try go_bits
                      first | rfl | (rw [if_pos (by omega), if_pos (by omega)]; go_simp; rfl) | (rw [if_pos (by omega)]; go_simp; rfl) | skip
                    · have d0 := Ext.cell_some hxw d0
                      have d1 := Ext.cell_some hxw d1
                      have d2 := Ext.cell_some hxw d2
                      clear hj
                      go_simp
                      try go_bits
                      first | rfl | (rw [if_pos (by omega), if_pos (by omega)]; go_simp; rfl) | (rw [if_pos (by omega)]; go_simp; rfl) | skip
                    · have d0 := Ext.cell_some hxw d0
                      have d1 := Ext.cell_some hxw d1
                      have d2 := Ext.cell_some hxw d2
                      clear hj
                      go_simp
                      try go_bits
                      first | rfl | (rw [if_pos (by omega), if_pos (by omega)]; go_simp; rfl) | (rw [if_pos (by omega)]; go_simp; rfl) | skip
                    · have d0 := Ext.cell_some hxw d0
                      have d1 := Ext.cell_some hxw d1
                      have d2 := Ext.cell_some hxw d2
                      clear hj
                      go_simp
                      try go_bits
                      first | rfl | (rw [if_pos (by omega), if_pos (by omega)]; go_simp; rfl) | (rw [if_pos (by omega)]; go_simp; rfl) | skip
                    · have d0 := Ext.cell_some hxw d0
                      have d1 := Ext.cell_some hxw d1
                      have d2 := Ext.cell_some hxw d2
                      clear hj
                      go_simp
                      try go_bits
                      first | rfl | (rw [if_pos (by omega), if_pos (by omega)]; go_simp; rfl) | (rw [if_pos (by omega)]; go_simp; rfl) | skip
                    · have d0 := Ext.cell_some hxw d0
                      have d1 := Ext.cell_some hxw d1
                      have d2 := Ext.cell_some hxw d2
                      clear hj
                      go_simp
                      try go_bits
                      first | rfl | (rw [if_pos (by omega), if_pos (by omega)]; go_simp; rfl) | (rw [if_pos (by omega)]; go_simp; rfl) | skip
                    · have d0 := Ext.cell_some hxw d0
                      have d1 := Ext.cell_some hxw d1
                      have d2 := Ext.cell_some hxw d2
                      clear hj
                      go_simp
                      try go_bits
                      first | rfl | (rw [if_pos (by omega), if_pos (by omega)]; go_simp; rfl) | (rw [if_pos (by omega)]; go_simp; rfl) | skip
                    · have d0 := Ext.cell_some hxw d0
                      have d1 := Ext.cell_some hxw d1
                      have d2 := Ext.cell_some hxw d2
                      clear hj
                      go_simp
                      try go_bits
                      first | rfl | (rw [if_pos (by omega), if_pos (by omega)]; go_simp; rfl) | (rw [if_pos (by omega)]; go_simp; rfl) | skip
                    · have d0 := Ext.cell_some hxw d0
                      have d1 := Ext.cell_some hxw d1
                      have d2 := Ext.cell_some hxw d2
                      clear hj
                      go_simp
                      try go_bits
                      first | rfl | (rw [if_pos (by omega), if_pos (by omega)]; go_simp; rfl) | (rw [if_pos (by omega)]; go_simp; rfl) | skip
                    · have d0 := Ext.cell_some hxw d0
                      have d1 := Ext.cell_some hxw d1
                      have d2 := Ext.cell_some hxw d2
                      clear hj
                      go_simp
                      try go_bits
                      first | rfl | (rw [if_pos (by omega), if_pos (by omega)]; go_simp; rfl) | (rw [if_pos (by omega)]; go_simp; rfl) | skip
                    · have d0 := Ext.cell_some hxw d0
                      have d1 := Ext.cell_some hxw d1
                      have d2 := Ext.cell_some hxw d2
                      clear hj
                      go_simp
                      try go_bits
                      first | rfl | (rw [if_pos (by omega), if_pos (by omega)]; go_simp; rfl) | (rw [if_pos (by omega)]; go_simp; rfl) | skip
                    · have d0 := Ext.cell_some hxw d0
                      have d1 := Ext.cell_some hxw d1
                      have d2 := Ext.cell_some hxw d2
                      clear hj
                      go_simp
                      try go_bits
                      first | rfl | (rw [if_pos (by omega), if_pos (by omega)]; go_simp; rfl) | (rw [if_pos (by omega)]; go_simp; rfl) | skip
                    · have d0 := Ext.cell_some hxw d0
                      have d1 := Ext.cell_some hxw d1
                      have d2 := Ext.cell_some hxw d2
                      clear hj
                      go_simp
                      try go_bits
                      first | rfl | (rw [if_pos (by omega), if_pos (by omega)]; go_simp; rfl) | (rw [if_pos (by omega)]; go_simp; rfl) | skip
                    · have d0 := Ext.cell_some hxw d0
                      have d1 := Ext.cell_some hxw d1
                      have d2 := Ext.cell_some hxw d2
                      clear hj
                      go_simp
                      try go_bits
                      first | rfl | (rw [if_pos (by omega), if_pos (by omega)]; go_simp; rfl) | (rw [if_pos (by omega)]; go_simp; rfl) | skip
                    · have d0 := Ext.cell_some hxw d0
                      have d1 := Ext.cell_some hxw d1
                      have d2 := Ext.cell_some hxw d2
                      clear hj
                      go_simp
                      try go_bits
                      first | rfl | (rw [if_pos (by omega), if_pos (by omega)]; go_simp; rfl) | (rw [if_pos (by omega)]; go_simp; rfl) | skip
                    · have d0 := Ext.cell_some hxw d0
                      have d1 := Ext.cell_some hxw d1
                      have d2 := Ext.cell_some hxw d2
                      clear hj
                      go_simp
                      try go_bits
                      first | rfl | (rw [if_pos (by omega), if_pos (by omega)]; go_simp; rfl) | (rw [if_pos (by omega)]; go_simp; rfl) | skip
                    · have d0 := Ext.cell_some hxw d0
                      have d1 := Ext.cell_some hxw d1
                      have d2 := Ext.cell_some hxw d2
                      clear hj
                      go_simp
                      try go_bits
                      first | rfl | (rw [if_pos (by omega), if_pos (by omega)]; go_simp; rfl) | (rw [if_pos (by omega)]; go_simp; rfl) | skip
                    · have d0 := Ext.cell_some hxw d0
                      have d1 := Ext.cell_some hxw d1
                      have d2 := Ext.cell_some hxw d2
                      clear hj
                      go_simp
                      try go_bits
                      first | rfl | (rw [if_pos (by omega), if_pos (by omega)]; go_simp; rfl) | (rw [if_pos (by omega)]; go_simp; rfl) | skip
                    · have d0 := Ext.cell_some hxw d0
                      have d1 := Ext.cell_some hxw d1
                      have d2 := Ext.cell_some hxw d2
                      clear hj
                      go_simp
                      try go_bits
                      first | rfl | (rw [if_pos (by omega), if_pos (by omega)]; go_simp; rfl) | (rw [if_pos (by omega)]; go_simp; rfl) | skip
                    · have d0 := Ext.cell_some hxw d0
                      have d1 := Ext.cell_some hxw d1
                      have d2 := Ext.cell_some hxw d2
                      clear hj
                      go_simp
                      try go_bits
                      first | rfl | (rw [if_pos (by omega), if_pos (by omega)]; go_simp; rfl) | (rw [if_pos (by omega)]; go_simp; rfl) | skip
                  case' hx5_56_p =>
                    intro vs w5 hx5 hk
                    clear hk
                    replace d0 := Ext.cell_some hx5 d0
                    replace d1 := Ext.cell_some hx5 d1
                    replace d2 := Ext.cell_some hx5 d2
                    replace hxs := Ext.trans hxs hx5
                    go_simp
                    clear hx5 d0 d1 d2
                    go_wp2
                    go_roundw
                    case rel => exact ⟨j + 1, by omega, by go_num, by rw [← Nat.add_assoc]; exact hno3.succ HGN.out, hxs⟩
                    case measure => simp [intOf]; omega
                | true => cases tC : (X.toList == Y.toList) with
                | false =>
                  have hGn : twinG n o (wordsL 2 m) k (k + 1 + j) = none := by rw [HP.out.1, HP.out.2.1]; simp_all
                  have HGN := Lib.hid hGn
                  clear hGn
                  go_wp2
                  refine wp_region_inv (by kernel_rfl) (.known ?hx5_57_v0 :: .known ?hx5_57_v1 :: .known ?hx5_57_v2 :: .known ?hx5_57_v3 :: .known ?hx5_57_v4 :: .known ?hx5_57_v5 :: .known ?hx5_57_v6 :: .known ?hx5_57_v7 :: .known ?hx5_57_v8 :: .known ?hx5_57_v9 :: .known ?hx5_57_v10 :: .known ?hx5_57_v11 :: .known ?hx5_57_v12 :: .known ?hx5_57_v13 :: .known ?hx5_57_v14 :: .known ?hx5_57_v15 :: .known ?hx5_57_v16 :: .known ?hx5_57_v17 :: .known ?hx5_57_v18 :: .known ?hx5_57_v19 :: .known ?hx5_57_v20 :: .known ?hx5_57_v21 :: .known ?hx5_57_v22 :: .known (.string X) :: .known ?hx5_57_v24 :: .known ?hx5_57_v25 :: .known (.string Y) :: .known ?hx5_57_v27 :: .known ?hx5_57_v28 :: []) rfl (by kernel_rfl) ?hx5_57_s ?hx5_57_p
                  case hx5_57_s =>
                    intro vs
                    refine ⟨fun w' hxw hj => ?_, fun w' hxw hj => ?_, fun w' hxw hj => ?_, fun w' hxw hj => ?_, fun w' hxw hj => ?_, fun w' hxw hj => ?_, fun w' hxw hj => ?_, fun w' hxw hj => ?_, fun w' hxw hj => ?_, fun w' hxw hj => ?_, fun w' hxw hj => ?_, fun w' hxw hj => ?_, fun w' hxw hj => ?_, fun w' hxw hj => ?_, fun w' hxw hj => ?_, fun w' hxw hj => ?_, fun w' hxw hj => ?_, fun w' hxw hj => ?_, fun w' hxw hj => ?_, fun w' hxw hj => ?_, fun w' hxw hj => ?_, fun w' hxw hj => ?_, fun w' hxw hj => ?_, fun w' hxw hj => ?_, fun w' hxw hj => ?_, fun w' hxw hj => ?_, fun w' hxw hj => ?_, fun w' hxw hj => ?_, fun w' hxw hj => ?_, trivial⟩
                    · have d0 := Ext.cell_some hxw d0
                      have d1 := Ext.cell_some hxw d1
                      have d2 := Ext.cell_some hxw d2
                      clear hj
                      go_simp
                      try go_bits
                      first | rfl | (rw [if_pos (by omega), if_pos (by omega)]; go_simp; rfl) | (rw [if_pos (by omega)]; go_simp; rfl) | skip
                    · have d0 := Ext.cell_some hxw d0
                      have d1 := Ext.cell_some hxw d1
                      have d2 := Ext.cell_some hxw d2
                      clear hj
                      go_simp
                      try go_bits
                      first | rfl | (rw [if_pos (by omega), if_pos (by omega)]; go_simp; rfl) | (rw [if_pos (by omega)]; go_simp; rfl) | skip
                    · have d0 := Ext.cell_some hxw d0
                      have d1 := Ext.cell_some hxw d1
                      have d2 := Ext.cell_some hxw d2
                      clear hj
                      go_simp
                      try go_bits
                      first | rfl | (rw [if_pos (by omega), if_pos (by omega)]; go_simp; rfl) | (rw [if_pos (by omega)]; go_simp; rfl) | skip
                    · have d0 := Ext.cell_some hxw d0
                      have d1 := Ext.cell_some hxw d1
                      have d2 := Ext.cell_some hxw d2
                      clear hj
                      go_simp
                      try go_bits
                      first | rfl | (rw [if_pos (by omega), if_pos (by omega)]; go_simp; rfl) | (rw [if_pos (by omega)]; go_simp; rfl) | skip
                    · have d0 := Ext.cell_some hxw d0
                      have d1 := Ext.cell_some hxw d1
                      have d2 := Ext.cell_some hxw d2
                      clear hj
                      go_simp
                      try go_bits
                      first | rfl | (rw [if_pos (by omega), if_pos (by omega)]; go_simp; rfl) | (rw [if_pos (by omega)]; go_simp; rfl) | skip
                    · have d0 := Ext.cell_some hxw d0
                      have d1 := Ext.cell_some hxw d1
                      have d2 := Ext.cell_some hxw d2
                      clear hj
                      go_simp
                      try go_bits
                      first | rfl | (rw [if_pos (by omega), if_pos (by omega)]; go_simp; rfl) | (rw [if_pos (by omega)]; go_simp; rfl) | skip
                    · have d0 := Ext.cell_some hxw d0
                      have d1 := Ext.cell_some hxw d1
                      have d2 := Ext.cell_some hxw d2
                      clear hj
                      go_simp
                      try go_bits
                      first | rfl | (rw [if_pos (by omega), if_pos (by omega)]; go_simp; rfl) | (rw [if_pos (by omega)]; go_simp; rfl) | skip
                    · have d0 := Ext.cell_some hxw d0
                      have d1 := Ext.cell_some hxw d1
                      have d2 := Ext.cell_some hxw d2
                      clear hj
                      go_simp
                      try go_bits
                      first | rfl | (rw [if_pos (by omega), if_pos (by omega)]; go_simp; rfl) | (rw [if_pos (by omega)]; go_simp; rfl) | skip
                    · have d0 := Ext.cell_some hxw d0
                      have d1 := Ext.cell_some hxw d1
                      have d2 := Ext.cell_some hxw d2
                      clear hj
                      go_simp
                      try go_bits
                      first | rfl | (rw [if_pos (by omega), if_pos (by omega)]; go_simp; rfl) | (rw [if_pos (by omega)]; go_simp; rfl) | skip
                    · have d0 := Ext.cell_some hxw d0
                      have d1 := Ext.cell_some hxw d1
                      have d2 := Ext.cell_some hxw d2
                      clear hj
                      go_simp
                      try go_bits
                      first | rfl | (rw [if_pos (by omega), if_pos (by omega)]; go_simp; rfl) | (rw [if_pos (by omega)]; go_simp; rfl) | skip
                    · have d0 := Ext.cell_some hxw d0
                      have d1 := Ext.cell_some hxw d1
                      have d2 := Ext.cell_some hxw d2
                      clear hj
                      go_simp
                      try go_bits
                      first | rfl | (rw [if_pos (by omega), if_pos (by omega)]; go_simp; rfl) | (rw [if_pos (by omega)]; go_simp; rfl) | skip
                    · have d0 := Ext.cell_some hxw d0
                      have d1 := Ext.cell_some hxw d1
                      have d2 := Ext.cell_some hxw d2
                      clear hj
                      go_simp
                      try go_bits
                      first | rfl | (rw [if_pos (by omega), if_pos (by omega)]; go_simp; rfl) | (rw [if_pos (by omega)]; go_simp; rfl) | skip
                    · have d0 := Ext.cell_some hxw d0
                      have d1 := Ext.cell_some hxw d1
                      have d2 := Ext.cell_some hxw d2
                      clear hj
                      go_simp
                      try go_bits
                      first | rfl | (rw [if_pos (by omega), if_pos (by omega)]; go_simp; rfl) | (rw [if_pos (by omega)]; go_simp; rfl) | skip
                    · have d0 := Ext.cell_some hxw d0
                      have d1 := Ext.cell_some hxw d1
                      have d2 := Ext.cell_some hxw d2
                      clear hj
                      go_simp
                      try go_bits
                      first | rfl | (rw [if_pos (by omega), if_pos (by omega)]; go_simp; rfl) | (rw [if_pos (by omega)]; go_simp; rfl) | skip
                    · have d0 := Ext.cell_some hxw d0
                      have d1 := Ext.cell_some hxw d1
                      have d2 := Ext.cell_some hxw d2
                      clear hj
                      go_simp
                      try go_bits
                      first | rfl | (rw [if_pos (by omega), if_pos (by omega)]; go_simp; rfl) | (rw [if_pos (by omega)]; go_simp; rfl) | skip
                    · have d0 := Ext.cell_some hxw d0
                      have d1 := Ext.cell_some hxw d1
                      have d2 := Ext.cell_some hxw d2
                      clear hj
                      go_simp
                      try go_bits
                      first | rfl | (rw [if_pos (by omega), if_pos (by omega)]; go_simp; rfl) | (rw [if_pos (by omega)]; go_simp; rfl) | skip
                    · have d0 := Ext.cell_some hxw d0
                      have d1 := Ext.cell_some hxw d1
                      have d2 := Ext.cell_some hxw d2
                      clear hj
                      go_simp
                      try go_bits
                      first | rfl | (rw [if_pos (by omega), if_pos (by omega)]; go_simp; rfl) | (rw [if_pos (by omega)]; go_simp; rfl) | skip
                    · have d0 := Ext.cell_some hxw d0
                      have d1 := Ext.cell_some hxw d1
                      have d2 := Ext.cell_some hxw d2
                      clear hj
                      go_simp
                      try go_bits
                      first | rfl | (rw [if_pos (by omega), if_pos (by omega)]; go_simp; rfl) | (rw [if_pos (by omega)]; go_simp; rfl) | skip
                    · have d0 := Ext.cell_some hxw d0
                      have d1 := Ext.cell_some hxw d1
                      have d2 := Ext.cell_some hxw d2
                      clear hj
                      go_simp
                      try go_bits
                      first | rfl | (rw [if_pos (by omega), if_pos (by omega)]; go_simp; rfl) | (rw [if_pos (by omega)]; go_simp; rfl) | skip
                    · have d0 := Ext.cell_some hxw d0
                      have d1 := Ext.cell_some hxw d1
                      have d2 := Ext.cell_some hxw d2
                      clear hj
                      go_simp
                      try go_bits
                      first | rfl | (rw [if_pos (by omega), if_pos (by omega)]; go_simp; rfl) | (rw [if_pos (by omega)]; go_simp; rfl) | skip
                    · have d0 := Ext.cell_some hxw d0
                      have d1 := Ext.cell_some hxw d1
                      have d2 := Ext.cell_some hxw d2
                      clear hj
                      go_simp
                      try go_bits
                      first | rfl | (rw [if_pos (by omega), if_pos (by omega)]; go_simp; rfl) | (rw [if_pos (by omega)]; go_simp; rfl) | skip
                    · have d0 := Ext.cell_some hxw d0
                      have d1 := Ext.cell_some hxw d1
                      have d2 := Ext.cell_some hxw d2
                      clear hj
                      go_simp
                      try go_bits
                      first | rfl | (rw [if_pos (by omega), if_pos (by omega)]; go_simp; rfl) | (rw [if_pos (by omega)]; go_simp; rfl) | skip
                    · have d0 := Ext.cell_some hxw d0
                      have d1 := Ext.cell_some hxw d1
                      have d2 := Ext.cell_some hxw d2
                      clear hj
                      go_simp
                      try go_bits
                      first | rfl | (rw [if_pos (by omega), if_pos (by omega)]; go_simp; rfl) | (rw [if_pos (by omega)]; go_simp; rfl) | skip
                    · have d0 := Ext.cell_some hxw d0
                      have d1 := Ext.cell_some hxw d1
                      have d2 := Ext.cell_some hxw d2
                      clear hj
                      go_simp
                      try go_bits
                      exact HP.out.2.2.1 _
                    · have d0 := Ext.cell_some hxw d0
                      have d1 := Ext.cell_some hxw d1
                      have d2 := Ext.cell_some hxw d2
                      clear hj
                      go_simp
                      try go_bits
                      first | rfl | (rw [if_pos (by omega), if_pos (by omega)]; go_simp; rfl) | (rw [if_pos (by omega)]; go_simp; rfl) | skip
                    · have d0 := Ext.cell_some hxw d0
                      have d1 := Ext.cell_some hxw d1
                      have d2 := Ext.cell_some hxw d2
                      clear hj
                      go_simp
                      try go_bits
                      first | rfl | (rw [if_pos (by omega), if_pos (by omega)]; go_simp; rfl) | (rw [if_pos (by omega)]; go_simp; rfl) | skip
                    · have d0 := Ext.cell_some hxw d0
                      have d1 := Ext.cell_some hxw d1
                      have d2 := Ext.cell_some hxw d2
                      clear hj
                      go_simp
                      try go_bits
                      exact HP.out.2.2.2.1 _
                    · have d0 := Ext.cell_some hxw d0
                      have d1 := Ext.cell_some hxw d1
                      have d2 := Ext.cell_some hxw d2
                      clear hj
                      go_simp
                      try go_bits
                      first | rfl | (rw [if_pos (by omega), if_pos (by omega)]; go_simp; rfl) | (rw [if_pos (by omega)]; go_simp; rfl) | skip
                    · have d0 := Ext.cell_some hxw d0
                      have d1 := Ext.cell_some hxw d1
                      have d2 := Ext.cell_some hxw d2
                      clear hj
                      go_simp
                      try go_bits
                      first | rfl | (rw [if_pos (by omega), if_pos (by omega)]; go_simp; rfl) | (rw [if_pos (by omega)]; go_simp; rfl) | skip
                  case' hx5_57_p =>
                    intro vs w5 hx5 hk
                    clear hk
                    replace d0 := Ext.cell_some hx5 d0
                    replace d1 := Ext.cell_some hx5 d1
                    replace d2 := Ext.cell_some hx5 d2
                    replace hxs := Ext.trans hxs hx5
                    go_simp
                    clear hx5 d0 d1 d2
                    go_wp2
                    go_roundw
                    case rel => exact ⟨j + 1, by omega, by go_num, by rw [← Nat.add_assoc]; exact hno3.succ HGN.out, hxs⟩
                    case measure => simp [intOf]; omega
                | true =>
                  have hGn : twinG n o (wordsL 2 m) k (k + 1 + j) = some (u, v) := by rw [HP.out.1, HP.out.2.1]; simp_all
                  have hhit : r = some (u, v) := by
                    have e : (wordsL 2 m).length = V := by rw [HV.out.1]; simp [wordsL]
                    have h1 : twinAt 2 n o (wordsL 2 m) k = some (u, v) := by
                      unfold twinAt
                      rw [e]
                      exact firstOf_hit (x := k + 1 + j) (by omega) hno3 hGn
                    have h2 : twinF n o m = some (u, v) := by
                      unfold twinF twinOf
                      rw [if_pos hnm, e]
                      exact firstOf_hit hltk hno2 h1
                    rw [HR.out.1]
                    exact firstOf_hit (by omega) hno h2
                  have HH := Lib.hid hhit
                  clear hGn hhit
                  go_wp2
                  refine wp_region_inv (by kernel_rfl) (.known ?hx5_58_v0 :: .known ?hx5_58_v1 :: .known ?hx5_58_v2 :: .known ?hx5_58_v3 :: .known ?hx5_58_v4 :: .known ?hx5_58_v5 :: .known ?hx5_58_v6 :: .known ?hx5_58_v7 :: .known ?hx5_58_v8 :: .known ?hx5_58_v9 :: .known ?hx5_58_v10 :: .known ?hx5_58_v11 :: .known ?hx5_58_v12 :: .known ?hx5_58_v13 :: .known ?hx5_58_v14 :: .known ?hx5_58_v15 :: .known ?hx5_58_v16 :: .known ?hx5_58_v17 :: .known ?hx5_58_v18 :: .known ?hx5_58_v19 :: .known ?hx5_58_v20 :: .known ?hx5_58_v21 :: .known ?hx5_58_v22 :: .known (.string X) :: .known ?hx5_58_v24 :: .known ?hx5_58_v25 :: .known (.string Y) :: .known ?hx5_58_v27 :: .known ?hx5_58_v28 :: []) rfl (by kernel_rfl) ?hx5_58_s ?hx5_58_p
                  case hx5_58_s =>
                    intro vs
                    refine ⟨fun w' hxw hj => ?_, fun w' hxw hj => ?_, fun w' hxw hj => ?_, fun w' hxw hj => ?_, fun w' hxw hj => ?_, fun w' hxw hj => ?_, fun w' hxw hj => ?_, fun w' hxw hj => ?_, fun w' hxw hj => ?_, fun w' hxw hj => ?_, fun w' hxw hj => ?_, fun w' hxw hj => ?_, fun w' hxw hj => ?_, fun w' hxw hj => ?_, fun w' hxw hj => ?_, fun w' hxw hj => ?_, fun w' hxw hj => ?_, fun w' hxw hj => ?_, fun w' hxw hj => ?_, fun w' hxw hj => ?_, fun w' hxw hj => ?_, fun w' hxw hj => ?_, fun w' hxw hj => ?_, fun w' hxw hj => ?_, fun w' hxw hj => ?_, fun w' hxw hj => ?_, fun w' hxw hj => ?_, fun w' hxw hj => ?_, fun w' hxw hj => ?_, trivial⟩
                    · have d0 := Ext.cell_some hxw d0
                      have d1 := Ext.cell_some hxw d1
                      have d2 := Ext.cell_some hxw d2
                      clear hj
                      go_simp
                      try go_bits
                      first | rfl | (rw [if_pos (by omega), if_pos (by omega)]; go_simp; rfl) | (rw [if_pos (by omega)]; go_simp; rfl) | skip
                    · have d0 := Ext.cell_some hxw d0
                      have d1 := Ext.cell_some hxw d1
                      have d2 := Ext.cell_some hxw d2
                      clear hj
                      go_simp
                      try go_bits
                      first | rfl | (rw [if_pos (by omega), if_pos (by omega)]; go_simp; rfl) | (rw [if_pos (by omega)]; go_simp; rfl) | skip
                    · have d0 := Ext.cell_some hxw d0
                      have d1 := Ext.cell_some hxw d1
                      have d2 := Ext.cell_some hxw d2
                      clear hj
                      go_simp
                      try go_bits
                      first | rfl | (rw [if_pos (by omega), if_pos (by omega)]; go_simp; rfl) | (rw [if_pos (by omega)]; go_simp; rfl) | skip
                    · have d0 := Ext.cell_some hxw d0
                      have d1 := Ext.cell_some hxw d1
                      have d2 := Ext.cell_some hxw d2
                      clear hj
                      go_simp
                      try go_bits
                      first | rfl | (rw [if_pos (by omega), if_pos (by omega)]; go_simp; rfl) | (rw [if_pos (by omega)]; go_simp; rfl) | skip
                    · have d0 := Ext.cell_some hxw d0
                      have d1 := Ext.cell_some hxw d1
                      have d2 := Ext.cell_some hxw d2
                      clear hj
                      go_simp
                      try go_bits
                      first | rfl | (rw [if_pos (by omega), if_pos (by omega)]; go_simp; rfl) | (rw [if_pos (by omega)]; go_simp; rfl) | skip
                    · have d0 := Ext.cell_some hxw d0
                      have d1 := Ext.cell_some hxw d1
                      have d2 := Ext.cell_some hxw d2
                      clear hj
                      go_simp
                      try go_bits
                      first | rfl | (rw [if_pos (by omega), if_pos (by omega)]; go_simp; rfl) | (rw [if_pos (by omega)]; go_simp; rfl) | skip
                    · have d0 := Ext.cell_some hxw d0
                      have d1 := Ext.cell_some hxw d1
                      have d2 := Ext.cell_some hxw d2
                      clear hj
                      go_simp
                      try go_bits
                      first | rfl | (rw [if_pos (by omega), if_pos (by omega)]; go_simp; rfl) | (rw [if_pos (by omega)]; go_simp; rfl) | skip
                    · have d0 := Ext.cell_some hxw d0
                      have d1 := Ext.cell_some hxw d1
                      have d2 := Ext.cell_some hxw d2
                      clear hj
                      go_simp
                      try go_bits
                      first | rfl | (rw [if_pos (by omega), if_pos (by omega)]; go_simp; rfl) | (rw [if_pos (by omega)]; go_simp; rfl) | skip
                    · have d0 := Ext.cell_some hxw d0
                      have d1 := Ext.cell_some hxw d1
                      have d2 := Ext.cell_some hxw d2
                      clear hj
                      go_simp
                      try go_bits
                      first | rfl | (rw [if_pos (by omega), if_pos (by omega)]; go_simp; rfl) | (rw [if_pos (by omega)]; go_simp; rfl) | skip
                    · have d0 := Ext.cell_some hxw d0
                      have d1 := Ext.cell_some hxw d1
                      have d2 := Ext.cell_some hxw d2
                      clear hj
                      go_simp
                      try go_bits
                      first | rfl | (rw [if_pos (by omega), if_pos (by omega)]; go_simp; rfl) | (rw [if_pos (by omega)]; go_simp; rfl) | skip
                    · have d0 := Ext.cell_some hxw d0
                      have d1 := Ext.cell_some hxw d1
                      have d2 := Ext.cell_some hxw d2
                      clear hj
                      go_simp
                      try go_bits
                      first | rfl | (rw [if_pos (by omega), if_pos (by omega)]; go_simp; rfl) | (rw [if_pos (by omega)]; go_simp; rfl) | skip
                    · have d0 := Ext.cell_some hxw d0
                      have d1 := Ext.cell_some hxw d1
                      have d2 := Ext.cell_some hxw d2
                      clear hj
                      go_simp
                      try go_bits
                      first | rfl | (rw [if_pos (by omega), if_pos (by omega)]; go_simp; rfl) | (rw [if_pos (by omega)]; go_simp; rfl) | skip
                    · have d0 := Ext.cell_some hxw d0
                      have d1 := Ext.cell_some hxw d1
                      have d2 := Ext.cell_some hxw d2
                      clear hj
                      go_simp
                      try go_bits
                      first | rfl | (rw [if_pos (by omega), if_pos (by omega)]; go_simp; rfl) | (rw [if_pos (by omega)]; go_simp; rfl) | skip
                    · have d0 := Ext.cell_some hxw d0
                      have d1 := Ext.cell_some hxw d1
                      have d2 := Ext.cell_some hxw d2
                      clear hj
                      go_simp
                      try go_bits
                      first | rfl | (rw [if_pos (by omega), if_pos (by omega)]; go_simp; rfl) | (rw [if_pos (by omega)]; go_simp; rfl) | skip
                    · have d0 := Ext.cell_some hxw d0
                      have d1 := Ext.cell_some hxw d1
                      have d2 := Ext.cell_some hxw d2
                      clear hj
                      go_simp
                      try go_bits
                      first | rfl | (rw [if_pos (by omega), if_pos (by omega)]; go_simp; rfl) | (rw [if_pos (by omega)]; go_simp; rfl) | skip
                    · have d0 := Ext.cell_some hxw d0
                      have d1 := Ext.cell_some hxw d1
                      have d2 := Ext.cell_some hxw d2
                      clear hj
                      go_simp
                      try go_bits
                      first | rfl | (rw [if_pos (by omega), if_pos (by omega)]; go_simp; rfl) | (rw [if_pos (by omega)]; go_simp; rfl) | skip
                    · have d0 := Ext.cell_some hxw d0
                      have d1 := Ext.cell_some hxw d1
                      have d2 := Ext.cell_some hxw d2
                      clear hj
                      go_simp
                      try go_bits
                      first | rfl | (rw [if_pos (by omega), if_pos (by omega)]; go_simp; rfl) | (rw [if_pos (by omega)]; go_simp; rfl) | skip
                    · have d0 := Ext.cell_some hxw d0
                      have d1 := Ext.cell_some hxw d1
                      have d2 := Ext.cell_some hxw d2
                      clear hj
                      go_simp
                      try go_bits
                      first | rfl | (rw [if_pos (by omega), if_pos (by omega)]; go_simp; rfl) | (rw [if_pos (by omega)]; go_simp; rfl) | skip
                    · have d0 := Ext.cell_some hxw d0
                      have d1 := Ext.cell_some hxw d1
                      have d2 := Ext.cell_some hxw d2
                      clear hj
                      go_simp
                      try go_bits
                      first | rfl | (rw [if_pos (by omega), if_pos (by omega)]; go_simp; rfl) | (rw [if_pos (by omega)]; go_simp; rfl) | skip
                    · have d0 := Ext.cell_some hxw d0
                      have d1 := Ext.cell_some hxw d1
                      have d2 := Ext.cell_some hxw d2
                      clear hj
                      go_simp
                      try go_bits
                      first | rfl | (rw [if_pos (by omega), if_pos (by omega)]; go_simp; rfl) | (rw [if_pos (by omega)]; go_simp; rfl) | skip
                    · have d0 := Ext.cell_some hxw d0
                      have d1 := Ext.cell_some hxw d1
                      have d2 := Ext.cell_some hxw d2
                      clear hj
                      go_simp
                      try go_bits
                      first | rfl | (rw [if_pos (by omega), if_pos (by omega)]; go_simp; rfl) | (rw [if_pos (by omega)]; go_simp; rfl) | skip
                    · have d0 := Ext.cell_some hxw d0
                      have d1 := Ext.cell_some hxw d1
                      have d2 := Ext.cell_some hxw d2
                      clear hj
                      go_simp
                      try go_bits
                      first | rfl | (rw [if_pos (by omega), if_pos (by omega)]; go_simp; rfl) | (rw [if_pos (by omega)]; go_simp; rfl) | skip
                    · have d0 := Ext.cell_some hxw d0
                      have d1 := Ext.cell_some hxw d1
                      have d2 := Ext.cell_some hxw d2
                      clear hj
                      go_simp
                      try go_bits
                      first | rfl | (rw [if_pos (by omega), if_pos (by omega)]; go_simp; rfl) | (rw [if_pos (by omega)]; go_simp; rfl) | skip
                    · have d0 := Ext.cell_some hxw d0
                      have d1 := Ext.cell_some hxw d1
                      have d2 := Ext.cell_some hxw d2
                      clear hj
                      go_simp
                      try go_bits
                      exact HP.out.2.2.1 _
                    · have d0 := Ext.cell_some hxw d0
                      have d1 := Ext.cell_some hxw d1
                      have d2 := Ext.cell_some hxw d2
                      clear hj
                      go_simp
                      try go_bits
                      first | rfl | (rw [if_pos (by omega), if_pos (by omega)]; go_simp; rfl) | (rw [if_pos (by omega)]; go_simp; rfl) | skip
                    · have d0 := Ext.cell_some hxw d0
                      have d1 := Ext.cell_some hxw d1
                      have d2 := Ext.cell_some hxw d2
                      clear hj
                      go_simp
                      try go_bits
                      first | rfl | (rw [if_pos (by omega), if_pos (by omega)]; go_simp; rfl) | (rw [if_pos (by omega)]; go_simp; rfl) | skip
                    · have d0 := Ext.cell_some hxw d0
                      have d1 := Ext.cell_some hxw d1
                      have d2 := Ext.cell_some hxw d2
                      clear hj
                      go_simp
                      try go_bits
                      exact HP.out.2.2.2.1 _
                    · have d0 := Ext.cell_some hxw d0
                      have d1 := Ext.cell_some hxw d1
                      have d2 := Ext.cell_some hxw d2
                      clear hj
                      go_simp
                      try go_bits
                      first | rfl | (rw [if_pos (by omega), if_pos (by omega)]; go_simp; rfl) | (rw [if_pos (by omega)]; go_simp; rfl) | skip
                    · have d0 := Ext.cell_some hxw d0
                      have d1 := Ext.cell_some hxw d1
                      have d2 := Ext.cell_some hxw d2
                      clear hj
                      go_simp
                      try go_bits
                      first | rfl | (rw [if_pos (by omega), if_pos (by omega)]; go_simp; rfl) | (rw [if_pos (by omega)]; go_simp; rfl) | skip
                  case' hx5_58_p =>
                    intro vs w5 hx5 hk
                    clear hk
                    replace d0 := Ext.cell_some hx5 d0
                    replace d1 := Ext.cell_some hx5 d1
                    replace d2 := Ext.cell_some hx5 d2
                    replace hxs := Ext.trans hxs hx5
                    go_simp
                    clear hx5 d0 d1 d2
                    go_wp2
                    go_ret3
                    exact ⟨by rw [HH.out, HU.out.2.2.2, HP.out.2.2.2.2]; rfl, hx2'.trans hxs⟩
              · have hjj := hj
                have hjL : j = L := by omega
                have hnone : twinAt 2 n o (wordsL 2 m) k = none := by
                  have e : (wordsL 2 m).length = k + 1 + j := by rw [hjL, hL, HV.out.1]; simp [wordsL]
                  unfold twinAt
                  rw [e]
                  exact firstOf_none hno3
                have HN := Lib.hid hnone
                clear hnone
                subst hjL
                go_wp2
                go_roundw
                case rel => exact ⟨k + 1, by omega, by go_num, hno2.succ HN.out, hxs⟩
                case measure => simp [intOf]; omega
        · have hkV : k = V := by omega
          have hnone : twinF n o m = none := by
            unfold twinF twinOf
            have e : (wordsL 2 m).length = k := by rw [hkV, HV.out.1]; simp [wordsL]
            rw [if_pos hnm, e]
            exact firstOf_none hno2
          have HN := Lib.hid hnone
          clear hnone
          subst hkV
          go_wp2
          go_roundw
          case rel => exact ⟨m + 1, by omega, by omega, by go_num, hno.succ HN.out, hx2'.trans hxr, bo.ext hxr⟩
          case measure => simp [intOf]; omega
    · have hm : m = 8 := by omega
      have hrn : r = none := by rw [HR.out.1]; exact firstOf_none (by rw [← hm]; exact hno)
      have HN := Lib.hid hrn
      clear hrn
      go_wp2
      go_ret3
      exact ⟨by rw [HN.out]; rfl, hx⟩
end Go.Proofs.Ytfkdpeifnfpldaa
