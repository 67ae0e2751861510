/- Several texts of mine in one: Facts, LawMat, LawMatB, LawRes, LawCode, L1In, NumA, ZeroA, MatA, MatB, JoinA, JoinB. -/
import Derived.Test.YtfiembmfkokllaaGreatRows
import Derived.Test.YtfiembmfkokllaaGreatPkA
import Derived.Test.YtfiembmfkokllaaGreatPkB
import Derived.WalkLawsBesides
import Derived.Lib.Hide
import Derived.WalkKit
import Derived.WalkSpells
/- Closed facts on types of this translation. -/
namespace Go.Proofs.YtfiembmfkokllaaGreat
theorem infoU8 : (Tryz.prog.info? 5).map (fun i => (i.zero, i.size, i.bytes)) = some (some (.int .u8 0), 1, 1) := by kernel_rfl
theorem infoInt : (Tryz.prog.info? 3).map (fun i => (i.zero, i.size, i.bytes)) = some (some (.int .i64 0), 1, 8) := by kernel_rfl
theorem infoStr : (Tryz.prog.info? 9).map (fun i => (i.zero, i.size, i.bytes)) = some (some (.string ⟨#[]⟩), 1, 16) := by kernel_rfl
end Go.Proofs.YtfiembmfkokllaaGreat

/- Contracts of the laws' own helpers on lists and tables of numbers: sizes, copies, comparisons, marks. -/
namespace Go.Proofs.YtfiembmfkokllaaGreat
open Go.RowKit

theorem infoRow : (Tryz.prog.info? 52).map (fun i => (i.zero, i.size, i.bytes)) = some (some (.slice none 0 0), 1, 24) := by kernel_rfl
theorem ret_int {k : IntKind} {a b : Int} (h : a = b) : Ending.returned (.int k a) = .returned (.int k b) := by rw [h]
theorem ret_bool {a b : Bool} (h : a = b) : Ending.returned (.bool a) = .returned (.bool b) := by rw [h]

end Go.Proofs.YtfiembmfkokllaaGreat

/- Contracts of the laws' own helpers on tables of numbers: copies, comparisons, marks. -/
namespace Go.Proofs.YtfiembmfkokllaaGreat
open Go.RowKit

end Go.Proofs.YtfiembmfkokllaaGreat

/- Results of the program's own memory, and how the laws mark them. -/
namespace Go.Proofs.YtfiembmfkokllaaGreat
open Go.RowKit

/-- a table that the call has made, or none -/
def ResM (w : World) (B : Nat) (v : Value) (r : List (List Int)) : Prop :=
  (v = .slice none 0 0 ∧ r = []) ∨ ∃ g cap gs cs, v = .slice (some ⟨g, 0, none⟩) r.length cap ∧ MTab w B 52 3 g r.length cap gs cs r
/-- a list that the call has made, or none -/
def ResI (w : World) (B : Nat) (v : Value) (r : List Int) : Prop := Own w B 3 v (icells r)

theorem ResM.reads {w : World} {B : Nat} {v : Value} {r : List (List Int)} (h : ResM w B v r) : ReadsRows w v r := by
  rcases h with ⟨rfl, rfl⟩ | ⟨g, cap, gs, cs, rfl, ht⟩
  · exact ReadsRows.nil w _ none rfl
  · exact ht.reads rfl
theorem ResM.ext {w w' : World} {B : Nat} {v : Value} {r : List (List Int)} (h : ResM w B v r) (hx : Ext w w') : ResM w' B v r := by
  rcases h with h | ⟨g, cap, gs, cs, hv, ht⟩
  · exact .inl h
  · exact .inr ⟨g, cap, gs, cs, hv, ht.ext hx⟩
theorem ResM.mono {w : World} {B B' : Nat} {v : Value} {r : List (List Int)} (h : ResM w B v r) (hB : B' ≤ B) : ResM w B' v r := by
  rcases h with h | ⟨g, cap, gs, cs, hv, ht⟩
  · exact .inl h
  · exact .inr ⟨g, cap, gs, cs, hv, ht.mono hB⟩
theorem ResI.reads {w : World} {B : Nat} {v : Value} {r : List Int} (h : ResI w B v r) : ReadsI w v r := Own.readsI h
theorem ResI.ext {w w' : World} {B : Nat} {v : Value} {r : List Int} (h : ResI w B v r) (hx : Ext w w') : ResI w' B v r := Own.ext h hx
theorem ResI.mono {w : World} {B B' : Nat} {v : Value} {r : List Int} (h : ResI w B v r) (hB : B' ≤ B) : ResI w B' v r := Own.mono h hB
/-- .. with a bound on its blocks -/
def ResMC (w : World) (B C : Nat) (v : Value) (r : List (List Int)) : Prop :=
  (v = .slice none 0 0 ∧ r = []) ∨ ∃ g cap gs cs, v = .slice (some ⟨g, 0, none⟩) r.length cap ∧ MTab w B 52 3 g r.length cap gs cs r ∧ ∀ i, i < r.length → gs i < C
def ResIC (w : World) (B C : Nat) (v : Value) (r : List Int) : Prop := ResI w B v r ∧ ∀ k, v.ownBlock = some k → k < C
theorem ResMC.res {w : World} {B C : Nat} {v : Value} {r : List (List Int)} (h : ResMC w B C v r) : ResM w B v r := by
  rcases h with h | ⟨g, cap, gs, cs, hv, ht, _⟩
  · exact .inl h
  · exact .inr ⟨g, cap, gs, cs, hv, ht⟩
theorem ResMC.reads {w : World} {B C : Nat} {v : Value} {r : List (List Int)} (h : ResMC w B C v r) : ReadsRows w v r := h.res.reads
theorem ResMC.ext {w w' : World} {B C : Nat} {v : Value} {r : List (List Int)} (h : ResMC w B C v r) (hx : Ext w w') : ResMC w' B C v r := by
  rcases h with h | ⟨g, cap, gs, cs, hv, ht, hc⟩
  · exact .inl h
  · exact .inr ⟨g, cap, gs, cs, hv, ht.ext hx, hc⟩
theorem ResIC.reads {w : World} {B C : Nat} {v : Value} {r : List Int} (h : ResIC w B C v r) : ReadsI w v r := h.1.reads
theorem ResIC.ext {w w' : World} {B C : Nat} {v : Value} {r : List Int} (h : ResIC w B C v r) (hx : Ext w w') : ResIC w' B C v r := ⟨h.1.ext hx, h.2⟩
end Go.Proofs.YtfiembmfkokllaaGreat

/- Contracts of the laws' own helpers on codes: the sizes, the copy, the comparison. -/
namespace Go.Proofs.YtfiembmfkokllaaGreat
open Go.RowKit

end Go.Proofs.YtfiembmfkokllaaGreat

/- Contract: a number within bounds, by the reference. -/
namespace Go.Proofs.YtfiembmfkokllaaGreat
open Go.RowKit

theorem ret_boolB {a b : Bool} (h : a = b) : Ending.returned (.bool a) = .returned (.bool b) := by rw [h]
theorem spec_l1In_any (x lo hi : Int) (w : World) :
    Calls Tryz.prog 53 #[.int .i64 x, .int .i64 lo, .int .i64 hi] w fun e w' => e = .returned (.bool (decide (lo ≤ x) && decide (x ≤ hi))) ∧ w = w' := by
  by_cases h : lo ≤ x
  · go_enter Tryz.func53, Tryz.ntmps53
    go_wp2
    go_ret
    exact ⟨ret_boolB (by simp [h]), rfl⟩
  · have h' : x < lo := by omega
    go_enter Tryz.func53, Tryz.ntmps53
    go_wp2
    go_ret
    exact ⟨ret_boolB (by simp; omega), rfl⟩

theorem spec_l1In_yes (x lo hi : Int) (w : World) (h1 : lo ≤ x) (h2 : x ≤ hi) :
    Calls Tryz.prog 53 #[.int .i64 x, .int .i64 lo, .int .i64 hi] w fun e w' => e = .returned (.bool true) ∧ w = w' :=
  (spec_l1In_any x lo hi w).mono fun _ _ ⟨he, hw⟩ => ⟨he.trans (ret_boolB (by simp [h1, h2])), hw⟩
theorem spec_l1In_no (x lo hi : Int) (w : World) (h : x < lo ∨ hi < x) :
    Calls Tryz.prog 53 #[.int .i64 x, .int .i64 lo, .int .i64 hi] w fun e w' => e = .returned (.bool false) ∧ w = w' :=
  (spec_l1In_any x lo hi w).mono fun _ _ ⟨he, hw⟩ => ⟨he.trans (ret_boolB (by simp; omega)), hw⟩
end Go.Proofs.YtfiembmfkokllaaGreat

/- Contracts: small helpers of the reference on numbers. -/
namespace Go.Proofs.YtfiembmfkokllaaGreat
open Go.RowKit

theorem spec_l1Bit_any (b : Bool) (w : World) :
    Calls Tryz.prog 116 #[.bool b] w fun e w' => e = .returned (.int .i64 (if b = true then 1 else 0)) ∧ w = w' := by
  cases b
  all_goals
    go_enter Tryz.func116, Tryz.ntmps116
    go_wp2
    go_ret
    exact ⟨rfl, rfl⟩
end Go.Proofs.YtfiembmfkokllaaGreat

/- Contracts: tables of zeros, by the program and by the reference. -/
namespace Go.Proofs.YtfiembmfkokllaaGreat
open Go.RowKit Go.Mx

set_option maxHeartbeats 2000000 in
theorem impl_zeros_any (n : Nat) (w : World) (hn : n ≤ 1000) :
    Calls Tryz.prog 35 #[.int .i64 n] w fun e w' => ∃ g cap gs cs, e = .returned (.slice (some ⟨g, 0, none⟩) n cap) ∧ MTab w' w.heap.size 52 3 g n cap gs cs (tabF n n fun _ _ => 0) ∧ Ext w w' := by
  obtain ⟨c, hc⟩ : ∃ c, c = n := ⟨_, rfl⟩
  have hcn : (n : Int) = (c : Int) := by omega
  rw [show (tabF n n fun _ _ => (0 : Int)) = tabF n c fun _ _ => 0 by rw [hc]]
  have hcc : c ≤ 1000 := by omega
  clear hc
  have hmk := run_make_row' (P := Tryz.prog) 52 3 (.int .i64 0) 8 Tryz.underlying52 infoInt rfl .i64 .i64 c (by omega) (by omega)
  have hB0 : MTab (w.alloc (.cells #[] 52)) w.heap.size 52 3 w.heap.size 0 0 (fun _ => 0) (fun _ => 0) (tabF 0 c fun _ _ => 0) := MTab.nil (Own.lit w 52 [] (by simp)) _ _
  go_enter Tryz.func35, Tryz.ntmps35
  go_wp2
  go_loopw [3, 6] (fun v i wr => ∃ (k g cap : Nat) (gs cs : Nat → Nat), k ≤ n ∧ i = .int .i64 k ∧ v = .slice (some ⟨g, 0, none⟩) k cap ∧ MTab wr w.heap.size 52 3 g k cap gs cs (tabF k c fun _ _ => 0) ∧ Ext w wr) (fun _ i _ => n - (intOf i).toNat)
  case atStart => exact ⟨0, _, _, _, _, by omega, rfl, rfl, hB0, Ext.alloc _ _⟩
  case round =>
    clear hB0
    obtain ⟨k, g, cap, gs, cs, hk, rfl, rfl, ht, hx⟩ := hrel
    by_cases hlt : k < n
    · have hfull := ht.full (tabF_length _ _ _).symm
      have hgl := ht.lt
      have hgsl := ht.rowlt
      have hv1 : (rowsV gs cs (tabF k c fun _ _ => 0)).length + 1 ≤ maxLen := by rw [rowsV_length, tabF_length]; unfold maxLen; omega
      have hv2 : ((rowsV gs cs (tabF k c fun _ _ => 0)).length + 1) * 24 ≤ 140737488355328 := by rw [rowsV_length, tabF_length]; omega
      have hz : Own (wr.alloc (.cells (madeCells #[.int .i64 0] c) 3)) wr.heap.size 3 (.slice (some ⟨wr.heap.size, 0, none⟩) c c) (icells (rowF c fun _ => 0)) := by
        have := Own.made wr 3 (.int .i64 0) c (by unfold maxLen; omega)
        rw [rowF_zero, icells_replicate]; exact this
      have HS := Lib.hid (And.intro hfull (And.intro hgl (And.intro hgsl (And.intro ht (And.intro hv1 (And.intro hv2 hz))))))
      clear hfull hgl hgsl ht hv1 hv2 hz
      go_wp2_with (at_builtin; refine wpList_append_one rfl (.tmp 8) (.tmp 11) 30 rfl 52 _ _ Tryz.underlying30 infoRow rfl w.heap.size _ (rowsV gs cs (tabF k c fun _ _ => 0)) rfl ((HS.out.1.ext (Ext.alloc _ _)).ext (Ext.alloc _ _)) _ _ rfl (by simp; rfl) rfl HS.out.2.2.2.2.1 HS.out.2.2.2.2.2.1 w rfl ((hx.trans (Ext.alloc _ _)).trans (Ext.alloc _ _)) ?_; intro v4 w4 hown4 hx4 hmv4; have H4 := Lib.hid (And.intro hown4 (And.intro hx4 hmv4)); clear hown4 hx4 hmv4)
      go_roundw
      case rel =>
        have ht3 := (HS.out.2.2.2.1.ext (Ext.alloc wr (.cells (madeCells #[.int .i64 0] c) 3))).ext (Ext.alloc _ (.cells #[.slice (some ⟨wr.heap.size, 0, none⟩) c c] 52))
        have hlen3 : (rowF c fun _ => (0 : Int)).length = c := rowF_length _ _
        obtain ⟨g', cap', gs', cs', hv', ht'⟩ := ht3.push (r := rowF c fun _ => 0) (gr := wr.heap.size) (cr := c) (tabF_length _ _ _).symm (by rw [hlen3]; exact ((HS.out.2.2.2.2.2.2.mono hx.size).ext (Ext.alloc _ _))) (by have := HS.out.2.1; omega) (fun i hi => by have := HS.out.2.2.1 i hi; omega) (by rw [hlen3]; exact H4.out.1) H4.out.2.2
        rw [← tabF_succ k c fun _ _ => 0] at ht'
        exact ⟨k + 1, g', cap', gs', cs', by omega, by go_num, hv', ht', H4.out.2.1⟩
      case measure => simp [intOf]; omega
    · have hkn : k = n := by omega
      subst hkn
      go_wp2
      go_ret
      exact ⟨g, cap, gs, cs, rfl, ht, hx⟩

set_option maxHeartbeats 2000000 in
theorem spec_l4Zero_any (n c : Nat) (w : World) (hc : c ≤ 1000) (hn : n ≤ 1000) :
    Calls Tryz.prog 37 #[.int .i64 n, .int .i64 c] w fun e w' => ∃ g cap gs cs, e = .returned (.slice (some ⟨g, 0, none⟩) n cap) ∧ MTab w' w.heap.size 52 3 g n cap gs cs (tabF n c fun _ _ => 0) ∧ Ext w w' := by
  have hmk := run_make_row' (P := Tryz.prog) 52 3 (.int .i64 0) 8 Tryz.underlying52 infoInt rfl .i64 .i64 c (by omega) (by omega)
  have hB0 : MTab (w.alloc (.cells #[] 52)) w.heap.size 52 3 w.heap.size 0 0 (fun _ => 0) (fun _ => 0) (tabF 0 c fun _ _ => 0) := MTab.nil (Own.lit w 52 [] (by simp)) _ _
  go_enter Tryz.func37, Tryz.ntmps37
  go_wp2
  go_loopw [5, 6] (fun v i wr => ∃ (k g cap : Nat) (gs cs : Nat → Nat), k ≤ n ∧ i = .int .i64 k ∧ v = .slice (some ⟨g, 0, none⟩) k cap ∧ MTab wr w.heap.size 52 3 g k cap gs cs (tabF k c fun _ _ => 0) ∧ Ext w wr) (fun _ i _ => n - (intOf i).toNat)
  case atStart => exact ⟨0, _, _, _, _, by omega, rfl, rfl, hB0, Ext.alloc _ _⟩
  case round =>
    clear hB0
    obtain ⟨k, g, cap, gs, cs, hk, rfl, rfl, ht, hx⟩ := hrel
    by_cases hlt : k < n
    · have hfull := ht.full (tabF_length _ _ _).symm
      have hgl := ht.lt
      have hgsl := ht.rowlt
      have hv1 : (rowsV gs cs (tabF k c fun _ _ => 0)).length + 1 ≤ maxLen := by rw [rowsV_length, tabF_length]; unfold maxLen; omega
      have hv2 : ((rowsV gs cs (tabF k c fun _ _ => 0)).length + 1) * 24 ≤ 140737488355328 := by rw [rowsV_length, tabF_length]; omega
      have hz : Own (wr.alloc (.cells (madeCells #[.int .i64 0] c) 3)) wr.heap.size 3 (.slice (some ⟨wr.heap.size, 0, none⟩) c c) (icells (rowF c fun _ => 0)) := by
        have := Own.made wr 3 (.int .i64 0) c (by unfold maxLen; omega)
        rw [rowF_zero, icells_replicate]; exact this
      have HS := Lib.hid (And.intro hfull (And.intro hgl (And.intro hgsl (And.intro ht (And.intro hv1 (And.intro hv2 hz))))))
      clear hfull hgl hgsl ht hv1 hv2 hz
      go_wp2_with (at_builtin; refine wpList_append_one rfl (.tmp 13) (.tmp 16) 30 rfl 52 _ _ Tryz.underlying30 infoRow rfl w.heap.size _ (rowsV gs cs (tabF k c fun _ _ => 0)) rfl ((HS.out.1.ext (Ext.alloc _ _)).ext (Ext.alloc _ _)) _ _ rfl (by simp; rfl) rfl HS.out.2.2.2.2.1 HS.out.2.2.2.2.2.1 w rfl ((hx.trans (Ext.alloc _ _)).trans (Ext.alloc _ _)) ?_; intro v4 w4 hown4 hx4 hmv4; have H4 := Lib.hid (And.intro hown4 (And.intro hx4 hmv4)); clear hown4 hx4 hmv4)
      go_roundw
      case rel =>
        have ht3 := (HS.out.2.2.2.1.ext (Ext.alloc wr (.cells (madeCells #[.int .i64 0] c) 3))).ext (Ext.alloc _ (.cells #[.slice (some ⟨wr.heap.size, 0, none⟩) c c] 52))
        have hlen3 : (rowF c fun _ => (0 : Int)).length = c := rowF_length _ _
        obtain ⟨g', cap', gs', cs', hv', ht'⟩ := ht3.push (r := rowF c fun _ => 0) (gr := wr.heap.size) (cr := c) (tabF_length _ _ _).symm (by rw [hlen3]; exact ((HS.out.2.2.2.2.2.2.mono hx.size).ext (Ext.alloc _ _))) (by have := HS.out.2.1; omega) (fun i hi => by have := HS.out.2.2.1 i hi; omega) (by rw [hlen3]; exact H4.out.1) H4.out.2.2
        rw [← tabF_succ k c fun _ _ => 0] at ht'
        exact ⟨k + 1, g', cap', gs', cs', by omega, by go_num, hv', ht', H4.out.2.1⟩
      case measure => simp [intOf]; omega
    · have hkn : k = n := by omega
      subst hkn
      go_wp2
      go_ret
      exact ⟨g, cap, gs, cs, rfl, ht, hx⟩
end Go.Proofs.YtfiembmfkokllaaGreat

/- Contracts: matrices, small matrices, sums and bounds, by the program. -/
namespace Go.Proofs.YtfiembmfkokllaaGreat
open Go.RowKit Go.Mx

end Go.Proofs.YtfiembmfkokllaaGreat

/- Contracts: matrices and small matrices, by the reference; small ones and sums, by the program. -/
namespace Go.Proofs.YtfiembmfkokllaaGreat
open Go.RowKit Go.Mx

set_option maxHeartbeats 2000000 in
theorem spec_IsMatrix_any (v : Value) (m : List (List Int)) (w : World) (h : ReadsRows w v m) :
    Calls Tryz.prog 64 #[v] w fun e w' => e = .returned (.bool (isMat m)) ∧ w = w' := by
  obtain ⟨a, c, rfl⟩ := h.slice
  obtain ⟨-, hlc, hc⟩ := h.len
  obtain ⟨n, hn⟩ : ∃ n, n = m.length := ⟨_, rfl⟩
  rw [← hn] at hlc h ⊢
  have HM := Lib.hid (And.intro h hn)
  clear h hn
  go_enter Tryz.func64, Tryz.ntmps64
  go_wp2
  go_loop [3] (fun i => ∃ k : Nat, k ≤ n ∧ i = .int .i64 k ∧ (m.take k).all (rowOk n) = true) (fun i => n - (intOf i).toNat)
  case atStart => exact ⟨0, by omega, rfl, by simp⟩
  case round =>
    obtain ⟨k, hk, rfl, hp⟩ := hrel
    have HP := Lib.hid hp
    clear hp
    by_cases hlt : k < n
    · have hkm : k < m.length := by rw [← HM.out.2]; exact hlt
      obtain ⟨b, o, a', c', rfl, hcell, hrow⟩ := HM.out.1.at k hkm
      obtain ⟨-, hl1, hl2⟩ := hrow.len
      obtain ⟨r, hr⟩ : ∃ r, r = m.getD k [] := ⟨_, rfl⟩
      rw [← hr] at hcell hrow hl1
      obtain ⟨L, hL⟩ : ∃ L, L = r.length := ⟨_, rfl⟩
      rw [← hL] at hcell hrow hl1
      have HR := Lib.hid (And.intro hkm (And.intro hr (And.intro hL hrow)))
      clear hkm hr hL hrow
      by_cases hLn : L = n
      · have HL := Lib.hid hLn
        have hLn1 : ((L : Int) != (n : Int)) = false := by simp [hLn]
        have hLn2 : L ≤ n := by omega
        have hLn3 : n ≤ L := by omega
        clear hLn
        go_wp2
        go_loop [4] (fun i => ∃ j : Nat, j ≤ n ∧ i = .int .i64 j ∧ (r.take j).all (fun x => decide (0 ≤ x ∧ x ≤ 1000000)) = true) (fun i => n - (intOf i).toNat)
        case atStart => exact ⟨0, by omega, rfl, by simp⟩
        case round =>
          obtain ⟨j, hj, rfl, hq⟩ := hrel
          have HQ := Lib.hid hq
          clear hq
          by_cases hltj : j < n
          · have hjr : j < r.length := by rw [← HR.out.2.2.1]; omega
            obtain ⟨b', o', rfl, hcell'⟩ := HR.out.2.2.2.at j hjr
            obtain ⟨x, hx⟩ : ∃ x, x = r.getD j 0 := ⟨_, rfl⟩
            rw [← hx] at hcell'
            have HX := Lib.hid (And.intro hjr hx)
            clear hjr hx
            go_wp2_with fail
            with_reducible refine (spec_l1In_any _ _ _ _).mono ?_
            rintro e w1 ⟨rfl, rfl⟩
            cases hb : (decide (0 ≤ x) && decide (x ≤ 1000000)) with
            | true =>
              have HB := Lib.hid hb
              clear hb
              go_wp2
              go_round
              case rel => exact ⟨j + 1, by omega, by go_num, all_next (p := fun x => decide (0 ≤ x ∧ x ≤ 1000000)) 0 HX.out.1 HQ.out (by rw [← HX.out.2]; have := HB.out; simp at this ⊢; omega)⟩
              case measure => simp [intOf]; omega
            | false =>
              have HB := Lib.hid hb
              clear hb
              go_wp2
              go_ret
              refine ⟨ret_bool (isMat_row HR.out.1 ?_).symm, rfl⟩
              rw [← HR.out.2.1]
              unfold rowOk
              rw [all_bad (p := fun x => decide (0 ≤ x ∧ x ≤ 1000000)) 0 HX.out.1 (by rw [← HX.out.2]; have := HB.out; simp at this ⊢; omega), Bool.and_false]
          · have hjL : j = L := by omega
            have hrow : rowOk n r = true := by
              have h1 := HQ.out
              rw [hjL, HR.out.2.2.1] at h1
              rw [rowOk_of (by rw [← HR.out.2.2.1]; exact HL.out)]
              exact all_done h1
            have HO := Lib.hid hrow
            clear hrow
            go_wp2
            go_round
            case rel => exact ⟨k + 1, by omega, by go_num, all_next [] HR.out.1 HP.out (by rw [← HR.out.2.1]; exact HO.out)⟩
            case measure => simp [intOf]; omega
      · have hLn1 : ((L : Int) != (n : Int)) = true := by simp; omega
        have HL := Lib.hid hLn
        clear hLn
        go_wp2
        go_ret
        exact ⟨ret_bool (isMat_row HR.out.1 (by rw [← HR.out.2.1]; exact rowOk_len (by rw [← HR.out.2.2.1, ← HM.out.2]; exact HL.out))).symm, rfl⟩
    · have hkn : k = n := by omega
      have h2 := HP.out
      rw [hkn, HM.out.2] at h2
      have HA := Lib.hid h2
      clear h2
      go_wp2_with fail
      with_reducible refine (spec_l1In_any _ _ _ _).mono ?_
      rintro e w1 ⟨rfl, rfl⟩
      go_wp2
      go_ret
      refine ⟨ret_bool ?_, rfl⟩
      by_cases h19 : 1 ≤ n ∧ n ≤ 9
      · rw [isMat_all (by rw [← HM.out.2]; exact h19) HA.out]; simp; omega
      · rw [isMat_size (by rw [← HM.out.2]; exact h19)]; simp; omega

end Go.Proofs.YtfiembmfkokllaaGreat

/- Contracts: two graphs joined, by the program. -/
namespace Go.Proofs.YtfiembmfkokllaaGreat
open Go.RowKit Go.Mx

end Go.Proofs.YtfiembmfkokllaaGreat

/- Contracts: two graphs joined, by the reference. -/
namespace Go.Proofs.YtfiembmfkokllaaGreat
open Go.RowKit Go.Mx

theorem spec_nil_rows (w : World) : ReadsRows (w.alloc (.cells #[] 52)) (.slice (some ⟨w.heap.size, 0, none⟩) 0 0) [] := ReadsRows.nil _ _ _ rfl

end Go.Proofs.YtfiembmfkokllaaGreat

