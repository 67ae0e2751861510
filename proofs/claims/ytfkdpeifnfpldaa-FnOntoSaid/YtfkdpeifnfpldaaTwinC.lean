/- Contracts: TwinsOf of the reference; both at codes that are none of two letters. -/
import Derived.Test.YtfkdpeifnfpldaaTwinB
namespace Go.Proofs.Ytfkdpeifnfpldaa
open Go.RowKit Go.Cm


set_option maxHeartbeats 2000000 in
theorem impl_TwinsOf_no (L W : Int) (o : ByteArray) (w : World) (ho : o.size ≤ maxLen) (h : (codeOk L W o && decide (L = 2)) = false) :
    Calls Try.prog 16 #[.agg #[.int .i64 L, .int .i64 W, .string o]] w fun e w' => e = .returned (twV none) ∧ Ext w w' := by
  cases hc : codeOk L W o with
  | false =>
    clear h
    go_enter Try.func16, Try.ntmps16
    go_wp2_with fail
    with_reducible refine (impl_IsCode_any _ _ _ _ ho).mono ?_
    rintro e w1 ⟨rfl, hx⟩
    rw [hc]
    replace hx : Ext w w1 := Ext.trans (by (repeat (first | exact (Ext.refl w) | exact Ext.refl _ | exact Ext.alloc _ _ | refine Ext.alloced ?_ _ | (refine Ext.stored ?_ ?_; rotate_left; (· (first | (show _ ≤ _; omega) | (simp; done) | (simp; omega))))))) hx
    go_wp2
    go_ret3
    exact ⟨rfl, hx⟩
  | true =>
    have hL : L = 3 := by
      rw [hc] at h
      simp only [Bool.true_and, decide_eq_false_iff_not] at h
      obtain ⟨K, n, rfl, rfl, hf⟩ := codeFit_of hc
      have := hf.k2
      have := hf.k3
      omega
    subst hL
    clear h
    go_enter Try.func16, Try.ntmps16
    go_wp2_with fail
    with_reducible refine (impl_IsCode_any _ _ _ _ ho).mono ?_
    rintro e w1 ⟨rfl, hx⟩
    rw [hc]
    have bo := (show Blk _ w.heap.size #[.int .i64 3, .int .i64 W, .string o] by (repeat (first | (refine Blk.mk' ?_; (simp; done)) | apply Blk.old))).ext hx
    replace hx : Ext w w1 := Ext.trans (by (repeat (first | exact (Ext.refl w) | exact Ext.refl _ | exact Ext.alloc _ _ | refine Ext.alloced ?_ _ | (refine Ext.stored ?_ ?_; rotate_left; (· (first | (show _ ≤ _; omega) | (simp; done) | (simp; omega))))))) hx
    obtain ⟨c0, c1, c2, -, -, -⟩ := bo.c3
    go_wp2
    go_ret3
    exact ⟨rfl, hx⟩

set_option maxHeartbeats 2000000 in
theorem spec_TwinsOf_no (L W : Int) (o : ByteArray) (w : World) (ho : o.size ≤ maxLen) (h : (codeOk L W o && decide (L = 2)) = false) :
    Calls Try.prog 17 #[.agg #[.int .i64 L, .int .i64 W, .string o]] w fun e w' => e = .returned (twV none) ∧ Ext w w' := by
  cases hc : codeOk L W o with
  | false =>
    clear h
    go_enter Try.func17, Try.ntmps17
    go_wp2_with fail
    with_reducible refine (spec_IsCode_any _ _ _ _ ho).mono ?_
    rintro e w1 ⟨rfl, hx⟩
    rw [hc]
    replace hx : Ext w w1 := Ext.trans (by (repeat (first | exact (Ext.refl w) | exact Ext.refl _ | exact Ext.alloc _ _ | refine Ext.alloced ?_ _ | (refine Ext.stored ?_ ?_; rotate_left; (· (first | (show _ ≤ _; omega) | (simp; done) | (simp; omega))))))) hx
    go_wp2
    go_ret3
    exact ⟨rfl, hx⟩
  | true =>
    have hL : L = 3 := by
      rw [hc] at h
      simp only [Bool.true_and, decide_eq_false_iff_not] at h
      obtain ⟨K, n, rfl, rfl, hf⟩ := codeFit_of hc
      have := hf.k2
      have := hf.k3
      omega
    subst hL
    clear h
    go_enter Try.func17, Try.ntmps17
    go_wp2_with fail
    with_reducible refine (spec_IsCode_any _ _ _ _ ho).mono ?_
    rintro e w1 ⟨rfl, hx⟩
    rw [hc]
    have bo := (show Blk _ w.heap.size #[.int .i64 3, .int .i64 W, .string o] by (repeat (first | (refine Blk.mk' ?_; (simp; done)) | apply Blk.old))).ext hx
    replace hx : Ext w w1 := Ext.trans (by (repeat (first | exact (Ext.refl w) | exact Ext.refl _ | exact Ext.alloc _ _ | refine Ext.alloced ?_ _ | (refine Ext.stored ?_ ?_; rotate_left; (· (first | (show _ ≤ _; omega) | (simp; done) | (simp; omega))))))) hx
    obtain ⟨c0, c1, c2, -, -, -⟩ := bo.c3
    go_wp2
    go_ret3
    exact ⟨rfl, hx⟩

set_option maxRecDepth 100000 in
set_option maxHeartbeats 4000000 in
theorem spec_TwinsOf_yes (n : Nat) (o : ByteArray) (w : World) (hf : CodeFit 2 n o) (hcd : codeOk 2 n o = true) :
    Calls Try.prog 17 #[.agg #[.int .i64 2, .int .i64 n, .string o]] w fun e w' => e = .returned (twV (twinL 2 n o)) ∧ Ext w w' := by
  have hn1 := hf.n1
  have hn4 := hf.n4
  have ho : o.size ≤ maxLen := by have := hf.size; have := hf.le; unfold maxLen; omega
  obtain ⟨r, hr⟩ : ∃ r, r = firstOf 8 (twinF n o) := ⟨_, rfl⟩
  have e0 : twinL 2 n o = r := by rw [hr]; rfl
  rw [e0]
  have hwo : ∀ (m : Nat) (w : World), m ≤ 7 → Calls Try.prog 56 #[.int .i64 2, .int .i64 m] w fun e w' => ∃ v, e = .returned v ∧ Own w' w.heap.size 9 v (scells (wordsL 2 m)) ∧ Ext w w' := by
    intro m w hm
    exact spec_l2All_any 2 m w (by omega) (by omega) (by omega)
  have HC := Lib.hid hcd
  have HR := Lib.hid (And.intro hr hwo)
  clear hr e0 hwo hcd
  go_enter Try.func17, Try.ntmps17
  go_wp2_with fail
  with_reducible refine (spec_IsCode_any _ _ _ _ ho).mono ?_
  rintro e w1 ⟨rfl, hx⟩
  rw [HC.out]
  have bo := (show Blk _ w.heap.size #[.int .i64 2, .int .i64 n, .string o] by (repeat (first | (refine Blk.mk' ?_; (simp; done)) | apply Blk.old))).ext hx
  replace hx : Ext w w1 := Ext.trans (by (repeat (first | exact (Ext.refl w) | exact Ext.refl _ | exact Ext.alloc _ _ | refine Ext.alloced ?_ _ | (refine Ext.stored ?_ ?_; rotate_left; (· (first | (show _ ≤ _; omega) | (simp; done) | (simp; omega))))))) hx
  obtain ⟨c0, c1, c2, -, -, -⟩ := bo.c3
  go_wp2
  go_loopw [5] (fun i wr => ∃ m : Nat, n ≤ m ∧ m ≤ 8 ∧ i = .int .i64 m ∧ NoneTo (twinF n o) m ∧ Ext w wr ∧ Blk wr w.heap.size #[.int .i64 2, .int .i64 n, .string o]) (fun i _ => 8 - (intOf i).toNat)
  case atStart => exact ⟨n, by omega, by omega, rfl, fun y hy => by unfold twinF; rw [if_neg (by omega)], hx, bo⟩
  case round =>
    clear hx bo c0 c1 c2
    obtain ⟨m, hnm, hm8, rfl, hno, hx, bo⟩ := hrel
    by_cases hlt : m ≤ 7
    · obtain ⟨wq, rfl⟩ : ∃ wq : World, wq = wr := ⟨_, rfl⟩
      go_wp2_with fail
      with_reducible refine (HR.out.2 m _ hlt).mono ?_
      rintro e w2 ⟨v6, rfl, hw, hx2⟩
      obtain ⟨V, hV⟩ : ∃ V, V = 2 ^ m := ⟨_, rfl⟩
      have hV128 := pow2_small hlt
      rw [← hV] at hV128
      have hV1 : 0 < V := by rw [hV]; exact Nat.pow_pos (by omega)
      have hwl : (scells (wordsL 2 m)).length = V := by rw [hV]; simp [scells, wordsL]
      have hsh := hw.shape
      rw [hwl] at hsh
      rcases hsh with ⟨_, hnil⟩ | ⟨g, cap, rfl, hg, _, hcap, hcapm⟩
      · exfalso
        rw [hnil] at hwl
        simp at hwl
        omega
      have hx2' := hx.trans hx2
      replace bo := bo.ext hx2
      clear hx
      have HV := Lib.hid (And.intro hV hwl)
      clear hwl hV hg hx2
      have h00 : NoneTo (fun i => twinAt 2 n o (wordsL 2 m) i) 0 := NoneTo.zero _
      go_wp2
      go_loopw [7] (fun i wr => ∃ k : Nat, k ≤ V ∧ i = .int .i64 k ∧ NoneTo (fun i => twinAt 2 n o (wordsL 2 m) i) k ∧ Ext w2 wr) (fun i _ => V - (intOf i).toNat)
      case atStart => exact ⟨0, by omega, rfl, h00, Ext.refl _⟩
      case round =>
        clear h00
        obtain ⟨k, hk, rfl, hno2, hxr⟩ := hrel
        by_cases hltk : k < V
        · have hwr := hw.ext hxr
          obtain ⟨u, hu, hcell, hul, hua⟩ := wordsL_cell (by omega) (by omega) hwr HV.out.1 hltk
          obtain ⟨d0, d1, d2, -, -, -⟩ := (bo.ext hxr).c3
          have hcall := spec_l12Twin_any n m k V g cap _ o wr hf hnm hlt HV.out.1 hltk hwr
          cases hq : twinAt 2 n o (wordsL 2 m) k with
          | none =>
            rw [hq] at hcall
            have hcall : Calls Try.prog 57 #[.agg #[.int .i64 2, .int .i64 n, .string o], .slice (some ⟨g, 0, none⟩) V cap, .int .i64 k] wr fun e w' => e = .returned (.tuple #[.string ⟨#[]⟩, .bool false]) ∧ Ext wr w' := hcall
            have HQ := Lib.hid hq
            clear hq hu hul hua hwr
            go_wp2_with fail
            with_reducible refine hcall.mono ?_
            rintro e w6 ⟨rfl, hx6⟩
            replace hxr := hxr.trans hx6
            clear hcall d0 d1 d2 hx6 hcell
            go_wp2
            go_roundw
            case rel => exact ⟨k + 1, by omega, by go_num, hno2.succ HQ.out, hxr⟩
            case measure => simp [intOf]; omega
          | some p =>
            obtain ⟨u', v⟩ := p
            have hu' : u' = u := by
              unfold twinAt at hq
              obtain ⟨j, _, hj⟩ := List.exists_of_findSome?_eq_some hq
              split at hj
              · simp only [Option.some.injEq, Prod.mk.injEq] at hj
                rw [← hj.1, hu]
              · cases hj
            subst hu'
            rw [hq] at hcall
            have hcall : Calls Try.prog 57 #[.agg #[.int .i64 2, .int .i64 n, .string o], .slice (some ⟨g, 0, none⟩) V cap, .int .i64 k] wr fun e w' => e = .returned (.tuple #[.string (mkS v), .bool true]) ∧ Ext wr w' := hcall
            have hhit : r = some (u', v) := by
              have e : (wordsL 2 m).length = V := by rw [HV.out.1]; simp [wordsL]
              have h2 : twinF n o m = some (u', v) := by
                unfold twinF twinOf
                rw [if_pos hnm, e]
                exact firstOf_hit hltk hno2 hq
              rw [HR.out.1]
              exact firstOf_hit (by omega) hno h2
            have HQ := Lib.hid hhit
            clear hq hu hul hua hwr hhit
            go_wp2_with fail
            with_reducible refine hcall.mono ?_
            rintro e w6 ⟨rfl, hx6⟩
            have hcell6 := hx6.cell_some hcell
            replace hxr := hxr.trans hx6
            clear hcall d0 d1 d2 hx6 hcell
            go_wp2
            go_ret3
            exact ⟨by rw [HQ.out]; rfl, hx2'.trans hxr⟩
        · have hkV : k = V := by omega
          have hnone : twinF n o m = none := by
            unfold twinF twinOf
            have e : (wordsL 2 m).length = k := by rw [hkV, HV.out.1]; simp [wordsL]
            rw [if_pos hnm, e]
            exact firstOf_none hno2
          have HN := Lib.hid hnone
          clear hnone
          subst hkV
          go_wp2
          go_roundw
          case rel => exact ⟨m + 1, by omega, by omega, by go_num, hno.succ HN.out, hx2'.trans hxr, bo.ext hxr⟩
          case measure => simp [intOf]; omega
    · have hm : m = 8 := by omega
      have hrn : r = none := by rw [HR.out.1]; exact firstOf_none (by rw [← hm]; exact hno)
      have HN := Lib.hid hrn
      clear hrn
      go_wp2
      go_ret3
      exact ⟨by rw [HN.out]; rfl, hx⟩
end Go.Proofs.Ytfkdpeifnfpldaa
