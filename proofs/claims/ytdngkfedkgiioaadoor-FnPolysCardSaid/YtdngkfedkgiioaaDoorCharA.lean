/- Contracts: ascending lists of numbers; sums of principal minors, by the reference. -/
import Derived.Test.YtdngkfedkgiioaaDoorLessA
import Derived.Test.YtdngkfedkgiioaaDoorPkB
namespace Go.Proofs.YtdngkfedkgiioaaDoor
open Go.RowKit Go.Mx

theorem i64_and (a b : Nat) (ha : a < 1024) (hb : b < 1024) : bits .and .i64 (a : Int) (b : Int) = ((a &&& b : Nat) : Int) := by
  refine (bits_nat .i64 10 (by decide) (fun n h0 h1 => ?_) a b (by omega) (by omega)).1
  rw [IntKind.wrap_i64]
  have : (2 : Int) ^ 10 = 1024 := by decide
  omega
theorem bit_is (s i : Nat) (hs : s < 1024) : (bits .and .i64 ((s : Int) / 2 ^ i) 1 == 1) = decide (s / 2 ^ i % 2 = 1) := by
  have e : (s : Int) / 2 ^ i = ((s / 2 ^ i : Nat) : Int) := by simp
  have hle : s / 2 ^ i ≤ s := Nat.div_le_self _ _
  have h1 := i64_and (s / 2 ^ i) 1 (by omega) (by omega)
  rw [e]
  rw [show ((1 : Nat) : Int) = 1 from rfl, Nat.and_one_is_mod] at h1
  rw [h1, Bool.eq_iff_iff]
  simp; omega
theorem pow_le16 {n : Nat} (h : n ≤ 4) : 2 ^ n ≤ 16 := by
  have h1 : 2 ^ n ≤ 2 ^ 4 := Nat.pow_le_pow_right (by omega) h
  exact Nat.le_trans h1 (by decide)

set_option maxRecDepth 100000 in
set_option maxHeartbeats 4000000 in
theorem impl_choices_any (n k : Nat) (w : World) (hn4 : n ≤ 4) :
    Calls Tryd.prog 82 #[.int .i64 n, .int .i64 k] w fun e w' => ∃ u, e = .returned u ∧ ResM w' w.heap.size u (chL n k) ∧ Ext w w' := by
  obtain ⟨S, hS⟩ : ∃ S, S = 2 ^ n := ⟨_, rfl⟩
  have hpi : (2 : Int) ^ n = (S : Int) := by rw [hS]; simp
  have hS16 : S ≤ 16 := by rw [hS]; exact pow_le16 hn4
  have hall : chTo n k S = chL n k := by rw [hS]; rfl
  have HM := Lib.hid hall
  have hB0 : MTab (w.alloc (.cells #[] 26)) w.heap.size 26 3 w.heap.size 0 0 (fun _ => 0) (fun _ => 0) (chTo n k 0) := MTab.nil (Own.lit w 26 [] (by simp)) _ _
  clear hall hS
  go_enter Tryd.func82, Tryd.ntmps82
  go_wp2
  go_loopw [5, 12] (fun v q wr => ∃ (s L g cap : Nat) (gs cs : Nat → Nat), s ≤ S ∧ q = .int .i64 s ∧ v = .slice (some ⟨g, 0, none⟩) L cap ∧ L = (chTo n k s).length ∧ MTab wr w.heap.size 26 3 g L cap gs cs (chTo n k s) ∧ Ext w wr) (fun _ q _ => S - (intOf q).toNat)
  case atStart => exact ⟨0, 0, _, _, _, _, by omega, rfl, rfl, rfl, hB0, Ext.alloc _ _⟩
  case round =>
    clear hB0
    obtain ⟨s, L, g, cap, gs, cs, hs, rfl, rfl, hL, ht, hx⟩ := hrel
    by_cases hlts : s < S
    · obtain ⟨wm, rfl⟩ : ∃ wm : World, wm = wr := ⟨_, rfl⟩
      have hfull := ht.full hL
      have hgl := ht.lt
      have hgsl := ht.rowlt
      have hll := chTo_length n k s
      have hv1 : (rowsV gs cs (chTo n k s)).length + 1 ≤ maxLen := by rw [rowsV_length]; unfold maxLen; omega
      have hv2 : ((rowsV gs cs (chTo n k s)).length + 1) * 24 ≤ 140737488355328 := by rw [rowsV_length]; omega
      have HT := Lib.hid (And.intro hfull (And.intro hgl (And.intro hgsl (And.intro ht (And.intro hv1 (And.intro hv2 hL))))))
      have hz : Own (wm.alloc (.cells #[] 3)) wm.heap.size 3 (.slice (some ⟨wm.heap.size, 0, none⟩) 0 0) (icells (bitsL s 0)) := Own.lit wm 3 [] (by simp)
      clear ht hfull hgl hgsl hv1 hv2 hL hll
      go_wp2
      go_loopw [7, 17] (fun v q wr => ∃ (i Lb gr cr : Nat), i ≤ n ∧ q = .int .i64 i ∧ v = .slice (some ⟨gr, 0, none⟩) Lb cr ∧ Lb = (bitsL s i).length ∧ Own wr wm.heap.size 3 (.slice (some ⟨gr, 0, none⟩) Lb cr) (icells (bitsL s i)) ∧ Ext wm wr) (fun _ q _ => n - (intOf q).toNat)
      case atStart => exact ⟨0, 0, _, _, by omega, rfl, rfl, rfl, hz, Ext.alloc _ _⟩
      case round =>
        clear hz
        obtain ⟨i, Lb, gr, cr, hi, rfl, rfl, hLb, hown, hy⟩ := hrel
        by_cases hlti : i < n
        · have hbit := bit_is s i (by omega)
          by_cases hb : s / 2 ^ i % 2 = 1
          · rw [decide_eq_true hb] at hbit
            have hbl := bitsL_length s i
            have hu1 : (icells (bitsL s i)).length + 1 ≤ maxLen := by rw [icells_length]; unfold maxLen; omega
            have hu2 : ((icells (bitsL s i)).length + 1) * 8 ≤ 140737488355328 := by rw [icells_length]; omega
            have HBY := Lib.hid hb
            have HR := Lib.hid (And.intro hown (And.intro hu1 hu2))
            have hs16 := hS16
            clear hown hu1 hu2 hb hbl
            go_wp2_with (at_builtin; refine wpList_append_one rfl (.tmp 25) (.tmp 27) 26 rfl 3 _ _ Tryd.underlying26 infoInt rfl wm.heap.size _ (icells (bitsL s i)) rfl (HR.out.1.ext (Ext.alloc _ _)) _ _ rfl (by simp; rfl) rfl HR.out.2.1 HR.out.2.2 wm rfl (hy.trans (Ext.alloc _ _)) ?_; intro v4 w4 hown4 hx4 hmv4; have H4 := Lib.hid (And.intro hown4 hx4); clear hown4 hx4 hmv4)
            go_roundw
            case rel =>
              have ho := H4.out.1
              rw [icells_snoc, ← bitsL_yes s i HBY.out] at ho
              have hsh := ho.shape
              rw [icells_length] at hsh
              rcases hsh with ⟨_, hn⟩ | ⟨g5, c5, hv5, _⟩
              · have h9 := congrArg List.length hn
                rw [bitsL_yes s i HBY.out, icells_length, List.length_append] at h9
                simp at h9
              · rw [hv5] at ho
                exact ⟨i + 1, _, g5, c5, by omega, by go_num, hv5, rfl, ho, H4.out.2⟩
            case measure => simp [intOf]; omega
          · rw [decide_eq_false hb] at hbit
            have e := bitsL_no s i hb
            rw [← e] at hown hLb
            have HR := Lib.hid (And.intro hown hLb)
            clear hown hLb e hb
            go_wp2
            go_roundw
            case rel => exact ⟨i + 1, Lb, gr, cr, by omega, by go_num, rfl, HR.out.2, HR.out.1, hy⟩
            case measure => simp [intOf]; omega
        · have hin : i = n := by omega
          subst hin
          by_cases hLk : Lb = k
          · have hH := Lib.hid (And.intro hown (And.intro hLb (show (bitsL s i).length = k by rw [← hLb]; exact hLk)))
            have hLk1 : ((Lb : Int) == (k : Int)) = true := by simp [hLk]
            clear hown hLb hLk
            go_wp2_with (at_builtin; refine wpList_append_one rfl (.tmp 34) (.tmp 36) 24 rfl 26 _ _ Tryd.underlying24 infoRow rfl w.heap.size _ (rowsV gs cs (chTo i k s)) rfl ((HT.out.1.ext hy).ext (Ext.alloc _ _)) _ _ rfl (by simp; rfl) rfl HT.out.2.2.2.2.1 HT.out.2.2.2.2.2.1 w rfl ((hx.trans hy).trans (Ext.alloc _ _)) ?_; intro v4 w4 hown4 hx4 hmv4; have H4 := Lib.hid (And.intro hown4 (And.intro hx4 hmv4)); clear hown4 hx4 hmv4)
            go_roundw
            case rel =>
              have ht3 := (HT.out.2.2.2.1.ext hy).ext (Ext.alloc _ (.cells #[.slice (some ⟨gr, 0, none⟩) Lb cr] 26))
              have hlt3 := hH.out.1.lt
              obtain ⟨g', cap', gs', cs', hv', ht'⟩ := ht3.push (r := bitsL s i) (gr := gr) (cr := cr) HT.out.2.2.2.2.2.2 (by rw [← hH.out.2.1]; exact ((hH.out.1.mono hx.size).ext (Ext.alloc _ _))) (by have := HT.out.2.1; omega) (fun q hq => by have := HT.out.2.2.1 q hq; omega) (by rw [← hH.out.2.1]; exact H4.out.1) H4.out.2.2
              rw [← chTo_yes i k s hH.out.2.2] at ht'
              exact ⟨s + 1, L + 1, g', cap', gs', cs', by omega, by go_num, hv', by rw [chTo_yes i k s hH.out.2.2, List.length_append, ← HT.out.2.2.2.2.2.2, List.length_singleton], ht', H4.out.2.1⟩
            case measure => simp [intOf]; omega
          · have hLk1 : ((Lb : Int) == (k : Int)) = false := by simp; omega
            have e := chTo_no i k s (by rw [← hLb]; exact hLk)
            have hH := Lib.hid e
            clear hown hLb hLk e
            go_wp2
            go_roundw
            case rel => exact ⟨s + 1, L, g, cap, gs, cs, by omega, by go_num, rfl, by rw [hH.out]; exact HT.out.2.2.2.2.2.2, by rw [hH.out]; exact HT.out.2.2.2.1.ext hy, hx.trans hy⟩
            case measure => simp [intOf]; omega
    · have hsS : s = S := by omega
      rw [hsS, HM.out] at ht hL
      have HT := Lib.hid (And.intro ht hL)
      clear ht hL
      subst hsS
      go_wp2
      go_ret
      exact ⟨_, rfl, .inr ⟨g, cap, gs, cs, by rw [← HT.out.2]; rfl, by rw [← HT.out.2]; exact HT.out.1⟩, hx⟩

set_option maxRecDepth 100000 in
set_option maxHeartbeats 4000000 in
theorem spec_l7Minors_any (v : Value) (m : List (List Int)) (n k : Nat) (w : World) (h : ReadsRows w v m) (hm : IsS n m) (hk4 : k ≤ 4) :
    Calls Tryd.prog 61 #[v, .int .i64 k] w fun e w' => e = .returned (.int .i64 (pmS m k)) ∧ Ext w w' := by
  obtain ⟨pa, ca, rfl⟩ := h.slice
  obtain ⟨-, hla1, hla2⟩ := h.len
  have hn4 := hm.four
  have hpn := hm.mat.pos
  have hmbd : ∀ i j, -10000 ≤ (m.getD i []).getD j 0 ∧ (m.getD i []).getD j 0 ≤ 10000 := fun i j => by have := hm.nine i j; unfold at2 at this; omega
  have hpt := h
  have hpb := pmTo_bd hmbd k hk4
  have hdb := fun l hl => minor_bd hmbd l k hl hk4
  have hsq : ∀ l : List Int, Sq l.length 10000 (partL m l) := fun l => partL_sq (by omega) l hmbd
  have hall : pmTo m k (2 ^ m.length) = pmS m k := rfl
  have hyes := pmTo_yes m k
  have hno := pmTo_no m k
  rw [hm.mat.len] at h hla1 hall hyes hno ⊢
  obtain ⟨S, hS⟩ : ∃ S, S = 2 ^ n := ⟨_, rfl⟩
  have hpi : (2 : Int) ^ n = (S : Int) := by rw [hS]; simp
  have hS16 : S ≤ 16 := by rw [hS]; exact pow_le16 hn4
  rw [← hS] at hall
  have HM := Lib.hid (And.intro h (And.intro hm (And.intro hpb (And.intro hdb (And.intro hsq (And.intro hall (And.intro hyes hno)))))))
  clear h hm hpb hdb hsq hall hyes hno hS hmbd hpt
  go_enter Tryd.func61, Tryd.ntmps61
  go_wp2
  go_loopw [5, 6] (fun z q wr => ∃ s : Nat, s ≤ S ∧ q = .int .i64 s ∧ z = .int .i64 (pmTo m k s) ∧ Ext w wr) (fun _ q _ => S - (intOf q).toNat)
  case atStart => exact ⟨0, by omega, rfl, rfl, Ext.refl _⟩
  case round =>
    obtain ⟨s, hs, rfl, rfl, hx⟩ := hrel
    by_cases hlts : s < S
    · obtain ⟨wm, rfl⟩ : ∃ wm : World, wm = wr := ⟨_, rfl⟩
      have hz : Own (wm.alloc (.cells #[] 3)) wm.heap.size 3 (.slice (some ⟨wm.heap.size, 0, none⟩) 0 0) (icells (bitsL s 0)) := Own.lit wm 3 [] (by simp)
      obtain ⟨hp1, hp2⟩ := HM.out.2.2.1 s
      have hyes := HM.out.2.2.2.2.2.2.1 s
      have hno := HM.out.2.2.2.2.2.2.2 s
      obtain ⟨P, hP⟩ : ∃ P, P = pmTo m k s := ⟨_, rfl⟩
      rw [← hP] at hp1 hp2 hyes hno ⊢
      have HP := Lib.hid (And.intro hyes hno)
      clear hyes hno hP
      go_wp2
      go_loopw [7, 8] (fun v q wr => ∃ (i Lb gr cr : Nat), i ≤ n ∧ q = .int .i64 i ∧ v = .slice (some ⟨gr, 0, none⟩) Lb cr ∧ Lb = (bitsL s i).length ∧ Own wr wm.heap.size 3 (.slice (some ⟨gr, 0, none⟩) Lb cr) (icells (bitsL s i)) ∧ Ext wm wr) (fun _ q _ => n - (intOf q).toNat)
      case atStart => exact ⟨0, 0, _, _, by omega, rfl, rfl, rfl, hz, Ext.alloc _ _⟩
      case round =>
        clear hz
        obtain ⟨i, Lb, gr, cr, hi, rfl, rfl, hLb, hown, hy⟩ := hrel
        by_cases hlti : i < n
        · have hbit := bit_is s i (by omega)
          by_cases hb : s / 2 ^ i % 2 = 1
          · rw [decide_eq_true hb] at hbit
            have hbl := bitsL_length s i
            have hu1 : (icells (bitsL s i)).length + 1 ≤ maxLen := by rw [icells_length]; unfold maxLen; omega
            have hu2 : ((icells (bitsL s i)).length + 1) * 8 ≤ 140737488355328 := by rw [icells_length]; omega
            have HBY := Lib.hid hb
            have HR := Lib.hid (And.intro hown (And.intro hu1 hu2))
            have hs16 := hS16
            clear hown hu1 hu2 hb hbl
            go_wp2_with (at_builtin; refine wpList_append_one rfl (.tmp 30) (.tmp 32) 26 rfl 3 _ _ Tryd.underlying26 infoInt rfl wm.heap.size _ (icells (bitsL s i)) rfl (HR.out.1.ext (Ext.alloc _ _)) _ _ rfl (by simp; rfl) rfl HR.out.2.1 HR.out.2.2 wm rfl (hy.trans (Ext.alloc _ _)) ?_; intro v4 w4 hown4 hx4 hmv4; have H4 := Lib.hid (And.intro hown4 hx4); clear hown4 hx4 hmv4)
            go_roundw
            case rel =>
              have ho := H4.out.1
              rw [icells_snoc, ← bitsL_yes s i HBY.out] at ho
              have hsh := ho.shape
              rw [icells_length] at hsh
              rcases hsh with ⟨_, hn⟩ | ⟨g5, c5, hv5, _⟩
              · have h9 := congrArg List.length hn
                rw [bitsL_yes s i HBY.out, icells_length, List.length_append] at h9
                simp at h9
              · rw [hv5] at ho
                exact ⟨i + 1, _, g5, c5, by omega, by go_num, hv5, rfl, ho, H4.out.2⟩
            case measure => simp [intOf]; omega
          · rw [decide_eq_false hb] at hbit
            have e := bitsL_no s i hb
            rw [← e] at hown hLb
            have HR := Lib.hid (And.intro hown hLb)
            clear hown hLb e hb
            go_wp2
            go_roundw
            case rel => exact ⟨i + 1, Lb, gr, cr, by omega, by go_num, rfl, HR.out.2, HR.out.1, hy⟩
            case measure => simp [intOf]; omega
        · have hin : i = n := by omega
          subst hin
          by_cases hLk : Lb = k
          · have hlk : (bitsL s i).length = k := by rw [← hLb]; exact hLk
            have hpt := spec_l5Part_any _ _ m (bitsL s i) i wr ((HM.out.1.ext hx).ext hy) hown.readsI (by rw [hlk]; omega) HM.out.2.1.mat.len HM.out.2.1.mat.row (fun j hj => bitsL_bd s i j hj)
            have hsq := HM.out.2.2.2.2.1 (bitsL s i)
            rw [hlk] at hsq
            obtain ⟨hd1, hd2⟩ := HM.out.2.2.2.1 (bitsL s i) hlk
            have hde := fun u w' (hu : ReadsRows w' u (partL m (bitsL s i))) => spec_l7Det_any k _ u w' hsq hk4 hu
            have hyes := HP.out.1 hlk
            obtain ⟨D, hD⟩ : ∃ D, D = detL k (partL m (bitsL s i)) := ⟨_, rfl⟩
            rw [← hD] at hd1 hd2 hde hyes
            have hLk1 : ((Lb : Int) == (k : Int)) = true := by simp [hLk]
            have HK := Lib.hid (And.intro hpt (And.intro hde hyes))
            have hb1 : -9223372036854775808 ≤ P + D := by omega
            have hb2 : P + D ≤ 9223372036854775807 := by omega
            clear hown hLb hLk hlk hpt hsq hde hyes hD
            go_wp2_with fail
            with_reducible refine HK.out.1.mono ?_
            rintro e w5 ⟨u, rfl, hres, hx5⟩
            have HU := Lib.hid hres.reads
            clear hres
            go_wp2_with fail
            with_reducible refine (HK.out.2.1 _ _ HU.out).mono ?_
            rintro e w6 ⟨rfl, hx6⟩
            go_wp2
            go_roundw
            case rel => exact ⟨s + 1, by omega, by go_num, by rw [HK.out.2.2], hx.trans (hy.trans (hx5.trans hx6))⟩
            case measure => simp [intOf]; omega
          · have hLk1 : ((Lb : Int) == (k : Int)) = false := by simp; omega
            have e := HP.out.2 (by rw [← hLb]; exact hLk)
            have hH := Lib.hid e
            clear hown hLb hLk e
            go_wp2
            go_roundw
            case rel => exact ⟨s + 1, by omega, by go_num, by rw [hH.out], hx.trans hy⟩
            case measure => simp [intOf]; omega
    · have hsS : s = S := by omega
      rw [hsS, HM.out.2.2.2.2.2.1]
      subst hsS
      go_wp2
      go_ret
      exact ⟨rfl, hx⟩
end Go.Proofs.YtdngkfedkgiioaaDoor
