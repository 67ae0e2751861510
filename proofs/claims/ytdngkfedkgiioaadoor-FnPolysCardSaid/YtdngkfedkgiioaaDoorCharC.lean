/- Contracts: the characteristic polynomial and the turned one, by the program and by the reference. -/
import Derived.Test.YtdngkfedkgiioaaDoorCharB
import Derived.Test.YtdngkfedkgiioaaDoorPolyD
namespace Go.Proofs.YtdngkfedkgiioaaDoor
open Go.RowKit Go.Mx

def cpV (m : List (List Int)) : List Int := if isSm m = true then cpL m else []
def tpV (m : List (List Int)) : List Int := if isSm m = true then trimL (tpL m) else []
theorem cpV_yes {m : List (List Int)} (h : isSm m = true) : cpV m = cpL m := if_pos h
theorem cpV_no {m : List (List Int)} (h : isSm m = false) : cpV m = [] := if_neg (by simp [h])
theorem tpV_yes {m : List (List Int)} (h : isSm m = true) : tpV m = trimL (tpL m) := if_pos h
theorem tpV_no {m : List (List Int)} (h : isSm m = false) : tpV m = [] := if_neg (by simp [h])
theorem trimL_len (p : List Int) : (trimL p).length ≤ p.length := by unfold trimL; rw [List.length_take]; omega
theorem res_trim {w : World} {B g cap : Nat} {p : List Int} (h : Own w B 3 (.slice (some ⟨g, 0, none⟩) p.length cap) (icells p)) : ResI w B (.slice (some ⟨g, 0, none⟩) (trimL p).length cap) (trimL p) := by
  have := h.take (trimL p).length (trimL_len p)
  unfold ResI
  have e : (icells p).take (trimL p).length = icells (trimL p) := by
    unfold icells
    rw [← List.map_take]
    congr 1
    unfold trimL
    rw [List.length_take]
    exact (List.take_eq_take_min).symm
  rw [e] at this
  exact this
theorem spec_nil_ints (w : World) : ReadsI (w.alloc (.cells #[] 3)) (.slice (some ⟨w.heap.size, 0, none⟩) 0 0) [] := ReadsI.nil _ _
theorem cpF_bd {m : List (List Int)} {n : Nat} (hm : IsS n m) (k : Nat) (hk : k ≤ 4) : -3840000000000000000 ≤ pmS m k ∧ pmS m k ≤ 3840000000000000000 := by
  have hmbd : ∀ i j, -10000 ≤ (m.getD i []).getD j 0 ∧ (m.getD i []).getD j 0 ≤ 10000 := fun i j => by have := hm.nine i j; unfold at2 at this; omega
  have h1 := pmTo_bd hmbd k hk (2 ^ m.length)
  have h2 := pow_le16 (n := m.length) (by rw [hm.mat.len]; exact hm.four)
  unfold pmS
  omega

set_option maxHeartbeats 1000000 in
theorem impl_CharPoly_any (v : Value) (m : List (List Int)) (w : World) (h : ReadsRows w v m) :
    Calls Tryd.prog 7 #[v] w fun e w' => ∃ u, e = .returned u ∧ ResI w' w.heap.size u (cpV m) ∧ Ext w w' := by
  have hs := impl_IsSmall_any v m w h
  cases hsm : isSm m with
  | false =>
    rw [hsm] at hs
    have HI := Lib.hid (And.intro hs (cpV_no hsm))
    clear hs hsm
    go_enter Tryd.func7, Tryd.ntmps7
    go_wp2_with (go_at_call 21; with_reducible refine HI.out.1.mono ?_; rintro e w' ⟨rfl, rfl⟩)
    go_ret
    exact ⟨_, rfl, by rw [HI.out.2]; exact Own.nil _ _ _, Ext.refl _⟩
  | true =>
    rw [hsm] at hs
    have HI := Lib.hid (And.intro hs (And.intro (cpV_yes hsm) (impl_charPoly_any v m m.length w h (isSm_IsS hsm))))
    clear hs hsm
    go_enter Tryd.func7, Tryd.ntmps7
    go_wp2_with (first | (go_at_call 21; with_reducible refine HI.out.1.mono ?_; rintro e w' ⟨rfl, rfl⟩) | (go_at_call 47; with_reducible refine HI.out.2.2.mono ?_; rintro e w1 ⟨rfl, hown, hx⟩))
    go_ret
    exact ⟨_, rfl, by rw [HI.out.2.1]; exact hown, hx⟩

set_option maxRecDepth 100000 in
set_option maxHeartbeats 4000000 in
theorem impl_TurnedPoly_any (v : Value) (m : List (List Int)) (w : World) (h : ReadsRows w v m) :
    Calls Tryd.prog 8 #[v] w fun e w' => ∃ u, e = .returned u ∧ ResI w' w.heap.size u (tpV m) ∧ Ext w w' := by
  have hs := impl_IsSmall_any v m w h
  cases hsm : isSm m with
  | false =>
    rw [hsm] at hs
    have HI := Lib.hid (And.intro hs (tpV_no hsm))
    clear hs hsm
    go_enter Tryd.func8, Tryd.ntmps8
    go_wp2_with (go_at_call 21; with_reducible refine HI.out.1.mono ?_; rintro e w' ⟨rfl, rfl⟩)
    go_ret
    exact ⟨_, rfl, by rw [HI.out.2]; exact Own.nil _ _ _, Ext.refl _⟩
  | true =>
    rw [hsm] at hs
    have hm := isSm_IsS hsm
    have hn4 := hm.four
    have hlen : (cpL m).length = m.length + 1 := rowF_length _ _
    have hat : ∀ j, j ≤ m.length → (cpL m).getD (m.length - j) 0 = cpF m j := fun j hj => by rw [cpL_at m _ (by omega)]; congr 1; omega
    have hall : rowF (m.length + 1) (cpF m) = tpL m := rfl
    have hcp := impl_charPoly_any v m m.length w h hm
    obtain ⟨n, hn⟩ : ∃ n, n = m.length := ⟨_, rfl⟩
    rw [← hn] at hn4 hlen hat hall hcp
    have HI := Lib.hid (And.intro hs (And.intro (tpV_yes hsm) (And.intro hcp (And.intro hlen (And.intro hat hall)))))
    clear hs hsm hm hlen hat hall hcp hn h
    go_enter Tryd.func8, Tryd.ntmps8
    go_wp2_with (first | (go_at_call 21; with_reducible refine HI.out.1.mono ?_; rintro e w' ⟨rfl, rfl⟩) | (go_at_call 47; with_reducible refine HI.out.2.2.1.mono ?_; rintro e w1 ⟨rfl, hown, hx⟩; have HO := Lib.hid (And.intro hown hx); clear hown hx))
    have hB0 : Own (w1.alloc (.cells #[] 3)) w1.heap.size 3 (.slice (some ⟨w1.heap.size, 0, none⟩) 0 0) (icells (rowF 0 (cpF m))) := Own.lit w1 3 [] (by simp)
    go_loopw [4, 5] (fun u q wr => ∃ r j gl cl : Nat, r + j = n + 1 ∧ q = .int .i64 ((r : Int) - 1) ∧ u = .slice (some ⟨gl, 0, none⟩) j cl ∧ Own wr w1.heap.size 3 (.slice (some ⟨gl, 0, none⟩) j cl) (icells (rowF j (cpF m))) ∧ Ext w1 wr) (fun _ q _ => (intOf q + 1).toNat)
    case atStart => exact ⟨n + 1, 0, _, _, by omega, by rw [show ((n + 1 : Nat) : Int) - 1 = (n : Int) by omega], rfl, hB0, Ext.alloc _ _⟩
    case round =>
      clear hB0
      obtain ⟨r, j, gl, cl, hj, rfl, rfl, hown, hx1⟩ := hrel
      cases r with
      | succ r =>
        have e1 : ((r + 1 : Nat) : Int) - 1 = (r : Int) := by omega
        rw [e1]
        clear e1
        have hrn : r < n + 1 := by omega
        have hat := HI.out.2.2.2.2.1 j (by omega)
        rw [show n - j = r by omega] at hat
        have hco := (HO.out.1.ext hx1).int_at r (by rw [HI.out.2.2.2.1]; exact hrn)
        rw [hat] at hco
        obtain ⟨x, hxx⟩ : ∃ x, x = cpF m j := ⟨_, rfl⟩
        rw [← hxx] at hco
        have hu1 : (icells (rowF j (cpF m))).length + 1 ≤ maxLen := by rw [icells_length, rowF_length]; unfold maxLen; omega
        have hu2 : ((icells (rowF j (cpF m))).length + 1) * 8 ≤ 140737488355328 := by rw [icells_length, rowF_length]; omega
        have HK := Lib.hid (And.intro hown (And.intro hu1 (And.intro hu2 hxx)))
        clear hown hu1 hu2 hxx hat
        go_wp2_with (at_builtin; refine wpList_append_one rfl (.tmp 19) (.tmp 24) 26 rfl 3 _ _ Tryd.underlying26 infoInt rfl w1.heap.size _ (icells (rowF j (cpF m))) rfl (HK.out.1.ext (Ext.alloc _ _)) _ _ rfl (by simp; rfl) rfl HK.out.2.1 HK.out.2.2.1 w1 rfl (hx1.trans (Ext.alloc _ _)) ?_; intro v4 w4 hown4 hx4 hmv4; have H4 := Lib.hid (And.intro hown4 hx4); clear hown4 hx4 hmv4)
        go_roundw
        case rel =>
          have ho := H4.out.1
          rw [HK.out.2.2.2, icells_snoc, ← rowF_succ j (cpF m)] at ho
          have hsh := ho.shape
          rw [icells_length, rowF_length] at hsh
          rcases hsh with ⟨_, hn⟩ | ⟨g5, c5, hv5, _⟩
          · have h9 := congrArg List.length hn
            rw [icells_length, rowF_length] at h9
            simp at h9
          · rw [hv5] at ho
            exact ⟨r, j + 1, g5, c5, by omega, by go_num, hv5, ho, H4.out.2⟩
        case measure => simp [intOf]
      | zero =>
        have hjn : j = n + 1 := by omega
        subst hjn
        have hneg : ((0 : Nat) : Int) - 1 = -1 := by omega
        rw [hneg]
        rw [HI.out.2.2.2.2.2] at hown
        have hl : (tpL m).length = n + 1 := by rw [← HI.out.2.2.2.2.2, rowF_length]
        have ht := impl_trimmed_any w1.heap.size gl cl (tpL m) wr (by rw [hl]; exact hown)
        rw [hl] at ht
        have hres := res_trim (w := wr) (B := w1.heap.size) (g := gl) (cap := cl) (p := tpL m) (by rw [hl]; exact hown)
        have HT := Lib.hid (And.intro ht (hres.mono HO.out.2.size))
        clear ht hres hl hown hneg
        go_wp2_with fail
        with_reducible refine HT.out.1.mono ?_
        rintro e w' ⟨rfl, rfl⟩
        go_wp2
        go_ret
        exact ⟨_, rfl, by rw [HI.out.2.1]; exact HT.out.2, Ext.trans HO.out.2 hx1⟩

set_option maxRecDepth 100000 in
set_option maxHeartbeats 4000000 in
theorem spec_CharPoly_any (v : Value) (m : List (List Int)) (w : World) (h : ReadsRows w v m) :
    Calls Tryd.prog 18 #[v] w fun e w' => ∃ u, e = .returned u ∧ ReadsI w' u (cpV m) ∧ Ext w w' := by
  have hs := spec_IsSmall_any v m w h
  cases hsm : isSm m with
  | false =>
    rw [hsm] at hs
    have HI := Lib.hid (And.intro hs (cpV_no hsm))
    clear hs hsm
    go_enter Tryd.func18, Tryd.ntmps18
    go_wp2_with (go_at_call 22; with_reducible refine HI.out.1.mono ?_; rintro e w' ⟨rfl, rfl⟩)
    go_ret
    exact ⟨_, rfl, by rw [HI.out.2]; exact spec_nil_ints _, Ext.alloc _ _⟩
  | true =>
    rw [hsm] at hs
    have hm := isSm_IsS hsm
    have hn4 := hm.four
    obtain ⟨pa, ca, rfl⟩ := h.slice
    obtain ⟨-, hla1, hla2⟩ := h.len
    have hset := cqTo_set m
    have hall := cqTo_all m
    have hlen := cqTo_length m
    have hz0 := cqTo_zero m
    have hcf : ∀ K, cpF m K = sgn K * pmS m K := fun K => rfl
    obtain ⟨n, hn⟩ : ∃ n, n = m.length := ⟨_, rfl⟩
    rw [← hn] at hm hn4 h hla1 hset hall hlen hz0 hs ⊢
    have hmk := run_make_row' (P := Tryd.prog) 26 3 (.int .i64 0) 8 Tryd.underlying26 infoInt rfl .i64 .i64 (n + 1) (by omega) (by omega)
    have ec : ((n + 1 : Nat) : Int) = (n : Int) + 1 := by omega
    rw [ec] at hmk
    have hB0 : Own (w.alloc (.cells (madeCells #[.int .i64 0] (n + 1)) 3)) w.heap.size 3 (.slice (some ⟨w.heap.size, 0, none⟩) (n + 1) (n + 1)) (icells (cqTo m 0)) := by
      have := Own.made w 3 (.int .i64 0) (n + 1) (by unfold maxLen; omega)
      rw [hz0, icells_replicate]; exact this
    have HI := Lib.hid (And.intro hs (And.intro (cpV_yes hsm) (And.intro h (And.intro hm (And.intro hset (And.intro hall (And.intro hlen hcf)))))))
    have HB := Lib.hid hB0
    clear hs hsm hm hset hall hlen hcf hn h hz0 hB0 ec
    go_enter Tryd.func18, Tryd.ntmps18
    go_wp2_with (go_at_call 22; with_reducible refine HI.out.1.mono ?_; rintro e w' ⟨rfl, rfl⟩)
    clear hmk
    go_loopw [4, 5] (fun z q wr => ∃ K : Nat, K ≤ n + 1 ∧ q = .int .i64 K ∧ z = .int .i64 (sgn K) ∧ Own wr w.heap.size 3 (.slice (some ⟨w.heap.size, 0, none⟩) (n + 1) (n + 1)) (icells (cqTo m K)) ∧ Ext w wr) (fun _ q _ => n + 1 - (intOf q).toNat)
    case atStart => exact ⟨0, by omega, rfl, rfl, HB.out, Ext.alloc _ _⟩
    case round =>
      clear HB
      obtain ⟨K, hK, rfl, rfl, hown, hx⟩ := hrel
      by_cases hlt : K ≤ n
      · have hmi := spec_l7Minors_any _ m n K wr (HI.out.2.2.1.ext hx) HI.out.2.2.2.1 (by omega)
        obtain ⟨hp1, hp2⟩ := cpF_bd HI.out.2.2.2.1 K (by omega)
        have hset := HI.out.2.2.2.2.1 K hlt
        rw [HI.out.2.2.2.2.2.2.2] at hset
        have hsg := sgn_succ K
        have hgor := sgn_or K
        obtain ⟨g, hg⟩ : ∃ g, g = sgn K := ⟨_, rfl⟩
        obtain ⟨P, hP⟩ : ∃ P, P = pmS m K := ⟨_, rfl⟩
        rw [← hg] at hsg hgor hset ⊢
        rw [← hP] at hmi hp1 hp2 hset
        obtain ⟨hg1, hg2⟩ : -1 ≤ g ∧ g ≤ 1 := by rcases hgor with h | h <;> omega
        obtain ⟨hgP1, hgP2⟩ : -3840000000000000000 ≤ g * P ∧ g * P ≤ 3840000000000000000 := by rcases hgor with h | h <;> rw [h] <;> omega
        obtain ⟨r, hr⟩ : ∃ r, r = n - K := ⟨_, rfl⟩
        have hri : (n : Int) - (K : Int) = (r : Int) := by omega
        have hrn : r < n + 1 := by omega
        rw [← hr] at hset
        have HK := Lib.hid (And.intro hmi (And.intro hset (And.intro hsg hown)))
        clear hmi hset hsg hgor hown hg hP hr
        go_wp2_with fail
        with_reducible refine HK.out.1.mono ?_
        rintro e w1 ⟨rfl, hx1⟩
        have ho1 := HK.out.2.2.2.ext hx1
        have hco := ho1.int_at r (by rw [HI.out.2.2.2.2.2.2.1]; exact hrn)
        have hf := ho1.frozen r
        have hst := ho1.store r (.int .i64 (g * P))
        rw [icells_set, HK.out.2.1] at hst
        have hx9 := (Ext.trans hx hx1).setCell (p := ⟨w.heap.size, r, none⟩) (Nat.le_refl _) (.int .i64 (g * P))
        have H8 := Lib.hid (And.intro hst hx9)
        clear ho1 hst hx9 hx hx1
        go_wp2
        go_roundw
        case rel => exact ⟨K + 1, by omega, by go_num, by rw [HK.out.2.2.1], H8.out.1, H8.out.2⟩
        case measure => simp [intOf]; omega
      · have hKn : K = n + 1 := by omega
        subst hKn
        rw [HI.out.2.2.2.2.2.1] at hown
        have HO := Lib.hid hown.readsI
        clear hown
        go_wp2
        go_ret
        exact ⟨_, rfl, by rw [HI.out.2.1]; exact HO.out, hx⟩

set_option maxRecDepth 100000 in
set_option maxHeartbeats 4000000 in
theorem spec_TurnedPoly_any (v : Value) (m : List (List Int)) (w : World) (h : ReadsRows w v m) :
    Calls Tryd.prog 19 #[v] w fun e w' => ∃ u, e = .returned u ∧ ReadsI w' u (tpV m) ∧ Ext w w' := by
  have hs := spec_IsSmall_any v m w h
  cases hsm : isSm m with
  | false =>
    rw [hsm] at hs
    have HI := Lib.hid (And.intro hs (tpV_no hsm))
    clear hs hsm
    go_enter Tryd.func19, Tryd.ntmps19
    go_wp2_with (go_at_call 22; with_reducible refine HI.out.1.mono ?_; rintro e w' ⟨rfl, rfl⟩)
    go_ret
    exact ⟨_, rfl, by rw [HI.out.2]; exact spec_nil_ints _, Ext.alloc _ _⟩
  | true =>
    rw [hsm] at hs
    have hm := isSm_IsS hsm
    have hn4 := hm.four
    obtain ⟨pa, ca, rfl⟩ := h.slice
    obtain ⟨-, hla1, hla2⟩ := h.len
    have hall : rowF (m.length + 1) (cpF m) = tpL m := rfl
    have hcf : ∀ K, cpF m K = sgn K * pmS m K := fun K => rfl
    obtain ⟨n, hn⟩ : ∃ n, n = m.length := ⟨_, rfl⟩
    rw [← hn] at hm hn4 h hla1 hall hs ⊢
    have HI := Lib.hid (And.intro hs (And.intro (tpV_yes hsm) (And.intro h (And.intro hm (And.intro hall hcf)))))
    have hB0 : Own (w.alloc (.cells #[] 3)) w.heap.size 3 (.slice (some ⟨w.heap.size, 0, none⟩) 0 0) (icells (rowF 0 (cpF m))) := Own.lit w 3 [] (by simp)
    clear hs hsm hm hall hcf hn h
    go_enter Tryd.func19, Tryd.ntmps19
    go_wp2_with (go_at_call 22; with_reducible refine HI.out.1.mono ?_; rintro e w' ⟨rfl, rfl⟩)
    go_loopw [3, 4, 5] (fun u z q wr => ∃ K gl cl : Nat, K ≤ n + 1 ∧ q = .int .i64 K ∧ z = .int .i64 (sgn K) ∧ u = .slice (some ⟨gl, 0, none⟩) K cl ∧ Own wr w.heap.size 3 (.slice (some ⟨gl, 0, none⟩) K cl) (icells (rowF K (cpF m))) ∧ Ext w wr) (fun _ _ q _ => n + 1 - (intOf q).toNat)
    case atStart => exact ⟨0, _, _, by omega, rfl, rfl, rfl, hB0, Ext.alloc _ _⟩
    case round =>
      clear hB0
      obtain ⟨K, gl, cl, hK, rfl, rfl, rfl, hown, hx⟩ := hrel
      by_cases hlt : K ≤ n
      · have hmi := spec_l7Minors_any _ m n K wr (HI.out.2.2.1.ext hx) HI.out.2.2.2.1 (by omega)
        obtain ⟨hp1, hp2⟩ := cpF_bd HI.out.2.2.2.1 K (by omega)
        have hcf := HI.out.2.2.2.2.2 K
        have hsg := sgn_succ K
        have hgor := sgn_or K
        obtain ⟨g, hg⟩ : ∃ g, g = sgn K := ⟨_, rfl⟩
        obtain ⟨P, hP⟩ : ∃ P, P = pmS m K := ⟨_, rfl⟩
        rw [← hg] at hsg hgor hcf ⊢
        rw [← hP] at hmi hp1 hp2 hcf
        obtain ⟨hg1, hg2⟩ : -1 ≤ g ∧ g ≤ 1 := by rcases hgor with h | h <;> omega
        obtain ⟨hgP1, hgP2⟩ : -3840000000000000000 ≤ g * P ∧ g * P ≤ 3840000000000000000 := by rcases hgor with h | h <;> rw [h] <;> omega
        have hu1 : (icells (rowF K (cpF m))).length + 1 ≤ maxLen := by rw [icells_length, rowF_length]; unfold maxLen; omega
        have hu2 : ((icells (rowF K (cpF m))).length + 1) * 8 ≤ 140737488355328 := by rw [icells_length, rowF_length]; omega
        have HK := Lib.hid (And.intro hmi (And.intro hcf (And.intro hsg (And.intro hown (And.intro hu1 hu2)))))
        clear hmi hcf hsg hgor hown hg hP hu1 hu2
        go_wp2_with fail
        with_reducible refine HK.out.1.mono ?_
        rintro e w1 ⟨rfl, hx1⟩
        replace hx1 := Lib.hid hx1
        go_wp2_with (at_builtin; refine wpList_append_one rfl (.tmp 17) (.tmp 23) 26 rfl 3 _ _ Tryd.underlying26 infoInt rfl w.heap.size _ (icells (rowF K (cpF m))) rfl ((HK.out.2.2.2.1.ext hx1.out).ext (Ext.alloc _ _)) _ _ rfl (by simp; rfl) rfl HK.out.2.2.2.2.1 HK.out.2.2.2.2.2 w rfl ((hx.trans hx1.out).trans (Ext.alloc _ _)) ?_; intro v4 w4 hown4 hx4 hmv4; have H4 := Lib.hid (And.intro hown4 hx4); clear hown4 hx4 hmv4)
        go_roundw
        case rel =>
          have ho := H4.out.1
          rw [← HK.out.2.1, icells_snoc, ← rowF_succ K (cpF m)] at ho
          have hsh := ho.shape
          rw [icells_length, rowF_length] at hsh
          rcases hsh with ⟨_, hn⟩ | ⟨g5, c5, hv5, _⟩
          · have h9 := congrArg List.length hn
            rw [icells_length, rowF_length] at h9
            simp at h9
          · rw [hv5] at ho
            exact ⟨K + 1, g5, c5, by omega, by go_num, by rw [HK.out.2.2.1], hv5, ho, H4.out.2⟩
        case measure => simp [intOf]; omega
      · have hKn : K = n + 1 := by omega
        subst hKn
        rw [HI.out.2.2.2.2.1] at hown
        have hl : (tpL m).length = n + 1 := by rw [← HI.out.2.2.2.2.1, rowF_length]
        have ht := spec_l7Cut_any w.heap.size gl cl (tpL m) wr (by rw [hl]; exact hown) (by rw [hl]; omega)
        rw [hl] at ht
        have HT := Lib.hid ht
        clear ht hl hown
        go_wp2_with fail
        with_reducible refine HT.out.mono ?_
        rintro e w1 ⟨u, rfl, hr, hx1⟩
        have HR := Lib.hid hr
        clear hr
        go_wp2
        go_ret
        exact ⟨_, rfl, by rw [HI.out.2.1]; exact HR.out, hx.trans hx1⟩
theorem cpV_len (m : List (List Int)) : (cpV m).length ≤ 1000000000 := by
  cases h : isSm m with
  | false => rw [cpV_no h]; simp
  | true =>
    rw [cpV_yes h]
    have := (isSm_IsS h).four
    unfold cpL; rw [rowF_length]; omega
theorem tpV_len (m : List (List Int)) : (tpV m).length ≤ 1000000000 := by
  cases h : isSm m with
  | false => rw [tpV_no h]; simp
  | true =>
    rw [tpV_yes h]
    have h4 := (isSm_IsS h).four
    have h1 := trimL_len (tpL m)
    have h2 : (tpL m).length = m.length + 1 := rowF_length _ _
    omega
end Go.Proofs.YtdngkfedkgiioaaDoor
