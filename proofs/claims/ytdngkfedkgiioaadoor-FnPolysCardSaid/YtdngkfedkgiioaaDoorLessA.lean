/- Contracts: whether the growth is below a fraction, by the program. -/
import Derived.Test.YtdngkfedkgiioaaDoorPickA
import Derived.Test.YtdngkfedkgiioaaDoorPkB
import Derived.Test.YtdngkfedkgiioaaDoorDetE
namespace Go.Proofs.YtdngkfedkgiioaaDoor
open Go.RowKit Go.Mx

/-- what is known of a small matrix -/
structure IsS (n : Nat) (m : List (List Int)) : Prop where
  mat : IsM n m
  four : n ≤ 4
  nine : ∀ i j, 0 ≤ at2 m i j ∧ at2 m i j ≤ 9
theorem isSm_IsS {m : List (List Int)} (h : isSm m = true) : IsS m.length m := by
  obtain ⟨h1, h2, h3⟩ := isSm_yes h
  exact ⟨h1, h2, fun i j => ⟨h1.low i j, h3 i j⟩⟩

set_option maxRecDepth 100000 in
set_option maxHeartbeats 4000000 in
theorem impl_less_any (v : Value) (m : List (List Int)) (n : Nat) (q d : Int) (w : World) (h : ReadsRows w v m) (hm : IsS n m) (hq : 0 ≤ q ∧ q ≤ 4000) (hd : 0 ≤ d ∧ d ≤ 100) :
    Calls Tryd.prog 89 #[v, .int .i64 q, .int .i64 d] w fun e w' => ∃ u, e = .returned u ∧ ResM w' w.heap.size u (tabF n n (lessF m q d)) ∧ Ext w w' := by
  obtain ⟨pa, ca, rfl⟩ := h.slice
  obtain ⟨-, hla1, hla2⟩ := h.len
  rw [hm.mat.len] at h hla1 ⊢
  have hpn := hm.mat.pos
  have hn4 := hm.four
  have hz := impl_zeros_any n w (by omega)
  rw [← lessTo_zero m q d] at hz
  have HM := Lib.hid (And.intro h (And.intro hm hz))
  obtain ⟨hq1, hq2⟩ := hq
  obtain ⟨hd1, hd2⟩ := hd
  clear h hm hz
  go_enter Tryd.func89, Tryd.ntmps89
  go_wp2_with (go_at_call 101; with_reducible refine HM.out.2.2.mono ?_; rintro e w1 ⟨g, cap, gs, cs, rfl, ht, hx⟩)
  go_loopw [17] (fun z wr => ∃ k : Nat, k ≤ n ∧ z = .int .i64 k ∧ MTab wr w.heap.size 26 3 g n cap gs cs (tabF n n (lessTo m q d k 0)) ∧ Ext w wr) (fun z _ => n - (intOf z).toNat)
  case atStart => exact ⟨0, by omega, rfl, ht, hx⟩
  case round =>
    clear ht hx
    obtain ⟨i, hi, rfl, ht, hx⟩ := hrel
    by_cases hlti : i < n
    · obtain ⟨bk, o, a', c', rfl, hcell, hrow⟩ := HM.out.1.at i (by rw [HM.out.2.1.mat.len]; exact hlti)
      have hlr := HM.out.2.1.mat.row i hlti
      obtain ⟨b', o', rfl, -⟩ := hrow.at 0 (by rw [hlr]; omega)
      rw [hlr] at hcell hrow
      have hlc := hrow.len.2.1
      replace hcell := hx.cell_some hcell
      have HR := Lib.hid (And.intro hrow hlr)
      have HT := Lib.hid ht
      clear hrow hlr ht
      go_wp2
      clear hcell
      go_loopw [24] (fun z wr => ∃ k : Nat, k ≤ n ∧ z = .int .i64 k ∧ MTab wr w.heap.size 26 3 g n cap gs cs (tabF n n (lessTo m q d i k)) ∧ Ext w wr) (fun z _ => n - (intOf z).toNat)
      case atStart => exact ⟨0, by omega, rfl, HT.out, hx⟩
      case round =>
        clear HT hx
        obtain ⟨j, hj, rfl, ht, hx⟩ := hrel
        by_cases hltj : j < n
        · obtain ⟨_, _, e, hcell⟩ := (HR.out.1.ext hx).at j (by rw [HR.out.2]; exact hltj)
          cases e
          have hxb := HM.out.2.1.nine i j
          have hset := lessTo_set m q d n i j hlti
          unfold at2 at hxb hset
          obtain ⟨x, hxx⟩ : ∃ x, x = (m.getD i []).getD j 0 := ⟨_, rfl⟩
          rw [← hxx] at hcell hxb hset
          have hzb := mul_bd (x := d) (y := x) (a := 100) (b := 9) (by omega) hd2 (by omega) hxb.2
          obtain ⟨z, hz⟩ : ∃ z, d * x = z := ⟨_, rfl⟩
          rw [hz] at hset hzb
          obtain ⟨hz1, hz2⟩ := hzb
          have hz' : -d * x = -z := by rw [Int.neg_mul, hz]
          have hkR : i < (tabF n n (lessTo m q d i j)).length := by rw [tabF_length]; exact hlti
          have hsp := ht.spot i hkR
          have hcp := (ht.row i hkR).caps.1
          have hat := ht.at i j hkR (by rw [tabF_row_length hlti]; exact hltj)
          have hf := ht.frozen i j hkR
          have hst := ht.set i j hkR (-z)
          rw [hset] at hst
          rw [tabF_row_length hlti] at hsp hcp
          have hx9 := hx.setCell (p := ⟨gs i, j, none⟩) (ht.rowlt i hkR).1 (.int .i64 (-z))
          have H8 := Lib.hid (And.intro hst hx9)
          clear hst hx9 ht hx hkR hset hxx hxb
          go_wp2
          go_roundw
          case rel => exact ⟨j + 1, by omega, by go_num, H8.out.1, H8.out.2⟩
          case measure => simp [intOf]; omega
        · have hjn : j = n := by omega
          rw [hjn] at ht
          have hxb := HM.out.2.1.nine i i
          have hzb := mul_bd (x := d) (y := at2 m i i) (a := 100) (b := 9) (by omega) hd2 (by omega) hxb.2
          have hset := lessTo_diag m q d n i hlti
          have hkR : i < (tabF n n (lessTo m q d i n)).length := by rw [tabF_length]; exact hlti
          have hsp := ht.spot i hkR
          have hcp := (ht.row i hkR).caps.1
          have hat := ht.at i i hkR (by rw [tabF_row_length hlti]; exact hlti)
          rw [lessTo_at m q d n i hlti] at hat
          obtain ⟨z, hz⟩ : ∃ z, z = -(d * at2 m i i) := ⟨_, rfl⟩
          rw [← hz] at hat hset
          have hz1 : -900 ≤ z := by omega
          have hz2 : z ≤ 900 := by omega
          have hf := ht.frozen i i hkR
          have hst := ht.set i i hkR (z + q)
          rw [hset] at hst
          rw [tabF_row_length hlti] at hsp hcp
          have hx9 := hx.setCell (p := ⟨gs i, i, none⟩) (ht.rowlt i hkR).1 (.int .i64 (z + q))
          have H8 := Lib.hid (And.intro hst hx9)
          clear hst hx9 ht hx hkR hset hz hxb hzb
          subst hjn
          go_wp2
          go_roundw
          case rel => exact ⟨i + 1, by omega, by go_num, H8.out.1, H8.out.2⟩
          case measure => simp [intOf]; omega
    · have hin : i = n := by omega
      rw [hin, lessTo_all] at ht
      have htl : (tabF n n (lessF m q d)).length = n := tabF_length _ _ _
      have HT := Lib.hid (And.intro ht htl)
      clear ht htl
      subst hin
      go_wp2
      go_ret
      exact ⟨_, rfl, .inr ⟨g, cap, gs, cs, by rw [HT.out.2]; rfl, by rw [HT.out.2]; exact HT.out.1⟩, hx⟩

set_option maxRecDepth 100000 in
set_option maxHeartbeats 4000000 in
theorem impl_first_any (v : Value) (t : List (List Int)) (N k : Nat) (w : World) (h : ReadsRows w v t) (ht : t.length = N) (hr : ∀ i, i < N → (t.getD i []).length = N) (hk1 : 1 ≤ k) (hkN : k ≤ N) (hN : N ≤ 1000) :
    Calls Tryd.prog 90 #[v, .int .i64 k] w fun e w' => ∃ u, e = .returned u ∧ ReadsRows w' u ((t.take k).map fun r => r.take k) ∧ Ext w w' := by
  obtain ⟨pa, ca, rfl⟩ := h.slice
  obtain ⟨-, hla1, hla2⟩ := h.len
  rw [ht] at h hla1 ⊢
  obtain ⟨b0, o0, a0, c0, rfl, -, -⟩ := h.at 0 (by rw [ht]; omega)
  have HM := Lib.hid (And.intro h (And.intro ht hr))
  have hB0 : Own (w.alloc (.cells #[] 26)) w.heap.size 26 (.slice (some ⟨w.heap.size, 0, none⟩) 0 0) [] := Own.lit w 26 [] (by simp)
  clear h ht hr
  go_enter Tryd.func90, Tryd.ntmps90
  go_wp2
  go_loopw [5, 13] (fun v q wr => ∃ (i g cap : Nat) (fs : List Value), i ≤ k ∧ q = .int .i64 i ∧ v = .slice (some ⟨g, 0, none⟩) i cap ∧ fs.length = i ∧ Own wr w.heap.size 26 (.slice (some ⟨g, 0, none⟩) i cap) fs ∧ (∀ j, j < i → ∃ a c, fs[j]? = some (.slice a k c) ∧ ReadsI w (.slice a k c) ((t.getD j []).take k)) ∧ Ext w wr) (fun _ q _ => k - (intOf q).toNat)
  case atStart => exact ⟨0, _, _, [], by omega, rfl, rfl, rfl, hB0, fun j hj => by omega, Ext.alloc _ _⟩
  case round =>
    clear hB0
    obtain ⟨i, g, cap, fs, hi, rfl, rfl, hfl, hown, hfs, hx⟩ := hrel
    by_cases hlti : i < k
    · obtain ⟨_, _, a', c', e, hcell, hrow⟩ := HM.out.1.at i (by rw [HM.out.2.1]; omega)
      cases e
      have hlr := HM.out.2.2 i (by omega)
      obtain ⟨b', o', rfl, -⟩ := hrow.at 0 (by rw [hlr]; omega)
      rw [hlr] at hcell hrow
      have hlc := hrow.len.2.1
      have hck : k ≤ c' := by omega
      replace hcell := hx.cell_some hcell
      have hrt := hrow.take k (by omega)
      have hv1 : fs.length + 1 ≤ maxLen := by rw [hfl]; unfold maxLen; omega
      have hv2 : (fs.length + 1) * 24 ≤ 140737488355328 := by rw [hfl]; omega
      have HS := Lib.hid (And.intro hown (And.intro hfs (And.intro hrt (And.intro hv1 (And.intro hv2 hfl)))))
      clear hown hfs hrt hv1 hv2 hrow hlr hfl
      go_wp2_with (at_builtin; refine wpList_append_one rfl (.tmp 17) (.tmp 21) 24 rfl 26 _ _ Tryd.underlying24 infoRow rfl w.heap.size _ fs rfl (HS.out.1.ext (Ext.alloc _ _)) _ _ rfl (by simp; rfl) rfl HS.out.2.2.2.1 HS.out.2.2.2.2.1 w rfl (hx.trans (Ext.alloc _ _)) ?_; intro v4 w4 hown4 hx4 hmv4; have H4 := Lib.hid (And.intro hown4 hx4); clear hown4 hx4 hmv4)
      go_roundw
      case rel =>
        have ho := H4.out.1
        have hl5 : (fs ++ [Value.slice (some ⟨b', o', none⟩) k c']).length = i + 1 := by rw [List.length_append, HS.out.2.2.2.2.2]; rfl
        rcases ho.shape with ⟨_, hn⟩ | ⟨g5, c5, hv5, _⟩
        · simp at hn
        · rw [hl5] at hv5
          refine ⟨i + 1, g5, c5, fs ++ [Value.slice (some ⟨b', o', none⟩) k c'], by omega, by go_num, hv5, hl5, by rw [← hv5]; exact ho, fun j hj => ?_, H4.out.2⟩
          by_cases e : j = i
          · subst e
            exact ⟨_, _, by rw [List.getElem?_append_right (by rw [HS.out.2.2.2.2.2]; exact Nat.le_refl _), HS.out.2.2.2.2.2, Nat.sub_self]; rfl, HS.out.2.2.1⟩
          · obtain ⟨a, c, h1, h2⟩ := HS.out.2.1 j (by omega)
            exact ⟨a, c, by rw [List.getElem?_append_left (by rw [HS.out.2.2.2.2.2]; omega)]; exact h1, h2⟩
      case measure => simp [intOf]; omega
    · have hin : i = k := by omega
      subst hin
      have hl : ((t.take i).map fun r => r.take i).length = i := by rw [List.length_map, List.length_take, HM.out.2.1]; omega
      have hres : ReadsRows wr (.slice (some ⟨g, 0, none⟩) i cap) ((t.take i).map fun r => r.take i) := by
        refine ⟨fs, by rw [hfl, hl], hown.reads, fun j hj => ?_⟩
        rw [hl] at hj
        obtain ⟨a, c, h1, h2⟩ := hfs j hj
        refine ⟨_, h1, ?_⟩
        have e : ((t.take i).map fun r => r.take i)[j] = (t.getD j []).take i := by
          simp [List.getD_eq_getElem?_getD, List.getElem?_eq_getElem (show j < t.length by rw [HM.out.2.1]; omega)]
        rw [e]
        exact h2.ext hx
      have HR := Lib.hid hres
      clear hres hown hfs hfl hl
      go_wp2
      go_ret
      exact ⟨_, rfl, HR.out, hx⟩
end Go.Proofs.YtdngkfedkgiioaaDoor
