/- Contracts: numbers as a text, by the program and by the reference. -/
import Derived.Test.YtdngkfedkgiioaaDoorPkP
import Derived.Test.YtdngkfedkgiioaaDoorPolyA
import Derived.Test.YtdngkfedkgiioaaDoorShA
import Derived.Lib.Join
import Derived.Lib.AppendStr
namespace Go.Cm
theorem lens_le {c : Nat} : ∀ {L : List (List UInt8)}, (∀ x ∈ L, x.length ≤ c) → Lib.lens L ≤ c * L.length
  | [], _ => by simp [Lib.lens]
  | x :: L, h => by
    have h1 := lens_le (fun y hy => h y (List.mem_cons_of_mem _ hy))
    have h2 := h x List.mem_cons_self
    simp only [Lib.lens, List.map_cons, List.sum_cons, List.length_cons] at h1 ⊢
    rw [Nat.mul_succ]
    omega
theorem join_len {c : Nat} {L : List (List UInt8)} {b : UInt8} (h : ∀ x ∈ L, x.length ≤ c) : (Lib.join L [b]).length ≤ (c + 1) * L.length := by
  cases L with
  | nil => simp [Lib.join_nil]
  | cons x L =>
    rw [Lib.join_cons, List.length_append, Lib.joinTail_length]
    have h1 := lens_le (fun y hy => h y (List.mem_cons_of_mem _ hy))
    have h2 := h x List.mem_cons_self
    simp only [List.length_cons, List.length_nil]
    have e : (c + 1) * (L.length + 1) = c * L.length + c + L.length + 1 := by rw [Nat.add_mul, Nat.mul_add, Nat.mul_one, Nat.one_mul]; omega
    omega
theorem join_first {L : List (List UInt8)} {sep : List UInt8} (h : 0 < L.length) : Lib.join (L.take 1) sep = L.getD 0 [] := by
  cases L with
  | nil => simp at h
  | cons x L => simp [Lib.join_one]
theorem join_next {L : List (List UInt8)} {sep : List UInt8} {k : Nat} (hk : 0 < k) (h : k < L.length) : Lib.join (L.take (k + 1)) sep = Lib.join (L.take k) sep ++ sep ++ L.getD k [] := by
  cases L with
  | nil => simp at h
  | cons x L =>
    obtain ⟨j, rfl⟩ : ∃ j, k = j + 1 := ⟨k - 1, by omega⟩
    simp only [List.length_cons] at h
    have hj : L[j]? = some (L.getD j []) := by rw [List.getD_eq_getElem?_getD, List.getElem?_eq_getElem (by omega)]; rfl
    rw [List.take_succ_cons, List.take_succ_cons, Lib.join_cons, Lib.join_cons, Lib.joinTail_take_succ _ _ _ _ hj, List.getD_cons_succ]
    simp
end Go.Cm
namespace Go.Proofs.YtdngkfedkgiioaaDoor
open Go.RowKit Go.Cm Go.Mx

theorem infoByte : (Tryd.prog.info? 5).map (fun i => (i.zero, i.size, i.bytes)) = some (some (.int .u8 0), 1, 1) := by kernel_rfl
theorem strCells_mkS (l : List UInt8) : Lib.strCells (mkS l) = bcells l := by simp [Lib.strCells, bcells, mkS_data]

set_option maxRecDepth 100000 in
set_option maxHeartbeats 1000000 in
theorem spec_Join_any (v : Value) (A : List (List UInt8)) (b : UInt8) (w : World) (h : ReadsW w v A) (hA : A.length ≤ 1048576) (hc : ∀ x ∈ A, x.length ≤ 1000) :
    Calls Tryd.prog 88 #[v, .string (mkS [b])] w fun e w' => e = .returned (.string (mkS (Lib.join A [b]))) ∧ Ext w w' := by
  obtain ⟨pa, ca, rfl⟩ := h.slice
  obtain ⟨i, hi, hzz⟩ := Option.map_eq_some_iff.1 infoByte
  simp only [Prod.mk.injEq] at hzz
  obtain ⟨n, hn⟩ : ∃ n, n = A.length := ⟨_, rfl⟩
  rw [← hn] at h hA ⊢
  have hlen : ∀ k, (Lib.join (A.take k) [b]).length ≤ 1001 * n := fun k => by
    have h1 := join_len (c := 1000) (L := A.take k) (b := b) (fun x hx => hc x (List.mem_of_mem_take hx))
    have h2 : (A.take k).length ≤ n := by rw [List.length_take, hn]; omega
    exact Nat.le_trans h1 (Nat.mul_le_mul_left _ h2)
  have hB0 : Own (w.alloc (.cells #[] 5)) w.heap.size 5 (.slice (some ⟨w.heap.size, 0, none⟩) 0 0) (bcells (Lib.join (A.take 0) [b])) := Own.lit w 5 [] (by simp)
  have HA := Lib.hid (And.intro h (And.intro hn (And.intro hlen (And.intro hi (And.intro hzz (And.intro hB0 hc))))))
  clear h hn hlen hi hzz hB0 hc
  go_enter Tryd.func88, Tryd.ntmps88
  go_wp2
  go_loopw [5, 6] (fun v i wr => ∃ k : Nat, k ≤ n ∧ i = .int .i64 k ∧ Own wr w.heap.size 5 v (bcells (Lib.join (A.take k) [b])) ∧ Ext w wr) (fun _ i _ => n - (intOf i).toNat)
  case atStart => exact ⟨0, by omega, rfl, HA.out.2.2.2.2.2.1, Ext.alloc _ _⟩
  case round =>
    obtain ⟨k, hk, rfl, hown, hxr⟩ := hrel
    by_cases hlt : k < n
    · obtain ⟨bb, o, rfl, hcw⟩ := HA.out.1.at k (by rw [← HA.out.2.1]; exact hlt)
      have hyl : (A.getD k []).length ≤ 1000 := by
        rw [List.getD_eq_getElem?_getD, List.getElem?_eq_getElem (by rw [← HA.out.2.1]; exact hlt)]
        exact HA.out.2.2.2.2.2.2 _ (List.getElem_mem _)
      have hl := HA.out.2.2.1 k
      have hnext := fun h => join_next (L := A) (sep := [b]) (k := k) h (by rw [← HA.out.2.1]; exact hlt)
      have hfirst := fun h => join_first (L := A) (sep := [b]) h
      obtain ⟨y, hy⟩ : ∃ y, y = A.getD k [] := ⟨_, rfl⟩
      rw [← hy] at hcw hyl hnext
      have hcell := hxr.cell_some hcw
      have HCW := Lib.hid hcw
      clear hcw
      obtain ⟨J, hJ⟩ : ∃ J, J = Lib.join (A.take k) [b] := ⟨_, rfl⟩
      rw [← hJ] at hown hl hnext
      have hsy : (mkS y).size = y.length := mkS_size y
      have hsb : (mkS [b]).size = 1 := mkS_size [b]
      have hlj : (bcells J).length = J.length := by simp [bcells]
      by_cases hk0 : k = 0
      · subst hk0
        simp only [Nat.add_zero] at hcell
        have hJ0 : J = [] := by rw [hJ]; rfl
        subst hJ0
        have HN := Lib.hid (show Lib.join (A.take 1) [b] = y by rw [hfirst (by rw [← HA.out.2.1]; exact hlt), hy])
        have h1 : (bcells []).length + (mkS y).size ≤ maxLen := by rw [hlj, hsy]; unfold maxLen; simp; omega
        have h2 : (bcells []).length + (mkS y).size ≤ 140737488355328 := by rw [hlj, hsy]; simp; omega
        have HO := Lib.hid (And.intro hown (And.intro hxr (And.intro h1 h2)))
        clear hnext hfirst hy hJ hl hown h1 h2 hlj hsy
        go_wp2_with (at_builtin; refine Lib.wpList_append_own_string _ rfl (.tmp 19) (.tmp 23) 22 9 rfl w.heap.size 5 i Tryd.underlying22 Tryd.underlying9 HA.out.2.2.2.1 HA.out.2.2.2.2.1.1 HA.out.2.2.2.2.1.2.1 HA.out.2.2.2.2.1.2.2 _ _ _ rfl HO.out.1 (mkS y) rfl HO.out.2.2.1 HO.out.2.2.2 HO.out.2.1.size ?_; intro v4 w4 hown4 hgb4 hnil4)
        go_roundw
        case rel =>
          refine ⟨1, by omega, by simp, ?_, HO.out.2.1.grown hgb4 (fun k hk => (World.ownsRow.lt HO.out.1 k hk).1)⟩
          rw [HN.out]
          rw [strCells_mkS] at hown4
          unfold Own
          simpa [bcells, mkS_size, Nat.add_assoc, Nat.add_comm 1] using hown4
        case measure => simp [intOf]; omega
      · have HN := Lib.hid (hnext (by omega))
        have h1 : (bcells J).length + (mkS [b]).size ≤ maxLen := by rw [hlj, hsb]; unfold maxLen; omega
        have h2 : (bcells J).length + (mkS [b]).size ≤ 140737488355328 := by rw [hlj, hsb]; omega
        have h3 : (bcells (J ++ [b])).length + (mkS y).size ≤ maxLen := by rw [hsy]; simp [bcells]; unfold maxLen; omega
        have h4 : (bcells (J ++ [b])).length + (mkS y).size ≤ 140737488355328 := by rw [hsy]; simp [bcells]; omega
        have HO := Lib.hid (And.intro hown (And.intro hxr (And.intro h1 (And.intro h2 (And.intro h3 h4)))))
        have hk1 : 0 < k := by omega
        clear hnext hfirst hy hJ hl hown h1 h2 h3 h4 hlj hsy hsb
        go_wp2_with (first
          | (at_builtin; refine Lib.wpList_append_own_string _ rfl (.tmp 16) (.tmp 17) 22 9 rfl w.heap.size 5 i Tryd.underlying22 Tryd.underlying9 HA.out.2.2.2.1 HA.out.2.2.2.2.1.1 HA.out.2.2.2.2.1.2.1 HA.out.2.2.2.2.1.2.2 _ _ _ rfl HO.out.1 (mkS [b]) rfl HO.out.2.2.1 HO.out.2.2.2.1 HO.out.2.1.size ?_; intro v3 w3 hown3 hgb3 hnil3; have hx3 := HO.out.2.1.grown hgb3 (fun k hk => (World.ownsRow.lt HO.out.1 k hk).1); replace hcell := hx3.cell_some HCW.out; rw [strCells_mkS] at hown3; have H3 := Lib.hid (And.intro (show Own w3 w.heap.size 5 v3 (bcells (J ++ [b])) by unfold Own; simpa [bcells, mkS_size] using hown3) hx3); clear hown3 hgb3 hnil3 hx3)
          | (at_builtin; refine Lib.wpList_append_own_string _ rfl (.tmp 19) (.tmp 23) 22 9 rfl w.heap.size 5 i Tryd.underlying22 Tryd.underlying9 HA.out.2.2.2.1 HA.out.2.2.2.2.1.1 HA.out.2.2.2.2.1.2.1 HA.out.2.2.2.2.1.2.2 _ _ _ rfl H3.out.1 (mkS y) rfl HO.out.2.2.2.2.1 HO.out.2.2.2.2.2 H3.out.2.size ?_; intro v4 w4 hown4 hgb4 hnil4))
        go_roundw
        case rel =>
          refine ⟨k + 1, by omega, by go_num, ?_, H3.out.2.grown hgb4 (fun k hk => (World.ownsRow.lt H3.out.1 k hk).1)⟩
          rw [HN.out]
          rw [strCells_mkS] at hown4
          unfold Own
          simpa [bcells, mkS_size, Nat.add_assoc, Nat.add_comm 1] using hown4
        case measure => simp [intOf]; omega
    · have hkn : k = n := by omega
      subst hkn
      have htk : A.take k = A := List.take_of_length_le (by rw [← HA.out.2.1]; exact Nat.le_refl _)
      rw [htk] at hown
      have hcv := run_convert_own (P := Tryd.prog) (src := 22) (dst := 9) Tryd.underlying22 Tryd.underlying5 Tryd.underlying9 hown
      have HX := Lib.hid hxr
      clear hown hxr htk
      go_wp2
      go_ret
      exact ⟨rfl, HX.out⟩

/-- numbers as a text -/
def numT (p : List Int) : List UInt8 := Lib.join (p.map Lib.itoa) [32]
def polyT (p : List Int) : List UInt8 := if p.length = 0 then [48] else numT p
theorem itoas_len {p : List Int} (hz : InI64 p) : ∀ x ∈ p.map Lib.itoa, x.length ≤ 21 := by
  intro x hx
  obtain ⟨z, hz', rfl⟩ := List.mem_map.1 hx
  have := hz z hz'
  exact itoa_len (by omega) (by omega)

set_option maxRecDepth 100000 in
set_option maxHeartbeats 1000000 in
theorem impl_numbers_any (v : Value) (p : List Int) (w : World) (h : ReadsI w v p) (hz : InI64 p) (hl : p.length ≤ 1048576) (hpos : 0 < p.length) (ht : TabC w):
    Calls Tryd.prog 65 #[v, .string (mkS [32])] w fun e w' => e = .returned (.string (mkS (numT p))) ∧ Ext w w' := by
  obtain ⟨pa, ca, rfl⟩ := h.slice
  obtain ⟨n, hn⟩ : ∃ n, n = p.length := ⟨_, rfl⟩
  rw [← hn] at h hl hpos ⊢
  have hB0 : Own (w.alloc (.cells #[] 9)) w.heap.size 9 (.slice (some ⟨w.heap.size, 0, none⟩) 0 0) (scells ((p.take 0).map Lib.itoa)) := Own.lit w 9 [] (by simp)
  have HA := Lib.hid (And.intro h (And.intro hn (And.intro hz hB0)))
  skip
  clear h hn hz hB0
  go_enter Tryd.func65, Tryd.ntmps65
  go_wp2
  go_loopw [5, 11] (fun v i wr => ∃ k : Nat, k ≤ n ∧ i = .int .i64 k ∧ Own wr w.heap.size 9 v (scells ((p.take k).map Lib.itoa)) ∧ Ext w wr) (fun _ i _ => n - (intOf i).toNat)
  case atStart => exact ⟨0, by omega, rfl, HA.out.2.2.2, Ext.alloc _ _⟩
  case round =>
    obtain ⟨k, hk, rfl, hown, hxr⟩ := hrel
    by_cases hlt : k < n
    · have hlp : k < p.length := by rw [← HA.out.2.1]; exact hlt
      obtain ⟨bb, o, rfl, hcell⟩ := (ReadsI.ext HA.out.1 hxr).at k hlp
      have hzk : -9223372036854775808 ≤ p.getD k 0 ∧ p.getD k 0 ≤ 9223372036854775807 := by
        have e : p.getD k 0 = p[k] := by rw [List.getD_eq_getElem?_getD, List.getElem?_eq_getElem hlp, Option.getD_some]
        rw [e]
        have := HA.out.2.2.1 p[k] (List.getElem_mem hlp)
        omega
      have htk : (p.take (k + 1)).map Lib.itoa = (p.take k).map Lib.itoa ++ [Lib.itoa (p.getD k 0)] := by
        rw [List.take_succ_eq_append_getElem hlp, List.map_append, List.getD_eq_getElem?_getD, List.getElem?_eq_getElem hlp, Option.getD_some]
        rfl
      obtain ⟨z, hzd⟩ : ∃ z, z = p.getD k 0 := ⟨_, rfl⟩
      rw [← hzd] at hcell hzk htk
      have hf := fun w ht => impl_FormatInt_any z w hzk.1 hzk.2 ht
      have hl1 : (scells ((p.take k).map Lib.itoa)).length + 1 ≤ maxLen := by rw [scells_length, List.length_map, List.length_take]; unfold maxLen; omega
      have hl2 : ((scells ((p.take k).map Lib.itoa)).length + 1) * 16 ≤ 140737488355328 := by rw [scells_length, List.length_map, List.length_take]; omega
      have HF := Lib.hid (And.intro hf (And.intro htk (And.intro hl1 hl2)))
      clear hf htk hl1 hl2 hzd hlp
      go_wp2_with fail
      with_reducible refine (HF.out.1 _ (ht.ext hxr)).mono ?_
      rintro e w3 ⟨rfl, hy⟩
      have hown3 := hown.ext hy
      replace hxr := hxr.trans hy
      clear hown hy hcell
      go_wp2_with (at_builtin; refine wpList_append_one rfl (.tmp 15) (.tmp 18) 82 rfl 9 _ _ Tryd.underlying82 infoStr rfl w.heap.size _ _ rfl (hown3.ext (Ext.alloc _ _)) w3.heap.size _ rfl (by simp; rfl) rfl HF.out.2.2.1 HF.out.2.2.2 w rfl (hxr.trans (Ext.alloc _ _)) ?_; intro v' w4 hown4 hx4 hmv)
      go_roundw
      case rel => exact ⟨k + 1, by omega, by go_num, by rw [HF.out.2.1]; simpa [scells] using hown4, hx4⟩
      case measure => simp [intOf]; omega
    · have hkn : k = n := by omega
      subst hkn
      have htk : p.take k = p := List.take_of_length_le (by rw [← HA.out.2.1]; exact Nat.le_refl _)
      rw [htk] at hown
      have hsh := hown.shape
      have hlen : (scells (p.map Lib.itoa)).length = k := by rw [scells_length, List.length_map, ← HA.out.2.1]
      rw [hlen] at hsh
      rcases hsh with ⟨_, hnil⟩ | ⟨g, c, rfl, _, hg1, hg2, _⟩
      · exfalso
        rw [hnil] at hlen
        simp at hlen
        omega
      have hjl := join_len (c := 21) (L := p.map Lib.itoa) (b := 32) (itoas_len HA.out.2.2.1)
      rw [List.length_map, ← HA.out.2.1] at hjl
      have hmap : ((p.map Lib.itoa).map mkS).map (·.data.toList) = p.map Lib.itoa := by
        rw [List.map_map]
        simp [Function.comp_def, mkS_data]
      have hJ := Tryd.strings_Join g 0 c ((p.map Lib.itoa).map mkS) (mkS [32]) wr (fun j x hj => by
          have hjl : j < (p.map Lib.itoa).length := by
            have := (List.getElem?_eq_some_iff.1 hj).1
            rw [List.length_map] at this
            exact this
          have hc := hown.cell j (by rw [scells_length]; exact hjl)
          rw [scells_at _ _ hjl] at hc
          rw [List.getElem?_map, List.getElem?_eq_getElem hjl] at hj
          have hx : x = mkS (p.map Lib.itoa)[j] := by simpa using hj.symm
          rw [Nat.zero_add, hc, hx, List.getD_eq_getElem?_getD, List.getElem?_eq_getElem hjl, Option.getD_some]) hg1 (by rw [List.length_map, List.length_map, ← HA.out.2.1]; omega) (by rw [List.length_map, List.length_map, ← HA.out.2.1]; exact hg2)
          (by rw [hmap, mkS_data]; omega)
      rw [hmap, mkS_data, List.length_map, List.length_map, ← HA.out.2.1] at hJ
      have HJ := Lib.hid hJ
      have HX := Lib.hid hxr
      clear hJ hown hxr htk hlen hjl hmap hg1 hg2
      go_wp2_with fail
      with_reducible refine HJ.out.mono ?_
      rintro e w3 ⟨rfl, hy⟩
      go_wp2
      go_ret
      exact ⟨rfl, HX.out.trans hy⟩
set_option maxRecDepth 100000 in
set_option maxHeartbeats 1000000 in
theorem spec_l4Numbers_any (v : Value) (p : List Int) (w : World) (h : ReadsI w v p) (hz : InI64 p) (hl : p.length ≤ 1048576) (hpos : 0 < p.length) :
    Calls Tryd.prog 66 #[v, .string (mkS [32])] w fun e w' => e = .returned (.string (mkS (numT p))) ∧ Ext w w' := by
  obtain ⟨pa, ca, rfl⟩ := h.slice
  obtain ⟨n, hn⟩ : ∃ n, n = p.length := ⟨_, rfl⟩
  rw [← hn] at h hl hpos ⊢
  have hB0 : Own (w.alloc (.cells #[] 9)) w.heap.size 9 (.slice (some ⟨w.heap.size, 0, none⟩) 0 0) (scells ((p.take 0).map Lib.itoa)) := Own.lit w 9 [] (by simp)
  have HA := Lib.hid (And.intro h (And.intro hn (And.intro hz hB0)))
  skip
  clear h hn hz hB0
  go_enter Tryd.func66, Tryd.ntmps66
  go_wp2
  go_loopw [5, 6] (fun v i wr => ∃ k : Nat, k ≤ n ∧ i = .int .i64 k ∧ Own wr w.heap.size 9 v (scells ((p.take k).map Lib.itoa)) ∧ Ext w wr) (fun _ i _ => n - (intOf i).toNat)
  case atStart => exact ⟨0, by omega, rfl, HA.out.2.2.2, Ext.alloc _ _⟩
  case round =>
    obtain ⟨k, hk, rfl, hown, hxr⟩ := hrel
    by_cases hlt : k < n
    · have hlp : k < p.length := by rw [← HA.out.2.1]; exact hlt
      obtain ⟨bb, o, rfl, hcell⟩ := (ReadsI.ext HA.out.1 hxr).at k hlp
      have hzk : -9223372036854775808 ≤ p.getD k 0 ∧ p.getD k 0 ≤ 9223372036854775807 := by
        have e : p.getD k 0 = p[k] := by rw [List.getD_eq_getElem?_getD, List.getElem?_eq_getElem hlp, Option.getD_some]
        rw [e]
        have := HA.out.2.2.1 p[k] (List.getElem_mem hlp)
        omega
      have htk : (p.take (k + 1)).map Lib.itoa = (p.take k).map Lib.itoa ++ [Lib.itoa (p.getD k 0)] := by
        rw [List.take_succ_eq_append_getElem hlp, List.map_append, List.getD_eq_getElem?_getD, List.getElem?_eq_getElem hlp, Option.getD_some]
        rfl
      obtain ⟨z, hzd⟩ : ∃ z, z = p.getD k 0 := ⟨_, rfl⟩
      rw [← hzd] at hcell hzk htk
      have hf := fun w  => spec_FormatInt_any z w hzk.1 hzk.2 
      have hl1 : (scells ((p.take k).map Lib.itoa)).length + 1 ≤ maxLen := by rw [scells_length, List.length_map, List.length_take]; unfold maxLen; omega
      have hl2 : ((scells ((p.take k).map Lib.itoa)).length + 1) * 16 ≤ 140737488355328 := by rw [scells_length, List.length_map, List.length_take]; omega
      have HF := Lib.hid (And.intro hf (And.intro htk (And.intro hl1 hl2)))
      clear hf htk hl1 hl2 hzd hlp
      go_wp2_with fail
      with_reducible refine (HF.out.1 _ ).mono ?_
      rintro e w3 ⟨rfl, hy⟩
      have hown3 := hown.ext hy
      replace hxr := hxr.trans hy
      clear hown hy hcell
      go_wp2_with (at_builtin; refine wpList_append_one rfl (.tmp 14) (.tmp 20) 82 rfl 9 _ _ Tryd.underlying82 infoStr rfl w.heap.size _ _ rfl (hown3.ext (Ext.alloc _ _)) w3.heap.size _ rfl (by simp; rfl) rfl HF.out.2.2.1 HF.out.2.2.2 w rfl (hxr.trans (Ext.alloc _ _)) ?_; intro v' w4 hown4 hx4 hmv)
      go_roundw
      case rel => exact ⟨k + 1, by omega, by go_num, by rw [HF.out.2.1]; simpa [scells] using hown4, hx4⟩
      case measure => simp [intOf]; omega
    · have hkn : k = n := by omega
      subst hkn
      have htk : p.take k = p := List.take_of_length_le (by rw [← HA.out.2.1]; exact Nat.le_refl _)
      rw [htk] at hown
      have HJ := Lib.hid (spec_Join_any _ (p.map Lib.itoa) 32 wr (Own.readsW hown) (by rw [List.length_map, ← HA.out.2.1]; exact hl) (fun x hx => by have := itoas_len HA.out.2.2.1 x hx; omega))
      have HX := Lib.hid hxr
      clear hown hxr htk
      go_wp2_with fail
      with_reducible refine HJ.out.mono ?_
      rintro e w3 ⟨rfl, hy⟩
      go_wp2
      go_ret
      exact ⟨rfl, HX.out.trans hy⟩

set_option maxHeartbeats 1000000 in
theorem impl_PolyText_any (v : Value) (p : List Int) (w : World) (h : ReadsI w v p) (hz : InI64 p) (hl : p.length ≤ 1048576) (ht : TabC w):
    Calls Tryd.prog 25 #[v] w fun e w' => e = .returned (.string (mkS (polyT p))) ∧ Ext w w' := by
  obtain ⟨pa, ca, rfl⟩ := h.slice
  by_cases h0 : p.length = 0
  · have hp : polyT p = [48] := if_pos h0
    have hb : ((p.length : Int) == 0) = true := by rw [h0]; rfl
    rw [hp]
    clear hp
    have hm : mkS [48] = ⟨#[48]⟩ := rfl
    rw [hm]
    clear hm
    go_enter Tryd.func25, Tryd.ntmps25
    go_wp2
    go_ret
    exact ⟨rfl, Ext.refl _⟩
  · have hp : polyT p = numT p := if_neg h0
    have hc := impl_numbers_any (.slice pa p.length ca) p w h hz hl (by omega) ht
    rw [show mkS [32] = (⟨#[32]⟩ : ByteArray) from rfl] at hc
    have HC := Lib.hid hc
    clear hc
    rw [hp]
    have hb : ((p.length : Int) == 0) = false := by simpa using h0
    obtain ⟨n, hn⟩ : ∃ n, n = p.length := ⟨_, rfl⟩
    rw [← hn] at HC hb h0 ⊢
    clear hp h hz hl hn
    go_enter Tryd.func25, Tryd.ntmps25
    go_wp2_with fail
    with_reducible refine HC.out.mono ?_
    rintro e w3 ⟨rfl, hy⟩
    go_wp2
    go_ret
    exact ⟨rfl, hy⟩
set_option maxHeartbeats 1000000 in
theorem spec_PolyText_any (v : Value) (p : List Int) (w : World) (h : ReadsI w v p) (hz : InI64 p) (hl : p.length ≤ 1048576) :
    Calls Tryd.prog 26 #[v] w fun e w' => e = .returned (.string (mkS (polyT p))) ∧ Ext w w' := by
  obtain ⟨pa, ca, rfl⟩ := h.slice
  by_cases h0 : p.length = 0
  · have hp : polyT p = [48] := if_pos h0
    have hb : ((p.length : Int) == 0) = true := by rw [h0]; rfl
    rw [hp]
    clear hp
    have hm : mkS [48] = ⟨#[48]⟩ := rfl
    rw [hm]
    clear hm
    go_enter Tryd.func26, Tryd.ntmps26
    go_wp2
    go_ret
    exact ⟨rfl, Ext.refl _⟩
  · have hp : polyT p = numT p := if_neg h0
    have hc := spec_l4Numbers_any (.slice pa p.length ca) p w h hz hl (by omega) 
    rw [show mkS [32] = (⟨#[32]⟩ : ByteArray) from rfl] at hc
    have HC := Lib.hid hc
    clear hc
    rw [hp]
    have hb : ((p.length : Int) == 0) = false := by simpa using h0
    obtain ⟨n, hn⟩ : ∃ n, n = p.length := ⟨_, rfl⟩
    rw [← hn] at HC hb h0 ⊢
    clear hp h hz hl hn
    go_enter Tryd.func26, Tryd.ntmps26
    go_wp2_with fail
    with_reducible refine HC.out.mono ?_
    rintro e w3 ⟨rfl, hy⟩
    go_wp2
    go_ret
    exact ⟨rfl, hy⟩
end Go.Proofs.YtdngkfedkgiioaaDoor
