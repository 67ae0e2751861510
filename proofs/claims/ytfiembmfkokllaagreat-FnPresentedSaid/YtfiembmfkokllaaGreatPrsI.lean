/- Contracts: the vertices that are kept, of a graph in which each has an arc from it and one to it. -/
import Derived.Test.YtfiembmfkokllaaGreatPrsB
namespace Go.Proofs.YtfiembmfkokllaaGreat
open Go.RowKit Go.Mx Go.Cm

def upTo (n k : Nat) : List Value := (List.range n).map fun i => .bool (decide (i < k))
theorem upTo_length (n k : Nat) : (upTo n k).length = n := by simp [upTo]
theorem upTo_zero (n : Nat) : upTo n 0 = List.replicate n (.bool false) := by
  apply List.ext_getElem (by simp [upTo])
  intro i h1 h2
  simp [upTo]
theorem upTo_all (n : Nat) : upTo n n = List.replicate n (.bool true) := by
  apply List.ext_getElem (by simp [upTo])
  intro i h1 h2
  have : i < n := by simpa [upTo] using h1
  simp [upTo, this]
theorem upTo_set (n k : Nat) : (upTo n k).set k (.bool true) = upTo n (k + 1) := by
  apply List.ext_getElem (by simp [upTo])
  intro i h1 h2
  rw [List.getElem_set]
  by_cases e : k = i
  · subst e
    simp [upTo]
  · rw [if_neg e]
    simp only [upTo, List.getElem_map, List.getElem_range]
    congr 1
    by_cases h : i < k
    · simp [h]; omega
    · simp [h]; omega
theorem infoBoolL : (Tryz.prog.info? 4).map (fun i => (i.zero, i.size, i.bytes)) = some (some (.bool false), 1, 1) := by kernel_rfl
def tru : Value → Nat
  | .bool true => 1
  | _ => 0

set_option maxRecDepth 100000 in
set_option maxHeartbeats 4000000 in
theorem spec_l5Live_busy (v : Value) (m : List (List Int)) (n : Nat) (w : World) (h : ReadsRows w v m) (hn : m.length = n) (h9 : n ≤ 9) (hr : ∀ i, i < n → (m.getD i []).length = n) (hb : Busy m) :
    Calls Tryz.prog 90 #[v] w fun e w' => e = .returned (.slice (some ⟨w.heap.size, 0, none⟩) n n) ∧ Own w' w.heap.size 4 (.slice (some ⟨w.heap.size, 0, none⟩) n n) (List.replicate n (.bool true)) ∧ Ext w w' := by
  obtain ⟨pa, ca, rfl⟩ := h.slice
  obtain ⟨-, hl1, hl2⟩ := h.len
  rw [hn] at h hl1 ⊢
  have hfr := fun i (hi : i < n) => hb.from' (i := i) (by omega)
  have hto := fun i (hi : i < n) => hb.to' (i := i) (by omega)
  rw [hn] at hfr hto
  have HM := Lib.hid (And.intro h (And.intro hr (And.intro hfr (And.intro hto hn))))
  have ho0 := Own.made w 4 (.bool false) n (by unfold maxLen; omega)
  rw [← upTo_zero] at ho0
  have HO := Lib.hid ho0
  clear h hr hb hfr hto hn ho0
  have hmk := run_make_row' (P := Tryz.prog) 81 4 (.bool false) 1 Tryz.underlying81 infoBoolL rfl .i64 .i64 n (by omega) (by omega)
  go_enter Tryz.func90, Tryz.ntmps90
  go_wp2
  go_loopw [4] (fun i wr => ∃ k : Nat, k ≤ n ∧ i = .int .i64 k ∧ Own wr w.heap.size 4 (.slice (some ⟨w.heap.size, 0, none⟩) n n) (upTo n k) ∧ Ext w wr) (fun i _ => n - (intOf i).toNat)
  case atStart => exact ⟨0, by omega, rfl, HO.out, Ext.alloc _ _⟩
  case round =>
    clear HO
    obtain ⟨k, hk, rfl, ho, hx⟩ := hrel
    by_cases hlt : k < n
    · have hc := ho.cell k (by rw [upTo_length]; exact hlt)
      have hf := ho.frozen k
      have hs := ho.store k (.bool true)
      rw [upTo_set] at hs
      have HS := Lib.hid (And.intro hs (hx.setCell (p := ⟨w.heap.size, k, none⟩) (Nat.le_refl _) (.bool true)))
      clear hs ho hx
      go_wp2
      go_round
      case rel => exact ⟨k + 1, by omega, by go_num, HS.out.1, HS.out.2⟩
      case measure => simp [intOf]; omega
    · have hkn : k = n := by omega
      rw [hkn] at ho
      rename_i wr
      have hcl := fun q (hq : q < n) => ho.cell q (by rw [upTo_length]; exact hq)
      rw [upTo_all] at ho
      have hce : ∀ q, q < n → wr.cell? ⟨w.heap.size, q, none⟩ = some (.bool true) := fun q hq => by
        have := ho.cell q (by rw [List.length_replicate]; exact hq)
        rw [List.getElem_replicate] at this
        exact this
      have HW := Lib.hid (And.intro ho (And.intro hx (And.intro hce (HM.out.1.ext hx))))
      clear ho hx hcl hce
      subst hkn
      go_wp2
      go_loopw [5] (fun c wx => ∃ b : Bool, c = .bool b ∧ wx = wr) (fun c _ => tru c)
      case atStart => exact ⟨true, rfl, rfl⟩
      case round =>
        obtain ⟨b, rfl, rfl⟩ := hrel
        cases b
        · go_wp2
          go_ret
          exact ⟨rfl, HW.out.1, HW.out.2.1⟩
        · go_wp2
          go_loopw [5, 6] (fun c i wx => ∃ i' : Nat, c = .bool false ∧ i = .int .i64 i' ∧ i' ≤ k ∧ wx = wr) (fun _ i _ => k - (intOf i).toNat)
          case atStart => exact ⟨0, rfl, rfl, by omega, rfl⟩
          case round =>
            obtain ⟨i, rfl, rfl, hi, rfl⟩ := hrel
            by_cases hlti : i < k
            · go_wp2
              go_loopw [7, 8, 9] (fun a c j wx => ∃ q : Nat, a = .bool (someFrom m i q) ∧ c = .bool (someTo m i q) ∧ j = .int .i64 q ∧ q ≤ k ∧ wx = wr) (fun _ _ j _ => k - (intOf j).toNat)
              case atStart => exact ⟨0, rfl, rfl, rfl, by omega, rfl⟩
              case round =>
                obtain ⟨q, rfl, rfl, rfl, hq, rfl⟩ := hrel
                by_cases hltq : q < k
                · have hrl := HM.out.2.1
                  obtain ⟨bb, oo, a1, c1, rfl, hr1, hi1⟩ := HW.out.2.2.2.at i (by rw [HM.out.2.2.2.2]; exact hlti)
                  obtain ⟨_, _, a2, c2, e, hr2, hi2⟩ := HW.out.2.2.2.at q (by rw [HM.out.2.2.2.2]; exact hltq)
                  cases e
                  rw [hrl i hlti] at hr1 hi1
                  rw [hrl q hltq] at hr2 hi2
                  obtain ⟨b1, o1, rfl, hc1⟩ := hi1.at q (by rw [hrl i hlti]; exact hltq)
                  obtain ⟨b2, o2, rfl, hc2⟩ := hi2.at i (by rw [hrl q hltq]; exact hlti)
                  have hcq := HW.out.2.2.1 q hltq
                  have hsf := someFrom_succ m i q
                  have hst := someTo_succ m i q
                  have e1 : at2 m i q = (m.getD i []).getD q 0 := rfl
                  have e2 : at2 m q i = (m.getD q []).getD i 0 := rfl
                  rw [e1] at hsf
                  rw [e2] at hst
                  obtain ⟨x, hx⟩ : ∃ x, x = (m.getD i []).getD q 0 := ⟨_, rfl⟩
                  obtain ⟨y, hy⟩ : ∃ y, y = (m.getD q []).getD i 0 := ⟨_, rfl⟩
                  obtain ⟨f, hf⟩ : ∃ f, f = someFrom m i q := ⟨_, rfl⟩
                  obtain ⟨t, ht⟩ : ∃ t, t = someTo m i q := ⟨_, rfl⟩
                  rw [← hx] at hc1 hsf
                  rw [← hy] at hc2 hst
                  rw [← hf] at hsf ⊢
                  rw [← ht] at hst ⊢
                  have HS := Lib.hid (And.intro hsf hst)
                  clear hi1 hi2 hrl e1 e2 hx hy hf ht hsf hst
                  by_cases hx0 : 0 < x <;> by_cases hy0 : 0 < y <;> cases f <;> cases t
                  all_goals (
                    go_wp2
                    go_round
                    case rel => exact ⟨q + 1, by rw [HS.out.1]; simp [hx0], by rw [HS.out.2]; simp [hy0], by go_num, by omega, by first | rfl | trivial⟩
                    case measure => simp [intOf]; omega)
                · have hqk : q = k := by omega
                  have hA := HM.out.2.2.1 i hlti
                  have hB := HM.out.2.2.2.1 i hlti
                  have hcq := HW.out.2.2.1 i hlti
                  rw [hqk, hA, hB]
                  clear hA hB
                  subst hqk
                  go_wp2
                  go_round
                  case rel => exact ⟨i + 1, by first | rfl | trivial, by go_num, by omega, by first | rfl | trivial⟩
                  case measure => simp [intOf]; omega
            · go_wp2
              go_round
              case rel => exact ⟨false, by first | rfl | trivial, by first | rfl | trivial⟩
              case measure => simp [tru]

set_option maxRecDepth 100000 in
set_option maxHeartbeats 4000000 in
theorem spec_LivelyOf_busy (v : Value) (m : List (List Int)) (n : Nat) (w : World) (h : ReadsRows w v m) (hn : m.length = n) (h9 : n ≤ 9) (hr : ∀ i, i < n → (m.getD i []).length = n) (hb : Busy m) (hm : isMat m = true) :
    Calls Tryz.prog 65 #[v] w fun e w' => ∃ q c, e = .returned (.slice q n c) ∧ Ext w w' := by
  have hx0 := Ext.alloc w (.cells #[] 3)
  have hB0 := Own.lit w 3 [] (by simp)
  have h1 := fun w' (hx : Ext w w') => spec_IsMatrix_any v m w' (h.ext hx)
  rw [hm] at h1
  have h2 := fun w' (hx : Ext w w') => spec_l5Live_busy v m n w' (h.ext hx) hn h9 hr hb
  have HM := Lib.hid (And.intro h1 (And.intro h2 hB0))
  clear h1 h2 hB0 h hn hr hb hm
  go_enter Tryz.func65, Tryz.ntmps65
  go_wp2_with fail
  with_reducible refine (HM.out.1 _ hx0).mono ?_
  rintro e w' ⟨rfl, rfl⟩
  go_wp2_with fail
  with_reducible refine (HM.out.2.1 _ hx0).mono ?_
  rintro e w1 ⟨rfl, hl, hx1⟩
  obtain ⟨G, hG⟩ : ∃ G, G = (w.alloc (.cells #[] 3)).heap.size := ⟨_, rfl⟩
  have hGw : w.heap.size < G := by rw [hG]; simp
  rw [← hG] at hl ⊢
  have ho := HM.out.2.2.ext hx1
  have hl' := hl.mono (B' := w.heap.size) (by omega)
  have hx := hx0.trans hx1
  have HS := Lib.hid (And.intro ho (And.intro hl' hx))
  clear hl hl' ho hx hx0 hx1 hG
  go_wp2
  go_loopw [3, 5] (fun s i wr => ∃ (k : Nat) (q : Option Addr) (c : Nat) (fs : List Int), s = .slice q k c ∧ i = .int .i64 k ∧ k ≤ n ∧ k = fs.length ∧ Own wr w.heap.size 3 (.slice q k c) (icells fs) ∧ (Value.slice q k c).ownBlock ≠ some G ∧ Own wr w.heap.size 4 (.slice (some ⟨G, 0, none⟩) n n) (List.replicate n (.bool true)) ∧ Ext w wr) (fun _ i _ => n - (intOf i).toNat)
  case atStart => exact ⟨0, some ⟨w.heap.size, 0, none⟩, 0, [], rfl, rfl, by omega, rfl, HS.out.1, by simp [Value.ownBlock]; omega, HS.out.2.1, HS.out.2.2⟩
  case round =>
    clear HS
    rename_i wr
    obtain ⟨k, q, c, fs, rfl, rfl, hk, hkf, ho, hne, hl, hx⟩ := hrel
    by_cases hlt : k < n
    · have hc := hl.cell k (by rw [List.length_replicate]; exact hlt)
      rw [List.getElem_replicate] at hc
      have hu1 : (icells fs).length + 1 ≤ maxLen := by rw [icells_length]; unfold maxLen; omega
      have hu2 : ((icells fs).length + 1) * 8 ≤ 140737488355328 := by rw [icells_length]; omega
      have hGl := World.ownsRow.lt hl G rfl
      have hlen : (fs ++ [(k : Int)]).length = k + 1 := by rw [List.length_append, ← hkf]; rfl
      have HT := Lib.hid (And.intro ho (And.intro hu1 (And.intro hu2 (And.intro hne (And.intro hl (And.intro hx (And.intro hGl (And.intro hkf hlen))))))))
      clear ho hu1 hu2 hne hl hx hkf hlen hGl
      go_wp2_with (at_builtin; refine wpList_append_one rfl (.tmp 23) (.tmp 25) 52 rfl 3 _ _ Tryz.underlying52 infoInt rfl w.heap.size (.slice q k c) (icells fs) rfl (HT.out.1.ext (Ext.alloc _ _)) _ _ rfl (by simp; rfl) rfl HT.out.2.1 HT.out.2.2.1 w rfl (HT.out.2.2.2.2.2.1.trans (Ext.alloc _ _)) ?_; intro v4 w4 hown4 hx4 hmv4; obtain ⟨q4, c4, rfl⟩ : ∃ q4 c4, v4 = .slice q4 (k + 1) c4 := (by rw [icells_snoc] at hown4; obtain ⟨a, b, e⟩ := (ReadsI.slice (xs := fs ++ [(k : Int)]) hown4.reads); exact ⟨a, b, by rw [e, HT.out.2.2.2.2.2.2.2.2]⟩); have H4 := Lib.hid (And.intro hown4 (And.intro hx4 hmv4)); clear hown4 hx4 hmv4)
      go_round
      case rel =>
        refine ⟨k + 1, q4, c4, fs ++ [(k : Int)], by first | rfl | trivial, by go_num, by omega, HT.out.2.2.2.2.2.2.2.2.symm, by rw [← icells_snoc]; exact H4.out.1, ?_, ?_, H4.out.2.1⟩
        · rcases H4.out.2.2.2 with hm | hm
          · rw [hm]; exact HT.out.2.2.2.1
          · intro e
            have h1 := hm G e
            have h2 := HT.out.2.2.2.2.2.2.1.2
            simp at h1
            omega
        · exact GB.own H4.out.2.2.1 (HT.out.2.2.2.2.1.ext (Ext.alloc _ _)) (fun k' hk' e => HT.out.2.2.2.1 (by rw [e]; exact hk'.symm))
      case measure => simp [intOf]; omega
    · have hkn : k = n := by omega
      have HT := Lib.hid hx
      clear hx ho hl hkf
      subst hkn
      go_wp2
      go_ret
      exact ⟨q, c, rfl, HT.out⟩

set_option maxRecDepth 100000 in
theorem spec_IsLively_busy (v : Value) (m : List (List Int)) (n : Nat) (w : World) (h : ReadsRows w v m) (hn : m.length = n) (h9 : n ≤ 9) (hr : ∀ i, i < n → (m.getD i []).length = n) (hb : Busy m) (hm : isMat m = true) :
    Calls Tryz.prog 27 #[v] w fun e w' => e = .returned (.bool true) ∧ Ext w w' := by
  obtain ⟨pa, ca, rfl⟩ := h.slice
  rw [hn] at h ⊢
  have h1 := fun w' (hx : Ext w w') => spec_IsMatrix_any (.slice pa n ca) m w' (h.ext hx)
  rw [hm] at h1
  have h2 := fun w' (hx : Ext w w') => spec_LivelyOf_busy (.slice pa n ca) m n w' (h.ext hx) hn h9 hr hb hm
  have HM := Lib.hid (And.intro h1 h2)
  clear h1 h2 h hn hr hb hm
  go_enter Tryz.func27, Tryz.ntmps27
  go_wp2_with fail
  with_reducible refine (HM.out.1 _ (Ext.refl _)).mono ?_
  rintro e w' ⟨rfl, rfl⟩
  go_wp2_with fail
  with_reducible refine (HM.out.2 _ (Ext.refl _)).mono ?_
  rintro e w1 ⟨q, c, rfl, hx⟩
  go_wp2
  go_ret
  exact ⟨rfl, hx⟩
end Go.Proofs.YtfiembmfkokllaaGreat
