/- Contracts: a table without a row and a column, by the reference. -/
import Derived.Test.YtdngkfedkgiioaaDoorDetA
namespace Go.Proofs.YtdngkfedkgiioaaDoor
open Go.RowKit Go.Mx

set_option maxRecDepth 100000 in
set_option maxHeartbeats 4000000 in
theorem spec_l7Minor_any (v : Value) (t : List (List Int)) (N j : Nat) (w : World) (h : ReadsRows w v t) (ht : t.length = N) (hN1 : 1 ≤ N) (hN : N ≤ 1000) (hrows : ∀ i, i < N → (t.getD i []).length = N) (hj : j < N) :
    Calls Tryd.prog 85 #[v, .int .i64 0, .int .i64 j] w fun e w' => ∃ u, e = .returned u ∧ ReadsRows w' u (minor t j) ∧ Ext w w' := by
  obtain ⟨a, c, rfl⟩ := h.slice
  rw [ht] at h ⊢
  obtain ⟨-, hlc, hc⟩ := h.len
  have HM := Lib.hid (And.intro h (And.intro ht hrows))
  have hB0 : MTab (w.alloc (.cells #[] 26)) w.heap.size 26 3 w.heap.size 0 0 (fun _ => 0) (fun _ => 0) (minTab t j 0) := MTab.nil (Own.lit w 26 [] (by simp)) _ _
  clear h ht hrows
  go_enter Tryd.func85, Tryd.ntmps85
  go_wp2
  go_loopw [7, 8, 9] (fun v i _ wr => ∃ (k L g cap : Nat) (gs cs : Nat → Nat), k ≤ N ∧ i = .int .i64 k ∧ v = .slice (some ⟨g, 0, none⟩) L cap ∧ L ≤ k ∧ L = (minTab t j k).length ∧ MTab wr w.heap.size 26 3 g L cap gs cs (minTab t j k) ∧ Ext w wr) (fun _ i _ _ => N - (intOf i).toNat)
  case atStart => exact ⟨0, 0, _, _, _, _, by omega, rfl, rfl, by omega, by simp [minTab], hB0, Ext.alloc _ _⟩
  case round =>
    clear hB0
    obtain ⟨k, L, g, cap, gs, cs, hk, rfl, rfl, hLk, hLl, htab, hx⟩ := hrel
    by_cases hlt : k < N
    · have hkm : k < t.length := by rw [HM.out.2.1]; exact hlt
      obtain ⟨b, o, a', c', rfl, hcell, hrow⟩ := (HM.out.1.ext hx).at k hkm
      rw [HM.out.2.2 k hlt] at hcell hrow
      obtain ⟨r, hr⟩ : ∃ r, r = t.getD k [] := ⟨_, rfl⟩
      rw [← hr] at hrow
      have hrl : r.length = N := by rw [hr]; exact HM.out.2.2 k hlt
      obtain ⟨b', o', rfl, hcx⟩ := hrow.at 0 (by omega)
      obtain ⟨-, hlc', hc'⟩ := hrow.len
      by_cases hk0 : k = 0
      · subst hk0
        rw [Nat.add_zero] at hcell
        have e0 : minTab t j 0 = minTab t j 1 := by rw [minTab_one, minTab_zero]
        rw [e0] at hLl htab
        have HT := Lib.hid (And.intro htab hLl)
        clear e0 htab hLl hr hrow hrl hcx
        go_wp2
        go_roundw
        case rel => exact ⟨1, L, g, cap, gs, cs, by omega, by go_num, rfl, by omega, HT.out.2, HT.out.1, hx⟩
        case measure => simp [intOf]; omega
      · have hk0b : ((k : Int) == 0) = false := by simp; omega
        have hsucc := minTab_succ t j k (by omega) hkm
        rw [← hr] at hsucc
        have hfull := htab.full hLl
        have hgl := htab.lt
        have hgsl := htab.rowlt
        have hnd := fun w' (hx' : Ext wr w') => (hrow.ext hx').news_drop (j + 1)
        have hnt := fun w' (hx' : Ext wr w') => (hrow.ext hx').news_take j
        have hlt1 : (icells (r.take j)).length = j := by rw [icells_length, List.length_take]; omega
        have hv1 : (rowsV gs cs (minTab t j k)).length + 1 ≤ maxLen := by rw [rowsV_length, ← hLl]; unfold maxLen; omega
        have hv2 : ((rowsV gs cs (minTab t j k)).length + 1) * 24 ≤ 140737488355328 := by rw [rowsV_length, ← hLl]; omega
        have hrel : (r.eraseIdx j).length = N - 1 := by rw [List.length_eraseIdx, hrl, if_pos hj]
        have hz1 : ([] : List Value).length + j ≤ maxLen := by rw [List.length_nil]; unfold maxLen; omega
        have hz2 : (([] : List Value).length + j) * 8 ≤ 140737488355328 := by rw [List.length_nil]; omega
        have HS := Lib.hid (And.intro hsucc (And.intro hfull (And.intro hgl (And.intro hgsl (And.intro hLl htab)))))
        have HR := Lib.hid (And.intro hnd (And.intro hnt (And.intro hrow hrl)))
        have HL := Lib.hid (And.intro hlt1 (And.intro hv1 (And.intro hv2 (And.intro hrel (And.intro hz1 hz2)))))
        clear hsucc hfull hgl hgsl hLl hnd hnt hrow hrl hlt1 hv1 hv2 hrel hr hk0 hkm htab hz1 hz2
        obtain ⟨wq, rfl⟩ : ∃ wq : World, wq = wr := ⟨_, rfl⟩
        by_cases hck : c' = j + 1
        · have hnil : ∀ (q : Nat) (u : Value), (icells (r.drop (j + 1)))[q]? = some u → False := by
            intro q u hq
            have hl := (List.getElem?_eq_some_iff.1 hq).1
            rw [icells_length, List.length_drop, HR.out.2.2.2] at hl
            omega
          have HN := Lib.hid hnil
          subst hck
          clear hnil
          have hld1 : (icells (r.drop (j + 1))).length = 0 := by rw [icells_length, List.length_drop, HR.out.2.2.2]; first | done | omega
          have hl1 : (icells (r.take j)).length + 0 ≤ maxLen := by rw [HL.out.1]; unfold maxLen; omega
          have hl2 : ((icells (r.take j)).length + 0) * 8 ≤ 140737488355328 := by rw [HL.out.1]; omega
          have HJ := Lib.hid (And.intro hld1 (And.intro hl1 hl2))
          clear hld1 hl1 hl2
          have hcella := (Ext.alloc wq (.cells #[] 3)).cell_some hcell
          go_wp2_with (first
            | (at_builtin; refine wpList_append_many rfl (.tmp 20) (.tmp 26) 26 rfl 3 _ _ Tryd.underlying26 infoInt rfl wq.heap.size _ [] rfl (Own.lit wq 3 [] (by simp)) ⟨b', o', none⟩ _ _ (icells (r.take j)) rfl HL.out.1 (HR.out.2.1 _ (Ext.alloc _ _)) (icells_one _) HL.out.2.2.2.2.1 HL.out.2.2.2.2.2 wq (Nat.le_refl _) (by simp) (Ext.alloc _ _) ?_; intro v2 w2 hown2 hx2 hgb2 hnil2; rw [List.nil_append] at hown2; obtain ⟨g2, c2, hv2, hg2⟩ := row_shape (n := j) hown2 hnil2 (by rw [← icells_length]; exact HL.out.1); rw [hv2] at hown2 ⊢; have hcell2 := hx2.cell_some hcell; have H2 := Lib.hid (And.intro hown2 (And.intro hx2 hg2)); clear hown2 hx2 hgb2 hnil2 hv2 hg2)
            | (at_builtin; refine wpList_append_many rfl (.tmp 29) (.tmp 36) 26 rfl 3 _ _ Tryd.underlying26 infoInt rfl wq.heap.size _ (icells (r.take j)) rfl H2.out.1 ⟨b', o', none⟩ _ _ (icells (r.drop (j + 1))) rfl HJ.out.1 (fun q u hq => (HN.out q u hq).elim) (icells_one _) HJ.out.2.1 HJ.out.2.2 wq (Nat.le_refl _) (Ext.size H2.out.2.1) H2.out.2.1 ?_; intro v3 w3 hown3 hx3 hgb3 hnil3; rw [erase_split] at hown3; obtain ⟨g3, c3, hv3, hg3⟩ := row_shape hown3 hnil3 HL.out.2.2.2.1; rw [hv3] at hown3 ⊢; have H3 := Lib.hid (And.intro hown3 (And.intro trivial (And.intro hx3 hg3))); clear hown3 hgb3 hx3 hnil3 hv3 hg3)
            | (at_builtin; refine wpList_append_one rfl (.tmp 28) (.tmp 38) 24 rfl 26 _ _ Tryd.underlying24 infoRow rfl w.heap.size _ (rowsV gs cs (minTab t j k)) rfl ((HS.out.2.1.ext H3.out.2.2.1).ext (Ext.alloc _ _)) w3.heap.size _ rfl (by simp; rfl) rfl HL.out.2.1 HL.out.2.2.1 w rfl ((hx.trans H3.out.2.2.1).trans (Ext.alloc _ _)) ?_; intro v4 w4 hown4 hx4 hmv4; have H4 := Lib.hid (And.intro hown4 (And.intro hx4 hmv4)); clear hown4 hx4 hmv4))
          go_roundw
          case rel =>
            have h3 := H3.out
            have hr3 := h3.1
            have hlen3 := HL.out.2.2.2.1
            have hlt3 := hr3.lt
            have ht3 := (HS.out.2.2.2.2.2.ext h3.2.2.1).ext (Ext.alloc w3 (.cells #[.slice (some ⟨g3, 0, none⟩) (N - 1) c3] 26))
            obtain ⟨g', cap', gs', cs', hv', ht'⟩ := ht3.push (r := r.eraseIdx j) (gr := g3) (cr := c3) HS.out.2.2.2.2.1 (by rw [hlen3]; exact ((hr3.mono (Nat.le_trans hx.size (Nat.le_refl _))).ext (Ext.alloc _ _))) (by have := HS.out.2.2.1; have := h3.2.2.2; omega) (fun i hi => by have := HS.out.2.2.2.1 i hi; have := h3.2.2.2; omega) (by rw [hlen3]; exact H4.out.1) H4.out.2.2
            rw [← HS.out.1] at ht'
            exact ⟨k + 1, L + 1, g', cap', gs', cs', by omega, by go_num, hv', by omega, by rw [HS.out.1, List.length_append, ← HS.out.2.2.2.2.1, List.length_singleton], ht', H4.out.2.1⟩
          case measure => simp [intOf]; omega
        · have hck' := hck
          have hld1 : (icells (r.drop (j + 1))).length = (N - (j + 1)) := by rw [icells_length, List.length_drop, HR.out.2.2.2]; first | done | omega
          have hl1 : (icells (r.take j)).length + (N - (j + 1)) ≤ maxLen := by rw [HL.out.1]; unfold maxLen; omega
          have hl2 : ((icells (r.take j)).length + (N - (j + 1))) * 8 ≤ 140737488355328 := by rw [HL.out.1]; omega
          have HJ := Lib.hid (And.intro hld1 (And.intro hl1 hl2))
          clear hld1 hl1 hl2
          have hcella := (Ext.alloc wq (.cells #[] 3)).cell_some hcell
          go_wp2_with (first
            | (at_builtin; refine wpList_append_many rfl (.tmp 20) (.tmp 26) 26 rfl 3 _ _ Tryd.underlying26 infoInt rfl wq.heap.size _ [] rfl (Own.lit wq 3 [] (by simp)) ⟨b', o', none⟩ _ _ (icells (r.take j)) rfl HL.out.1 (HR.out.2.1 _ (Ext.alloc _ _)) (icells_one _) HL.out.2.2.2.2.1 HL.out.2.2.2.2.2 wq (Nat.le_refl _) (by simp) (Ext.alloc _ _) ?_; intro v2 w2 hown2 hx2 hgb2 hnil2; rw [List.nil_append] at hown2; obtain ⟨g2, c2, hv2, hg2⟩ := row_shape (n := j) hown2 hnil2 (by rw [← icells_length]; exact HL.out.1); rw [hv2] at hown2 ⊢; have hcell2 := hx2.cell_some hcell; have H2 := Lib.hid (And.intro hown2 (And.intro hx2 hg2)); clear hown2 hx2 hgb2 hnil2 hv2 hg2)
            | (at_builtin; refine wpList_append_many rfl (.tmp 29) (.tmp 36) 26 rfl 3 _ _ Tryd.underlying26 infoInt rfl wq.heap.size _ (icells (r.take j)) rfl H2.out.1 ⟨b', o' + (j + 1), none⟩ _ _ (icells (r.drop (j + 1))) rfl HJ.out.1 (HR.out.1 _ H2.out.2.1) (icells_one _) HJ.out.2.1 HJ.out.2.2 wq (Nat.le_refl _) (Ext.size H2.out.2.1) H2.out.2.1 ?_; intro v3 w3 hown3 hx3 hgb3 hnil3; rw [erase_split] at hown3; obtain ⟨g3, c3, hv3, hg3⟩ := row_shape hown3 hnil3 HL.out.2.2.2.1; rw [hv3] at hown3 ⊢; have H3 := Lib.hid (And.intro hown3 (And.intro trivial (And.intro hx3 hg3))); clear hown3 hgb3 hx3 hnil3 hv3 hg3)
            | (at_builtin; refine wpList_append_one rfl (.tmp 28) (.tmp 38) 24 rfl 26 _ _ Tryd.underlying24 infoRow rfl w.heap.size _ (rowsV gs cs (minTab t j k)) rfl ((HS.out.2.1.ext H3.out.2.2.1).ext (Ext.alloc _ _)) w3.heap.size _ rfl (by simp; rfl) rfl HL.out.2.1 HL.out.2.2.1 w rfl ((hx.trans H3.out.2.2.1).trans (Ext.alloc _ _)) ?_; intro v4 w4 hown4 hx4 hmv4; have H4 := Lib.hid (And.intro hown4 (And.intro hx4 hmv4)); clear hown4 hx4 hmv4))
          go_roundw
          case rel =>
            have h3 := H3.out
            have hr3 := h3.1
            have hlen3 := HL.out.2.2.2.1
            have hlt3 := hr3.lt
            have ht3 := (HS.out.2.2.2.2.2.ext h3.2.2.1).ext (Ext.alloc w3 (.cells #[.slice (some ⟨g3, 0, none⟩) (N - 1) c3] 26))
            obtain ⟨g', cap', gs', cs', hv', ht'⟩ := ht3.push (r := r.eraseIdx j) (gr := g3) (cr := c3) HS.out.2.2.2.2.1 (by rw [hlen3]; exact ((hr3.mono (Nat.le_trans hx.size (Nat.le_refl _))).ext (Ext.alloc _ _))) (by have := HS.out.2.2.1; have := h3.2.2.2; omega) (fun i hi => by have := HS.out.2.2.2.1 i hi; have := h3.2.2.2; omega) (by rw [hlen3]; exact H4.out.1) H4.out.2.2
            rw [← HS.out.1] at ht'
            exact ⟨k + 1, L + 1, g', cap', gs', cs', by omega, by go_num, hv', by omega, by rw [HS.out.1, List.length_append, ← HS.out.2.2.2.2.1, List.length_singleton], ht', H4.out.2.1⟩
          case measure => simp [intOf]; omega
    · have hkN : k = N := by omega
      have e : minTab t j k = minor t j := by rw [hkN, ← HM.out.2.1]; exact minTab_all t j
      rw [e] at htab hLl
      have HT := Lib.hid (htab.reads hLl)
      clear htab hLl e
      go_wp2
      go_ret
      exact ⟨_, rfl, HT.out, hx⟩
end Go.Proofs.YtdngkfedkgiioaaDoor
