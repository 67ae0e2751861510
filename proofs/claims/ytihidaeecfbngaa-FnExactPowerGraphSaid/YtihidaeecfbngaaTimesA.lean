/- Contracts: products of tables, by the program and by the reference. -/
import Derived.Test.YtihidaeecfbngaaJoinB
import Derived.Test.YtihidaeecfbngaaPowMath
namespace Go.Proofs.Ytihidaeecfbngaa
open Go.RowKit Go.Mx

set_option maxRecDepth 100000 in
set_option maxHeartbeats 4000000 in
theorem impl_times_any (v v' : Value) (a b : List (List Int)) (n : Nat) (w : World) (h : ReadsRows w v a) (h' : ReadsRows w v' b) (ha : IsM n a) (hb : IsM n b) :
    Calls Try.prog 115 #[v, v'] w fun e w' => ∃ u, e = .returned u ∧ ResM w' w.heap.size u (mulM n a b) ∧ Ext w w' := by
  obtain ⟨pa, ca, rfl⟩ := h.slice
  obtain ⟨pb, cb, rfl⟩ := h'.slice
  obtain ⟨-, hla1, hla2⟩ := h.len
  obtain ⟨-, hlb1, hlb2⟩ := h'.len
  have hpn := ha.pos
  have hn9 := ha.le
  have hdb := fun i j k => dotTo_bd (F := at2 a) (G := at2 b) (fun i j => ha.at2_bd i j) (fun i j => hb.at2_bd i j) i j k
  have hA : ∀ i j, at2 a i j = (a.getD i []).getD j 0 := fun i j => rfl
  have hB : ∀ i j, at2 b i j = (b.getD i []).getD j 0 := fun i j => rfl
  have hml := mulM_length n a b
  have hmM : mulM n a b = tabF n n (dotTo (at2 a) (at2 b) n) := rfl
  have hAb := fun i j => ha.at2_bd i j
  have hBb := fun i j => hb.at2_bd i j
  rw [ha.len] at h hla1 ⊢
  rw [hb.len] at h' hlb1 ⊢
  obtain ⟨F, hF⟩ : ∃ F, F = at2 a := ⟨_, rfl⟩
  obtain ⟨G, hG⟩ : ∃ F, F = at2 b := ⟨_, rfl⟩
  rw [← hF, ← hG] at hdb hmM
  rw [← hF] at hA hAb
  rw [← hG] at hB hBb
  obtain ⟨pk0, o0, a0, c0, hpb, hcell0, hrow0⟩ := h'.at 0 (by rw [hb.len]; omega)
  rw [hb.row 0 (by omega)] at hcell0 hrow0
  rw [Nat.add_zero] at hcell0
  have hmk := run_make_row' (P := Try.prog) 22 3 (.int .i64 0) 8 Try.underlying22 infoInt rfl .i64 .i64 n (by omega) (by omega)
  have HM := Lib.hid (And.intro h (And.intro h' (And.intro ha (And.intro hb (And.intro hcell0 hpb)))))
  have HF := Lib.hid (And.intro hdb (And.intro hA (And.intro hB (And.intro hml (And.intro hmM (And.intro hAb hBb))))))
  subst hpb
  have hB0 : MTab (w.alloc (.cells #[] 22)) w.heap.size 22 3 w.heap.size 0 0 (fun _ => 0) (fun _ => 0) (tabF 0 n (dotTo F G n)) := MTab.nil (Own.lit w 22 [] (by simp)) _ _
  clear h h' ha hb hcell0 hrow0 hdb hA hB hml hmM hF hG hAb hBb
  go_enter Try.func115, Try.ntmps115
  go_wp2
  go_loopw [5, 16] (fun v i wr => ∃ (k g cap : Nat) (gs cs : Nat → Nat), k ≤ n ∧ i = .int .i64 k ∧ v = .slice (some ⟨g, 0, none⟩) k cap ∧ MTab wr w.heap.size 22 3 g k cap gs cs (tabF k n (dotTo F G n)) ∧ Ext w wr) (fun _ i _ => n - (intOf i).toNat)
  case atStart => exact ⟨0, _, _, _, _, by omega, rfl, rfl, hB0, Ext.alloc _ _⟩
  case round =>
    clear hB0
    obtain ⟨i, g, cap, gs, cs, hi, rfl, rfl, ht, hx⟩ := hrel
    by_cases hlti : i < n
    · obtain ⟨wm, rfl⟩ : ∃ wm : World, wm = wr := ⟨_, rfl⟩
      have hcell0 := hx.cell_some HM.out.2.2.2.2.1
      obtain ⟨bk, o, a', c', hpa, hcell, hrow⟩ := HM.out.1.at i (by rw [HM.out.2.2.1.len]; exact hlti)
      subst hpa
      obtain ⟨b', o', rfl, -⟩ := hrow.at 0 (by rw [HM.out.2.2.1.row i hlti]; omega)
      rw [HM.out.2.2.1.row i hlti] at hcell hrow
      have hlc := hrow.len.2.1
      have hcell := hx.cell_some hcell
      have HR := Lib.hid hrow
      have hz : Own (wm.alloc (.cells (madeCells #[.int .i64 0] n) 3)) wm.heap.size 3 (.slice (some ⟨wm.heap.size, 0, none⟩) n n) (icells (lineTo F G n i 0 0)) := by
        have := Own.made wm 3 (.int .i64 0) n (by unfold maxLen; omega)
        rw [lineTo_zero, icells_replicate]; exact this
      have hfull := ht.full (tabF_length _ _ _).symm
      have hgl := ht.lt
      have hgsl := ht.rowlt
      have hv1 : (rowsV gs cs (tabF i n (dotTo F G n))).length + 1 ≤ maxLen := by rw [rowsV_length, tabF_length]; unfold maxLen; omega
      have hv2 : ((rowsV gs cs (tabF i n (dotTo F G n))).length + 1) * 24 ≤ 140737488355328 := by rw [rowsV_length, tabF_length]; omega
      have HT := Lib.hid (And.intro hfull (And.intro hgl (And.intro hgsl (And.intro ht (And.intro hv1 hv2)))))
      clear hrow ht hfull hgl hgsl hv1 hv2
      go_wp2
      clear hcell hcell0
      go_loopw [27] (fun q wq => ∃ k : Nat, k ≤ n ∧ q = .int .i64 k ∧ Own wq wm.heap.size 3 (.slice (some ⟨wm.heap.size, 0, none⟩) n n) (icells (lineTo F G n i k 0)) ∧ Ext wm wq) (fun q _ => n - (intOf q).toNat)
      case atStart => exact ⟨0, by omega, rfl, hz, Ext.alloc _ _⟩
      case round =>
        clear hz
        obtain ⟨k, hk, rfl, hown, hy⟩ := hrel
        by_cases hltk : k < n
        · obtain ⟨_, _, e, hcell⟩ := ((HR.out.ext hx).ext hy).at k (by rw [HM.out.2.2.1.row i hlti]; exact hltk)
          cases e
          rw [← HF.out.2.1] at hcell
          obtain ⟨bk2, o2, a2, c2, hpb, hcB, hrow2⟩ := HM.out.2.1.at k (by rw [HM.out.2.2.2.1.len]; exact hltk)
          cases hpb
          obtain ⟨b2, o2', rfl, -⟩ := hrow2.at 0 (by rw [HM.out.2.2.2.1.row k hltk]; omega)
          rw [HM.out.2.2.2.1.row k hltk] at hcB hrow2
          have hlc2 := hrow2.len.2.1
          have hcB := Ext.cell_some hy (Ext.cell_some hx hcB)
          have hxb := HF.out.2.2.2.2.2.1 i k
          obtain ⟨x, hxx⟩ : ∃ x, x = F i k := ⟨_, rfl⟩
          rw [← hxx] at hcell hxb
          obtain ⟨hx1, hx2⟩ := hxb
          have HS := Lib.hid (And.intro hrow2 hxx)
          clear hxx hrow2
          go_wp2
          clear hcell hcB
          go_loopw [37] (fun q wp => ∃ j : Nat, j ≤ n ∧ q = .int .i64 j ∧ Own wp wm.heap.size 3 (.slice (some ⟨wm.heap.size, 0, none⟩) n n) (icells (lineTo F G n i k j)) ∧ Ext wm wp) (fun q _ => n - (intOf q).toNat)
          case atStart => exact ⟨0, by omega, rfl, hown, hy⟩
          case round =>
            clear hown hy
            obtain ⟨j, hj, rfl, hown, hy⟩ := hrel
            by_cases hltj : j < n
            · obtain ⟨_, _, e, hcell⟩ := ((HS.out.1.ext hx).ext hy).at j (by rw [HM.out.2.2.2.1.row k hltk]; exact hltj)
              cases e
              rw [← HF.out.2.2.1] at hcell
              obtain ⟨hy1, hy2⟩ := HF.out.2.2.2.2.2.2 k j
              obtain ⟨hs1, hs2⟩ := HF.out.1 i j k
              have hxy := mul_bd (x := x) (y := G k j) (a := 1000000) (b := 1000000) (by omega) hx2 (by omega) hy2
              obtain ⟨hxy1, hxy2⟩ := hxy
              have hlat := lineTo_at F G n i k j hltj
              have hset := lineTo_set F G n i k j
              have hl := lineTo_length F G n i k j
              have hc := hown.int_at j (by rw [hl]; exact hltj)
              rw [hlat] at hc
              have hf := hown.frozen j
              rw [← HS.out.2] at hset
              obtain ⟨s, hss⟩ : ∃ s, s = dotTo F G k i j := ⟨_, rfl⟩
              obtain ⟨y, hyy⟩ : ∃ y, y = G k j := ⟨_, rfl⟩
              rw [← hss] at hs1 hs2 hc hset
              rw [← hyy] at hcell hy1 hy2 hxy1 hxy2 hset
              have hst := hown.store j (.int .i64 (s + x * y))
              rw [icells_set, hset] at hst
              have hy' := hy.setCell (p := ⟨wm.heap.size, j, none⟩) (Nat.le_refl _) (.int .i64 (s + x * y))
              have H8 := Lib.hid (And.intro hst hy')
              have hk9 : k ≤ 9 := by omega
              have hs3 : s ≤ 9000000000000 := by omega
              clear hst hy' hown hy hset hlat hl hss hyy hs2
              go_wp2
              go_roundw
              case rel => exact ⟨j + 1, by omega, by go_num, H8.out.1, H8.out.2⟩
              case measure => simp [intOf]; omega
            · have hjn : j = n := by omega
              subst hjn
              rw [lineTo_next] at hown
              go_wp2
              go_roundw
              case rel => exact ⟨k + 1, by omega, by go_num, hown, hy⟩
              case measure => simp [intOf]; omega
        · have hkn : k = n := by omega
          rw [hkn, lineTo_done] at hown
          have hH := Lib.hid (And.intro hown hy)
          subst hkn
          clear hown
          go_wp2_with (at_builtin; refine wpList_append_one rfl (.tmp 53) (.tmp 55) 30 rfl 22 _ _ Try.underlying30 infoRow rfl w.heap.size _ (rowsV gs cs (tabF i k (dotTo F G k))) rfl ((HT.out.1.ext hy).ext (Ext.alloc _ _)) _ _ rfl (by simp; rfl) rfl HT.out.2.2.2.2.1 HT.out.2.2.2.2.2 w rfl ((hx.trans hy).trans (Ext.alloc _ _)) ?_; intro v4 w4 hown4 hx4 hmv4; have H4 := Lib.hid (And.intro hown4 (And.intro hx4 hmv4)); clear hown4 hx4 hmv4)
          go_roundw
          case rel =>
            have ht3 := (HT.out.2.2.2.1.ext hy).ext (Ext.alloc _ (.cells #[.slice (some ⟨wm.heap.size, 0, none⟩) k k] 22))
            have hlen3 : (rowF k (dotTo F G k i)).length = k := rowF_length _ _
            obtain ⟨g', cap', gs', cs', hv', ht'⟩ := ht3.push (r := rowF k (dotTo F G k i)) (gr := wm.heap.size) (cr := k) (tabF_length _ _ _).symm (by rw [hlen3]; exact ((hH.out.1.mono hx.size).ext (Ext.alloc _ _))) (by have := HT.out.2.1; omega) (fun q hq => by have := HT.out.2.2.1 q hq; omega) (by rw [hlen3]; exact H4.out.1) H4.out.2.2
            rw [← tabF_succ i k] at ht'
            exact ⟨i + 1, g', cap', gs', cs', by omega, by go_num, hv', ht', H4.out.2.1⟩
          case measure => simp [intOf]; omega
    · have hin : i = n := by omega
      subst hin
      rw [← HF.out.2.2.2.2.1] at ht
      have HT := Lib.hid ht
      clear ht
      go_wp2
      go_ret
      exact ⟨_, rfl, .inr ⟨g, cap, gs, cs, by rw [HF.out.2.2.2.1]; rfl, by rw [HF.out.2.2.2.1]; exact HT.out⟩, hx⟩
end Go.Proofs.Ytihidaeecfbngaa
