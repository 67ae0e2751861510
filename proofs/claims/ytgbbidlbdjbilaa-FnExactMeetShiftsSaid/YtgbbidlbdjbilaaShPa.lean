/- Contract: a word put in its place, by the reference. -/
import Derived.Test.YtgbbidlbdjbilaaShI
import Derived.Test.YtgbbidlbdjbilaaShPut
import Derived.Test.YtgbbidlbdjbilaaOwn5
namespace Go.Proofs.Ytgbbidlbdjbilaa
open Go.RowKit Go.Cm

theorem scells_one (l : List (List UInt8)) : ∀ u ∈ scells l, u.oneCell' = true := by
  intro u hu
  simp only [scells, List.mem_map] at hu
  obtain ⟨x, _, rfl⟩ := hu
  rfl
theorem scells_take (l : List (List UInt8)) (k : Nat) : (scells l).take k = scells (l.take k) := by simp [scells, List.map_take]
theorem own_news {w : World} {B g n cap : Nat} {E : TypeId} {l : List (List UInt8)} (h : Own w B E (.slice (some ⟨g, 0, none⟩) n cap) (scells l)) (k : Nat) : ∀ (q : Nat) (u : Value), (scells (l.drop k))[q]? = some u → w.cell? ((⟨g, k, none⟩ : Addr).add q) = some u := by
  intro q u hq
  have hl := (List.getElem?_eq_some_iff.1 hq).1
  rw [scells_length, List.length_drop] at hl
  have hc := h.cell (k + q) (by rw [scells_length]; omega)
  have e : u = (scells l)[k + q]'(by rw [scells_length]; omega) := by
    simp only [scells, List.getElem?_map, List.getElem?_drop] at hq
    rw [List.getElem?_eq_getElem (by omega)] at hq
    simp at hq
    rw [← hq]
    simp [scells]
  rw [e, ← hc]
  congr 1
  unfold Addr.add
  split
  · next h => rw [h]; rfl
  · rfl
theorem own_news0 {w : World} {B g n cap : Nat} {E : TypeId} {fs : List Value} (h : Own w B E (.slice (some ⟨g, 0, none⟩) n cap) fs) : ∀ (q : Nat) (u : Value), fs[q]? = some u → w.cell? ((⟨g, 0, none⟩ : Addr).add q) = some u := by
  intro q u hq
  have hl := (List.getElem?_eq_some_iff.1 hq).1
  have hc := h.cell q hl
  rw [List.getElem?_eq_getElem hl] at hq
  rw [← hq, ← hc]
  congr 1
  unfold Addr.add
  split
  · next h => rw [h]
  · simp
theorem one_news (w : World) (E : TypeId) (v : Value) : ∀ (q : Nat) (u : Value), [v][q]? = some u → (w.alloc (.cells #[v] E)).cell? ((⟨w.heap.size, 0, none⟩ : Addr).add q) = some u := by
  intro q u hq
  have hl := (List.getElem?_eq_some_iff.1 hq).1
  have h0 : q = 0 := by rw [List.length_singleton] at hl; omega
  subst h0
  have hu : v = u := by rw [List.getElem?_cons_zero] at hq; exact Option.some.inj hq
  subst hu
  have := (Own.lit w E [v] (by simp [maxLen])).cell 0 (by simp)
  exact this
theorem news_kept {w3 w4 : World} {B g g3 m c3 : Nat} {E E' : TypeId} {v : Value} {fs : List Value} (h3 : Own w3 B E (.slice (some ⟨g3, 0, none⟩) m c3) fs) (hgb : (w3.alloc (.cells #[v] E')).grownBy w4 (some g)) (hne : ¬ g3 = g) : ∀ (q : Nat) (u : Value), fs[q]? = some u → w4.cell? ((⟨g3, 0, none⟩ : Addr).add q) = some u :=
  own_news0 (GB.own hgb (h3.ext (Ext.alloc _ _)) (fun k hk e => hne (by simp [Value.ownBlock] at hk; injection e with e; omega)))
theorem moved_of {w : World} {g n c g' n' c' : Nat} (h : g' = g ∨ w.heap.size ≤ g') : Moved w (.slice (some ⟨g, 0, none⟩) n c) (.slice (some ⟨g', 0, none⟩) n' c') := by
  rcases h with h | h
  · left; rw [h]; rfl
  · right
    intro k hk
    simp [Value.ownBlock] at hk
    omega

set_option maxRecDepth 100000 in
set_option maxHeartbeats 1000000 in
theorem spec_l2Put_any (B g cap : Nat) (x : List UInt8) (l : List (List UInt8)) (w : World) (hown : Own w B 9 (.slice (some ⟨g, 0, none⟩) l.length cap) (scells l)) (hB : B ≤ w.heap.size) (hl : l.length ≤ 1000) :
    Calls Try.prog 58 #[.slice (some ⟨g, 0, none⟩) l.length cap, .string (mkS x)] w fun e w' => ∃ g' c', e = .returned (.slice (some ⟨g', 0, none⟩) (putR x l).length c') ∧ Own w' B 9 (.slice (some ⟨g', 0, none⟩) (putR x l).length c') (scells (putR x l)) ∧ w.grownBy w' (some g) ∧ (g' = g ∨ w.heap.size ≤ g') := by
  obtain ⟨n, hn⟩ : ∃ n, n = l.length := ⟨_, rfl⟩
  rw [← hn] at hown hl ⊢
  obtain ⟨hgB, hgw⟩ := World.ownsRow.lt hown g rfl
  have hcap : n ≤ cap ∧ cap ≤ 9223372036854775807 := by
    have := Own.reads hown
    obtain ⟨_, c, e, h1, h2, _⟩ := this
    injection e with e1 e2 e3
    rw [scells_length, ← hn] at h1
    unfold maxLen at h2
    omega
  obtain ⟨hcap1, hcap2⟩ := hcap
  have hcell : ∀ k, k < n → w.cell? ⟨g, k, none⟩ = some (.string (mkS (l.getD k []))) := fun k hk => by
    have := hown.cell k (by rw [scells_length, ← hn]; exact hk)
    rw [scells_at _ _ (by rw [← hn]; exact hk)] at this
    exact this
  have hat := fun i h1 h2 h3 => putR_at (x := x) (l := l) (i := i) h1 h2 h3
  rw [← hn] at hat
  have HM := Lib.hid (And.intro hown (And.intro hcell (And.intro hat hn)))
  clear hown hcell hat hn
  go_enter Try.func58, Try.ntmps58
  go_wp2
  go_loop [5] (fun i => ∃ k : Nat, k ≤ n ∧ i = .int .i64 k ∧ ∀ j, j < k → lessW (l.getD j []) x = true) (fun i => n - (intOf i).toNat)
  case atStart => exact ⟨0, by omega, rfl, fun j hj => by omega⟩
  case round =>
    obtain ⟨i, hi, rfl, hp⟩ := hrel
    have HP := Lib.hid hp
    clear hp
    by_cases hlt : i < n
    · have hc := HM.out.2.1 i hlt
      have hls := mkS_less (l.getD i []) x
      have hbq := mkS_beq (l.getD i []) x
      obtain ⟨y, hy⟩ : ∃ y, y = l.getD i [] := ⟨_, rfl⟩
      rw [← hy] at hc hls hbq
      obtain ⟨b, hb⟩ : ∃ b, b = lessW y x := ⟨_, rfl⟩
      rw [← hb] at hls
      have HY := Lib.hid (And.intro hy hb)
      clear hy hb
      cases b
      · by_cases he : y = x
        · have hbt : ((mkS y).toList == (mkS x).toList) = true := by rw [hbq]; simpa using he
          have HE := Lib.hid (show putR x l = l by rw [HM.out.2.2.1 i (by omega) HP.out (.inr (by rw [← HY.out.1, ← HY.out.2])), if_pos ⟨hlt, by rw [← HY.out.1]; exact he⟩])
          clear hbq he
          go_wp2
          go_ret
          rw [HE.out, ← HM.out.2.2.2]
          exact ⟨g, cap, rfl, HM.out.1, GB.refl _ _, .inl rfl⟩
        · have hbt : ((mkS y).toList == (mkS x).toList) = false := by rw [hbq]; simpa using he
          have HE := Lib.hid (show putR x l = l.take i ++ x :: l.drop i by rw [HM.out.2.2.1 i (by omega) HP.out (.inr (by rw [← HY.out.1, ← HY.out.2])), if_neg (fun h => he (by rw [HY.out.1]; exact h.2))])
          have hic : ¬ i = cap := by omega
          clear hbq he
          have hl1 : (scells (l.take i)).length + 1 ≤ maxLen := by rw [scells_length, List.length_take]; unfold maxLen; omega
          have hl2 : ((scells (l.take i)).length + 1) * 16 ≤ 140737488355328 := by rw [scells_length, List.length_take]; omega
          have hd1 : (scells (l.drop i)).length = (n - i) := by rw [scells_length, List.length_drop, ← HM.out.2.2.2]; first | done | omega
          have htk : (scells l).take i = scells (l.take i) := scells_take l i
          have hsn : scells (l.take i ++ x :: l.drop i) = scells (l.take i) ++ [.string (mkS x)] ++ scells (l.drop i) := by simp [scells]
          have hln : (putR x l).length = i + 1 + (n - i) := by rw [HE.out, List.length_append, List.length_cons, List.length_take, List.length_drop, ← HM.out.2.2.2]; omega
          have HL := Lib.hid (And.intro hl1 (And.intro hl2 (And.intro hd1 (And.intro htk (And.intro hsn hln)))))
          have hl3 : ([] : List Value).length + (n - i) ≤ maxLen := by unfold maxLen; simp <;> omega
          have hl4 : (([] : List Value).length + (n - i)) * 16 ≤ 140737488355328 := by simp <;> omega
          have hl5 : (scells (l.take i) ++ [Value.string (mkS x)]).length + (n - i) ≤ maxLen := by rw [List.length_append, scells_length, List.length_take]; unfold maxLen; simp <;> omega
          have hl6 : ((scells (l.take i) ++ [Value.string (mkS x)]).length + (n - i)) * 16 ≤ 140737488355328 := by rw [List.length_append, scells_length, List.length_take]; simp <;> omega
          have HL2 := Lib.hid (And.intro hl3 (And.intro hl4 (And.intro hl5 hl6)))
          clear hl1 hl2 hd1 htk hsn hln hl3 hl4 hl5 hl6
          go_wp2_with (first
            | (at_builtin; refine wpList_append_news rfl (.tmp 34) (.tmp 37) 22 rfl 9 _ _ Try.underlying22 infoStr rfl w.heap.size w.heap.size 0 0 [] rfl (Own.lit w 9 [] (by simp)) ⟨g, i, none⟩ _ _ (scells (l.drop i)) rfl HL.out.2.2.1 (own_news (HM.out.1.ext (Ext.alloc _ _)) i) (scells_one _) HL2.out.1 HL2.out.2.1 (by simp) ?_; intro g3 c3 w3 hown3 hgb3 hmv3; have H3 := Lib.hid (And.intro (show Own w3 w.heap.size 9 (.slice (some ⟨g3, 0, none⟩) (n - i) c3) (scells (l.drop i)) by simpa using hown3) (And.intro trivial (And.intro (show ¬ g3 = g by simp at hmv3; omega) (show Ext w w3 from (Ext.alloc w (.cells #[] 9)).grown hgb3 (fun k hk => by cases hk; exact Nat.le_refl _))))); clear hown3 hgb3 hmv3)
            | (at_builtin; refine wpList_append_news rfl (.tmp 41) (.tmp 43) 22 rfl 9 _ _ Try.underlying22 infoStr rfl B g i cap (scells (l.take i)) rfl (by rw [← HL.out.2.2.2.1]; exact ((HM.out.1.ext H3.out.2.2.2).ext (Ext.alloc _ _)).take i hi) ⟨w3.heap.size, 0, none⟩ 1 1 [.string (mkS x)] rfl rfl (one_news _ _ _) (by intro u hu; rw [List.mem_singleton.1 hu]; rfl) HL.out.1 HL.out.2.1 (Nat.le_trans hB (Nat.le_trans H3.out.2.2.2.size (Ext.alloc w3 _).size)) ?_; intro g4 c4 w4 hown4 hgb4 hmv4; have H4 := Lib.hid (And.intro hown4 (And.intro hgb4 (And.intro hmv4 (And.intro (show w.heap.size ≤ w4.heap.size from Nat.le_trans (Nat.le_trans H3.out.2.2.2.size (Ext.alloc w3 _).size) hgb4.size) (news_kept H3.out.1 hgb4 H3.out.2.2.1))))); clear hown4 hgb4 hmv4)
            | (at_builtin; refine wpList_append_news rfl (.tmp 44) (.tmp 45) 22 rfl 9 _ _ Try.underlying22 infoStr rfl B g4 (i + 1) c4 (scells (l.take i) ++ [.string (mkS x)]) ?hsq1 H4.out.1 ⟨g3, 0, none⟩ (n - i) c3 (scells (l.drop i)) ?hxq1 ?hlq1 ?hnq1 (scells_one _) ?h5q1 ?h6q1 ?h7q1 ?h8q1; (case hsq1 => rfl); (case hxq1 => rfl); (case hlq1 => with_reducible exact HL.out.2.2.1);  (case hnq1 => with_reducible exact H4.out.2.2.2.2); (case h5q1 => with_reducible exact HL2.out.2.2.1); (case h6q1 => with_reducible exact HL2.out.2.2.2); (case h7q1 => with_reducible exact Nat.le_trans hB H4.out.2.2.2.1); intro g5 c5 w5 hown5 hgb5 hmv5))
          have G3 := (Grew.refl w (.slice (some ⟨g, 0, none⟩) 0 0)).ext (H3.out.2.2.2.trans (Ext.alloc w3 (.cells #[.string (mkS x)] 9)))
          have G4 := G3.step (v' := .slice (some ⟨g4, 0, none⟩) 0 0) ⟨H4.out.2.1, moved_of H4.out.2.2.1⟩
          have G5 := G4.step (v' := .slice (some ⟨g5, 0, none⟩) 0 0) ⟨hgb5, moved_of hmv5⟩
          have hend : g5 = g ∨ w.heap.size ≤ g5 := by
            rcases G5.blk with h | h
            · left; simpa [Value.ownBlock] using h
            · exact .inr (h g5 rfl)
          have HX := Lib.hid (And.intro hown5 (And.intro G5.grown hend))
          clear hown5 hgb5 hmv5 G3 G4 G5 hend
          go_wp2
          go_ret
          refine ⟨g5, c5, by rw [HL.out.2.2.2.2.2]; rfl, ?_, HX.out.2.1, HX.out.2.2⟩
          rw [HL.out.2.2.2.2.2, HE.out, HL.out.2.2.2.2.1]
          exact HX.out.1
      · go_wp2
        go_round
        case rel => exact ⟨i + 1, by omega, by go_num, fun j hj => by
          by_cases e : j = i
          · subst e; rw [← HY.out.1, ← HY.out.2]
          · exact HP.out j (by omega)⟩
        case measure => simp [intOf]; omega
    · have hin : i = n := by omega
      have HE := Lib.hid (show putR x l = l.take i ++ x :: l.drop i by rw [HM.out.2.2.1 i (by omega) HP.out (.inl hin), if_neg (fun h => hlt h.1)])
      have hnil : ∀ (w' : World) (a : Addr) (q : Nat) (u : Value), (scells (l.drop i))[q]? = some u → w'.cell? (a.add q) = some u := by
        intro w' a q u hq
        have hl := (List.getElem?_eq_some_iff.1 hq).1
        rw [scells_length, List.length_drop, ← HM.out.2.2.2] at hl
        omega
      have HN := Lib.hid hnil
      clear hnil
      subst hin
      by_cases hck : i = cap
      · subst hck
        have hl1 : (scells (l.take i)).length + 1 ≤ maxLen := by rw [scells_length, List.length_take]; unfold maxLen; omega
        have hl2 : ((scells (l.take i)).length + 1) * 16 ≤ 140737488355328 := by rw [scells_length, List.length_take]; omega
        have hd1 : (scells (l.drop i)).length = 0 := by rw [scells_length, List.length_drop, ← HM.out.2.2.2]; first | done | omega
        have htk : (scells l).take i = scells (l.take i) := scells_take l i
        have hsn : scells (l.take i ++ x :: l.drop i) = scells (l.take i) ++ [.string (mkS x)] ++ scells (l.drop i) := by simp [scells]
        have hln : (putR x l).length = i + 1 + 0 := by rw [HE.out, List.length_append, List.length_cons, List.length_take, List.length_drop, ← HM.out.2.2.2]; omega
        have HL := Lib.hid (And.intro hl1 (And.intro hl2 (And.intro hd1 (And.intro htk (And.intro hsn hln)))))
        have hl3 : ([] : List Value).length + 0 ≤ maxLen := by unfold maxLen; simp <;> omega
        have hl4 : (([] : List Value).length + 0) * 16 ≤ 140737488355328 := by simp <;> omega
        have hl5 : (scells (l.take i) ++ [Value.string (mkS x)]).length + 0 ≤ maxLen := by rw [List.length_append, scells_length, List.length_take]; unfold maxLen; simp <;> omega
        have hl6 : ((scells (l.take i) ++ [Value.string (mkS x)]).length + 0) * 16 ≤ 140737488355328 := by rw [List.length_append, scells_length, List.length_take]; simp <;> omega
        have HL2 := Lib.hid (And.intro hl3 (And.intro hl4 (And.intro hl5 hl6)))
        clear hl1 hl2 hd1 htk hsn hln hl3 hl4 hl5 hl6
        go_wp2_with (first
          | (at_builtin; refine wpList_append_news rfl (.tmp 34) (.tmp 37) 22 rfl 9 _ _ Try.underlying22 infoStr rfl w.heap.size w.heap.size 0 0 [] rfl (Own.lit w 9 [] (by simp)) ⟨g, 0, none⟩ _ _ (scells (l.drop i)) rfl HL.out.2.2.1 (HN.out _ _) (scells_one _) HL2.out.1 HL2.out.2.1 (by simp) ?_; intro g3 c3 w3 hown3 hgb3 hmv3; have H3 := Lib.hid (And.intro (show Own w3 w.heap.size 9 (.slice (some ⟨g3, 0, none⟩) 0 c3) (scells (l.drop i)) by simpa using hown3) (And.intro trivial (And.intro (show ¬ g3 = g by simp at hmv3; omega) (show Ext w w3 from (Ext.alloc w (.cells #[] 9)).grown hgb3 (fun k hk => by cases hk; exact Nat.le_refl _))))); clear hown3 hgb3 hmv3)
          | (at_builtin; refine wpList_append_news rfl (.tmp 41) (.tmp 43) 22 rfl 9 _ _ Try.underlying22 infoStr rfl B g i i (scells (l.take i)) rfl (by rw [← HL.out.2.2.2.1]; exact ((HM.out.1.ext H3.out.2.2.2).ext (Ext.alloc _ _)).take i hi) ⟨w3.heap.size, 0, none⟩ 1 1 [.string (mkS x)] rfl rfl (one_news _ _ _) (by intro u hu; rw [List.mem_singleton.1 hu]; rfl) HL.out.1 HL.out.2.1 (Nat.le_trans hB (Nat.le_trans H3.out.2.2.2.size (Ext.alloc w3 _).size)) ?_; intro g4 c4 w4 hown4 hgb4 hmv4; have H4 := Lib.hid (And.intro hown4 (And.intro hgb4 (And.intro hmv4 (And.intro (show w.heap.size ≤ w4.heap.size from Nat.le_trans (Nat.le_trans H3.out.2.2.2.size (Ext.alloc w3 _).size) hgb4.size) (news_kept H3.out.1 hgb4 H3.out.2.2.1))))); clear hown4 hgb4 hmv4)
          | (at_builtin; refine wpList_append_news rfl (.tmp 44) (.tmp 45) 22 rfl 9 _ _ Try.underlying22 infoStr rfl B g4 (i + 1) c4 (scells (l.take i) ++ [.string (mkS x)]) ?hsq2 H4.out.1 ⟨g3, 0, none⟩ 0 c3 (scells (l.drop i)) ?hxq2 ?hlq2 ?hnq2 (scells_one _) ?h5q2 ?h6q2 ?h7q2 ?h8q2; (case hsq2 => rfl); (case hxq2 => rfl); (case hlq2 => with_reducible exact HL.out.2.2.1);  (case hnq2 => with_reducible exact H4.out.2.2.2.2); (case h5q2 => with_reducible exact HL2.out.2.2.1); (case h6q2 => with_reducible exact HL2.out.2.2.2); (case h7q2 => with_reducible exact Nat.le_trans hB H4.out.2.2.2.1); intro g5 c5 w5 hown5 hgb5 hmv5))
        have G3 := (Grew.refl w (.slice (some ⟨g, 0, none⟩) 0 0)).ext (H3.out.2.2.2.trans (Ext.alloc w3 (.cells #[.string (mkS x)] 9)))
        have G4 := G3.step (v' := .slice (some ⟨g4, 0, none⟩) 0 0) ⟨H4.out.2.1, moved_of H4.out.2.2.1⟩
        have G5 := G4.step (v' := .slice (some ⟨g5, 0, none⟩) 0 0) ⟨hgb5, moved_of hmv5⟩
        have hend : g5 = g ∨ w.heap.size ≤ g5 := by
          rcases G5.blk with h | h
          · left; simpa [Value.ownBlock] using h
          · exact .inr (h g5 rfl)
        have HX := Lib.hid (And.intro hown5 (And.intro G5.grown hend))
        clear hown5 hgb5 hmv5 G3 G4 G5 hend
        go_wp2
        go_ret
        refine ⟨g5, c5, by rw [HL.out.2.2.2.2.2]; rfl, ?_, HX.out.2.1, HX.out.2.2⟩
        rw [HL.out.2.2.2.2.2, HE.out, HL.out.2.2.2.2.1]
        exact HX.out.1
      · skip
        have hl1 : (scells (l.take i)).length + 1 ≤ maxLen := by rw [scells_length, List.length_take]; unfold maxLen; omega
        have hl2 : ((scells (l.take i)).length + 1) * 16 ≤ 140737488355328 := by rw [scells_length, List.length_take]; omega
        have hd1 : (scells (l.drop i)).length = 0 := by rw [scells_length, List.length_drop, ← HM.out.2.2.2]; first | done | omega
        have htk : (scells l).take i = scells (l.take i) := scells_take l i
        have hsn : scells (l.take i ++ x :: l.drop i) = scells (l.take i) ++ [.string (mkS x)] ++ scells (l.drop i) := by simp [scells]
        have hln : (putR x l).length = i + 1 + 0 := by rw [HE.out, List.length_append, List.length_cons, List.length_take, List.length_drop, ← HM.out.2.2.2]; omega
        have HL := Lib.hid (And.intro hl1 (And.intro hl2 (And.intro hd1 (And.intro htk (And.intro hsn hln)))))
        have hl3 : ([] : List Value).length + 0 ≤ maxLen := by unfold maxLen; simp <;> omega
        have hl4 : (([] : List Value).length + 0) * 16 ≤ 140737488355328 := by simp <;> omega
        have hl5 : (scells (l.take i) ++ [Value.string (mkS x)]).length + 0 ≤ maxLen := by rw [List.length_append, scells_length, List.length_take]; unfold maxLen; simp <;> omega
        have hl6 : ((scells (l.take i) ++ [Value.string (mkS x)]).length + 0) * 16 ≤ 140737488355328 := by rw [List.length_append, scells_length, List.length_take]; simp <;> omega
        have HL2 := Lib.hid (And.intro hl3 (And.intro hl4 (And.intro hl5 hl6)))
        clear hl1 hl2 hd1 htk hsn hln hl3 hl4 hl5 hl6
        go_wp2_with (first
          | (at_builtin; refine wpList_append_news rfl (.tmp 34) (.tmp 37) 22 rfl 9 _ _ Try.underlying22 infoStr rfl w.heap.size w.heap.size 0 0 [] rfl (Own.lit w 9 [] (by simp)) ⟨g, i, none⟩ _ _ (scells (l.drop i)) rfl HL.out.2.2.1 (HN.out _ _) (scells_one _) HL2.out.1 HL2.out.2.1 (by simp) ?_; intro g3 c3 w3 hown3 hgb3 hmv3; have H3 := Lib.hid (And.intro (show Own w3 w.heap.size 9 (.slice (some ⟨g3, 0, none⟩) 0 c3) (scells (l.drop i)) by simpa using hown3) (And.intro trivial (And.intro (show ¬ g3 = g by simp at hmv3; omega) (show Ext w w3 from (Ext.alloc w (.cells #[] 9)).grown hgb3 (fun k hk => by cases hk; exact Nat.le_refl _))))); clear hown3 hgb3 hmv3)
          | (at_builtin; refine wpList_append_news rfl (.tmp 41) (.tmp 43) 22 rfl 9 _ _ Try.underlying22 infoStr rfl B g i cap (scells (l.take i)) rfl (by rw [← HL.out.2.2.2.1]; exact ((HM.out.1.ext H3.out.2.2.2).ext (Ext.alloc _ _)).take i hi) ⟨w3.heap.size, 0, none⟩ 1 1 [.string (mkS x)] rfl rfl (one_news _ _ _) (by intro u hu; rw [List.mem_singleton.1 hu]; rfl) HL.out.1 HL.out.2.1 (Nat.le_trans hB (Nat.le_trans H3.out.2.2.2.size (Ext.alloc w3 _).size)) ?_; intro g4 c4 w4 hown4 hgb4 hmv4; have H4 := Lib.hid (And.intro hown4 (And.intro hgb4 (And.intro hmv4 (And.intro (show w.heap.size ≤ w4.heap.size from Nat.le_trans (Nat.le_trans H3.out.2.2.2.size (Ext.alloc w3 _).size) hgb4.size) (news_kept H3.out.1 hgb4 H3.out.2.2.1))))); clear hown4 hgb4 hmv4)
          | (at_builtin; refine wpList_append_news rfl (.tmp 44) (.tmp 45) 22 rfl 9 _ _ Try.underlying22 infoStr rfl B g4 (i + 1) c4 (scells (l.take i) ++ [.string (mkS x)]) ?hsq3 H4.out.1 ⟨g3, 0, none⟩ 0 c3 (scells (l.drop i)) ?hxq3 ?hlq3 ?hnq3 (scells_one _) ?h5q3 ?h6q3 ?h7q3 ?h8q3; (case hsq3 => rfl); (case hxq3 => rfl); (case hlq3 => with_reducible exact HL.out.2.2.1);  (case hnq3 => with_reducible exact H4.out.2.2.2.2); (case h5q3 => with_reducible exact HL2.out.2.2.1); (case h6q3 => with_reducible exact HL2.out.2.2.2); (case h7q3 => with_reducible exact Nat.le_trans hB H4.out.2.2.2.1); intro g5 c5 w5 hown5 hgb5 hmv5))
        have G3 := (Grew.refl w (.slice (some ⟨g, 0, none⟩) 0 0)).ext (H3.out.2.2.2.trans (Ext.alloc w3 (.cells #[.string (mkS x)] 9)))
        have G4 := G3.step (v' := .slice (some ⟨g4, 0, none⟩) 0 0) ⟨H4.out.2.1, moved_of H4.out.2.2.1⟩
        have G5 := G4.step (v' := .slice (some ⟨g5, 0, none⟩) 0 0) ⟨hgb5, moved_of hmv5⟩
        have hend : g5 = g ∨ w.heap.size ≤ g5 := by
          rcases G5.blk with h | h
          · left; simpa [Value.ownBlock] using h
          · exact .inr (h g5 rfl)
        have HX := Lib.hid (And.intro hown5 (And.intro G5.grown hend))
        clear hown5 hgb5 hmv5 G3 G4 G5 hend
        go_wp2
        go_ret
        refine ⟨g5, c5, by rw [HL.out.2.2.2.2.2]; rfl, ?_, HX.out.2.1, HX.out.2.2⟩
        rw [HL.out.2.2.2.2.2, HE.out, HL.out.2.2.2.2.1]
        exact HX.out.1
end Go.Proofs.Ytgbbidlbdjbilaa
