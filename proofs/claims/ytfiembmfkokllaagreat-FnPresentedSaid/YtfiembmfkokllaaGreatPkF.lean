/- Several texts of mine in one: Own5, ShPa, ShEm. -/
import Derived.Test.YtfiembmfkokllaaGreatPkB
import Derived.Test.YtfiembmfkokllaaGreatShI
/- Appends of many elements to a row of the call's own: where it lies afterwards. No dump is imported. -/
namespace Go
open Go.RowKit

theorem run_append_news {P : Program} {w : World} (t ty E : TypeId) (z : Value) (bytes : Nat) (ht : P.underlying t = some (.slice E)) (hinfo : (P.info? E).map (fun i => (i.zero, i.size, i.bytes)) = some (some z, 1, bytes)) (hz1 : z.cells = #[z])
    (B g n cap : Nat) (fs : List Value) (hown : Own w B E (.slice (some ⟨g, 0, none⟩) n cap) fs) (ad : Addr) (m c : Nat) (news : List Value) (hl : news.length = m) (hnews : ∀ j u, news[j]? = some u → w.cell? (ad.add j) = some u) (h1 : ∀ u ∈ news, u.oneCell' = true)
    (hlen : fs.length + m ≤ maxLen) (hbytes : (fs.length + m) * bytes ≤ 140737488355328) (hbase : B ≤ w.heap.size) :
    ∃ g' c' w', (Builtin.append_ #[t, t] ty #[.slice (some ⟨g, 0, none⟩) n cap, .slice (some ad) m c]).run P w = .ok (.slice (some ⟨g', 0, none⟩) (n + m) c') w' ∧ Own w' B E (.slice (some ⟨g', 0, none⟩) (n + m) c') (fs ++ news) ∧ w.grownBy w' (some g) ∧ (g' = g ∨ w.heap.size ≤ g') := by
  obtain ⟨i, hi, hzz⟩ := Option.map_eq_some_iff.1 hinfo
  simp only [Prod.mk.injEq] at hzz
  obtain ⟨hz, hsz, hb⟩ := hzz
  have hn := hown.len
  subst hn
  have hlen63 : fs.length + m ≤ 9223372036854775807 := by simp only [maxLen] at hlen; omega
  rcases hown.2 with ⟨hv, _⟩ | ⟨g', cap', cur, hv, hbg, hg, hnc, hcm, hcs, htake⟩
  · cases hv
  · injection hv with e1 e2 e3
    injection e1 with e1
    injection e1 with e1
    subst e1
    subst e3
    by_cases hroom : fs.length + m ≤ cap
    · have hr := run_append_room (P := P) w t ty E i ht hi g fs.length cap cur hg ad m c news (by rw [hsz, hl]; omega) hnews h1 hroom (by rw [hsz, hcs]; simp; omega)
      rw [hsz] at hr
      refine ⟨_, _, _, hr, ?_, ⟨rfl, rfl, rfl, by simp, fun k _ hk => setRow_other w g k _ (fun e => hk (by rw [e]))⟩, .inl rfl⟩
      unfold Own
      rw [List.length_append, hl]
      refine ⟨by rw [List.length_append, hl]; omega, .inr ⟨g, cap, _, rfl, hbg, setRow_heap w g cur _ E _ hg, hroom, hcm, ?_, ?_⟩⟩
      · simp only [List.size_toArray, List.length_append, List.length_take, List.length_drop, Array.length_toList]
        omega
      · rw [htake]
        show List.take ((fs.length + m) * 1) (fs ++ news ++ _) = _
        rw [show (fs.length + m) * 1 = (fs ++ news).length by rw [List.length_append, hl]; omega]
        exact List.take_left
    · have holds : ∀ (j : Nat) (u' : Value), fs[j]? = some u' → w.cell? ((⟨g, 0, none⟩ : Addr).add j) = some u' := hown.cells (g := g) rfl
      have hr := run_append_grow (P := P) w t ty E i z ht hi hz ⟨g, 0, none⟩ fs.length cap fs (by simp [hsz]) holds ad m c news (by rw [hsz, hl]; omega) hnews (by omega) (by omega) (by rw [hb]; exact growslice_fits (by omega) hbytes)
      refine ⟨_, _, _, hr, ?_, ⟨rfl, rfl, rfl, by simp, fun k hk _ => Below.heap_alloc w.drew _ k hk⟩, .inr (Nat.le_refl _)⟩
      have hge := grownCap_ge w (fs.length + m) cap E
      unfold Own
      rw [List.length_append, hl]
      refine ⟨by rw [List.length_append, hl]; omega, .inr ⟨w.heap.size, _, _, rfl, hbase, heap_alloc_new w.drew _, hge, grownCap_le_maxLen w (fs.length + m) cap E hlen, ?_, ?_⟩⟩
      · simp only [Array.size_append, List.size_toArray, size_zeroCells, hz1]
        show fs.length + news.length + (grownCap w (fs.length + m) cap E - (fs.length + m)) * 1 = _
        omega
      · simp only [Array.toList_append, Nat.mul_one]
        rw [show fs.length + m = (fs ++ news).length by rw [List.length_append, hl]]
        exact List.take_left

/-- 'out = append(out, xs...)' on a row of the call's own that has a block. -/
theorem wpList_append_news {P : Program} {w : World} {ops : Array Oper} {rest : List Oper} {o : Oper} {a : Act} {Q : Exit → Act → World → Prop} (hgd : o.guard = none) (s x : Operand) (t : TypeId)
    (ho : o.op = .call { callee := .builtin .append, args := #[s, x], argTypes := #[t, t] })
    (E : TypeId) (z : Value) (bytes : Nat) (ht : P.underlying t = some (.slice E)) (hinfo : (P.info? E).map (fun i => (i.zero, i.size, i.bytes)) = some (some z, 1, bytes)) (hz1 : z.cells = #[z])
    (B g n cap : Nat) (fs : List Value) (hs : a.eval s = .slice (some ⟨g, 0, none⟩) n cap) (hown : Own w B E (.slice (some ⟨g, 0, none⟩) n cap) fs)
    (ad : Addr) (m c : Nat) (news : List Value) (hx : a.eval x = .slice (some ad) m c) (hl : news.length = m) (hnews : ∀ j u, news[j]? = some u → w.cell? (ad.add j) = some u) (h1 : ∀ u ∈ news, u.oneCell' = true)
    (hlen : fs.length + m ≤ maxLen) (hbytes : (fs.length + m) * bytes ≤ 140737488355328)
    (hBw : B ≤ w.heap.size)
    (h : ∀ g' c' w', Own w' B E (.slice (some ⟨g', 0, none⟩) (n + m) c') (fs ++ news) → w.grownBy w' (some g) → (g' = g ∨ w.heap.size ≤ g') → wpList P ops Q rest (a.put o.dst (.slice (some ⟨g', 0, none⟩) (n + m) c')) w') : wpList P ops Q (o :: rest) a w := by
  obtain ⟨g', c', w', hr, h2, h3, h4⟩ := run_append_news (P := P) t o.type E z bytes ht hinfo hz1 B g n cap fs hown ad m c news hl hnews h1 hlen hbytes hBw
  refine wpList_plain hgd fun K hK' => ?_
  unfold Oper.wp execOp
  simp only [ho, resolve, invoke, builtin, Sem.run_bind, Sem.run_pure, Result.andThen_ok, List.map_toArray, List.map_cons, List.map_nil, hs, hx, hr]
  exact hK' _ _ (h g' c' w' h2 h3 h4)
end Go

/- Contract: a word put in its place, by the reference. -/
namespace Go.Proofs.YtfiembmfkokllaaGreat
open Go.RowKit Go.Cm

theorem scells_one (l : List (List UInt8)) : ∀ u ∈ scells l, u.oneCell' = true := by
  intro u hu
  simp only [scells, List.mem_map] at hu
  obtain ⟨x, _, rfl⟩ := hu
  rfl
theorem scells_take (l : List (List UInt8)) (k : Nat) : (scells l).take k = scells (l.take k) := by simp [scells, List.map_take]
theorem own_news {w : World} {B g n cap : Nat} {E : TypeId} {l : List (List UInt8)} (h : Own w B E (.slice (some ⟨g, 0, none⟩) n cap) (scells l)) (k : Nat) : ∀ (q : Nat) (u : Value), (scells (l.drop k))[q]? = some u → w.cell? ((⟨g, k, none⟩ : Addr).add q) = some u := by
  intro q u hq
  have hl := (List.getElem?_eq_some_iff.1 hq).1
  rw [scells_length, List.length_drop] at hl
  have hc := h.cell (k + q) (by rw [scells_length]; omega)
  have e : u = (scells l)[k + q]'(by rw [scells_length]; omega) := by
    simp only [scells, List.getElem?_map, List.getElem?_drop] at hq
    rw [List.getElem?_eq_getElem (by omega)] at hq
    simp at hq
    rw [← hq]
    simp [scells]
  rw [e, ← hc]
  congr 1
  unfold Addr.add
  split
  · next h => rw [h]; rfl
  · rfl
theorem own_news0 {w : World} {B g n cap : Nat} {E : TypeId} {fs : List Value} (h : Own w B E (.slice (some ⟨g, 0, none⟩) n cap) fs) : ∀ (q : Nat) (u : Value), fs[q]? = some u → w.cell? ((⟨g, 0, none⟩ : Addr).add q) = some u := by
  intro q u hq
  have hl := (List.getElem?_eq_some_iff.1 hq).1
  have hc := h.cell q hl
  rw [List.getElem?_eq_getElem hl] at hq
  rw [← hq, ← hc]
  congr 1
  unfold Addr.add
  split
  · next h => rw [h]
  · simp
theorem one_news (w : World) (E : TypeId) (v : Value) : ∀ (q : Nat) (u : Value), [v][q]? = some u → (w.alloc (.cells #[v] E)).cell? ((⟨w.heap.size, 0, none⟩ : Addr).add q) = some u := by
  intro q u hq
  have hl := (List.getElem?_eq_some_iff.1 hq).1
  have h0 : q = 0 := by rw [List.length_singleton] at hl; omega
  subst h0
  have hu : v = u := by rw [List.getElem?_cons_zero] at hq; exact Option.some.inj hq
  subst hu
  have := (Own.lit w E [v] (by simp [maxLen])).cell 0 (by simp)
  exact this
theorem news_kept {w3 w4 : World} {B g g3 m c3 : Nat} {E E' : TypeId} {v : Value} {fs : List Value} (h3 : Own w3 B E (.slice (some ⟨g3, 0, none⟩) m c3) fs) (hgb : (w3.alloc (.cells #[v] E')).grownBy w4 (some g)) (hne : ¬ g3 = g) : ∀ (q : Nat) (u : Value), fs[q]? = some u → w4.cell? ((⟨g3, 0, none⟩ : Addr).add q) = some u :=
  own_news0 (GB.own hgb (h3.ext (Ext.alloc _ _)) (fun k hk e => hne (by simp [Value.ownBlock] at hk; injection e with e; omega)))
theorem moved_of {w : World} {g n c g' n' c' : Nat} (h : g' = g ∨ w.heap.size ≤ g') : Moved w (.slice (some ⟨g, 0, none⟩) n c) (.slice (some ⟨g', 0, none⟩) n' c') := by
  rcases h with h | h
  · left; rw [h]; rfl
  · right
    intro k hk
    simp [Value.ownBlock] at hk
    omega

set_option maxRecDepth 100000 in
set_option maxHeartbeats 1000000 in
theorem spec_l2Put_any (B g cap : Nat) (x : List UInt8) (l : List (List UInt8)) (w : World) (hown : Own w B 9 (.slice (some ⟨g, 0, none⟩) l.length cap) (scells l)) (hB : B ≤ w.heap.size) (hl : l.length ≤ 1000) :
    Calls Tryz.prog 48 #[.slice (some ⟨g, 0, none⟩) l.length cap, .string (mkS x)] w fun e w' => ∃ g' c', e = .returned (.slice (some ⟨g', 0, none⟩) (putR x l).length c') ∧ Own w' B 9 (.slice (some ⟨g', 0, none⟩) (putR x l).length c') (scells (putR x l)) ∧ w.grownBy w' (some g) ∧ (g' = g ∨ w.heap.size ≤ g') := by
  obtain ⟨n, hn⟩ : ∃ n, n = l.length := ⟨_, rfl⟩
  rw [← hn] at hown hl ⊢
  obtain ⟨hgB, hgw⟩ := World.ownsRow.lt hown g rfl
  have hcap : n ≤ cap ∧ cap ≤ 9223372036854775807 := by
    have := Own.reads hown
    obtain ⟨_, c, e, h1, h2, _⟩ := this
    injection e with e1 e2 e3
    rw [scells_length, ← hn] at h1
    unfold maxLen at h2
    omega
  obtain ⟨hcap1, hcap2⟩ := hcap
  have hcell : ∀ k, k < n → w.cell? ⟨g, k, none⟩ = some (.string (mkS (l.getD k []))) := fun k hk => by
    have := hown.cell k (by rw [scells_length, ← hn]; exact hk)
    rw [scells_at _ _ (by rw [← hn]; exact hk)] at this
    exact this
  have hat := fun i h1 h2 h3 => putR_at (x := x) (l := l) (i := i) h1 h2 h3
  rw [← hn] at hat
  have HM := Lib.hid (And.intro hown (And.intro hcell (And.intro hat hn)))
  clear hown hcell hat hn
  go_enter Tryz.func48, Tryz.ntmps48
  go_wp2
  go_loop [5] (fun i => ∃ k : Nat, k ≤ n ∧ i = .int .i64 k ∧ ∀ j, j < k → lessW (l.getD j []) x = true) (fun i => n - (intOf i).toNat)
  case atStart => exact ⟨0, by omega, rfl, fun j hj => by omega⟩
  case round =>
    obtain ⟨i, hi, rfl, hp⟩ := hrel
    have HP := Lib.hid hp
    clear hp
    by_cases hlt : i < n
    · have hc := HM.out.2.1 i hlt
      have hls := mkS_less (l.getD i []) x
      have hbq := mkS_beq (l.getD i []) x
      obtain ⟨y, hy⟩ : ∃ y, y = l.getD i [] := ⟨_, rfl⟩
      rw [← hy] at hc hls hbq
      obtain ⟨b, hb⟩ : ∃ b, b = lessW y x := ⟨_, rfl⟩
      rw [← hb] at hls
      have HY := Lib.hid (And.intro hy hb)
      clear hy hb
      cases b
      · by_cases he : y = x
        · have hbt : ((mkS y).toList == (mkS x).toList) = true := by rw [hbq]; simpa using he
          have HE := Lib.hid (show putR x l = l by rw [HM.out.2.2.1 i (by omega) HP.out (.inr (by rw [← HY.out.1, ← HY.out.2])), if_pos ⟨hlt, by rw [← HY.out.1]; exact he⟩])
          clear hbq he
          go_wp2
          go_ret
          rw [HE.out, ← HM.out.2.2.2]
          exact ⟨g, cap, rfl, HM.out.1, GB.refl _ _, .inl rfl⟩
        · have hbt : ((mkS y).toList == (mkS x).toList) = false := by rw [hbq]; simpa using he
          have HE := Lib.hid (show putR x l = l.take i ++ x :: l.drop i by rw [HM.out.2.2.1 i (by omega) HP.out (.inr (by rw [← HY.out.1, ← HY.out.2])), if_neg (fun h => he (by rw [HY.out.1]; exact h.2))])
          have hic : ¬ i = cap := by omega
          clear hbq he
          have hl1 : (scells (l.take i)).length + 1 ≤ maxLen := by rw [scells_length, List.length_take]; unfold maxLen; omega
          have hl2 : ((scells (l.take i)).length + 1) * 16 ≤ 140737488355328 := by rw [scells_length, List.length_take]; omega
          have hd1 : (scells (l.drop i)).length = (n - i) := by rw [scells_length, List.length_drop, ← HM.out.2.2.2]; first | done | omega
          have htk : (scells l).take i = scells (l.take i) := scells_take l i
          have hsn : scells (l.take i ++ x :: l.drop i) = scells (l.take i) ++ [.string (mkS x)] ++ scells (l.drop i) := by simp [scells]
          have hln : (putR x l).length = i + 1 + (n - i) := by rw [HE.out, List.length_append, List.length_cons, List.length_take, List.length_drop, ← HM.out.2.2.2]; omega
          have HL := Lib.hid (And.intro hl1 (And.intro hl2 (And.intro hd1 (And.intro htk (And.intro hsn hln)))))
          have hl3 : ([] : List Value).length + (n - i) ≤ maxLen := by unfold maxLen; simp <;> omega
          have hl4 : (([] : List Value).length + (n - i)) * 16 ≤ 140737488355328 := by simp <;> omega
          have hl5 : (scells (l.take i) ++ [Value.string (mkS x)]).length + (n - i) ≤ maxLen := by rw [List.length_append, scells_length, List.length_take]; unfold maxLen; simp <;> omega
          have hl6 : ((scells (l.take i) ++ [Value.string (mkS x)]).length + (n - i)) * 16 ≤ 140737488355328 := by rw [List.length_append, scells_length, List.length_take]; simp <;> omega
          have HL2 := Lib.hid (And.intro hl3 (And.intro hl4 (And.intro hl5 hl6)))
          clear hl1 hl2 hd1 htk hsn hln hl3 hl4 hl5 hl6
          go_wp2_with (first
            | (at_builtin; refine wpList_append_news rfl (.tmp 34) (.tmp 37) 24 rfl 9 _ _ Tryz.underlying24 infoStr rfl w.heap.size w.heap.size 0 0 [] rfl (Own.lit w 9 [] (by simp)) ⟨g, i, none⟩ _ _ (scells (l.drop i)) rfl HL.out.2.2.1 (own_news (HM.out.1.ext (Ext.alloc _ _)) i) (scells_one _) HL2.out.1 HL2.out.2.1 (by simp) ?_; intro g3 c3 w3 hown3 hgb3 hmv3; have H3 := Lib.hid (And.intro (show Own w3 w.heap.size 9 (.slice (some ⟨g3, 0, none⟩) (n - i) c3) (scells (l.drop i)) by simpa using hown3) (And.intro trivial (And.intro (show ¬ g3 = g by simp at hmv3; omega) (show Ext w w3 from (Ext.alloc w (.cells #[] 9)).grown hgb3 (fun k hk => by cases hk; exact Nat.le_refl _))))); clear hown3 hgb3 hmv3)
            | (at_builtin; refine wpList_append_news rfl (.tmp 41) (.tmp 43) 24 rfl 9 _ _ Tryz.underlying24 infoStr rfl B g i cap (scells (l.take i)) rfl (by rw [← HL.out.2.2.2.1]; exact ((HM.out.1.ext H3.out.2.2.2).ext (Ext.alloc _ _)).take i hi) ⟨w3.heap.size, 0, none⟩ 1 1 [.string (mkS x)] rfl rfl (one_news _ _ _) (by intro u hu; rw [List.mem_singleton.1 hu]; rfl) HL.out.1 HL.out.2.1 (Nat.le_trans hB (Nat.le_trans H3.out.2.2.2.size (Ext.alloc w3 _).size)) ?_; intro g4 c4 w4 hown4 hgb4 hmv4; have H4 := Lib.hid (And.intro hown4 (And.intro hgb4 (And.intro hmv4 (And.intro (show w.heap.size ≤ w4.heap.size from Nat.le_trans (Nat.le_trans H3.out.2.2.2.size (Ext.alloc w3 _).size) hgb4.size) (news_kept H3.out.1 hgb4 H3.out.2.2.1))))); clear hown4 hgb4 hmv4)
            | (at_builtin; refine wpList_append_news rfl (.tmp 44) (.tmp 45) 24 rfl 9 _ _ Tryz.underlying24 infoStr rfl B g4 (i + 1) c4 (scells (l.take i) ++ [.string (mkS x)]) ?hsq1 H4.out.1 ⟨g3, 0, none⟩ (n - i) c3 (scells (l.drop i)) ?hxq1 ?hlq1 ?hnq1 (scells_one _) ?h5q1 ?h6q1 ?h7q1 ?h8q1; (case hsq1 => rfl); (case hxq1 => rfl); (case hlq1 => with_reducible exact HL.out.2.2.1);  (case hnq1 => with_reducible exact H4.out.2.2.2.2); (case h5q1 => with_reducible exact HL2.out.2.2.1); (case h6q1 => with_reducible exact HL2.out.2.2.2); (case h7q1 => with_reducible exact Nat.le_trans hB H4.out.2.2.2.1); intro g5 c5 w5 hown5 hgb5 hmv5))
          have G3 := (Grew.refl w (.slice (some ⟨g, 0, none⟩) 0 0)).ext (H3.out.2.2.2.trans (Ext.alloc w3 (.cells #[.string (mkS x)] 9)))
          have G4 := G3.step (v' := .slice (some ⟨g4, 0, none⟩) 0 0) ⟨H4.out.2.1, moved_of H4.out.2.2.1⟩
          have G5 := G4.step (v' := .slice (some ⟨g5, 0, none⟩) 0 0) ⟨hgb5, moved_of hmv5⟩
          have hend : g5 = g ∨ w.heap.size ≤ g5 := by
            rcases G5.blk with h | h
            · left; simpa [Value.ownBlock] using h
            · exact .inr (h g5 rfl)
          have HX := Lib.hid (And.intro hown5 (And.intro G5.grown hend))
          clear hown5 hgb5 hmv5 G3 G4 G5 hend
          go_wp2
          go_ret
          refine ⟨g5, c5, by rw [HL.out.2.2.2.2.2]; rfl, ?_, HX.out.2.1, HX.out.2.2⟩
          rw [HL.out.2.2.2.2.2, HE.out, HL.out.2.2.2.2.1]
          exact HX.out.1
      · go_wp2
        go_round
        case rel => exact ⟨i + 1, by omega, by go_num, fun j hj => by
          by_cases e : j = i
          · subst e; rw [← HY.out.1, ← HY.out.2]
          · exact HP.out j (by omega)⟩
        case measure => simp [intOf]; omega
    · have hin : i = n := by omega
      have HE := Lib.hid (show putR x l = l.take i ++ x :: l.drop i by rw [HM.out.2.2.1 i (by omega) HP.out (.inl hin), if_neg (fun h => hlt h.1)])
      have hnil : ∀ (w' : World) (a : Addr) (q : Nat) (u : Value), (scells (l.drop i))[q]? = some u → w'.cell? (a.add q) = some u := by
        intro w' a q u hq
        have hl := (List.getElem?_eq_some_iff.1 hq).1
        rw [scells_length, List.length_drop, ← HM.out.2.2.2] at hl
        omega
      have HN := Lib.hid hnil
      clear hnil
      subst hin
      by_cases hck : i = cap
      · subst hck
        have hl1 : (scells (l.take i)).length + 1 ≤ maxLen := by rw [scells_length, List.length_take]; unfold maxLen; omega
        have hl2 : ((scells (l.take i)).length + 1) * 16 ≤ 140737488355328 := by rw [scells_length, List.length_take]; omega
        have hd1 : (scells (l.drop i)).length = 0 := by rw [scells_length, List.length_drop, ← HM.out.2.2.2]; first | done | omega
        have htk : (scells l).take i = scells (l.take i) := scells_take l i
        have hsn : scells (l.take i ++ x :: l.drop i) = scells (l.take i) ++ [.string (mkS x)] ++ scells (l.drop i) := by simp [scells]
        have hln : (putR x l).length = i + 1 + 0 := by rw [HE.out, List.length_append, List.length_cons, List.length_take, List.length_drop, ← HM.out.2.2.2]; omega
        have HL := Lib.hid (And.intro hl1 (And.intro hl2 (And.intro hd1 (And.intro htk (And.intro hsn hln)))))
        have hl3 : ([] : List Value).length + 0 ≤ maxLen := by unfold maxLen; simp <;> omega
        have hl4 : (([] : List Value).length + 0) * 16 ≤ 140737488355328 := by simp <;> omega
        have hl5 : (scells (l.take i) ++ [Value.string (mkS x)]).length + 0 ≤ maxLen := by rw [List.length_append, scells_length, List.length_take]; unfold maxLen; simp <;> omega
        have hl6 : ((scells (l.take i) ++ [Value.string (mkS x)]).length + 0) * 16 ≤ 140737488355328 := by rw [List.length_append, scells_length, List.length_take]; simp <;> omega
        have HL2 := Lib.hid (And.intro hl3 (And.intro hl4 (And.intro hl5 hl6)))
        clear hl1 hl2 hd1 htk hsn hln hl3 hl4 hl5 hl6
        go_wp2_with (first
          | (at_builtin; refine wpList_append_news rfl (.tmp 34) (.tmp 37) 24 rfl 9 _ _ Tryz.underlying24 infoStr rfl w.heap.size w.heap.size 0 0 [] rfl (Own.lit w 9 [] (by simp)) ⟨g, 0, none⟩ _ _ (scells (l.drop i)) rfl HL.out.2.2.1 (HN.out _ _) (scells_one _) HL2.out.1 HL2.out.2.1 (by simp) ?_; intro g3 c3 w3 hown3 hgb3 hmv3; have H3 := Lib.hid (And.intro (show Own w3 w.heap.size 9 (.slice (some ⟨g3, 0, none⟩) 0 c3) (scells (l.drop i)) by simpa using hown3) (And.intro trivial (And.intro (show ¬ g3 = g by simp at hmv3; omega) (show Ext w w3 from (Ext.alloc w (.cells #[] 9)).grown hgb3 (fun k hk => by cases hk; exact Nat.le_refl _))))); clear hown3 hgb3 hmv3)
          | (at_builtin; refine wpList_append_news rfl (.tmp 41) (.tmp 43) 24 rfl 9 _ _ Tryz.underlying24 infoStr rfl B g i i (scells (l.take i)) rfl (by rw [← HL.out.2.2.2.1]; exact ((HM.out.1.ext H3.out.2.2.2).ext (Ext.alloc _ _)).take i hi) ⟨w3.heap.size, 0, none⟩ 1 1 [.string (mkS x)] rfl rfl (one_news _ _ _) (by intro u hu; rw [List.mem_singleton.1 hu]; rfl) HL.out.1 HL.out.2.1 (Nat.le_trans hB (Nat.le_trans H3.out.2.2.2.size (Ext.alloc w3 _).size)) ?_; intro g4 c4 w4 hown4 hgb4 hmv4; have H4 := Lib.hid (And.intro hown4 (And.intro hgb4 (And.intro hmv4 (And.intro (show w.heap.size ≤ w4.heap.size from Nat.le_trans (Nat.le_trans H3.out.2.2.2.size (Ext.alloc w3 _).size) hgb4.size) (news_kept H3.out.1 hgb4 H3.out.2.2.1))))); clear hown4 hgb4 hmv4)
          | (at_builtin; refine wpList_append_news rfl (.tmp 44) (.tmp 45) 24 rfl 9 _ _ Tryz.underlying24 infoStr rfl B g4 (i + 1) c4 (scells (l.take i) ++ [.string (mkS x)]) ?hsq2 H4.out.1 ⟨g3, 0, none⟩ 0 c3 (scells (l.drop i)) ?hxq2 ?hlq2 ?hnq2 (scells_one _) ?h5q2 ?h6q2 ?h7q2 ?h8q2; (case hsq2 => rfl); (case hxq2 => rfl); (case hlq2 => with_reducible exact HL.out.2.2.1);  (case hnq2 => with_reducible exact H4.out.2.2.2.2); (case h5q2 => with_reducible exact HL2.out.2.2.1); (case h6q2 => with_reducible exact HL2.out.2.2.2); (case h7q2 => with_reducible exact Nat.le_trans hB H4.out.2.2.2.1); intro g5 c5 w5 hown5 hgb5 hmv5))
        have G3 := (Grew.refl w (.slice (some ⟨g, 0, none⟩) 0 0)).ext (H3.out.2.2.2.trans (Ext.alloc w3 (.cells #[.string (mkS x)] 9)))
        have G4 := G3.step (v' := .slice (some ⟨g4, 0, none⟩) 0 0) ⟨H4.out.2.1, moved_of H4.out.2.2.1⟩
        have G5 := G4.step (v' := .slice (some ⟨g5, 0, none⟩) 0 0) ⟨hgb5, moved_of hmv5⟩
        have hend : g5 = g ∨ w.heap.size ≤ g5 := by
          rcases G5.blk with h | h
          · left; simpa [Value.ownBlock] using h
          · exact .inr (h g5 rfl)
        have HX := Lib.hid (And.intro hown5 (And.intro G5.grown hend))
        clear hown5 hgb5 hmv5 G3 G4 G5 hend
        go_wp2
        go_ret
        refine ⟨g5, c5, by rw [HL.out.2.2.2.2.2]; rfl, ?_, HX.out.2.1, HX.out.2.2⟩
        rw [HL.out.2.2.2.2.2, HE.out, HL.out.2.2.2.2.1]
        exact HX.out.1
      · skip
        have hl1 : (scells (l.take i)).length + 1 ≤ maxLen := by rw [scells_length, List.length_take]; unfold maxLen; omega
        have hl2 : ((scells (l.take i)).length + 1) * 16 ≤ 140737488355328 := by rw [scells_length, List.length_take]; omega
        have hd1 : (scells (l.drop i)).length = 0 := by rw [scells_length, List.length_drop, ← HM.out.2.2.2]; first | done | omega
        have htk : (scells l).take i = scells (l.take i) := scells_take l i
        have hsn : scells (l.take i ++ x :: l.drop i) = scells (l.take i) ++ [.string (mkS x)] ++ scells (l.drop i) := by simp [scells]
        have hln : (putR x l).length = i + 1 + 0 := by rw [HE.out, List.length_append, List.length_cons, List.length_take, List.length_drop, ← HM.out.2.2.2]; omega
        have HL := Lib.hid (And.intro hl1 (And.intro hl2 (And.intro hd1 (And.intro htk (And.intro hsn hln)))))
        have hl3 : ([] : List Value).length + 0 ≤ maxLen := by unfold maxLen; simp <;> omega
        have hl4 : (([] : List Value).length + 0) * 16 ≤ 140737488355328 := by simp <;> omega
        have hl5 : (scells (l.take i) ++ [Value.string (mkS x)]).length + 0 ≤ maxLen := by rw [List.length_append, scells_length, List.length_take]; unfold maxLen; simp <;> omega
        have hl6 : ((scells (l.take i) ++ [Value.string (mkS x)]).length + 0) * 16 ≤ 140737488355328 := by rw [List.length_append, scells_length, List.length_take]; simp <;> omega
        have HL2 := Lib.hid (And.intro hl3 (And.intro hl4 (And.intro hl5 hl6)))
        clear hl1 hl2 hd1 htk hsn hln hl3 hl4 hl5 hl6
        go_wp2_with (first
          | (at_builtin; refine wpList_append_news rfl (.tmp 34) (.tmp 37) 24 rfl 9 _ _ Tryz.underlying24 infoStr rfl w.heap.size w.heap.size 0 0 [] rfl (Own.lit w 9 [] (by simp)) ⟨g, i, none⟩ _ _ (scells (l.drop i)) rfl HL.out.2.2.1 (HN.out _ _) (scells_one _) HL2.out.1 HL2.out.2.1 (by simp) ?_; intro g3 c3 w3 hown3 hgb3 hmv3; have H3 := Lib.hid (And.intro (show Own w3 w.heap.size 9 (.slice (some ⟨g3, 0, none⟩) 0 c3) (scells (l.drop i)) by simpa using hown3) (And.intro trivial (And.intro (show ¬ g3 = g by simp at hmv3; omega) (show Ext w w3 from (Ext.alloc w (.cells #[] 9)).grown hgb3 (fun k hk => by cases hk; exact Nat.le_refl _))))); clear hown3 hgb3 hmv3)
          | (at_builtin; refine wpList_append_news rfl (.tmp 41) (.tmp 43) 24 rfl 9 _ _ Tryz.underlying24 infoStr rfl B g i cap (scells (l.take i)) rfl (by rw [← HL.out.2.2.2.1]; exact ((HM.out.1.ext H3.out.2.2.2).ext (Ext.alloc _ _)).take i hi) ⟨w3.heap.size, 0, none⟩ 1 1 [.string (mkS x)] rfl rfl (one_news _ _ _) (by intro u hu; rw [List.mem_singleton.1 hu]; rfl) HL.out.1 HL.out.2.1 (Nat.le_trans hB (Nat.le_trans H3.out.2.2.2.size (Ext.alloc w3 _).size)) ?_; intro g4 c4 w4 hown4 hgb4 hmv4; have H4 := Lib.hid (And.intro hown4 (And.intro hgb4 (And.intro hmv4 (And.intro (show w.heap.size ≤ w4.heap.size from Nat.le_trans (Nat.le_trans H3.out.2.2.2.size (Ext.alloc w3 _).size) hgb4.size) (news_kept H3.out.1 hgb4 H3.out.2.2.1))))); clear hown4 hgb4 hmv4)
          | (at_builtin; refine wpList_append_news rfl (.tmp 44) (.tmp 45) 24 rfl 9 _ _ Tryz.underlying24 infoStr rfl B g4 (i + 1) c4 (scells (l.take i) ++ [.string (mkS x)]) ?hsq3 H4.out.1 ⟨g3, 0, none⟩ 0 c3 (scells (l.drop i)) ?hxq3 ?hlq3 ?hnq3 (scells_one _) ?h5q3 ?h6q3 ?h7q3 ?h8q3; (case hsq3 => rfl); (case hxq3 => rfl); (case hlq3 => with_reducible exact HL.out.2.2.1);  (case hnq3 => with_reducible exact H4.out.2.2.2.2); (case h5q3 => with_reducible exact HL2.out.2.2.1); (case h6q3 => with_reducible exact HL2.out.2.2.2); (case h7q3 => with_reducible exact Nat.le_trans hB H4.out.2.2.2.1); intro g5 c5 w5 hown5 hgb5 hmv5))
        have G3 := (Grew.refl w (.slice (some ⟨g, 0, none⟩) 0 0)).ext (H3.out.2.2.2.trans (Ext.alloc w3 (.cells #[.string (mkS x)] 9)))
        have G4 := G3.step (v' := .slice (some ⟨g4, 0, none⟩) 0 0) ⟨H4.out.2.1, moved_of H4.out.2.2.1⟩
        have G5 := G4.step (v' := .slice (some ⟨g5, 0, none⟩) 0 0) ⟨hgb5, moved_of hmv5⟩
        have hend : g5 = g ∨ w.heap.size ≤ g5 := by
          rcases G5.blk with h | h
          · left; simpa [Value.ownBlock] using h
          · exact .inr (h g5 rfl)
        have HX := Lib.hid (And.intro hown5 (And.intro G5.grown hend))
        clear hown5 hgb5 hmv5 G3 G4 G5 hend
        go_wp2
        go_ret
        refine ⟨g5, c5, by rw [HL.out.2.2.2.2.2]; rfl, ?_, HX.out.2.1, HX.out.2.2⟩
        rw [HL.out.2.2.2.2.2, HE.out, HL.out.2.2.2.2.1]
        exact HX.out.1
end Go.Proofs.YtfiembmfkokllaaGreat

/- Contract: a shift without words, by the reference. -/
namespace Go.Proofs.YtfiembmfkokllaaGreat
open Go.RowKit Go.Cm

set_option maxHeartbeats 1000000 in
theorem spec_IsEmptyShift_any (K : Nat) (v : Value) (F : List (List UInt8)) (w : World) (h : ReadsW w v F) (hf : ShFit K F) :
    Calls Tryz.prog 44 #[.agg #[.int .i64 K, v]] w fun e w' => e = .returned (.bool (decide ((statesL K F).length = 0))) ∧ Ext w w' := by
  obtain ⟨pa, ca, rfl⟩ := h.slice
  have hx := Ext.alloc w (.cells #[.int .i64 K, .slice pa F.length ca] 26)
  have bo : Blk (w.alloc (.cells #[.int .i64 K, .slice pa F.length ca] 26)) w.heap.size #[.int .i64 K, .slice pa F.length ca] := by (repeat (first | (refine Blk.mk' ?_; (simp; done)) | apply Blk.old))
  have hF : ∀ f ∈ F, f.length ≤ maxLen := fun f hm => by have := (hf.word f hm).2.2; unfold maxLen; omega
  have hF2 : ∀ f ∈ F, f.length ≤ 1048576 := fun f hm => by have := (hf.word f hm).2.2; omega
  have hs := spec_IsShift_any K (.slice pa F.length ca) F _ (h.ext hx) hF
  rw [hf.ok] at hs
  have hK0 : 0 < K := hf.k1
  have hK3 := hf.k3
  obtain ⟨st, hst⟩ : ∃ st, st = statesL K F := ⟨_, rfl⟩
  have hp := fun w h => spec_l3Pairs_any K (.slice pa F.length ca) F w hK0 hK3 h hF2
  rw [← hst] at hp ⊢
  have HC := Lib.hid (And.intro hs (And.intro hp h))
  clear hs hp h hst hF hF2 hf
  have c0 := bo.cell 0 _ rfl
  have c1 := bo.cell 1 _ rfl
  go_enter Tryz.func44, Tryz.ntmps44
  go_wp2_with fail
  with_reducible refine HC.out.1.mono ?_
  rintro e w1 ⟨rfl, hy⟩
  replace hx := hx.trans hy
  replace bo := bo.ext hy
  clear hy c0 c1
  have c0 := bo.cell 0 _ rfl
  have c1 := bo.cell 1 _ rfl
  go_wp2_with fail
  with_reducible refine (HC.out.2.1 _ (HC.out.2.2.ext hx)).mono ?_
  rintro e w2 ⟨z, rfl, hz, hy⟩
  obtain ⟨pz, cz, rfl⟩ := (Own.readsW hz).slice
  replace hx := hx.trans hy
  clear hy hz c0 c1 bo
  have hb : ((st.length : Int) == 0) = decide (st.length = 0) := by
    by_cases h : st.length = 0
    · rw [h]; rfl
    · rw [decide_eq_false h]; simp; exact fun e => h (by rw [e]; rfl)
  obtain ⟨b, hbd⟩ : ∃ b, b = decide (st.length = 0) := ⟨_, rfl⟩
  rw [← hbd] at hb
  have HV := Lib.hid hbd
  clear hbd
  cases b
  · go_wp2
    go_ret
    exact ⟨ret_boolB HV.out, hx⟩
  · go_wp2
    go_ret
    exact ⟨ret_boolB HV.out, hx⟩
end Go.Proofs.YtfiembmfkokllaaGreat

