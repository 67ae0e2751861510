/- Contracts: words for which something holds; words in the language, by the program and by the reference. -/
import Derived.Test.YtfiembmfkokllaaGreatPkE
import Derived.Test.YtfiembmfkokllaaGreatPkD
namespace Go.Proofs.YtfiembmfkokllaaGreat
open Go.RowKit Go.Cm

theorem mkS_tail (l : List UInt8) (a : Nat) : (mkS l).extract a (mkS l).size = mkS (l.drop a) := by
  apply ByteArray.ext
  apply Array.ext'
  rw [Lib.extract_to_end, mkS_data, mkS_data]
theorem mkS_head (l : List UInt8) (n : Nat) : (mkS l).extract 0 n = mkS (l.take n) := by
  have := mkS_part l 0 n
  simpa using this
theorem words_pow {K n : Nat} (hK : K ≤ 3) (hn : n ≤ 6) : K ^ n ≤ 729 := by
  have h1 : K ^ n ≤ 3 ^ n := Nat.pow_le_pow_left hK n
  have h2 : 3 ^ n ≤ 3 ^ 6 := Nat.pow_le_pow_right (by omega) hn
  have h3 : (3 : Nat) ^ 6 = 729 := by decide
  omega

set_option maxRecDepth 100000 in
set_option maxHeartbeats 1000000 in
theorem impl_filtered_any (K n : Nat) (f : FuncId) (bd cap : Array Value) (G : List UInt8 → Bool) (w : World) (hK0 : 0 < K) (hK3 : K ≤ 3) (hn : n ≤ 6) (hcf : ∀ args w, (callFunc f args).run Tryz.prog w = .ok (.enter f args) w)
    (hgive : ∀ u w', u ∈ wordsL K n → Ext w w' → Calls Tryz.prog f (bd.push (.string (mkS u)) ++ cap) w' fun e w'' => e = .returned (.bool (G u)) ∧ Ext w' w'') :
    Calls Tryz.prog 71 #[.int .i64 K, .int .i64 n, .func (.func f) bd cap] w fun e w' => ∃ v, e = .returned v ∧ Own w' w.heap.size 9 v (scells ((wordsL K n).filter G)) ∧ Ext w w' := by
  have HG := Lib.hid hgive
  clear hgive
  have hNb := words_pow hK3 hn
  obtain ⟨N, hN⟩ : ∃ N, N = K ^ n := ⟨_, rfl⟩
  have hNp : 0 < N := by rw [hN]; exact Nat.pow_pos hK0
  have hN27 : N ≤ 729 := by omega
  have H4 := Lib.hid (show K ^ n ≤ 43046721 by omega)
  have HN := Lib.hid hN
  clear hN hNb
  go_enter Tryz.func71, Tryz.ntmps71
  go_wp2_with fail
  with_reducible refine (impl_wordsOf_any K n _ hK0 hK3 (by omega) H4.out).mono ?_
  rintro e w2 ⟨v35, rfl, hw, hx⟩
  have hwl : (scells (wordsL K n)).length = N := by rw [HN.out]; simp [scells, wordsL]
  have hsh := hw.shape
  rw [hwl] at hsh
  rcases hsh with ⟨_, hnil⟩ | ⟨g, cp, rfl, hg, _, _, _⟩
  · exfalso
    rw [hnil] at hwl
    simp at hwl
    omega
  have hg' : w.heap.size < g := by simp at hg; omega
  clear hg
  have hxw := (Ext.alloc _ _).trans hx
  have hB0 : Own w2 w.heap.size 9 (.slice (some ⟨w.heap.size, 0, none⟩) 0 0) [] := (Own.lit w 9 [] (by simp)).ext hx
  clear hx
  have HWL := Lib.hid hwl
  clear hwl
  go_wp2
  go_loopw [7, 9, 15] (fun v _ i wr => ∃ k : Nat, k ≤ N ∧ i = .int .i64 k ∧ Own wr w.heap.size 9 v (scells (((wordsL K n).take k).filter G)) ∧ Grew w2 (.slice (some ⟨w.heap.size, 0, none⟩) 0 0) wr v ∧ Ext w wr) (fun _ _ i _ => N - (intOf i).toNat)
  case atStart => exact ⟨0, by omega, rfl, hB0, Grew.refl _ _, hxw⟩
  case round =>
    clear hB0 hxw
    obtain ⟨k, hk, rfl, hown, hgr, hxr⟩ := hrel
    by_cases hlt : k < N
    · have hlw : k < (wordsL K n).length := by have := HWL.out; rw [scells_length] at this; omega
      have hwc : wr.cell? ⟨g, k, none⟩ = some (.string (mkS (wordsL K n)[k])) := by
        have := (hgr.own hw (by intro j hj; simp [Value.ownBlock] at hj ⊢; omega)).cell k (by rw [HWL.out]; exact hlt)
        simpa [scells] using this
      obtain ⟨u, hu⟩ : ∃ u, u = (wordsL K n)[k] := ⟨_, rfl⟩
      rw [← hu] at hwc
      have hmem : u ∈ wordsL K n := by rw [hu]; exact List.getElem_mem _
      have htk : (wordsL K n).take (k + 1) = (wordsL K n).take k ++ [u] := by rw [hu]; exact List.take_succ_eq_append_getElem hlw
      have hle : (((wordsL K n).take k).filter G).length ≤ k := Nat.le_trans (List.length_filter_le _ _) (by rw [List.length_take]; omega)
      have HT := Lib.hid (And.intro hmem (And.intro htk hle))
      have HW := Lib.hid hw
      clear hu hmem htk hlw hw hle
      go_wp2_with fail
      with_reducible refine (HG.out u _ HT.out.1 hxr).mono ?_
      rintro e w3 ⟨rfl, hx3⟩
      have hown3 := hown.ext hx3
      have hgr3 := hgr.ext hx3
      have hxr3 := hxr.trans hx3
      clear hown hgr hxr hx3 hwc
      cases hG : G u
      · have HF := Lib.hid (show ((wordsL K n).take (k + 1)).filter G = ((wordsL K n).take k).filter G by rw [HT.out.2.1, List.filter_append, List.filter_cons_of_neg (by rw [hG]; simp)]; exact List.append_nil _)
        clear hG
        go_wp2
        go_roundw
        case rel => exact ⟨k + 1, by omega, by go_num, by rw [HF.out]; exact hown3, hgr3, hxr3⟩
        case measure => simp [intOf]; omega
      · have HF := Lib.hid (show ((wordsL K n).take (k + 1)).filter G = ((wordsL K n).take k).filter G ++ [u] by rw [HT.out.2.1, List.filter_append, List.filter_cons_of_pos (by exact hG)]; rfl)
        clear hG
        have hl := HT.out.2.2
        have hl1 : (scells (((wordsL K n).take k).filter G)).length + 1 ≤ maxLen := by rw [scells_length]; unfold maxLen; omega
        have hl2 : ((scells (((wordsL K n).take k).filter G)).length + 1) * 16 ≤ 140737488355328 := by rw [scells_length]; omega
        clear hl
        go_wp2_with (at_builtin; refine wpList_append_one rfl (.tmp 22) (.tmp 24) 24 rfl 9 _ _ Tryz.underlying24 infoStr rfl w.heap.size _ _ rfl (hown3.ext (Ext.alloc _ _)) w3.heap.size _ rfl (by simp; rfl) rfl hl1 hl2 w rfl (hxr3.trans (Ext.alloc _ _)) ?_; intro v' w4 hown4 hx4 hmv)
        have hgr4 := (hgr3.ext (Ext.alloc _ _)).step hmv
        go_roundw
        case rel => exact ⟨k + 1, by omega, by go_num, by rw [HF.out]; simpa [scells] using hown4, hgr4, hx4⟩
        case measure => simp [intOf]; omega
    · have : k = N := by omega
      subst this
      have htk : (wordsL K n).take k = wordsL K n := List.take_of_length_le (by have := HWL.out; rw [scells_length] at this; omega)
      rw [htk] at hown
      clear htk
      go_wp2
      go_ret
      exact ⟨_, rfl, hown, hxr⟩

theorem any_take_succ {st : List (List UInt8)} {k : Nat} (hk : k < st.length) (p : List UInt8 → Bool) : (st.take (k + 1)).any p = ((st.take k).any p || p (st.getD k [])) := by
  rw [List.take_succ_eq_append_getElem hk, List.any_append, List.getD_eq_getElem?_getD, List.getElem?_eq_getElem hk]
  simp
theorem hasL_short {F st : List (List UInt8)} {x : List UInt8} (h : x.length < 2) : hasL F st x = st.any fun u => occ u x := by
  unfold hasL
  rw [if_pos h]
theorem hasL_long {F st : List (List UInt8)} {x : List UInt8} (h : ¬ x.length < 2) : hasL F st x = (avoidL F x && ((st.any fun u => u == x.take 2) && (st.any fun u => u == x.drop (x.length - 2)))) := by
  unfold hasL
  rw [if_neg h]

set_option maxRecDepth 100000 in
set_option maxHeartbeats 2000000 in
theorem impl_has_any (L : Int) (v z : Value) (F st : List (List UInt8)) (x : List UInt8) (w : World) (h : ReadsW w v F) (hz : ReadsW w z st) (hm : MaxC w) (hl : x.length ≤ 1048576) (hst : ∀ u ∈ st, u.length ≤ 1048576) :
    Calls Tryz.prog 41 #[.agg #[.int .i64 L, v], z, .string (mkS x)] w fun e w' => e = .returned (.bool (hasL F st x)) ∧ Ext w w' := by
  obtain ⟨pa, ca, rfl⟩ := h.slice
  obtain ⟨pz, cz, rfl⟩ := hz.slice
  obtain ⟨-, hlz, hcz⟩ := hz.len
  obtain ⟨n, hn⟩ : ∃ n, n = st.length := ⟨_, rfl⟩
  rw [← hn] at hlz hz ⊢
  have hx := Ext.alloc w (.cells #[.int .i64 L, .slice pa F.length ca] 26)
  have hsz : (mkS x).size = x.length := mkS_size x
  have HM := Lib.hid (And.intro (h.ext hx) (And.intro (hz.ext hx) (And.intro hn (And.intro (hm.ext hx) hst))))
  clear h hz hn hm hx hst
  by_cases h2 : x.length < 2
  · have HS := Lib.hid (hasL_short (F := F) (st := st) h2)
    have hd2 : decide ((x.length : Int) < 2) = true := by simp; omega
    go_enter Tryz.func41, Tryz.ntmps41
    go_wp2
    go_loop [8, 18] (fun _ i => ∃ k : Nat, k ≤ n ∧ i = .int .i64 k ∧ ∀ j, j < k → occ (st.getD j []) x = false) (fun _ i => n - (intOf i).toNat)
    case atStart => exact ⟨0, by omega, rfl, fun j hj => by omega⟩
    case round =>
      obtain ⟨k, hk, rfl, hp⟩ := hrel
      have HP := Lib.hid hp
      clear hp
      by_cases hlt : k < n
      · have hkm : k < st.length := by rw [← HM.out.2.2.1]; exact hlt
        obtain ⟨b, o, rfl, hcell⟩ := HM.out.2.1.at k hkm
        have hmem : st.getD k [] ∈ st := by
          rw [List.getD_eq_getElem?_getD, List.getElem?_eq_getElem hkm]
          exact List.getElem_mem hkm
        obtain ⟨u, hu⟩ : ∃ f, f = st.getD k [] := ⟨_, rfl⟩
        rw [← hu] at hcell hmem
        have HF := Lib.hid (And.intro hmem hu)
        clear hmem hu hkm
        go_wp2_with fail
        with_reducible refine (contains_any u x _ HM.out.2.2.2.1 (HM.out.2.2.2.2 u HF.out.1)).mono ?_
        rintro e w1 ⟨rfl, rfl⟩
        cases ho : occ u x
        · go_wp2
          go_round
          case rel => exact ⟨k + 1, by omega, by go_num, fun j hj => by
            by_cases e : j = k
            · subst e; rw [← HF.out.2]; exact ho
            · exact HP.out j (by omega)⟩
          case measure => simp [intOf]; omega
        · have HV := Lib.hid (show hasL F st x = true by rw [HS.out, List.any_eq_true]; exact ⟨u, HF.out.1, ho⟩)
          go_wp2
          go_ret
          exact ⟨ret_bool HV.out.symm, Ext.alloc _ _⟩
      · have hkn : k = n := by omega
        have hv : hasL F st x = false := by
          rw [HS.out, List.any_eq_false]
          intro f hf
          obtain ⟨j, hj, rfl⟩ := List.mem_iff_getElem.1 hf
          have := HP.out j (by rw [hkn, HM.out.2.2.1]; exact hj)
          rw [List.getD_eq_getElem?_getD, List.getElem?_eq_getElem hj, Option.getD_some] at this
          rw [this]; simp
        have HV := Lib.hid hv
        clear hv
        go_wp2
        go_ret
        exact ⟨ret_bool HV.out.symm, Ext.alloc _ _⟩
  · have HS := Lib.hid (hasL_long (F := F) (st := st) h2)
    obtain ⟨q, hq⟩ : ∃ q, q + 2 = x.length := ⟨x.length - 2, by omega⟩
    obtain ⟨av, hav⟩ : ∃ av, av = avoidL F x := ⟨_, rfl⟩
    have hca := fun w h hm => impl_avoids_any L (.slice pa F.length ca) F x w h hm hl
    rw [← hav] at hca
    have HA := Lib.hid (And.intro hca hav)
    clear hca hav
    have hq1 : (x.length : Int) - 2 = (q : Int) := by omega
    have hsl1 := mkS_head x 2
    have hsl2 := mkS_tail x q
    rw [hsz] at hsl2
    obtain ⟨a, ha⟩ : ∃ a, a = x.take 2 := ⟨_, rfl⟩
    obtain ⟨d, hd⟩ : ∃ a, a = x.drop q := ⟨_, rfl⟩
    rw [← ha] at hsl1
    rw [← hd] at hsl2
    have HD := Lib.hid (show hasL F st x = (av && ((st.any fun u => u == a) && (st.any fun u => u == d))) by rw [HS.out, ← HA.out.2, ha, hd, show x.length - 2 = q by omega])
    clear ha hd HS
    cases av
    · go_enter Tryz.func41, Tryz.ntmps41
      go_wp2_with fail
      with_reducible refine (HA.out.1 _ HM.out.1 HM.out.2.2.2.1).mono ?_
      rintro e w1 ⟨rfl, hx1⟩
      go_wp2
      go_ret
      exact ⟨ret_bool HD.out.symm, (Ext.alloc _ _).trans hx1⟩
    · go_enter Tryz.func41, Tryz.ntmps41
      go_wp2_with fail
      with_reducible refine (HA.out.1 _ HM.out.1 HM.out.2.2.2.1).mono ?_
      rintro e w1 ⟨rfl, hx1⟩
      have HZ := Lib.hid (HM.out.2.1.ext hx1)
      replace hx1 := (Ext.alloc _ _).trans hx1
      go_wp2
      go_loop [9, 10, 12, 32] (fun f l _ i => ∃ k : Nat, k ≤ n ∧ i = .int .i64 k ∧ f = .bool ((st.take k).any fun u => u == a) ∧ l = .bool ((st.take k).any fun u => u == d)) (fun _ _ _ i => n - (intOf i).toNat)
      case atStart => exact ⟨0, by omega, rfl, rfl, rfl⟩
      case round =>
        obtain ⟨k, hk, rfl, rfl, rfl⟩ := hrel
        by_cases hlt : k < n
        · have hkm : k < st.length := by rw [← HM.out.2.2.1]; exact hlt
          obtain ⟨b, o, rfl, hcell⟩ := HZ.out.at k hkm
          have hs1 := any_take_succ hkm fun u => u == a
          have hs2 := any_take_succ hkm fun u => u == d
          obtain ⟨u, hu⟩ : ∃ f, f = st.getD k [] := ⟨_, rfl⟩
          rw [← hu] at hcell hs1 hs2
          obtain ⟨p1, hp1⟩ : ∃ p, p = (st.take k).any fun u => u == a := ⟨_, rfl⟩
          obtain ⟨p2, hp2⟩ : ∃ p, p = (st.take k).any fun u => u == d := ⟨_, rfl⟩
          rw [← hp1] at hs1 ⊢
          rw [← hp2] at hs2 ⊢
          have hb1 := mkS_beq u a
          have hb2 := mkS_beq u d
          obtain ⟨e1, he1⟩ : ∃ e, e = (u == a) := ⟨_, rfl⟩
          obtain ⟨e2, he2⟩ : ∃ e, e = (u == d) := ⟨_, rfl⟩
          rw [← he1] at hb1 hs1
          rw [← he2] at hb2 hs2
          have HR := Lib.hid (And.intro hs1 hs2)
          clear hs1 hs2 hp1 hp2 he1 he2 hu hkm
          cases p1 <;> cases p2
          all_goals
            go_wp2
            go_round
            case rel => exact ⟨k + 1, by omega, by go_num, by rw [HR.out.1]; simp, by rw [HR.out.2]; simp⟩
            case measure => simp [intOf]; omega
        · have hkn : k = n := by omega
          have htk : st.take k = st := List.take_of_length_le (by rw [hkn, HM.out.2.2.1]; exact Nat.le_refl _)
          rw [htk]
          clear htk
          obtain ⟨p1, hp1⟩ : ∃ p, p = st.any fun u => u == a := ⟨_, rfl⟩
          obtain ⟨p2, hp2⟩ : ∃ p, p = st.any fun u => u == d := ⟨_, rfl⟩
          rw [← hp1, ← hp2]
          have HR := Lib.hid (show hasL F st x = (p1 && p2) by rw [HD.out, hp1, hp2]; rfl)
          clear hp1 hp2
          cases p1
          · go_wp2
            go_ret
            exact ⟨ret_bool HR.out.symm, hx1⟩
          · go_wp2
            go_ret
            exact ⟨ret_bool (by rw [HR.out]; rfl), hx1⟩

set_option maxRecDepth 100000 in
set_option maxHeartbeats 2000000 in
theorem spec_l3In_any (L : Int) (v z : Value) (F st : List (List UInt8)) (x : List UInt8) (w : World) (h : ReadsW w v F) (hz : ReadsW w z st) (hF : ∀ f ∈ F, f.length ≤ 1048576) (hl : x.length ≤ 1048576) (hst : ∀ u ∈ st, u.length ≤ 1048576) :
    Calls Tryz.prog 47 #[.agg #[.int .i64 L, v], z, .string (mkS x)] w fun e w' => e = .returned (.bool (hasS F st x)) ∧ Ext w w' := by
  obtain ⟨pa, ca, rfl⟩ := h.slice
  obtain ⟨pz, cz, rfl⟩ := hz.slice
  obtain ⟨-, hlz, hcz⟩ := hz.len
  obtain ⟨n, hn⟩ : ∃ n, n = st.length := ⟨_, rfl⟩
  rw [← hn] at hlz hz ⊢
  have hx := Ext.alloc w (.cells #[.int .i64 L, .slice pa F.length ca] 26)
  have hsz : (mkS x).size = x.length := mkS_size x
  have HM := Lib.hid (And.intro (h.ext hx) (And.intro (hz.ext hx) (And.intro hn (And.intro hF hst))))
  clear h hz hn hx hst hF
  by_cases h0 : n = 0
  · have HV := Lib.hid (show hasS F st x = false by unfold hasS; rw [if_pos (.inl (by rw [← HM.out.2.2.1]; exact h0))])
    subst h0
    go_enter Tryz.func47, Tryz.ntmps47
    go_wp2
    go_ret
    exact ⟨ret_bool HV.out.symm, Ext.alloc _ _⟩
  have hn0 : ((n : Int) == 0) = false := by simp; omega
  obtain ⟨av, hav⟩ : ∃ av, av = avoidL F x := ⟨_, rfl⟩
  have hca := fun w h => spec_l3Avoids_any (.slice pa F.length ca) F x w h HM.out.2.2.2.1 hl
  rw [← hav] at hca
  have HA := Lib.hid (And.intro hca hav)
  clear hca hav
  cases av
  · have HV := Lib.hid (show hasS F st x = false by unfold hasS; rw [if_pos (.inr HA.out.2.symm)])
    go_enter Tryz.func47, Tryz.ntmps47
    go_wp2_with fail
    with_reducible refine (HA.out.1 _ HM.out.1).mono ?_
    rintro e w1 ⟨rfl, rfl⟩
    go_wp2
    go_ret
    exact ⟨ret_bool HV.out.symm, Ext.alloc _ _⟩
  have HV := Lib.hid (show hasS F st x = (if x.length < 2 then st.any fun u => occ u x else (st.any fun u => u == x.take 2) && (st.any fun u => u == x.drop (x.length - 2))) by
    unfold hasS
    rw [if_neg]
    rintro (e | e)
    · rw [← HM.out.2.2.1] at e; exact h0 e
    · rw [← HA.out.2] at e; cases e)
  clear h0
  by_cases h2 : x.length < 2
  · have HS := Lib.hid (show hasS F st x = st.any fun u => occ u x by rw [HV.out, if_pos h2])
    have hd2 : decide ((2 : Int) ≤ (x.length : Int)) = false := by simp; omega
    clear HV
    go_enter Tryz.func47, Tryz.ntmps47
    go_wp2_with fail
    with_reducible refine (HA.out.1 _ HM.out.1).mono ?_
    rintro e w1 ⟨rfl, rfl⟩
    go_wp2
    go_loop [7] (fun i => ∃ k : Nat, k ≤ n ∧ i = .int .i64 k ∧ ∀ j, j < k → occ (st.getD j []) x = false) (fun i => n - (intOf i).toNat)
    case atStart => exact ⟨0, by omega, rfl, fun j hj => by omega⟩
    case round =>
      obtain ⟨k, hk, rfl, hp⟩ := hrel
      have HP := Lib.hid hp
      clear hp
      by_cases hlt : k < n
      · have hkm : k < st.length := by rw [← HM.out.2.2.1]; exact hlt
        obtain ⟨b, o, rfl, hcell⟩ := HM.out.2.1.at k hkm
        have hmem : st.getD k [] ∈ st := by
          rw [List.getD_eq_getElem?_getD, List.getElem?_eq_getElem hkm]
          exact List.getElem_mem hkm
        obtain ⟨u, hu⟩ : ∃ f, f = st.getD k [] := ⟨_, rfl⟩
        rw [← hu] at hcell hmem
        have HF := Lib.hid (And.intro hmem hu)
        clear hmem hu hkm
        go_wp2_with fail
        with_reducible refine (spec_OccursIn_any u x _ (HM.out.2.2.2.2 u HF.out.1) hl).mono ?_
        rintro e w1 ⟨rfl, rfl⟩
        cases ho : occ u x
        · go_wp2
          go_round
          case rel => exact ⟨k + 1, by omega, by go_num, fun j hj => by
            by_cases e : j = k
            · subst e; rw [← HF.out.2]; exact ho
            · exact HP.out j (by omega)⟩
          case measure => simp [intOf]; omega
        · have HV := Lib.hid (show hasS F st x = true by rw [HS.out, List.any_eq_true]; exact ⟨u, HF.out.1, ho⟩)
          go_wp2
          go_ret
          exact ⟨ret_bool HV.out.symm, Ext.alloc _ _⟩
      · have hkn : k = n := by omega
        have hv : hasS F st x = false := by
          rw [HS.out, List.any_eq_false]
          intro f hf
          obtain ⟨j, hj, rfl⟩ := List.mem_iff_getElem.1 hf
          have := HP.out j (by rw [hkn, HM.out.2.2.1]; exact hj)
          rw [List.getD_eq_getElem?_getD, List.getElem?_eq_getElem hj, Option.getD_some] at this
          rw [this]; simp
        have HV := Lib.hid hv
        clear hv
        go_wp2
        go_ret
        exact ⟨ret_bool HV.out.symm, Ext.alloc _ _⟩
  · obtain ⟨q, hq⟩ : ∃ q, q + 2 = x.length := ⟨x.length - 2, by omega⟩
    have hq1 : (x.length : Int) - 2 = (q : Int) := by omega
    have hsl1 := mkS_head x 2
    have hsl2 := mkS_tail x q
    rw [hsz] at hsl2
    obtain ⟨a, ha⟩ : ∃ a, a = x.take 2 := ⟨_, rfl⟩
    obtain ⟨d, hd⟩ : ∃ a, a = x.drop q := ⟨_, rfl⟩
    rw [← ha] at hsl1
    rw [← hd] at hsl2
    obtain ⟨p1, hp1⟩ : ∃ p, p = st.any fun u => u == a := ⟨_, rfl⟩
    obtain ⟨p2, hp2⟩ : ∃ p, p = st.any fun u => u == d := ⟨_, rfl⟩
    have c1 := fun w h => spec_l2HasText_any (.slice pz n cz) st a w h
    have c2 := fun w h => spec_l2HasText_any (.slice pz n cz) st d w h
    rw [← hp1] at c1
    rw [← hp2] at c2
    have HD := Lib.hid (show hasS F st x = (p1 && p2) by rw [HV.out, if_neg h2, hp1, hp2, ha, hd, show x.length - 2 = q by omega])
    have HC := Lib.hid (And.intro c1 c2)
    clear ha hd HV c1 c2 hp1 hp2
    cases p1
    · go_enter Tryz.func47, Tryz.ntmps47
      go_wp2_with fail
      with_reducible refine (HA.out.1 _ HM.out.1).mono ?_
      rintro e w1 ⟨rfl, rfl⟩
      go_wp2_with fail
      with_reducible refine (HC.out.1 _ HM.out.2.1).mono ?_
      rintro e w1 ⟨rfl, rfl⟩
      go_wp2
      go_ret
      exact ⟨ret_bool HD.out.symm, Ext.alloc _ _⟩
    · go_enter Tryz.func47, Tryz.ntmps47
      go_wp2_with fail
      with_reducible refine (HA.out.1 _ HM.out.1).mono ?_
      rintro e w1 ⟨rfl, rfl⟩
      go_wp2_with fail
      with_reducible refine (HC.out.1 _ HM.out.2.1).mono ?_
      rintro e w1 ⟨rfl, rfl⟩
      go_wp2_with fail
      with_reducible refine (HC.out.2 _ HM.out.2.1).mono ?_
      rintro e w1 ⟨rfl, rfl⟩
      go_wp2
      go_ret
      exact ⟨ret_bool (by rw [HD.out]; rfl), Ext.alloc _ _⟩
end Go.Proofs.YtfiembmfkokllaaGreat
