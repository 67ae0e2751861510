/- Contract: the program's search for the least source. -/
import Derived.Test.YtfkdpeifnfpldaaPkC
import Derived.Test.YtfkdpeifnfpldaaPkM
namespace Go.Proofs.Ytfkdpeifnfpldaa
open Go.RowKit Go.Cm

theorem mkS_drop (l : List UInt8) (a : Nat) : (mkS l).extract a (mkS l).size = mkS (l.drop a) := by
  apply ByteArray.ext
  apply Array.ext'
  rw [Lib.extract_data, mkS_data, mkS_data, mkS_size]
  exact List.take_of_length_le (by simp)

/-- no letter below x has an answer -/
def NoneTo {α : Type} (F : Nat → Option α) (x : Nat) : Prop := ∀ y, y < x → F y = none
theorem NoneTo.zero {α : Type} (F : Nat → Option α) : NoneTo F 0 := fun y h => absurd h (Nat.not_lt_zero y)
theorem NoneTo.succ {α : Type} {F : Nat → Option α} {x : Nat} (h : NoneTo F x) (hx : F x = none) : NoneTo F (x + 1) := fun y hy => by
  by_cases e : y = x
  · rw [e]; exact hx
  · exact h y (by omega)

theorem isLet_letN' {K x : Nat} (hx : x < K) (hK : K ≤ 3) : areLet K [letN x] = true := by
  have h2 : ((letN x).toNat : Int) = ((97 + x : Nat) : Int) := by unfold letN; exact ofNat_toNat (by omega)
  simp [areLet, isLet, h2]
  omega

/-- what a search returns -/
def srcV (r : Option (List UInt8)) : Value := .tuple #[.string (mkS (r.getD [])), .bool r.isSome]

set_option maxRecDepth 100000 in
set_option maxHeartbeats 2000000 in
theorem impl_source_any (K n : Nat) (o s : ByteArray) (hf : CodeFit K n o) (hs : s.size ≤ 8) : ∀ (f : Nat) (v : List UInt8) (w : World), v.length + f + 1 = s.size + n → areLet K v = true →
    Calls Try.prog 48 #[.agg #[.int .i64 K, .int .i64 n, .string o], .string s, .string (mkS v)] w fun e w' => e = .returned (srcV (srcL K n o s.data.toList f v)) ∧ Ext w w'
  | 0, v, w, hv, _ => by
    have hn4 := hf.n4
    have hts := mkS_size v
    rw [srcL_zero]
    show Calls _ _ _ _ (fun e w' => e = .returned (.tuple #[.string (mkS v), .bool true]) ∧ Ext w w')
    obtain ⟨t, ht⟩ : ∃ t, t = mkS v := ⟨_, rfl⟩
    rw [← ht] at hts ⊢
    have h1 : (t.size : Int) = s.size + n - 1 := by omega
    have h2 : (t.size : Int) ≤ 20 := by omega
    clear hts ht hv
    go_enter Try.func48, Try.ntmps48
    go_wp2
    go_ret2
    exact ⟨rfl, Ext.alloc _ _⟩
  | f + 1, v, w, hv, ha => by
    have hn1 := hf.n1
    have hn4 := hf.n4
    have hk2 := hf.k2
    have hk3 := hf.k3
    have hts := mkS_size v
    have IH := Lib.hid (impl_source_any K n o s hf hs f)
    have HA := Lib.hid ha
    obtain ⟨t, ht⟩ : ∃ t, t = mkS v := ⟨_, rfl⟩
    obtain ⟨r, hr⟩ : ∃ r, r = srcL K n o s.data.toList (f + 1) v := ⟨_, rfl⟩
    rw [← hr]
    rw [← ht] at hts ⊢
    have h1 : ((t.size : Int) == (s.size : Int) + (n : Int) - 1) = false := by simp; omega
    have h2 : (t.size : Int) ≤ 20 := by omega
    have HT := Lib.hid (And.intro ht (And.intro hts (And.intro hv hr)))
    clear hts ht hv ha hr
    obtain ⟨F, hF⟩ : ∃ F : Nat → Option (List UInt8), F = fun x => if okS K n o s.data.toList (v ++ [letN x]) = true then srcL K n o s.data.toList f (v ++ [letN x]) else none := ⟨_, rfl⟩
    have HF := Lib.hid hF
    clear hF
    go_enter Try.func48, Try.ntmps48
    go_wp2
    go_loopw [25] (fun i wr => ∃ x : Nat, x ≤ K ∧ i = .int .i64 x ∧ NoneTo F x ∧ Ext w wr ∧ Blk wr w.heap.size #[.int .i64 K, .int .i64 n, .string o]) (fun i _ => K - (intOf i).toNat)
    case atStart => exact ⟨0, by omega, rfl, NoneTo.zero F, Ext.alloc _ _, Blk.mk' rfl⟩
    case round =>
      obtain ⟨x, hx, rfl, hno, hxw, bo⟩ := hrel
      by_cases hlt : x < K
      · have hl3 : ((letN x).toNat : Int) = 97 + x := by have := ofNat_toNat (n := 97 + x) (by omega); unfold letN; omega
        have hcv : (convert 22 9 (.slice (some ⟨wr.heap.size, 0, none⟩) 1 1)).run Try.prog (wr.alloc (.cells #[.int .u8 (97 + (x : Int))] 5)) = .ok (.string (mkS [letN x])) (wr.alloc (.cells #[.int .u8 (97 + (x : Int))] 5)) := by
          have h := Own.lit wr 5 (bcells [letN x]) (by simp [bcells, maxLen])
          simp only [bcells, List.map_cons, List.map_nil, hl3] at h
          exact run_convert_own (P := Try.prog) (src := 22) (dst := 9) (l := [letN x]) Try.underlying22 Try.underlying5 Try.underlying9 (B := wr.heap.size) (E := 5) (by simpa [bcells, hl3] using h)
        have hcat : t ++ mkS [letN x] = mkS (v ++ [letN x]) := by rw [HT.out.1, mkS_append]
        have hp1 : ¬ 9223372036854775807 < t.size + (mkS [letN x]).size := by rw [mkS_size]; simp; omega
        have hS0 : (mkS (v ++ [letN x])).size = t.size + 1 := by rw [mkS_size, HT.out.2.1]; simp
        obtain ⟨S, hS⟩ : ∃ S, S = mkS (v ++ [letN x]) := ⟨_, rfl⟩
        rw [← hS] at hcat hS0
        have hS1 : S.size ≤ t.size + 1 := by omega
        have hS2 : t.size + 1 ≤ S.size := by omega
        have HS := Lib.hid (And.intro hS hS0)
        clear hl3 hS hS0
        replace hxw := Ext.alloced hxw (.cells #[.int .u8 (97 + (x : Int))] 5)
        have bo1 := bo.old (o := .cells #[.int .u8 (97 + (x : Int))] 5)
        obtain ⟨c0, c1, c2, -, -, -⟩ := bo.c3
        obtain ⟨d0, d1, d2, -, -, -⟩ := bo1.c3
        have hla : areLet K (v ++ [letN x]) = true := by rw [areLet_append, HA.out, isLet_letN' hlt hk3]; rfl
        have HL := Lib.hid hla
        clear hla
        -- what the next letters give
        have hnext : (okS K n o s.data.toList (v ++ [letN x]) = true ∧ F x = srcL K n o s.data.toList f (v ++ [letN x])) ∨ (okS K n o s.data.toList (v ++ [letN x]) = false ∧ F x = none) := by
          rw [HF.out]
          by_cases h : okS K n o s.data.toList (v ++ [letN x]) = true
          · exact .inl ⟨h, by simp [h]⟩
          · exact .inr ⟨by simpa using h, by simp [h]⟩
        have HN := Lib.hid hnext
        clear hnext
        by_cases hat : n ≤ t.size + 1
        · obtain ⟨a, haa⟩ : ∃ a : Nat, a + n = t.size + 1 := ⟨t.size + 1 - n, by omega⟩
          have hlen : v.length = t.size := HT.out.2.1.symm
          have hfv := HT.out.2.2.1
          have he : (S.size : Int) - (n : Int) = (a : Int) := by omega
          have has : a < s.size := by omega
          have haS : a ≤ S.size := by omega
          have hdl : ((v ++ [letN x]).drop a).length = n := by rw [List.length_drop, List.length_append, hlen]; simp; omega
          have hda : areLet K ((v ++ [letN x]).drop a) = true := by
            have h := HL.out
            unfold areLet at *
            rw [List.all_eq_true] at *
            intro c hc
            exact h c (List.mem_of_mem_drop hc)
          have hex : S.extract a S.size = mkS ((v ++ [letN x]).drop a) := by rw [HS.out.1]; exact mkS_drop _ _
          have hok : okS K n o s.data.toList (v ++ [letN x]) = decide (givesL K o ((v ++ [letN x]).drop a) = s[a]) := by
            unfold okS
            have e1 : (v ++ [letN x]).length = t.size + 1 := by rw [List.length_append, hlen]; rfl
            have e2 : (t.size + 1) - n = a := by omega
            have e3 : decide (t.size + 1 < n) = false := by simpa using hat
            have e4 : s.data.toList.getD a 0 = s[a] := by rw [List.getD_eq_getElem?_getD, List.getElem?_eq_getElem (by simpa using has)]; rfl
            rw [e1, e2, e3, e4]
            rfl
          have HD := Lib.hid (And.intro hdl (And.intro hda hok))
          obtain ⟨g, hg⟩ : ∃ g, g = givesL K o ((v ++ [letN x]).drop a) := ⟨_, rfl⟩
          have HG := Lib.hid hg
          clear hdl hda hok hlen hfv haa hg
          by_cases hcc : g = s[a]
          · have hgn : g.toNat = s[a].toNat := by rw [hcc]
            have HC := Lib.hid hcc
            clear hcc
            go_wp2
            refine wp_region_inv (by kernel_rfl) (.known ?hx5_48_v0 :: .known ?hx5_48_v1 :: .known ?hx5_48_v2 :: .known ?hx5_48_v3 :: .known ?hx5_48_v4 :: .known ?hx5_48_v5 :: .known ?hx5_48_v6 :: .known (.int .u8 (s[a].toNat : Int)) :: .known ?hx5_48_v8 :: .known ?hx5_48_v9 :: .known ?hx5_48_v10 :: .known ?hx5_48_v11 :: .known ?hx5_48_v12 :: []) rfl (by kernel_rfl) ?hx5_48_s ?hx5_48_p
            case hx5_48_s =>
              intro vs
              refine ⟨fun w' hxw hj => ?_, fun w' hxw hj => ?_, fun w' hxw hj => ?_, fun w' hxw hj => ?_, fun w' hxw hj => ?_, fun w' hxw hj => ?_, fun w' hxw hj => ?_, fun w' hxw hj => ?_, fun w' hxw hj => ?_, fun w' hxw hj => ?_, fun w' hxw hj => ?_, fun w' hxw hj => ?_, fun w' hxw hj => ?_, trivial⟩
              · have d0 := Ext.cell_some hxw d0
                have d1 := Ext.cell_some hxw d1
                have d2 := Ext.cell_some hxw d2
                clear hj
                go_simp
                try go_bits
                first | rfl | (rw [if_pos (by omega), if_pos (by omega)]; go_simp; rfl) | (rw [if_pos (by omega)]; go_simp; rfl) | skip
              · have d0 := Ext.cell_some hxw d0
                have d1 := Ext.cell_some hxw d1
                have d2 := Ext.cell_some hxw d2
                clear hj
                go_simp
                try go_bits
                first | rfl | (rw [if_pos (by omega), if_pos (by omega)]; go_simp; rfl) | (rw [if_pos (by omega)]; go_simp; rfl) | skip
              · have d0 := Ext.cell_some hxw d0
                have d1 := Ext.cell_some hxw d1
                have d2 := Ext.cell_some hxw d2
                clear hj
                go_simp
                try go_bits
                first | rfl | (rw [if_pos (by omega), if_pos (by omega)]; go_simp; rfl) | (rw [if_pos (by omega)]; go_simp; rfl) | skip
              · have d0 := Ext.cell_some hxw d0
                have d1 := Ext.cell_some hxw d1
                have d2 := Ext.cell_some hxw d2
                clear hj
                go_simp
                try go_bits
                first | rfl | (rw [if_pos (by omega), if_pos (by omega)]; go_simp; rfl) | (rw [if_pos (by omega)]; go_simp; rfl) | skip
              · have d0 := Ext.cell_some hxw d0
                have d1 := Ext.cell_some hxw d1
                have d2 := Ext.cell_some hxw d2
                clear hj
                go_simp
                try go_bits
                first | rfl | (rw [if_pos (by omega), if_pos (by omega)]; go_simp; rfl) | (rw [if_pos (by omega)]; go_simp; rfl) | skip
              · have d0 := Ext.cell_some hxw d0
                have d1 := Ext.cell_some hxw d1
                have d2 := Ext.cell_some hxw d2
                clear hj
                go_simp
                try go_bits
                first | rfl | (rw [if_pos (by omega), if_pos (by omega)]; go_simp; rfl) | (rw [if_pos (by omega)]; go_simp; rfl) | skip
              · have d0 := Ext.cell_some hxw d0
                have d1 := Ext.cell_some hxw d1
                have d2 := Ext.cell_some hxw d2
                clear hj
                go_simp
                try go_bits
                first | rfl | (rw [if_pos (by omega), if_pos (by omega)]; go_simp; rfl) | (rw [if_pos (by omega)]; go_simp; rfl) | skip
              · have d0 := Ext.cell_some hxw d0
                have d1 := Ext.cell_some hxw d1
                have d2 := Ext.cell_some hxw d2
                clear hj
                go_simp
                try go_bits
                rw [← hgn, HG.out]
                exact impl_gives_any K n o _ _ hf HD.out.1 HD.out.2.1
              · have d0 := Ext.cell_some hxw d0
                have d1 := Ext.cell_some hxw d1
                have d2 := Ext.cell_some hxw d2
                clear hj
                go_simp
                try go_bits
                first | rfl | (rw [if_pos (by omega), if_pos (by omega)]; go_simp; rfl) | (rw [if_pos (by omega)]; go_simp; rfl) | skip
              · have d0 := Ext.cell_some hxw d0
                have d1 := Ext.cell_some hxw d1
                have d2 := Ext.cell_some hxw d2
                clear hj
                go_simp
                try go_bits
                first | rfl | (rw [if_pos (by omega), if_pos (by omega)]; go_simp; rfl) | (rw [if_pos (by omega)]; go_simp; rfl) | skip
              · have d0 := Ext.cell_some hxw d0
                have d1 := Ext.cell_some hxw d1
                have d2 := Ext.cell_some hxw d2
                clear hj
                go_simp
                try go_bits
                first | rfl | (rw [if_pos (by omega), if_pos (by omega)]; go_simp; rfl) | (rw [if_pos (by omega)]; go_simp; rfl) | skip
              · have d0 := Ext.cell_some hxw d0
                have d1 := Ext.cell_some hxw d1
                have d2 := Ext.cell_some hxw d2
                clear hj
                go_simp
                try go_bits
                first | rfl | (rw [if_pos (by omega), if_pos (by omega)]; go_simp; rfl) | (rw [if_pos (by omega)]; go_simp; rfl) | skip
              · have d0 := Ext.cell_some hxw d0
                have d1 := Ext.cell_some hxw d1
                have d2 := Ext.cell_some hxw d2
                clear hj
                go_simp
                try go_bits
                first | rfl | (rw [if_pos (by omega), if_pos (by omega)]; go_simp; rfl) | (rw [if_pos (by omega)]; go_simp; rfl) | skip
            case' hx5_48_p =>
              intro vs w5 hx5 hk
              clear hk
              replace d0 := Ext.cell_some hx5 d0
              replace d1 := Ext.cell_some hx5 d1
              replace d2 := Ext.cell_some hx5 d2
              replace bo1 := Blk.ext bo1 hx5
              replace hxw := Ext.trans hxw hx5
              go_simp
              have hcall := IH.out (v ++ [letN x]) w5 (by have := HT.out.2.2.1; simp; omega) HL.out
              have hFx : F x = srcL K n o s.data.toList f (v ++ [letN x]) := by
                rcases HN.out with h | h
                · exact h.2
                · exfalso
                  have := HD.out.2.2
                  rw [h.1, ← HG.out, HC.out] at this
                  simp at this
              rw [← HS.out.1, ← hFx] at hcall
              cases hq : F x with
              | none =>
                rw [hq] at hcall
                have hcall : Calls Try.prog 48 #[.agg #[.int .i64 K, .int .i64 n, .string o], .string s, .string S] w5 fun e w' => e = .returned (.tuple #[.string ⟨#[]⟩, .bool false]) ∧ Ext w5 w' := hcall
                have HQ := Lib.hid hq
                clear hq hFx
                go_wp2_with fail
                refine hcall.mono ?_
                rintro e w6 ⟨rfl, hx6⟩
                replace hxw := hxw.trans hx6
                replace bo1 := bo1.ext hx6
                clear hcall d0 d1 d2 hx6 hx5
                go_wp2
                go_roundw
                case rel => exact ⟨x + 1, by omega, by go_num, hno.succ HQ.out, hxw, bo1⟩
                case measure => simp [intOf]; omega
              | some q =>
                rw [hq] at hcall
                have hcall : Calls Try.prog 48 #[.agg #[.int .i64 K, .int .i64 n, .string o], .string s, .string S] w5 fun e w' => e = .returned (.tuple #[.string (mkS q), .bool true]) ∧ Ext w5 w' := hcall
                have HQ := Lib.hid hq
                clear hq hFx
                go_wp2_with fail
                refine hcall.mono ?_
                rintro e w6 ⟨rfl, hx6⟩
                replace hxw := hxw.trans hx6
                clear hcall d0 d1 d2 hx6 hx5
                go_wp2
                go_ret2
                exact ⟨by rw [HT.out.2.2.2, srcL_succ, ← HF.out, firstOf_hit hlt hno HQ.out]; rfl, hxw⟩
          · have hgn : ¬ g.toNat = s[a].toNat := fun h => hcc (UInt8.toNat_inj.1 h)
            have HC := Lib.hid hcc
            clear hcc
            have hFx : F x = none := by
              rcases HN.out with h | h
              · exfalso
                have := HD.out.2.2
                rw [h.1, ← HG.out] at this
                exact HC.out (by simpa using this)
              · exact h.2
            have HFX := Lib.hid hFx
            clear hFx
            go_wp2
            refine wp_region_inv (by kernel_rfl) (.known ?hx5_49_v0 :: .known ?hx5_49_v1 :: .known ?hx5_49_v2 :: .known ?hx5_49_v3 :: .known ?hx5_49_v4 :: .known ?hx5_49_v5 :: .known ?hx5_49_v6 :: .known (.int .u8 (g.toNat : Int)) :: .known ?hx5_49_v8 :: .known ?hx5_49_v9 :: .known ?hx5_49_v10 :: .known ?hx5_49_v11 :: .known ?hx5_49_v12 :: []) rfl (by kernel_rfl) ?hx5_49_s ?hx5_49_p
            case hx5_49_s =>
              intro vs
              refine ⟨fun w' hxw hj => ?_, fun w' hxw hj => ?_, fun w' hxw hj => ?_, fun w' hxw hj => ?_, fun w' hxw hj => ?_, fun w' hxw hj => ?_, fun w' hxw hj => ?_, fun w' hxw hj => ?_, fun w' hxw hj => ?_, fun w' hxw hj => ?_, fun w' hxw hj => ?_, fun w' hxw hj => ?_, fun w' hxw hj => ?_, trivial⟩
              · have d0 := Ext.cell_some hxw d0
                have d1 := Ext.cell_some hxw d1
                have d2 := Ext.cell_some hxw d2
                clear hj
                go_simp
                try go_bits
                first | rfl | (rw [if_pos (by omega), if_pos (by omega)]; go_simp; rfl) | (rw [if_pos (by omega)]; go_simp; rfl) | skip
              · have d0 := Ext.cell_some hxw d0
                have d1 := Ext.cell_some hxw d1
                have d2 := Ext.cell_some hxw d2
                clear hj
                go_simp
                try go_bits
                first | rfl | (rw [if_pos (by omega), if_pos (by omega)]; go_simp; rfl) | (rw [if_pos (by omega)]; go_simp; rfl) | skip
              · have d0 := Ext.cell_some hxw d0
                have d1 := Ext.cell_some hxw d1
                have d2 := Ext.cell_some hxw d2
                clear hj
                go_simp
                try go_bits
                first | rfl | (rw [if_pos (by omega), if_pos (by omega)]; go_simp; rfl) | (rw [if_pos (by omega)]; go_simp; rfl) | skip
              · have d0 := Ext.cell_some hxw d0
                have d1 := Ext.cell_some hxw d1
                have d2 := Ext.cell_some hxw d2
                clear hj
                go_simp
                try go_bits
                first | rfl | (rw [if_pos (by omega), if_pos (by omega)]; go_simp; rfl) | (rw [if_pos (by omega)]; go_simp; rfl) | skip
              · have d0 := Ext.cell_some hxw d0
                have d1 := Ext.cell_some hxw d1
                have d2 := Ext.cell_some hxw d2
                clear hj
                go_simp
                try go_bits
                first | rfl | (rw [if_pos (by omega), if_pos (by omega)]; go_simp; rfl) | (rw [if_pos (by omega)]; go_simp; rfl) | skip
              · have d0 := Ext.cell_some hxw d0
                have d1 := Ext.cell_some hxw d1
                have d2 := Ext.cell_some hxw d2
                clear hj
                go_simp
                try go_bits
                first | rfl | (rw [if_pos (by omega), if_pos (by omega)]; go_simp; rfl) | (rw [if_pos (by omega)]; go_simp; rfl) | skip
              · have d0 := Ext.cell_some hxw d0
                have d1 := Ext.cell_some hxw d1
                have d2 := Ext.cell_some hxw d2
                clear hj
                go_simp
                try go_bits
                first | rfl | (rw [if_pos (by omega), if_pos (by omega)]; go_simp; rfl) | (rw [if_pos (by omega)]; go_simp; rfl) | skip
              · have d0 := Ext.cell_some hxw d0
                have d1 := Ext.cell_some hxw d1
                have d2 := Ext.cell_some hxw d2
                clear hj
                go_simp
                try go_bits
                rw [HG.out]
                exact impl_gives_any K n o _ _ hf HD.out.1 HD.out.2.1
              · have d0 := Ext.cell_some hxw d0
                have d1 := Ext.cell_some hxw d1
                have d2 := Ext.cell_some hxw d2
                clear hj
                go_simp
                try go_bits
                first | rfl | (rw [if_pos (by omega), if_pos (by omega)]; go_simp; rfl) | (rw [if_pos (by omega)]; go_simp; rfl) | skip
              · have d0 := Ext.cell_some hxw d0
                have d1 := Ext.cell_some hxw d1
                have d2 := Ext.cell_some hxw d2
                clear hj
                go_simp
                try go_bits
                first | rfl | (rw [if_pos (by omega), if_pos (by omega)]; go_simp; rfl) | (rw [if_pos (by omega)]; go_simp; rfl) | skip
              · have d0 := Ext.cell_some hxw d0
                have d1 := Ext.cell_some hxw d1
                have d2 := Ext.cell_some hxw d2
                clear hj
                go_simp
                try go_bits
                first | rfl | (rw [if_pos (by omega), if_pos (by omega)]; go_simp; rfl) | (rw [if_pos (by omega)]; go_simp; rfl) | skip
              · have d0 := Ext.cell_some hxw d0
                have d1 := Ext.cell_some hxw d1
                have d2 := Ext.cell_some hxw d2
                clear hj
                go_simp
                try go_bits
                first | rfl | (rw [if_pos (by omega), if_pos (by omega)]; go_simp; rfl) | (rw [if_pos (by omega)]; go_simp; rfl) | skip
              · have d0 := Ext.cell_some hxw d0
                have d1 := Ext.cell_some hxw d1
                have d2 := Ext.cell_some hxw d2
                clear hj
                go_simp
                try go_bits
                first | rfl | (rw [if_pos (by omega), if_pos (by omega)]; go_simp; rfl) | (rw [if_pos (by omega)]; go_simp; rfl) | skip
            case' hx5_49_p =>
              intro vs w5 hx5 hk
              clear hk
              replace d0 := Ext.cell_some hx5 d0
              replace d1 := Ext.cell_some hx5 d1
              replace d2 := Ext.cell_some hx5 d2
              replace bo1 := Blk.ext bo1 hx5
              replace hxw := Ext.trans hxw hx5
              go_simp
              clear d0 d1 d2 hx5
              go_wp2
              go_roundw
              case rel => exact ⟨x + 1, by omega, by go_num, hno.succ HFX.out, hxw, bo1⟩
              case measure => simp [intOf]; omega
        · have hneg : ¬ n ≤ S.size := by omega
          go_wp2
          refine wp_region_inv (by kernel_rfl) (.known ?hx5_50_v0 :: .known ?hx5_50_v1 :: .known ?hx5_50_v2 :: .known ?hx5_50_v3 :: .known ?hx5_50_v4 :: .known ?hx5_50_v5 :: .known ?hx5_50_v6 :: .known ?hx5_50_v7 :: .known ?hx5_50_v8 :: .known ?hx5_50_v9 :: .known ?hx5_50_v10 :: .known ?hx5_50_v11 :: .known ?hx5_50_v12 :: []) rfl (by kernel_rfl) ?hx5_50_s ?hx5_50_p
          case hx5_50_s =>
            intro vs
            refine ⟨fun w' hxw hj => ?_, fun w' hxw hj => ?_, fun w' hxw hj => ?_, fun w' hxw hj => ?_, fun w' hxw hj => ?_, fun w' hxw hj => ?_, fun w' hxw hj => ?_, fun w' hxw hj => ?_, fun w' hxw hj => ?_, fun w' hxw hj => ?_, fun w' hxw hj => ?_, fun w' hxw hj => ?_, fun w' hxw hj => ?_, trivial⟩
            · have d0 := Ext.cell_some hxw d0
              have d1 := Ext.cell_some hxw d1
              have d2 := Ext.cell_some hxw d2
              clear hj
              go_simp
              try go_bits
              first | rfl | (rw [if_pos (by omega), if_pos (by omega)]; go_simp; rfl) | (rw [if_pos (by omega)]; go_simp; rfl) | skip
            · have d0 := Ext.cell_some hxw d0
              have d1 := Ext.cell_some hxw d1
              have d2 := Ext.cell_some hxw d2
              clear hj
              go_simp
              try go_bits
              first | rfl | (rw [if_pos (by omega), if_pos (by omega)]; go_simp; rfl) | (rw [if_pos (by omega)]; go_simp; rfl) | skip
            · have d0 := Ext.cell_some hxw d0
              have d1 := Ext.cell_some hxw d1
              have d2 := Ext.cell_some hxw d2
              clear hj
              go_simp
              try go_bits
              first | rfl | (rw [if_pos (by omega), if_pos (by omega)]; go_simp; rfl) | (rw [if_pos (by omega)]; go_simp; rfl) | skip
            · have d0 := Ext.cell_some hxw d0
              have d1 := Ext.cell_some hxw d1
              have d2 := Ext.cell_some hxw d2
              clear hj
              go_simp
              try go_bits
              first | rfl | (rw [if_pos (by omega), if_pos (by omega)]; go_simp; rfl) | (rw [if_pos (by omega)]; go_simp; rfl) | skip
            · have d0 := Ext.cell_some hxw d0
              have d1 := Ext.cell_some hxw d1
              have d2 := Ext.cell_some hxw d2
              clear hj
              go_simp
              try go_bits
              first | rfl | (rw [if_pos (by omega), if_pos (by omega)]; go_simp; rfl) | (rw [if_pos (by omega)]; go_simp; rfl) | skip
            · have d0 := Ext.cell_some hxw d0
              have d1 := Ext.cell_some hxw d1
              have d2 := Ext.cell_some hxw d2
              clear hj
              go_simp
              try go_bits
              first | rfl | (rw [if_pos (by omega), if_pos (by omega)]; go_simp; rfl) | (rw [if_pos (by omega)]; go_simp; rfl) | skip
            · have d0 := Ext.cell_some hxw d0
              have d1 := Ext.cell_some hxw d1
              have d2 := Ext.cell_some hxw d2
              clear hj
              go_simp
              try go_bits
              first | rfl | (rw [if_pos (by omega), if_pos (by omega)]; go_simp; rfl) | (rw [if_pos (by omega)]; go_simp; rfl) | skip
            · have d0 := Ext.cell_some hxw d0
              have d1 := Ext.cell_some hxw d1
              have d2 := Ext.cell_some hxw d2
              clear hj
              go_simp
              try go_bits
              first | rfl | (rw [if_pos (by omega), if_pos (by omega)]; go_simp; rfl) | (rw [if_pos (by omega)]; go_simp; rfl) | skip
            · have d0 := Ext.cell_some hxw d0
              have d1 := Ext.cell_some hxw d1
              have d2 := Ext.cell_some hxw d2
              clear hj
              go_simp
              try go_bits
              first | rfl | (rw [if_pos (by omega), if_pos (by omega)]; go_simp; rfl) | (rw [if_pos (by omega)]; go_simp; rfl) | skip
            · have d0 := Ext.cell_some hxw d0
              have d1 := Ext.cell_some hxw d1
              have d2 := Ext.cell_some hxw d2
              clear hj
              go_simp
              try go_bits
              first | rfl | (rw [if_pos (by omega), if_pos (by omega)]; go_simp; rfl) | (rw [if_pos (by omega)]; go_simp; rfl) | skip
            · have d0 := Ext.cell_some hxw d0
              have d1 := Ext.cell_some hxw d1
              have d2 := Ext.cell_some hxw d2
              clear hj
              go_simp
              try go_bits
              first | rfl | (rw [if_pos (by omega), if_pos (by omega)]; go_simp; rfl) | (rw [if_pos (by omega)]; go_simp; rfl) | skip
            · have d0 := Ext.cell_some hxw d0
              have d1 := Ext.cell_some hxw d1
              have d2 := Ext.cell_some hxw d2
              clear hj
              go_simp
              try go_bits
              first | rfl | (rw [if_pos (by omega), if_pos (by omega)]; go_simp; rfl) | (rw [if_pos (by omega)]; go_simp; rfl) | skip
            · have d0 := Ext.cell_some hxw d0
              have d1 := Ext.cell_some hxw d1
              have d2 := Ext.cell_some hxw d2
              clear hj
              go_simp
              try go_bits
              first | rfl | (rw [if_pos (by omega), if_pos (by omega)]; go_simp; rfl) | (rw [if_pos (by omega)]; go_simp; rfl) | skip
          case' hx5_50_p =>
            intro vs w5 hx5 hk
            clear hk
            replace d0 := Ext.cell_some hx5 d0
            replace d1 := Ext.cell_some hx5 d1
            replace d2 := Ext.cell_some hx5 d2
            replace bo1 := Blk.ext bo1 hx5
            replace hxw := Ext.trans hxw hx5
            go_simp
            have hcall := IH.out (v ++ [letN x]) w5 (by have := HT.out.2.2.1; simp; omega) HL.out
            have hFx : F x = srcL K n o s.data.toList f (v ++ [letN x]) := by
              rcases HN.out with h | h
              · exact h.2
              · exfalso
                have h1 := h.1
                have e1 : (v ++ [letN x]).length < n := by have := HT.out.2.1; simp; omega
                unfold okS at h1
                simp at h1
                simp at e1
                omega
            rw [← HS.out.1, ← hFx] at hcall
            cases hq : F x with
            | none =>
              rw [hq] at hcall
              have hcall : Calls Try.prog 48 #[.agg #[.int .i64 K, .int .i64 n, .string o], .string s, .string S] w5 fun e w' => e = .returned (.tuple #[.string ⟨#[]⟩, .bool false]) ∧ Ext w5 w' := hcall
              have HQ := Lib.hid hq
              clear hq hFx
              go_wp2_with fail
              refine hcall.mono ?_
              rintro e w6 ⟨rfl, hx6⟩
              replace hxw := hxw.trans hx6
              replace bo1 := bo1.ext hx6
              clear hcall d0 d1 d2 hx6 hx5
              go_wp2
              go_roundw
              case rel => exact ⟨x + 1, by omega, by go_num, hno.succ HQ.out, hxw, bo1⟩
              case measure => simp [intOf]; omega
            | some q =>
              rw [hq] at hcall
              have hcall : Calls Try.prog 48 #[.agg #[.int .i64 K, .int .i64 n, .string o], .string s, .string S] w5 fun e w' => e = .returned (.tuple #[.string (mkS q), .bool true]) ∧ Ext w5 w' := hcall
              have HQ := Lib.hid hq
              clear hq hFx
              go_wp2_with fail
              refine hcall.mono ?_
              rintro e w6 ⟨rfl, hx6⟩
              replace hxw := hxw.trans hx6
              clear hcall d0 d1 d2 hx6 hx5
              go_wp2
              go_ret2
              exact ⟨by rw [HT.out.2.2.2, srcL_succ, ← HF.out, firstOf_hit hlt hno HQ.out]; rfl, hxw⟩
      · have hxK : x = K := by omega
        subst hxK
        go_wp2
        go_ret2
        exact ⟨by rw [HT.out.2.2.2, srcL_succ, ← HF.out, firstOf_none hno]; rfl, hxw⟩
end Go.Proofs.Ytfkdpeifnfpldaa
