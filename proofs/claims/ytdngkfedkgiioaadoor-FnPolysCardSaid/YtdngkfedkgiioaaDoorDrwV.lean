/- Contracts: the draws of the laws of matrices and polynomials. -/
import Derived.Test.YtdngkfedkgiioaaDoorDrwU
import Derived.Test.YtdngkfedkgiioaaDoorPkR
import Derived.Test.YtdngkfedkgiioaaDoorGroA
namespace Go.Proofs.YtdngkfedkgiioaaDoor
open Go.RowKit Go.Cm Go.Mx

theorem spec_DrawCharPoly_any (v : Value) (xs : List UInt8) (w : World) (h : ReadsB w v xs) :
    Calls Tryd.prog 6 #[v] w fun e w' => ∃ u T, e = .returned u ∧ ReadsRows w' u T ∧ Ext w w' := by
  have ho := OldB.start h
  clear h
  go_enter Tryd.func6, Tryd.ntmps6
  go_wp2_with fail
  with_reducible refine ho.new.mono ?_
  rintro e w1 ⟨z, rfl, hz, c, hx⟩
  have hlt := c.lt
  go_wp2_with fail
  with_reducible refine (spec_l4Bent_any _ z _ c).mono ?_
  rintro e w2 ⟨u, T, rfl, -, hT, hd⟩
  replace hx := hd.toExt hx hz
  have HT := Lib.hid hT.reads
  clear hT hd
  go_wp2
  go_ret
  exact ⟨u, T, rfl, HT.out, hx⟩

set_option maxRecDepth 100000 in
theorem spec_DrawMultiplyPolys_any (v : Value) (xs : List UInt8) (w : World) (h : ReadsB w v xs) :
    Calls Tryd.prog 12 #[v] w fun e w' => ∃ u u' a b, e = .returned (.tuple #[u, u']) ∧ ReadsI w' u a ∧ ReadsI w' u' b ∧ (a.length ≤ 5 ∧ InI64 a) ∧ (b.length ≤ 5 ∧ InI64 b) ∧ Ext w w' := by
  have ho := OldB.start h
  clear h
  go_enter Tryd.func12, Tryd.ntmps12
  go_wp2_with fail
  with_reducible refine ho.new.mono ?_
  rintro e w1 ⟨z, rfl, hz, c, hx⟩
  have hlt := c.lt
  go_wp2_with fail
  with_reducible refine (spec_l7Draw_any _ z _ c).mono ?_
  rintro e w2 ⟨g, cp, P, rfl, hP, ho1, hd⟩
  have hg := ho1.lt
  go_wp2_with fail
  with_reducible refine (spec_l7Draw_any _ z _ hd.cur).mono ?_
  rintro e w3 ⟨g', cp', Q, rfl, hQ, ho2, hd2⟩
  replace ho1 := hd2.row ho1 (by omega)
  replace hd := hd.trans hd2
  replace hx := hd.toExt hx hz
  have HT := Lib.hid (And.intro ho1.readsI (And.intro ho2.readsI (And.intro hP hQ)))
  clear ho1 ho2 hP hQ hd hd2
  go_wp2
  refine bodyPost_ret (v := .tuple #[.slice (some ⟨g, 0, none⟩) P.length cp, .slice (some ⟨g', 0, none⟩) Q.length cp']) (by simp [results, Tryd.results12, go_sem]) rfl ?_
  exact ⟨_, _, P, Q, rfl, HT.out.1, HT.out.2.1, HT.out.2.2.1, HT.out.2.2.2, hx⟩

set_option maxRecDepth 100000 in
theorem spec_DrawPolyAt_any (v : Value) (xs : List UInt8) (w : World) (h : ReadsB w v xs) :
    Calls Tryd.prog 14 #[v] w fun e w' => ∃ u a x, e = .returned (.tuple #[u, .int .i64 x]) ∧ ReadsI w' u a ∧ (a.length ≤ 5 ∧ InI64 a) ∧ Ext w w' := by
  have ho := OldB.start h
  clear h
  go_enter Tryd.func14, Tryd.ntmps14
  go_wp2_with fail
  with_reducible refine ho.new.mono ?_
  rintro e w1 ⟨z, rfl, hz, c, hx⟩
  have hlt := c.lt
  go_wp2_with fail
  with_reducible refine (spec_l7Draw_any _ z _ c).mono ?_
  rintro e w2 ⟨g, cp, P, rfl, hP, ho1, hd⟩
  have hg := ho1.lt
  go_wp2_with fail
  refine (pickInt_lit (cs := #[.int .i64 0, .int .i64 1, .int .i64 (-1), .int .i64 2, .int .i64 3, .int .i64 (-5), .int .i64 1000, .int .i64 1001]) hd.cur (l := [0, 1, -1, 2, 3, -5, 1000, 1001]) rfl (by omega) (by decide) (by omega) (by omega)).mono ?_
  rintro e w3 ⟨x, rfl, -, hd2⟩
  replace ho1 := hd2.row ho1 (by omega)
  replace hd := hd.trans hd2
  replace hx := hd.toExt hx hz
  have HT := Lib.hid (And.intro ho1.readsI hP)
  clear ho1 hP hd hd2
  go_wp2
  refine bodyPost_ret (v := .tuple #[.slice (some ⟨g, 0, none⟩) P.length cp, .int .i64 x]) (by simp [results, Tryd.results14, go_sem]) rfl ?_
  exact ⟨_, P, x, rfl, HT.out.1, HT.out.2, hx⟩

set_option maxRecDepth 100000 in
theorem spec_l8Case_any (v : Value) (xs : List UInt8) (w : World) (h : ReadsB w v xs) :
    Calls Tryd.prog 68 #[v] w fun e w' => ∃ u T d, e = .returned (.tuple #[u, .int .i64 d]) ∧ ReadsRows w' u T ∧ (-1000 ≤ d ∧ d ≤ 1000) ∧ Ext w w' := by
  have ho := OldB.start h
  clear h
  go_enter Tryd.func68, Tryd.ntmps68
  go_wp2_with fail
  with_reducible refine ho.new.mono ?_
  rintro e w1 ⟨z, rfl, hz, c, hx⟩
  have hlt := c.lt
  go_wp2_with fail
  with_reducible refine (spec_l4Bent_any _ z _ c).mono ?_
  rintro e w2 ⟨u, T, rfl, -, hT, hd⟩
  go_wp2_with fail
  refine (pickInt_lit (cs := #[.int .i64 1, .int .i64 2, .int .i64 10, .int .i64 100, .int .i64 7, .int .i64 0, .int .i64 101]) hd.cur (l := [1, 2, 10, 100, 7, 0, 101]) rfl (by omega) (by decide) (by omega) (by omega)).mono ?_
  rintro e w3 ⟨x, rfl, hxm, hd2⟩
  have hxb : -1000 ≤ x ∧ x ≤ 1000 := by simp at hxm; omega
  replace hT := hT.drawn hd2 hlt
  replace hd := hd.trans hd2
  replace hx := hd.toExt hx hz
  have HT := Lib.hid (And.intro hT.reads hxb)
  clear hT hxb hxm hd hd2
  go_wp2
  refine bodyPost_ret (v := .tuple #[u, .int .i64 x]) (by simp [results, Tryd.results68, go_sem]) rfl ?_
  exact ⟨_, T, x, rfl, HT.out.1, HT.out.2, hx⟩

set_option maxRecDepth 100000 in
theorem spec_DrawFloorOfGrowth_any (v : Value) (xs : List UInt8) (w : World) (h : ReadsB w v xs) :
    Calls Tryd.prog 29 #[v] w fun e w' => ∃ u T d, e = .returned (.tuple #[u, .int .i64 d]) ∧ ReadsRows w' u T ∧ (-1000 ≤ d ∧ d ≤ 1000) ∧ Ext w w' := by
  go_enter Tryd.func29, Tryd.ntmps29
  go_wp2_with fail
  with_reducible refine (spec_l8Case_any v xs _ h).mono ?_
  rintro e w1 ⟨u, T, d, rfl, hT, hd, hx⟩
  have HT := Lib.hid (And.intro hT hd)
  clear hT hd h
  go_wp2
  refine bodyPost_ret (v := .tuple #[u, .int .i64 d]) (by simp [results, Tryd.results29, go_sem]) rfl ?_
  exact ⟨_, T, d, rfl, HT.out.1, HT.out.2, hx⟩

set_option maxRecDepth 100000 in
set_option maxHeartbeats 1000000 in
theorem spec_DrawIsBelow_any (v : Value) (xs : List UInt8) (w : World) (h : ReadsB w v xs) :
    Calls Tryd.prog 31 #[v] w fun e w' => ∃ u T q d, e = .returned (.tuple #[u, .int .i64 q, .int .i64 d]) ∧ ReadsRows w' u T ∧ Ext w w' := by
  have ho := OldB.start h
  clear h
  go_enter Tryd.func31, Tryd.ntmps31
  go_wp2_with fail
  with_reducible refine ho.new.mono ?_
  rintro e w1 ⟨z, rfl, hz, c, hx⟩
  have hlt := c.lt
  go_wp2_with fail
  with_reducible refine (spec_l4Bent_any _ z _ c).mono ?_
  rintro e w2 ⟨u, T, rfl, -, hT, hd⟩
  go_wp2_with fail
  refine (pickInt_lit (cs := #[.int .i64 1, .int .i64 1, .int .i64 2, .int .i64 10, .int .i64 100, .int .i64 0, .int .i64 101]) hd.cur (l := [1, 1, 2, 10, 100, 0, 101]) rfl (by omega) (by decide) (by omega) (by omega)).mono ?_
  rintro e w3 ⟨d, rfl, hxm, hd2⟩
  replace hT := hT.drawn hd2 hlt
  replace hd := hd.trans hd2
  have hfl := spec_FloorOfGrowth_any u T d w3 hT.reads
  have hfb := floorV_bd T d
  obtain ⟨q, hq⟩ : ∃ q, q = floorV T d := ⟨_, rfl⟩
  rw [← hq] at hfl hfb
  have HF := Lib.hid hfl
  clear hfl hxm hd2 hq
  go_wp2_with fail
  with_reducible refine HF.out.mono ?_
  rintro e w4 ⟨rfl, hy⟩
  replace hT := hT.ext hy
  replace hd := hd.ext hy
  clear hy HF
  by_cases hq0 : 0 ≤ q
  · go_wp2_with fail
    with_reducible refine (spec_l1Once_any _ z _ _ hd.cur).mono ?_
    rintro e w5 ⟨b, rfl, hd2⟩
    replace hT := hT.drawn hd2 hlt
    replace hd := hd.trans hd2
    clear hd2
    cases b
    · go_wp2_with fail
      with_reducible refine (spec_l1Below_any _ z _ _ hd.cur).mono ?_
      rintro e w6 ⟨r, rfl, hr, -, hd2⟩
      have hr : r < 3 := by have := hr (by omega); omega
      replace hT := hT.drawn hd2 hlt
      replace hd := hd.trans hd2
      replace hx := hd.toExt hx hz
      have HT := Lib.hid hT.reads
      clear hT hd hd2
      go_wp2
      refine bodyPost_ret (v := .tuple #[u, .int .i64 (q + (r : Int)), .int .i64 d]) (by simp [results, Tryd.results31, go_sem]) rfl ?_
      exact ⟨_, T, _, _, rfl, HT.out, hx⟩
    · skip
      go_wp2_with fail
      refine (pickInt_lit (cs := #[.int .i64 (-1), .int .i64 0, .int .i64 1, .int .i64 2, .int .i64 3600, .int .i64 3601]) hd.cur (l := [-1, 0, 1, 2, 3600, 3601]) rfl (by omega) (by decide) (by omega) (by omega)).mono ?_
      rintro e w6 ⟨r, rfl, -, hd2⟩
      replace hT := hT.drawn hd2 hlt
      replace hd := hd.trans hd2
      replace hx := hd.toExt hx hz
      have HT := Lib.hid hT.reads
      clear hT hd hd2
      go_wp2
      refine bodyPost_ret (v := .tuple #[u, .int .i64 r, .int .i64 d]) (by simp [results, Tryd.results31, go_sem]) rfl ?_
      exact ⟨_, T, _, _, rfl, HT.out, hx⟩
  · skip
    go_wp2_with fail
    refine (pickInt_lit (cs := #[.int .i64 (-1), .int .i64 0, .int .i64 1, .int .i64 2, .int .i64 3600, .int .i64 3601]) hd.cur (l := [-1, 0, 1, 2, 3600, 3601]) rfl (by omega) (by decide) (by omega) (by omega)).mono ?_
    rintro e w6 ⟨r, rfl, -, hd2⟩
    replace hT := hT.drawn hd2 hlt
    replace hd := hd.trans hd2
    replace hx := hd.toExt hx hz
    have HT := Lib.hid hT.reads
    clear hT hd hd2
    go_wp2
    refine bodyPost_ret (v := .tuple #[u, .int .i64 r, .int .i64 d]) (by simp [results, Tryd.results31, go_sem]) rfl ?_
    exact ⟨_, T, _, _, rfl, HT.out, hx⟩

set_option maxRecDepth 100000 in
theorem spec_DrawCompareGrowth_any (v : Value) (xs : List UInt8) (w : World) (h : ReadsB w v xs) :
    Calls Tryd.prog 32 #[v] w fun e w' => ∃ u u' T T' d, e = .returned (.tuple #[u, u', .int .i64 d]) ∧ ReadsRows w' u T ∧ ReadsRows w' u' T' ∧ Ext w w' := by
  have ho := OldB.start h
  clear h
  go_enter Tryd.func32, Tryd.ntmps32
  go_wp2_with fail
  with_reducible refine ho.new.mono ?_
  rintro e w1 ⟨z, rfl, hz, c, hx⟩
  have hlt := c.lt
  go_wp2_with fail
  with_reducible refine (spec_l4Bent_any _ z _ c).mono ?_
  rintro e w2 ⟨u, T, rfl, -, hT, hd⟩
  go_wp2_with fail
  with_reducible refine (spec_l4Bent_any _ z _ hd.cur).mono ?_
  rintro e w3 ⟨u', T', rfl, -, hT', hd2⟩
  have hlt2 := hd.cur.lt
  replace hT := hT.drawn hd2 hlt
  replace hd := hd.trans hd2
  clear hd2
  go_wp2_with fail
  refine (pickInt_lit (cs := #[.int .i64 1, .int .i64 10, .int .i64 100, .int .i64 0]) hd.cur (l := [1, 10, 100, 0]) rfl (by omega) (by decide) (by omega) (by omega)).mono ?_
  rintro e w4 ⟨d, rfl, -, hd2⟩
  replace hT := hT.drawn hd2 hlt
  replace hT' := hT'.drawn hd2 hlt2
  replace hd := hd.trans hd2
  replace hx := hd.toExt hx hz
  have HT := Lib.hid (And.intro hT.reads hT'.reads)
  clear hT hT' hd hd2
  go_wp2
  refine bodyPost_ret (v := .tuple #[u, u', .int .i64 d]) (by simp [results, Tryd.results32, go_sem]) rfl ?_
  exact ⟨_, _, T, T', d, rfl, HT.out.1, HT.out.2, hx⟩
end Go.Proofs.YtdngkfedkgiioaaDoor
