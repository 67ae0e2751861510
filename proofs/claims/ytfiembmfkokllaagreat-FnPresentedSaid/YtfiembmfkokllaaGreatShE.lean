/- Contracts: the language of a shift, by the program. -/
import Derived.Test.YtfiembmfkokllaaGreatShD
namespace Go.Proofs.YtfiembmfkokllaaGreat
open Go.RowKit Go.Cm

theorem impl_language1_any (L : Int) (v z : Value) (F st : List (List UInt8)) (x : List UInt8) (b b' : Nat) (w : World) (h : ReadsW w v F) (hz : ReadsW w z st) (hm : MaxC w) (hl : x.length ≤ 1048576) (hst : ∀ u ∈ st, u.length ≤ 1048576)
    (c0 : w.cell? ⟨b, 0, none⟩ = some (.int .i64 L)) (c1 : w.cell? ⟨b, 1, none⟩ = some v) (d0 : w.cell? ⟨b', 0, none⟩ = some z) :
    Calls Tryz.prog 72 #[.string (mkS x), .pointer (some ⟨b, 0, none⟩), .pointer (some ⟨b', 0, none⟩)] w fun e w' => e = .returned (.bool (hasL F st x)) ∧ Ext w w' := by
  obtain ⟨pa, ca, rfl⟩ := h.slice
  obtain ⟨pz, cz, rfl⟩ := hz.slice
  have HM := Lib.hid (And.intro h (And.intro hz (And.intro hm hst)))
  clear h hz hm hst
  go_enter Tryz.func72, Tryz.ntmps72
  go_wp2_with fail
  with_reducible refine (impl_has_any L _ _ F st x _ HM.out.1 HM.out.2.1 HM.out.2.2.1 hl HM.out.2.2.2).mono ?_
  rintro e w1 ⟨rfl, hx⟩
  go_wp2
  go_ret
  exact ⟨rfl, hx⟩

theorem states_two {K : Nat} {F : List (List UInt8)} : ∀ u ∈ statesL K F, u.length = 2 := fun _ hu => wordsL_len (statesL_word hu)

set_option maxHeartbeats 1000000 in
theorem impl_language_any (K n : Nat) (v : Value) (F : List (List UInt8)) (w : World) (hK0 : 0 < K) (hK3 : K ≤ 3) (hn : n ≤ 6) (h : ReadsW w v F) (hm : MaxC w) :
    Calls Tryz.prog 33 #[.agg #[.int .i64 K, v], .int .i64 n] w fun e w' => ∃ z, e = .returned z ∧ Own w' w.heap.size 9 z (scells (languageL K F n)) ∧ Ext w w' := by
  obtain ⟨pa, ca, rfl⟩ := h.slice
  have hx := Ext.alloc w (.cells #[.int .i64 K, .slice pa F.length ca] 26)
  have c0 : (w.alloc (.cells #[.int .i64 K, .slice pa F.length ca] 26)).cell? ⟨w.heap.size, 0, none⟩ = some (.int .i64 K) := by simp
  have c1 : (w.alloc (.cells #[.int .i64 K, .slice pa F.length ca] 26)).cell? ⟨w.heap.size, 1, none⟩ = some (.slice pa F.length ca) := by simp
  have HS := Lib.hid (And.intro (h.ext hx) (hm.ext hx))
  clear h hm
  go_enter Tryz.func33, Tryz.ntmps33
  go_wp2_with fail
  with_reducible refine (impl_states_any K _ F _ hK0 hK3 HS.out.1 HS.out.2).mono ?_
  rintro e w1 ⟨z, rfl, hz, hx1⟩
  obtain ⟨pz, cz, rfl⟩ := (Own.readsW hz).slice
  replace c0 := hx1.cell_some c0
  replace c1 := hx1.cell_some c1
  have HZ := Lib.hid (And.intro (HS.out.1.ext hx1) (And.intro (HS.out.2.ext hx1) (Own.readsW hz)))
  have hxa := (hx.trans hx1).trans (Ext.alloc w1 (.cells #[.slice pz (statesL K F).length cz] 24))
  have HC := Lib.hid (show Calls Tryz.prog 71 #[.int .i64 K, .int .i64 n, .func (.func 72) #[] #[.pointer (some ⟨w.heap.size, 0, none⟩), .pointer (some ⟨w1.heap.size, 0, none⟩)]] (w1.alloc (.cells #[.slice pz (statesL K F).length cz] 24)) fun e w' => ∃ z, e = .returned z ∧ Own w' (w1.alloc (.cells #[.slice pz (statesL K F).length cz] 24)).heap.size 9 z (scells (languageL K F n)) ∧ Ext (w1.alloc (.cells #[.slice pz (statesL K F).length cz] 24)) w' from
    impl_filtered_any K n _ _ _ (hasL F (statesL K F)) _ hK0 hK3 hn lang_cf fun u w' hu hxu => by
      have hxq := (Ext.alloc w1 (.cells #[.slice pz (statesL K F).length cz] 24)).trans hxu
      have := impl_language1_any K _ _ F (statesL K F) u w.heap.size w1.heap.size w' (HZ.out.1.ext hxq) (HZ.out.2.2.ext hxq) (HZ.out.2.1.ext hxq) (by rw [wordsL_len hu]; omega) (fun u hu => by rw [states_two u hu]; omega) (hxq.cell_some c0) (hxq.cell_some c1) (hxu.cell_some (by simp))
      simpa using this)
  replace c0 := (Ext.alloc w1 (.cells #[.slice pz (statesL K F).length cz] 24)).cell_some c0
  clear hz hx hx1 HS
  go_wp2_with fail
  with_reducible refine HC.out.mono ?_
  rintro e w2 ⟨z2, rfl, hz2, hx2⟩
  go_wp2
  go_ret
  exact ⟨_, rfl, hz2.mono hxa.size, hxa.trans hx2⟩

/-- the language of a shift at whatever length -/
def langOf (L : Int) (F : List (List UInt8)) (n : Int) : List (List UInt8) := if shiftOk L F && (decide (0 ≤ n) && decide (n ≤ 6)) then languageL L.toNat F n.toNat else []
theorem langOf_yes {K n : Nat} {F : List (List UInt8)} (hf : ShFit K F) (hn : n ≤ 6) : langOf K F n = languageL K F n := by
  unfold langOf
  rw [if_pos (by rw [hf.ok]; simp; omega)]
  simp
theorem langOf_no {L n : Int} {F : List (List UInt8)} (h : shiftOk L F = false ∨ n < 0 ∨ 6 < n) : langOf L F n = [] := by
  unfold langOf
  rw [if_neg]
  rcases h with h | h | h
  · rw [h]; simp
  · simp; omega
  · simp; omega

set_option maxHeartbeats 1000000 in
theorem impl_LanguageOf_any (L n : Int) (v : Value) (F : List (List UInt8)) (w : World) (h : ReadsW w v F) (hm : MaxC w) (hF : ∀ f ∈ F, f.length ≤ maxLen) :
    Calls Tryz.prog 60 #[.agg #[.int .i64 L, v], .int .i64 n] w fun e w' => ∃ z, e = .returned z ∧ Own w' w.heap.size 9 z (scells (langOf L F n)) ∧ Ext w w' := by
  obtain ⟨pa, ca, rfl⟩ := h.slice
  have hx := Ext.alloc w (.cells #[.int .i64 L, .slice pa F.length ca] 26)
  have c0 : (w.alloc (.cells #[.int .i64 L, .slice pa F.length ca] 26)).cell? ⟨w.heap.size, 0, none⟩ = some (.int .i64 L) := by simp
  have c1 : (w.alloc (.cells #[.int .i64 L, .slice pa F.length ca] 26)).cell? ⟨w.heap.size, 1, none⟩ = some (.slice pa F.length ca) := by simp
  have HS := Lib.hid (And.intro (h.ext hx) (And.intro (hm.ext hx) hF))
  clear h hm hF
  obtain ⟨ok, hok⟩ : ∃ ok, ok = shiftOk L F := ⟨_, rfl⟩
  have hcall := fun w h => impl_IsShift_any L (.slice pa F.length ca) F w h HS.out.2.2
  rw [← hok] at hcall
  have HC := Lib.hid (And.intro hcall hok)
  clear hcall hok
  cases ok
  · have HN := Lib.hid (langOf_no (n := n) (.inl HC.out.2.symm))
    go_enter Tryz.func60, Tryz.ntmps60
    go_wp2_with fail
    with_reducible refine (HC.out.1 _ HS.out.1).mono ?_
    rintro e w1 ⟨rfl, hx1⟩
    have hxa := hx.trans hx1
    clear hx hx1 c0 c1
    go_wp2
    go_ret
    exact ⟨_, rfl, by rw [HN.out]; exact Own.nil _ _ _, hxa⟩
  by_cases h0 : n < 0
  · have HN := Lib.hid (langOf_no (L := L) (F := F) (.inr (.inl h0)))
    go_enter Tryz.func60, Tryz.ntmps60
    go_wp2_with fail
    with_reducible refine (HC.out.1 _ HS.out.1).mono ?_
    rintro e w1 ⟨rfl, hx1⟩
    have hxa := hx.trans hx1
    clear hx hx1 c0 c1
    go_wp2
    go_ret
    exact ⟨_, rfl, by rw [HN.out]; exact Own.nil _ _ _, hxa⟩
  by_cases h6 : 6 < n
  · have HN := Lib.hid (langOf_no (L := L) (F := F) (.inr (.inr h6)))
    go_enter Tryz.func60, Tryz.ntmps60
    go_wp2_with fail
    with_reducible refine (HC.out.1 _ HS.out.1).mono ?_
    rintro e w1 ⟨rfl, hx1⟩
    have hxa := hx.trans hx1
    clear hx hx1 c0 c1
    go_wp2
    go_ret
    exact ⟨_, rfl, by rw [HN.out]; exact Own.nil _ _ _, hxa⟩
  obtain ⟨K, rfl, hf⟩ := ShFit.of HC.out.2.symm
  obtain ⟨m, rfl⟩ := Int.eq_ofNat_of_zero_le (show 0 ≤ n by omega)
  have hm6 : m ≤ 6 := by omega
  have hK0 := hf.k1
  have hK3 := hf.k3
  have HN := Lib.hid (langOf_yes hf hm6)
  clear hf
  go_enter Tryz.func60, Tryz.ntmps60
  go_wp2_with fail
  with_reducible refine (HC.out.1 _ HS.out.1).mono ?_
  rintro e w1 ⟨rfl, hx1⟩
  have hxa := hx.trans hx1
  replace c0 := hx1.cell_some c0
  replace c1 := hx1.cell_some c1
  have HS1 := Lib.hid (And.intro (HS.out.1.ext hx1) (HS.out.2.1.ext hx1))
  clear hx hx1
  go_wp2_with fail
  with_reducible refine (impl_language_any K m _ F _ (by omega) hK3 hm6 HS1.out.1 HS1.out.2).mono ?_
  rintro e w2 ⟨z, rfl, hz, hx2⟩
  go_wp2
  go_ret
  exact ⟨_, rfl, by rw [HN.out]; exact hz.mono hxa.size, hxa.trans hx2⟩

set_option maxHeartbeats 1000000 in
theorem impl_StatesOf_any (L : Int) (v : Value) (F : List (List UInt8)) (w : World) (h : ReadsW w v F) (hm : MaxC w) (hF : ∀ f ∈ F, f.length ≤ maxLen) :
    Calls Tryz.prog 22 #[.agg #[.int .i64 L, v]] w fun e w' => ∃ z, e = .returned z ∧ Own w' w.heap.size 9 z (scells (langOf L F 2)) ∧ Ext w w' := by
  obtain ⟨pa, ca, rfl⟩ := h.slice
  have hx := Ext.alloc w (.cells #[.int .i64 L, .slice pa F.length ca] 26)
  have HS := Lib.hid (And.intro (h.ext hx) (And.intro (hm.ext hx) hF))
  clear h hm hF
  go_enter Tryz.func22, Tryz.ntmps22
  go_wp2_with fail
  with_reducible refine (impl_LanguageOf_any L 2 _ F _ HS.out.1 HS.out.2.1 HS.out.2.2).mono ?_
  rintro e w2 ⟨z, rfl, hz, hx2⟩
  go_wp2
  go_ret
  exact ⟨_, rfl, hz.mono hx.size, hx.trans hx2⟩
end Go.Proofs.YtfiembmfkokllaaGreat
