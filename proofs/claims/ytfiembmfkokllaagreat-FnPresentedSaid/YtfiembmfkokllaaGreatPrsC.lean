/- Contracts: a word put into the nil list; a shift read from any text. -/
import Derived.Test.YtfiembmfkokllaaGreatPrsB
import Derived.Test.YtfiembmfkokllaaGreatPkF
import Derived.Test.YtfiembmfkokllaaGreatMeetA
import Derived.Test.YtfiembmfkokllaaGreatPkG
namespace Go.Proofs.YtfiembmfkokllaaGreat
open Go.RowKit Go.Cm

theorem reads_none (w : World) : Reads w (.slice none 0 0) [] := ⟨none, 0, rfl, Nat.le_refl _, Nat.zero_le _, fun i hi => by simp at hi⟩
theorem ext_none {w w' : World} (h : w.grownBy w' none) : Ext w w' := (Ext.refl w).grown h (fun k e => by cases e)

set_option maxRecDepth 100000 in
set_option maxHeartbeats 1000000 in
theorem spec_l2Put_nil (x : List UInt8) (w : World) :
    Calls Tryz.prog 48 #[.slice none 0 0, .string (mkS x)] w fun e w' => ∃ v, e = .returned v ∧ Own w' w.heap.size 9 v (scells [x]) ∧ Ext w w' := by
  go_enter Tryz.func48, Tryz.ntmps48
  go_wp2
  go_loop [5] (fun i => i = .int .i64 0) (fun _ => 0)
  case atStart => rfl
  case round =>
    subst hrel
    go_wp2_with (first
      | (at_builtin; refine wpList_append_reads rfl (.tmp 34) (.tmp 37) 24 rfl 9 _ _ Tryz.underlying24 infoStr rfl w.heap.size (.slice (some ⟨w.heap.size, 0, none⟩) 0 0) [] rfl (Own.lit w 9 [] (by simp)) (.slice none 0 0) [] rfl (reads_none _) (by simp) (by simp) (by simp) (by simp) ?_; intro v3 w3 ho3 hgb3 hmv3; have H3 := Lib.hid (And.intro (show Own w3 w.heap.size 9 v3 [] from ho3) (show Ext w w3 from (Ext.alloc w (.cells #[] 9)).grown hgb3 (fun k hk => by cases hk; exact Nat.le_refl _))); clear ho3 hgb3 hmv3)
      | (at_builtin; refine wpList_append_one rfl (.tmp 41) (.tmp 43) 24 rfl 9 _ _ Tryz.underlying24 infoStr rfl w.heap.size (.slice none 0 0) [] rfl (Own.nil _ _ _) w3.heap.size (.string (mkS x)) rfl (by simp) rfl (by simp [maxLen]) (by simp) w rfl (H3.out.2.trans (Ext.alloc _ _)) ?_; intro v4 w4 ho4 hx4 hg4; have H4 := Lib.hid (And.intro (show Own w4 w.heap.size 9 v4 [.string (mkS x)] from ho4) (And.intro hx4 (H3.out.1.ext ((Ext.alloc _ _).trans (ext_none hg4.1))))); clear ho4 hx4 hg4)
      | (at_builtin; refine wpList_append_reads rfl (.tmp 44) (.tmp 45) 24 rfl 9 _ _ Tryz.underlying24 infoStr rfl w.heap.size v4 [.string (mkS x)] rfl H4.out.1 v3 [] rfl (Own.reads H4.out.2.2) (by simp) (by simp [maxLen]) (by simp) H4.out.2.1.size ?_; intro v5 w5 ho5 hgb5 hmv5))
    have HX := Lib.hid (And.intro ho5 (H4.out.2.1.grown hgb5 (fun k hk => (World.ownsRow.lt H4.out.1 k hk).1)))
    clear ho5 hgb5 hmv5
    go_wp2
    go_ret
    exact ⟨v5, rfl, by simpa [scells] using HX.out.1, HX.out.2⟩

/-- what a drawn or read shift is -/
def ShR (N : Nat) (w : World) (B : Nat) (v : Value) : Prop := ∃ (L : Int) (q : Option Addr) (n c : Nat) (F : List (List UInt8)), v = .agg #[.int .i64 L, .slice q n c] ∧ Own w B 9 (.slice q n c) (scells F) ∧ (∀ f ∈ F, f.length ≤ 100000) ∧ F.length ≤ N

theorem spec_SplitBlank (s : List UInt8) (w : World) (hs : s.length ≤ 900) :
    Calls Tryz.prog 107 #[.string (mkS s), .int .u8 32] w fun e w' => ∃ g c, e = .returned (.slice (some ⟨g, 0, none⟩) (splitL 32 s).length c) ∧ Own w' w.heap.size 9 (.slice (some ⟨g, 0, none⟩) (splitL 32 s).length c) (scells (splitL 32 s)) ∧ Ext w w' :=
  (spec_SplitByte_any s 32 w (by omega)).mono (by
    rintro e w' ⟨z, rfl, ho, hx⟩
    rcases ho.shape with ⟨_, hn⟩ | ⟨g, c, rfl, _⟩
    · exact absurd (by simpa [scells] using hn) (splitL_ne 32 s)
    · exact ⟨g, c, by rw [scells_length], by rw [scells_length] at ho; exact ho, hx⟩)

theorem Own.tail {w : World} {B : Nat} {E : TypeId} {g n c : Nat} {p : List UInt8} {F : List (List UInt8)} (h : Own w B E (.slice (some ⟨g, 0, none⟩) n c) (scells (p :: F))) : Reads w (.slice (some ⟨g, 1, none⟩) (n - 1) (c - 1)) (scells F) := by
  have hn := h.len
  rw [scells_length, List.length_cons] at hn
  rcases h.shape with ⟨e, _⟩ | ⟨g', c', e, _, _, h1, h2⟩
  · cases e
  · injection e with e1 e2 e3
    subst e3
    rw [scells_length, List.length_cons] at h1
    refine ⟨some ⟨g, 1, none⟩, c - 1, by rw [scells_length, hn]; rfl, by rw [scells_length]; omega, by omega, fun i hi => ⟨g, 1, rfl, ?_⟩⟩
    rw [scells_length] at hi
    have := h.cell (1 + i) (by rw [scells_length, List.length_cons]; omega)
    rw [this]
    simp [scells, Nat.add_comm 1 i]

set_option maxRecDepth 100000 in
set_option maxHeartbeats 2000000 in
theorem spec_ParseShift_any (s : List UInt8) (w : World) (hs : s.length ≤ 900) :
    Calls Tryz.prog 91 #[.string (mkS s)] w fun e w' => ∃ v b, e = .returned (.tuple #[v, .bool b]) ∧ ShR 1000 w' w.heap.size v ∧ Ext w w' := by
  have hx0 := Ext.alloc w (.cells #[.int .i64 0, .slice none 0 0] 26)
  have br : Blk (w.alloc (.cells #[.int .i64 0, .slice none 0 0] 26)) w.heap.size #[.int .i64 0, .slice none 0 0] := by (repeat (first | (refine Blk.mk' ?_; (simp; done)) | apply Blk.old))
  have HS := Lib.hid (spec_SplitBlank s (w.alloc (.cells #[.int .i64 0, .slice none 0 0] 26)) hs)
  have hmem := splitL_mem 32 s
  have hcnt := splitL_len 32 s
  have hne := splitL_ne 32 s
  obtain ⟨A, hA⟩ : ∃ A, A = splitL 32 s := ⟨_, rfl⟩
  rw [← hA] at HS hmem hcnt hne
  obtain ⟨p, F, rfl⟩ : ∃ p F, A = p :: F := by
    cases A with
    | nil => exact absurd rfl hne
    | cons p F => exact ⟨p, F, rfl⟩
  obtain ⟨n, hn⟩ : ∃ n, n = (p :: F).length := ⟨_, rfl⟩
  have hn1 : n = F.length + 1 := by rw [hn, List.length_cons]
  have hn2 : 1 ≤ n := by omega
  have hn3 : n ≤ 901 := by omega
  rw [← hn] at HS
  have hF : ∀ f ∈ F, f.length ≤ 900 := fun f hf => Nat.le_trans (hmem f (List.mem_cons_of_mem _ hf)) hs
  have hp : p.length ≤ 900 := Nat.le_trans (hmem p List.mem_cons_self) hs
  have HP := Lib.hid (And.intro (fun w => spec_ParseInt_any p w (by omega)) (And.intro hF hn1))
  clear hA hmem hcnt hne hF hp hn hn1
  go_enter Tryz.func91, Tryz.ntmps91
  go_wp2_with fail
  with_reducible refine HS.out.mono ?_
  rintro e w1 ⟨g, c, rfl, hz, hy⟩
  have hx := hx0.trans hy
  replace br := br.ext hy
  have hcell := hz.cell 0 (by rw [scells_length]; simp)
  rw [scells_at _ _ (by simp)] at hcell
  have hfr := hz.frozen 0
  have hcap := (Own.readsW hz).len
  have hgl := World.ownsRow.lt hz g rfl
  clear hy HS hx0
  have hc2 : n ≤ c ∧ c ≤ 9223372036854775807 := by
    rcases hz.shape with ⟨h, _⟩ | ⟨g', c', h, _, _, h1, h2⟩
    · cases h
    · injection h with h3 h4 h5
      unfold maxLen at h2
      omega
  obtain ⟨hc1, hc2⟩ := hc2
  have HZ := Lib.hid (And.intro hz hgl)
  clear hz hgl hcap
  go_wp2_with fail
  with_reducible refine (HP.out.1 _).mono ?_
  rintro e w2 ⟨L, b, rfl, -, hb, hy⟩
  replace hx := hx.trans hy
  replace br := br.ext hy
  have HZ2 := Lib.hid (And.intro (HZ.out.1.ext hy) HZ.out.2)
  clear HZ hcell hy
  have hrw := br.lt
  have hFm : ∀ f ∈ F, f.length ≤ maxLen := fun f hf => by have := HP.out.2.1 f hf; unfold maxLen; omega
  have hFk : ∀ f ∈ F, f.length ≤ 100000 := fun f hf => by have := HP.out.2.1 f hf; omega
  have hFn : F.length ≤ 1000 := by have := HP.out.2.2; omega
  have HI := Lib.hid (And.intro hFm (And.intro hFk (And.intro hFn hrw)))
  clear hFm hFk hFn hrw
  by_cases hn1 : n = 1
  · have hF0 : F = [] := List.eq_nil_of_length_eq_zero (by have := HP.out.2.2; omega)
    have H3 := Lib.hid (And.intro (show Own (w2.alloc (.cells #[] 9)) w2.heap.size 9 (.slice (some ⟨w2.heap.size, 0, none⟩) 0 0) (scells F) by rw [hF0]; exact Own.lit w2 9 [] (by simp)) (Ext.alloc w2 (.cells #[] 9)))
    clear hF0
    by_cases hc : c = 1
    · subst hn1 hc
      go_upto_region 4 with fail
      have br3 := (br.ext H3.out.2).ext (Ext.alloc (w2.alloc (.cells #[] 9)) (.cells #[.int .i64 L, .slice (some ⟨w2.heap.size, 0, none⟩) 0 0] 26))
      have bx : Blk ((w2.alloc (.cells #[] 9)).alloc (.cells #[.int .i64 L, .slice (some ⟨w2.heap.size, 0, none⟩) 0 0] 26)) (w2.heap.size + 1) #[.int .i64 L, .slice (some ⟨w2.heap.size, 0, none⟩) 0 0] := by (repeat (first | (refine Blk.mk' ?_; (simp; done)) | apply Blk.old))
      have hx4 := (hx.trans H3.out.2).trans (Ext.alloc (w2.alloc (.cells #[] 9)) (.cells #[.int .i64 L, .slice (some ⟨w2.heap.size, 0, none⟩) 0 0] 26))
      have ho4 := H3.out.1.ext (Ext.alloc (w2.alloc (.cells #[] 9)) (.cells #[.int .i64 L, .slice (some ⟨w2.heap.size, 0, none⟩) 0 0] 26))
      have hI4 := spec_IsShift_any L (.slice (some ⟨w2.heap.size, 0, none⟩) 0 0) F ((w2.alloc (.cells #[] 9)).alloc (.cells #[.int .i64 L, .slice (some ⟨w2.heap.size, 0, none⟩) 0 0] 26)) (Own.readsW ho4) HI.out.1
      obtain ⟨X, hX⟩ : ∃ X, X = w2.heap.size + 1 := ⟨_, rfl⟩
      obtain ⟨w4, hw4⟩ : ∃ w4, w4 = (w2.alloc (.cells #[] 9)).alloc (.cells #[.int .i64 L, .slice (some ⟨w2.heap.size, 0, none⟩) 0 0] 26) := ⟨_, rfl⟩
      rw [← hX] at bx ⊢
      rw [← hw4] at br3 bx hx4 ho4 hI4 ⊢
      obtain ⟨ok, hok⟩ : ∃ ok, ok = shiftOk L F := ⟨_, rfl⟩
      rw [← hok] at hI4
      have HO := Lib.hid (And.intro ho4 hI4)
      clear hX hw4 H3 br ho4 hI4 hok hx
      cases b
      · skip
        have r0 := br3.cell 0 (.int .i64 0) rfl
        have r1 := br3.cell 1 (.slice none 0 0) rfl
        have f0 := br3.frozen 0
        have f1 := br3.frozen 1
        go_wp2
        refine bodyPost_ret (v := .tuple #[.agg #[.int .i64 0, .slice none 0 0], .bool false]) ?_ rfl ⟨_, _, rfl, ⟨0, _, _, _, [], rfl, Own.nil _ _ _, by simp, by simp⟩, (hx4.setCell (by simp) _).setCell (by simp) _⟩
        simp [results, Tryz.results91, go_sem, r0, r1]
      · have x0 := bx.cell 0 (.int .i64 L) rfl
        have x1 := bx.cell 1 (.slice (some ⟨w2.heap.size, 0, none⟩) 0 0) rfl
        go_wp2_with fail
        with_reducible refine HO.out.2.mono ?_
        rintro e w5 ⟨rfl, hy5⟩
        clear x0 x1
        have hx5 := hx4.trans hy5
        have br5 := br3.ext hy5
        have bx5 := bx.ext hy5
        have ho5 := HO.out.1.ext hy5
        cases ok
        · clear bx
          have r0 := br5.cell 0 (.int .i64 0) rfl
          have r1 := br5.cell 1 (.slice none 0 0) rfl
          have f0 := br5.frozen 0
          have f1 := br5.frozen 1
          go_wp2
          refine bodyPost_ret (v := .tuple #[.agg #[.int .i64 0, .slice none 0 0], .bool false]) ?_ rfl ⟨_, _, rfl, ⟨0, _, _, _, [], rfl, Own.nil _ _ _, by simp, by simp⟩, (hx5.setCell (by simp) _).setCell (by simp) _⟩
          simp [results, Tryz.results91, go_sem, r0, r1]
        · have r0 := br5.cell 0 (.int .i64 0) rfl
          have r1 := br5.cell 1 (.slice none 0 0) rfl
          have f0 := br5.frozen 0
          have f1 := br5.frozen 1
          have x0 := bx5.cell 0 (.int .i64 L) rfl
          have x1 := bx5.cell 1 (.slice (some ⟨w2.heap.size, 0, none⟩) 0 0) rfl
          have hb := HI.out.2.2.2
          clear br3 bx hx4
          go_wp2
          have h1 := GB.own (GB.setCell (GB.refl w5 (some w.heap.size)) 0 (.int .i64 L)) ho5 (fun j hj e => by have := (World.ownsRow.lt ho5 j hj).1; injection e with e; omega)
          have h2 := GB.own (GB.setCell (GB.refl _ (some w.heap.size)) 1 (.slice (some ⟨w2.heap.size, 0, none⟩) 0 0)) h1 (fun j hj e => by have := (World.ownsRow.lt ho5 j hj).1; injection e with e; omega)
          refine bodyPost_ret (v := .tuple #[.agg #[.int .i64 L, .slice (some ⟨w2.heap.size, 0, none⟩) 0 0], .bool true]) ?_ rfl ⟨_, _, rfl, ⟨L, _, _, _, F, rfl, h2.mono (by omega), HI.out.2.1, HI.out.2.2.1⟩, (hx5.setCell (by simp) _).setCell (by simp) _⟩
          simp [results, Tryz.results91, go_sem, r0, r1]
    · subst hn1
      have hc' : ¬ 1 = c := fun h => hc h.symm
      go_upto_region 4 with fail
      have br3 := (br.ext H3.out.2).ext (Ext.alloc (w2.alloc (.cells #[] 9)) (.cells #[.int .i64 L, .slice (some ⟨w2.heap.size, 0, none⟩) 0 0] 26))
      have bx : Blk ((w2.alloc (.cells #[] 9)).alloc (.cells #[.int .i64 L, .slice (some ⟨w2.heap.size, 0, none⟩) 0 0] 26)) (w2.heap.size + 1) #[.int .i64 L, .slice (some ⟨w2.heap.size, 0, none⟩) 0 0] := by (repeat (first | (refine Blk.mk' ?_; (simp; done)) | apply Blk.old))
      have hx4 := (hx.trans H3.out.2).trans (Ext.alloc (w2.alloc (.cells #[] 9)) (.cells #[.int .i64 L, .slice (some ⟨w2.heap.size, 0, none⟩) 0 0] 26))
      have ho4 := H3.out.1.ext (Ext.alloc (w2.alloc (.cells #[] 9)) (.cells #[.int .i64 L, .slice (some ⟨w2.heap.size, 0, none⟩) 0 0] 26))
      have hI4 := spec_IsShift_any L (.slice (some ⟨w2.heap.size, 0, none⟩) 0 0) F ((w2.alloc (.cells #[] 9)).alloc (.cells #[.int .i64 L, .slice (some ⟨w2.heap.size, 0, none⟩) 0 0] 26)) (Own.readsW ho4) HI.out.1
      obtain ⟨X, hX⟩ : ∃ X, X = w2.heap.size + 1 := ⟨_, rfl⟩
      obtain ⟨w4, hw4⟩ : ∃ w4, w4 = (w2.alloc (.cells #[] 9)).alloc (.cells #[.int .i64 L, .slice (some ⟨w2.heap.size, 0, none⟩) 0 0] 26) := ⟨_, rfl⟩
      rw [← hX] at bx ⊢
      rw [← hw4] at br3 bx hx4 ho4 hI4 ⊢
      obtain ⟨ok, hok⟩ : ∃ ok, ok = shiftOk L F := ⟨_, rfl⟩
      rw [← hok] at hI4
      have HO := Lib.hid (And.intro ho4 hI4)
      clear hX hw4 H3 br ho4 hI4 hok hx
      cases b
      · skip
        have r0 := br3.cell 0 (.int .i64 0) rfl
        have r1 := br3.cell 1 (.slice none 0 0) rfl
        have f0 := br3.frozen 0
        have f1 := br3.frozen 1
        go_wp2
        refine bodyPost_ret (v := .tuple #[.agg #[.int .i64 0, .slice none 0 0], .bool false]) ?_ rfl ⟨_, _, rfl, ⟨0, _, _, _, [], rfl, Own.nil _ _ _, by simp, by simp⟩, (hx4.setCell (by simp) _).setCell (by simp) _⟩
        simp [results, Tryz.results91, go_sem, r0, r1]
      · have x0 := bx.cell 0 (.int .i64 L) rfl
        have x1 := bx.cell 1 (.slice (some ⟨w2.heap.size, 0, none⟩) 0 0) rfl
        go_wp2_with fail
        with_reducible refine HO.out.2.mono ?_
        rintro e w5 ⟨rfl, hy5⟩
        clear x0 x1
        have hx5 := hx4.trans hy5
        have br5 := br3.ext hy5
        have bx5 := bx.ext hy5
        have ho5 := HO.out.1.ext hy5
        cases ok
        · clear bx
          have r0 := br5.cell 0 (.int .i64 0) rfl
          have r1 := br5.cell 1 (.slice none 0 0) rfl
          have f0 := br5.frozen 0
          have f1 := br5.frozen 1
          go_wp2
          refine bodyPost_ret (v := .tuple #[.agg #[.int .i64 0, .slice none 0 0], .bool false]) ?_ rfl ⟨_, _, rfl, ⟨0, _, _, _, [], rfl, Own.nil _ _ _, by simp, by simp⟩, (hx5.setCell (by simp) _).setCell (by simp) _⟩
          simp [results, Tryz.results91, go_sem, r0, r1]
        · have r0 := br5.cell 0 (.int .i64 0) rfl
          have r1 := br5.cell 1 (.slice none 0 0) rfl
          have f0 := br5.frozen 0
          have f1 := br5.frozen 1
          have x0 := bx5.cell 0 (.int .i64 L) rfl
          have x1 := bx5.cell 1 (.slice (some ⟨w2.heap.size, 0, none⟩) 0 0) rfl
          have hb := HI.out.2.2.2
          clear br3 bx hx4
          go_wp2
          have h1 := GB.own (GB.setCell (GB.refl w5 (some w.heap.size)) 0 (.int .i64 L)) ho5 (fun j hj e => by have := (World.ownsRow.lt ho5 j hj).1; injection e with e; omega)
          have h2 := GB.own (GB.setCell (GB.refl _ (some w.heap.size)) 1 (.slice (some ⟨w2.heap.size, 0, none⟩) 0 0)) h1 (fun j hj e => by have := (World.ownsRow.lt ho5 j hj).1; injection e with e; omega)
          refine bodyPost_ret (v := .tuple #[.agg #[.int .i64 L, .slice (some ⟨w2.heap.size, 0, none⟩) 0 0], .bool true]) ?_ rfl ⟨_, _, rfl, ⟨L, _, _, _, F, rfl, h2.mono (by omega), HI.out.2.1, HI.out.2.2.1⟩, (hx5.setCell (by simp) _).setCell (by simp) _⟩
          simp [results, Tryz.results91, go_sem, r0, r1]
  · have HR := Lib.hid (Own.tail HZ2.out.1)
    have hc : ¬ 1 = c := by omega
    go_upto_region 4 with (at_builtin; refine wpList_append_reads rfl (.tmp 18) (.tmp 20) 24 rfl 9 _ _ Tryz.underlying24 infoStr rfl w2.heap.size (.slice (some ⟨w2.heap.size, 0, none⟩) 0 0) [] rfl (Own.lit w2 9 [] (by simp)) (.slice (some ⟨g, 1, none⟩) (n - 1) (c - 1)) (scells F) rfl (HR.out.ext (Ext.alloc _ _)) (scells_one _) (by have := HI.out.2.2.1; rw [scells_length]; simp [maxLen]; omega) (by have := HI.out.2.2.1; rw [scells_length]; simp; omega) (by simp) ?_; intro v3 w3 ho3 hgb3 hmv3; obtain ⟨q3, c3, rfl⟩ := (Own.readsW (F := F) (by simpa using ho3)).slice; have H3 := Lib.hid (And.intro (show Own w3 w2.heap.size 9 (.slice q3 F.length c3) (scells F) by simpa using ho3) (show Ext w2 w3 from (Ext.alloc w2 (.cells #[] 9)).grown hgb3 (fun k hk => by cases hk; exact Nat.le_refl _))); clear ho3 hgb3 hmv3)
    have br3 := (br.ext H3.out.2).ext (Ext.alloc w3 (.cells #[.int .i64 L, .slice q3 F.length c3] 26))
    have bx : Blk (w3.alloc (.cells #[.int .i64 L, .slice q3 F.length c3] 26)) (w3.heap.size) #[.int .i64 L, .slice q3 F.length c3] := by (repeat (first | (refine Blk.mk' ?_; (simp; done)) | apply Blk.old))
    have hx4 := (hx.trans H3.out.2).trans (Ext.alloc w3 (.cells #[.int .i64 L, .slice q3 F.length c3] 26))
    have ho4 := H3.out.1.ext (Ext.alloc w3 (.cells #[.int .i64 L, .slice q3 F.length c3] 26))
    have hI4 := spec_IsShift_any L (.slice q3 F.length c3) F (w3.alloc (.cells #[.int .i64 L, .slice q3 F.length c3] 26)) (Own.readsW ho4) HI.out.1
    obtain ⟨X, hX⟩ : ∃ X, X = w3.heap.size := ⟨_, rfl⟩
    obtain ⟨w4, hw4⟩ : ∃ w4, w4 = w3.alloc (.cells #[.int .i64 L, .slice q3 F.length c3] 26) := ⟨_, rfl⟩
    rw [← hX] at bx ⊢
    rw [← hw4] at br3 bx hx4 ho4 hI4 ⊢
    obtain ⟨ok, hok⟩ : ∃ ok, ok = shiftOk L F := ⟨_, rfl⟩
    rw [← hok] at hI4
    have HO := Lib.hid (And.intro ho4 hI4)
    clear hX hw4 H3 br ho4 hI4 hok hx
    cases b
    · skip
      have r0 := br3.cell 0 (.int .i64 0) rfl
      have r1 := br3.cell 1 (.slice none 0 0) rfl
      have f0 := br3.frozen 0
      have f1 := br3.frozen 1
      go_wp2
      refine bodyPost_ret (v := .tuple #[.agg #[.int .i64 0, .slice none 0 0], .bool false]) ?_ rfl ⟨_, _, rfl, ⟨0, _, _, _, [], rfl, Own.nil _ _ _, by simp, by simp⟩, (hx4.setCell (by simp) _).setCell (by simp) _⟩
      simp [results, Tryz.results91, go_sem, r0, r1]
    · have x0 := bx.cell 0 (.int .i64 L) rfl
      have x1 := bx.cell 1 (.slice q3 F.length c3) rfl
      go_wp2_with fail
      with_reducible refine HO.out.2.mono ?_
      rintro e w5 ⟨rfl, hy5⟩
      clear x0 x1
      have hx5 := hx4.trans hy5
      have br5 := br3.ext hy5
      have bx5 := bx.ext hy5
      have ho5 := HO.out.1.ext hy5
      cases ok
      · clear bx
        have r0 := br5.cell 0 (.int .i64 0) rfl
        have r1 := br5.cell 1 (.slice none 0 0) rfl
        have f0 := br5.frozen 0
        have f1 := br5.frozen 1
        go_wp2
        refine bodyPost_ret (v := .tuple #[.agg #[.int .i64 0, .slice none 0 0], .bool false]) ?_ rfl ⟨_, _, rfl, ⟨0, _, _, _, [], rfl, Own.nil _ _ _, by simp, by simp⟩, (hx5.setCell (by simp) _).setCell (by simp) _⟩
        simp [results, Tryz.results91, go_sem, r0, r1]
      · have r0 := br5.cell 0 (.int .i64 0) rfl
        have r1 := br5.cell 1 (.slice none 0 0) rfl
        have f0 := br5.frozen 0
        have f1 := br5.frozen 1
        have x0 := bx5.cell 0 (.int .i64 L) rfl
        have x1 := bx5.cell 1 (.slice q3 F.length c3) rfl
        have hb := HI.out.2.2.2
        clear br3 bx hx4
        go_wp2
        have h1 := GB.own (GB.setCell (GB.refl w5 (some w.heap.size)) 0 (.int .i64 L)) ho5 (fun j hj e => by have := (World.ownsRow.lt ho5 j hj).1; injection e with e; omega)
        have h2 := GB.own (GB.setCell (GB.refl _ (some w.heap.size)) 1 (.slice q3 F.length c3)) h1 (fun j hj e => by have := (World.ownsRow.lt ho5 j hj).1; injection e with e; omega)
        refine bodyPost_ret (v := .tuple #[.agg #[.int .i64 L, .slice q3 F.length c3], .bool true]) ?_ rfl ⟨_, _, rfl, ⟨L, _, _, _, F, rfl, h2.mono (by omega), HI.out.2.1, HI.out.2.2.1⟩, (hx5.setCell (by simp) _).setCell (by simp) _⟩
        simp [results, Tryz.results91, go_sem, r0, r1]
end Go.Proofs.YtfiembmfkokllaaGreat
