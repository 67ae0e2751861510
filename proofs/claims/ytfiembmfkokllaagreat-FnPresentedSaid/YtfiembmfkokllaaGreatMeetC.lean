/- Contract: the meeting of two shifts, by the program. -/
import Derived.Test.YtfiembmfkokllaaGreatMeetB
import Derived.Test.YtfiembmfkokllaaGreatMake
namespace Go.Proofs.YtfiembmfkokllaaGreat
open Go.RowKit Go.Cm

/-- a row of two rows -/
def PairRow (u u' : Value) (v : Value) (w : World) : Prop := ∃ b, v = .slice (some ⟨b, 0, none⟩) 2 2 ∧ Blk w b #[u, u']
theorem PairRow.ok (u u' : Value) : ∀ v w w', Ext w w' → PairRow u u' v w → PairRow u u' v w' := fun _ _ _ hx ⟨b, h1, h2⟩ => ⟨b, h1, h2.ext hx⟩
theorem PairRow.new (u u' : Value) (w : World) (E : TypeId) : Ext w (w.alloc (.cells #[u, u'] E)) ∧ PairRow u u' (.slice (some ⟨w.heap.size, 0, none⟩) 2 2) (w.alloc (.cells #[u, u'] E)) := ⟨Ext.alloc _ _, _, rfl, Blk.mk' rfl⟩
/-- a row of words of the call's own -/
def WRow (B : Nat) (l : List (List UInt8)) (v : Value) (w : World) : Prop := Own w B 9 v (scells l)
theorem WRow.ok (B : Nat) (l : List (List UInt8)) : ∀ v w w', Ext w w' → WRow B l v w → WRow B l v w' := fun _ _ _ hx h => Own.ext h hx
theorem concatJ {B : Nat} {u u' v : Value} {F G : List (List UInt8)} {w : World} (h : PairRow u u' v w) (hF : ReadsW w u F) (hG : ReadsW w u' G) (h8 : F.length ≤ 8) (g8 : G.length ≤ 8) (hB : B ≤ w.heap.size) :
    Calls Tryz.prog 51 #[v] w fun e w' => ∃ z, e = .returned z ∧ Ext w w' ∧ WRow B (F ++ G) z w' := by
  obtain ⟨b, rfl, hb⟩ := h
  exact (concatS_any b u u' F G w hb hF hG h8 g8).mono fun e w' ⟨z, h1, h2, h3⟩ => ⟨z, h1, h3, h2.mono hB⟩
/-- a new variable of a struct type -/
def ZBlk (B : Nat) (T : TypeId) (cs : Array Value) (b : Nat) (w : World) : Prop := B ≤ b ∧ Blk w b cs ∧ ∃ c fr, w.heap[b]? = some (.cells c T fr)
theorem ZBlk.ok (B : Nat) (T : TypeId) (cs : Array Value) : ∀ b w w', Ext w w' → ZBlk B T cs b w → ZBlk B T cs b w' := fun b w w' hx ⟨h1, h2, c, fr, h3⟩ => ⟨h1, h2.ext hx, c, fr, by rw [Below.block hx b h2.lt]; exact h3⟩
theorem ZBlk.new {B : Nat} {T : TypeId} {cs : Array Value} {w : World} (hB : B ≤ w.heap.size) : Ext w (w.alloc (.cells cs T)) ∧ PtrTo (ZBlk B T cs) (.pointer (some ⟨w.heap.size, 0, none⟩)) (w.alloc (.cells cs T)) :=
  ⟨Ext.alloc _ _, _, rfl, hB, Blk.mk' rfl, cs, _, heap_alloc_new w _⟩
theorem Own.ne_type {w : World} {B : Nat} {E T : TypeId} {v : Value} {fs : List Value} (h : Own w B E v fs) (hET : ¬ E = T) {b : Nat} {c : Array Value} {fr : Nat × Nat} (hb : w.heap[b]? = some (.cells c T fr)) : v.ownBlock ≠ some b := by
  intro e
  rcases h.2 with ⟨hv, _⟩ | ⟨g, cap, cur, hv, _, hg, _⟩
  · rw [hv] at e; cases e
  · rw [hv] at e
    simp [Value.ownBlock] at e
    subst e
    rw [hg] at hb
    injection hb with hb
    injection hb with h1 h2 h3
    exact hET h2
theorem ZBlk.grown {B B' : Nat} {E T : TypeId} {cs : Array Value} {v : Value} {fs : List Value} {w w' : World} (ho : Own w B' E v fs) (hET : ¬ E = T) (hg : w.grownBy w' v.ownBlock) : ∀ b, ZBlk B T cs b w → ZBlk B T cs b w' := by
  rintro b ⟨h1, h2, c, fr, h3⟩
  have hne := Own.ne_type ho hET h3
  exact ⟨h1, GB.blk hg h2 hne, c, fr, by rw [hg.block b h2.lt (Ne.symm hne)]; exact h3⟩
/-- a struct of a number and a row of words of the call's own -/
def BRow (K : Int) (B : Nat) (R : List (List UInt8)) (v : Value) (w : World) : Prop := ∃ a n c, v = .agg #[.int .i64 K, .slice a n c] ∧ Own w B 9 (.slice a n c) (scells R)
theorem BRow.ok (K : Int) (B : Nat) (R : List (List UInt8)) : ∀ v w w', Ext w w' → BRow K B R v w → BRow K B R v w' := fun _ _ _ hx ⟨a, n, c, h1, h2⟩ => ⟨a, n, c, h1, h2.ext hx⟩
theorem BRow.elim {K : Int} {B : Nat} {R : List (List UInt8)} {v : Value} {w : World} {C : Prop} (h : BRow K B R v w) (k : ∀ a n c, v = .agg #[.int .i64 K, .slice a n c] → Own w B 9 (.slice a n c) (scells R) → C) : C := by
  obtain ⟨a, n, c, h1, h2⟩ := h
  exact k a n c h1 h2
theorem WRow.elim {B : Nat} {R : List (List UInt8)} {v : Value} {w : World} {C : Prop} (h : WRow B R v w) (k : ∀ a n c, v = .slice a n c → WRow B R (.slice a n c) w → C) : C := by
  obtain ⟨a, n, c, rfl⟩ := own_slice h
  exact k a n c rfl h
theorem BRow.of {K : Int} {B : Nat} {R : List (List UInt8)} {v : Value} {w : World} (h : WRow B R v w) : BRow K B R (.agg #[.int .i64 K, v]) w := by
  obtain ⟨a, n, c, rfl⟩ := own_slice h
  exact ⟨a, n, c, rfl, h⟩
/-- a variable that holds it -/
def XVar (K : Int) (B : Nat) (R : List (List UInt8)) (b : Nat) (w : World) : Prop := B ≤ b ∧ ∃ a n c, Blk w b #[.int .i64 K, .slice a n c] ∧ Own w B 9 (.slice a n c) (scells R) ∧ (Value.slice a n c).ownBlock ≠ some b
theorem XVar.ok (K : Int) (B : Nat) (R : List (List UInt8)) : ∀ b w w', Ext w w' → XVar K B R b w → XVar K B R b w' := fun _ _ _ hx ⟨h0, a, n, c, h1, h2, h3⟩ => ⟨h0, a, n, c, h1.ext hx, h2.ext hx, h3⟩
theorem XVar.new {K : Int} {B : Nat} {R : List (List UInt8)} {b : Nat} {x y : Value} {a : Option Addr} {n c : Nat} {w0 w : World} (hx : Ext w0 w) (hB : B = w0.heap.size) (hz : ZBlk B 26 #[x, y] b w) (ho : Own w B 9 (.slice a n c) (scells R)) :
    Ext w0 ((w.setCell ⟨b, 0, none⟩ (.int .i64 K)).setCell ⟨b, 1, none⟩ (.slice a n c)) ∧ XVar K B R b ((w.setCell ⟨b, 0, none⟩ (.int .i64 K)).setCell ⟨b, 1, none⟩ (.slice a n c)) := by
  subst hB
  obtain ⟨h1, h2, cs, fr, h3⟩ := hz
  have hne := Own.ne_type ho (by decide) h3
  refine ⟨(hx.setCell h1 _).setCell h1 _, h1, a, n, c, ?_, ?_, hne⟩
  · exact (h2.set (i := 0) (by simp) _).set (i := 1) (by simp) _
  · have q1 := GB.own (GB.setCell (GB.refl w (some b)) 0 (.int .i64 K)) ho (fun j hj e => hne (by rw [hj]; exact e.symm ▸ rfl))
    exact GB.own (GB.setCell (GB.refl _ (some b)) 1 (.slice a n c)) q1 (fun j hj e => hne (by rw [hj]; exact e.symm ▸ rfl))
theorem differentJ {B : Nat} {v : Value} {l R : List (List UInt8)} {cs : Array Value} {w0 w : World} (hx : Ext w0 w) (hB : B = w0.heap.size) (h : WRow B l v w) (hl : l.length ≤ 1000) (hR : Lib.compact (l.mergeSort fun x y => decide (x ≤ y)) = R) :
    Calls Tryz.prog 50 #[v] w fun e w' => ∃ z, e = .returned z ∧ Ext w0 w' ∧ WRow B R z w' ∧ ∀ b, ZBlk B 26 cs b w → ZBlk B 26 cs b w' := by
  subst hB
  subst hR
  refine (different_own v l w0.heap.size w h hl).mono ?_
  rintro e w' ⟨z, rfl, ho, hg⟩
  exact ⟨z, rfl, hx.grown hg (fun k hk => (World.ownsRow.lt h k hk).1), ho, ZBlk.grown h (by decide) hg⟩

set_option maxRecDepth 100000 in
set_option maxHeartbeats 1000000 in
theorem impl_MeetShifts_any (L L' : Int) (v v' : Value) (F G : List (List UInt8)) (w : World) (h : ReadsW w v F) (h' : ReadsW w v' G) (hF : ∀ f ∈ F, f.length ≤ maxLen) (hG : ∀ f ∈ G, f.length ≤ maxLen) :
    Calls Tryz.prog 12 #[.agg #[.int .i64 L, v], .agg #[.int .i64 L', v']] w fun e w' => ∃ z, e = .returned (.tuple #[.agg #[.int .i64 (meetL L F L' G), z], .bool (meetO L F L' G).isSome]) ∧ Own w' w.heap.size 9 z (scells ((meetO L F L' G).getD [])) ∧ Ext w w' := by
  obtain ⟨pa, ca, rfl⟩ := h.slice
  obtain ⟨pb, cb, rfl⟩ := h'.slice
  have hx := ((Ext.alloc w (.cells #[.int .i64 L, .slice pa F.length ca] 26)).trans (Ext.alloc _ (.cells #[.int .i64 L', .slice pb G.length cb] 26))).trans (Ext.alloc _ (.cells #[.int .i64 0, .slice none 0 0] 26))
  have b1 : Blk (((w.alloc (.cells #[.int .i64 L, .slice pa F.length ca] 26)).alloc (.cells #[.int .i64 L', .slice pb G.length cb] 26)).alloc (.cells #[.int .i64 0, .slice none 0 0] 26)) w.heap.size #[.int .i64 L, .slice pa F.length ca] := by (repeat (first | (refine Blk.mk' ?_; (simp; done)) | apply Blk.old))
  have b2 : Blk (((w.alloc (.cells #[.int .i64 L, .slice pa F.length ca] 26)).alloc (.cells #[.int .i64 L', .slice pb G.length cb] 26)).alloc (.cells #[.int .i64 0, .slice none 0 0] 26)) (w.heap.size + 1) #[.int .i64 L', .slice pb G.length cb] := by (repeat (first | (refine Blk.mk' ?_; (simp; done)) | apply Blk.old))
  have br : Blk (((w.alloc (.cells #[.int .i64 L, .slice pa F.length ca] 26)).alloc (.cells #[.int .i64 L', .slice pb G.length cb] 26)).alloc (.cells #[.int .i64 0, .slice none 0 0] 26)) (w.heap.size + 2) #[.int .i64 0, .slice none 0 0] := by (repeat (first | (refine Blk.mk' ?_; (simp; done)) | apply Blk.old))
  have HA := Lib.hid (And.intro h (And.intro h' (And.intro hF hG)))
  clear h h' hF hG
  obtain ⟨k1, hk1⟩ : ∃ k, k = shiftOk L F := ⟨_, rfl⟩
  obtain ⟨k2, hk2⟩ : ∃ k, k = shiftOk L' G := ⟨_, rfl⟩
  have d1 := fun w h => impl_IsShift_any L (.slice pa F.length ca) F w h HA.out.2.2.1
  have d2 := fun w h => impl_IsShift_any L' (.slice pb G.length cb) G w h HA.out.2.2.2
  rw [← hk1] at d1
  rw [← hk2] at d2
  have HD := Lib.hid (And.intro d1 (And.intro d2 (And.intro hk1 hk2)))
  clear d1 d2 hk1 hk2
  have a0 := Blk.c20 b1
  have a1 := Blk.c21 b1
  have c0 := Blk.c20 b2
  have c1 := Blk.c21 b2
  cases k1
  · have HN := Lib.hid (meetO_no (L := L) (F := F) (L' := L') (G := G) (.inl HD.out.2.2.1.symm))
    go_enter Tryz.func12, Tryz.ntmps12
    go_wp2_with fail
    with_reducible refine (HD.out.1 _ (HA.out.1.ext hx)).mono ?_
    rintro e w1 ⟨rfl, hy⟩
    replace hx := hx.trans hy
    replace b1 := b1.ext hy
    replace b2 := b2.ext hy
    replace br := br.ext hy
    clear hy a0 a1 c0 c1
    have a0 := Blk.c20 b1
    have a1 := Blk.c21 b1
    have c0 := Blk.c20 b2
    have c1 := Blk.c21 b2
    have r0 := br.cell 0 (.int .i64 0) rfl
    have r1 := br.cell 1 (.slice none 0 0) rfl
    have f0 := br.frozen 0
    have f1 := br.frozen 1
    clear br b1 b2 a1 c1
    go_wp2
    refine bodyPost_ret (v := .tuple #[.agg #[.int .i64 0, .slice none 0 0], .bool false]) ?_ rfl ⟨.slice none 0 0, by unfold meetL; rw [HN.out]; rfl, by rw [HN.out]; exact Own.nil _ _ _, (hx.setCell (by simp <;> omega) _).setCell (by simp <;> omega) _⟩
    simp [results, Tryz.results12, go_sem, r0, r1]
  cases k2
  · have HN := Lib.hid (meetO_no (L := L) (F := F) (L' := L') (G := G) (.inr (.inl HD.out.2.2.2.symm)))
    go_enter Tryz.func12, Tryz.ntmps12
    go_wp2_with fail
    with_reducible refine (HD.out.1 _ (HA.out.1.ext hx)).mono ?_
    rintro e w1 ⟨rfl, hy⟩
    replace hx := hx.trans hy
    replace b1 := b1.ext hy
    replace b2 := b2.ext hy
    replace br := br.ext hy
    clear hy a0 a1 c0 c1
    have a0 := Blk.c20 b1
    have a1 := Blk.c21 b1
    have c0 := Blk.c20 b2
    have c1 := Blk.c21 b2
    go_wp2_with fail
    with_reducible refine (HD.out.2.1 _ (HA.out.2.1.ext hx)).mono ?_
    rintro e w2 ⟨rfl, hy⟩
    replace hx := hx.trans hy
    replace b1 := b1.ext hy
    replace b2 := b2.ext hy
    replace br := br.ext hy
    clear hy a0 a1 c0 c1
    have a0 := Blk.c20 b1
    have a1 := Blk.c21 b1
    have c0 := Blk.c20 b2
    have c1 := Blk.c21 b2
    have r0 := br.cell 0 (.int .i64 0) rfl
    have r1 := br.cell 1 (.slice none 0 0) rfl
    have f0 := br.frozen 0
    have f1 := br.frozen 1
    clear br b1 b2 a1 c1
    go_wp2
    refine bodyPost_ret (v := .tuple #[.agg #[.int .i64 0, .slice none 0 0], .bool false]) ?_ rfl ⟨.slice none 0 0, by unfold meetL; rw [HN.out]; rfl, by rw [HN.out]; exact Own.nil _ _ _, (hx.setCell (by simp <;> omega) _).setCell (by simp <;> omega) _⟩
    simp [results, Tryz.results12, go_sem, r0, r1]
  by_cases hL : L = L'
  rotate_left
  · have HN := Lib.hid (meetO_no (L := L) (F := F) (L' := L') (G := G) (.inr (.inr hL)))
    have hne : (L == L') = false := by simpa using hL
    have hne2 : (L != L') = true := by simpa using hL
    have hne3 : decide (L = L') = false := by simpa using hL
    go_enter Tryz.func12, Tryz.ntmps12
    go_wp2_with fail
    with_reducible refine (HD.out.1 _ (HA.out.1.ext hx)).mono ?_
    rintro e w1 ⟨rfl, hy⟩
    replace hx := hx.trans hy
    replace b1 := b1.ext hy
    replace b2 := b2.ext hy
    replace br := br.ext hy
    clear hy a0 a1 c0 c1
    have a0 := Blk.c20 b1
    have a1 := Blk.c21 b1
    have c0 := Blk.c20 b2
    have c1 := Blk.c21 b2
    go_wp2_with fail
    with_reducible refine (HD.out.2.1 _ (HA.out.2.1.ext hx)).mono ?_
    rintro e w2 ⟨rfl, hy⟩
    replace hx := hx.trans hy
    replace b1 := b1.ext hy
    replace b2 := b2.ext hy
    replace br := br.ext hy
    clear hy a0 a1 c0 c1
    have a0 := Blk.c20 b1
    have a1 := Blk.c21 b1
    have c0 := Blk.c20 b2
    have c1 := Blk.c21 b2
    have r0 := br.cell 0 (.int .i64 0) rfl
    have r1 := br.cell 1 (.slice none 0 0) rfl
    have f0 := br.frozen 0
    have f1 := br.frozen 1
    clear br b1 b2 a1 c1
    go_wp2
    refine bodyPost_ret (v := .tuple #[.agg #[.int .i64 0, .slice none 0 0], .bool false]) ?_ rfl ⟨.slice none 0 0, by unfold meetL; rw [HN.out]; rfl, by rw [HN.out]; exact Own.nil _ _ _, (hx.setCell (by simp <;> omega) _).setCell (by simp <;> omega) _⟩
    simp [results, Tryz.results12, go_sem, r0, r1]
  subst hL
  obtain ⟨K, rfl, hf⟩ := ShFit.of HD.out.2.2.1.symm
  obtain ⟨K', hKK, hg⟩ := ShFit.of HD.out.2.2.2.symm
  have hKe : K' = K := by omega
  subst hKe
  clear hKK
  have hF8 := hf.n8
  have hG8 := hg.n8
  have hyes := fun h8 => meetO_yes (L := K') (F := F) (G := G) hf.ok hg.ok h8
  have hok := meet_ok hf hg
  have hcomp := meet_compact (G := G) hf.rising
  have hw : ∀ f ∈ meetR F G, f.length ≤ maxLen := fun f hf' => by
    rcases (meetR_mem G).1 hf' with h | h
    · exact HA.out.2.2.1 f h
    · exact HA.out.2.2.2 f h
  have HE := Lib.hid (And.intro hyes (And.intro hok (And.intro hcomp (And.intro hF8 (And.intro hG8 hw)))))
  clear hyes hok hcomp hf hg hw
  go_enter Tryz.func12, Tryz.ntmps12
  go_wp2_with fail
  with_reducible refine (HD.out.1 _ (HA.out.1.ext hx)).mono ?_
  rintro e w1 ⟨rfl, hy⟩
  replace hx := hx.trans hy
  replace b1 := b1.ext hy
  replace b2 := b2.ext hy
  replace br := br.ext hy
  clear hy a0 a1 c0 c1
  have a0 := Blk.c20 b1
  have a1 := Blk.c21 b1
  have c0 := Blk.c20 b2
  have c1 := Blk.c21 b2
  go_wp2_with fail
  with_reducible refine (HD.out.2.1 _ (HA.out.2.1.ext hx)).mono ?_
  rintro e w2 ⟨rfl, hy⟩
  replace hx := hx.trans hy
  replace b1 := b1.ext hy
  replace b2 := b2.ext hy
  replace br := br.ext hy
  clear hy a0 a1 c0 c1
  have a0 := Blk.c20 b1
  have a1 := Blk.c21 b1
  have c0 := Blk.c20 b2
  have c1 := Blk.c21 b2
  go_wp2
  have hll : (F ++ G).length ≤ 1000 := by rw [List.length_append]; omega
  obtain ⟨R, hR⟩ : ∃ R, R = meetR F G := ⟨_, rfl⟩
  have HE2 := Lib.hid (And.intro (show Lib.compact ((F ++ G).mergeSort fun x y => decide (x ≤ y)) = R by rw [hR]; exact HE.out.2.2.1) (And.intro hll (And.intro hR (And.intro hx (And.intro b1.lt (And.intro b2.lt br.lt))))))
  clear hll hR
  refine wp_region_make (by kernel_rfl) 8 10 11 (WRow w2.heap.size R) (ZBlk w2.heap.size 26 #[.int .i64 0, .slice none 0 0]) (XVar K' w2.heap.size R) (.known ?hy_1_v0 :: .known ?hy_1_v1 :: .known ?hy_1_v2 :: .known ?hy_1_v3 :: .known ?hy_1_v4 :: .known ?hy_1_v5 :: .such (PairRow (.slice pa F.length ca) (.slice pb G.length cb)) (PairRow.ok _ _) :: .such (WRow w2.heap.size (F ++ G)) (WRow.ok _ _) :: .any :: .such (BRow K' w2.heap.size R) (BRow.ok _ _ _) :: .any :: .any :: []) rfl (by kernel_rfl) (by kernel_rfl) (by kernel_rfl) (by decide) (by decide) (WRow.ok _ _) (ZBlk.ok _ _ _) (XVar.ok _ _ _) rfl rfl rfl ?hy_1_s ?hy_1_p
  case hy_1_s =>
    intro vs
    refine ⟨fun w' hxw hk hj hMv b hz => ?_, fun w' hxw hk hj hMv b hz => ?_, fun w' hxw hk hj hMv b hz => ?_, fun w' hxw hk hj hMv b hz => ?_, fun w' hxw hk hj hMv b hz => ?_, fun w' hxw hk hj hMv b hz => ?_, fun w' hxw hk hj hMv b hz => ?_, fun w' hxw hk hj hMv b hz => ?_, fun w' hxw hk hj hMv b hz => ?_, fun w' hxw hk hj hMv b hz => ?_, fun w' hxw hk hj hMv b hz => ?_, fun w' hxw hk hj hMv b hz => ?_, trivial⟩
    · have a0 := Ext.cell_some hxw a0
      have a1 := Ext.cell_some hxw a1
      have c0 := Ext.cell_some hxw c0
      have c1 := Ext.cell_some hxw c1
      clear hk hj hMv hz
      go_simp
      try go_bits
      first | rfl | skip
    · have a0 := Ext.cell_some hxw a0
      have a1 := Ext.cell_some hxw a1
      have c0 := Ext.cell_some hxw c0
      have c1 := Ext.cell_some hxw c1
      clear hk hj hMv hz
      go_simp
      try go_bits
      first | rfl | skip
    · have a0 := Ext.cell_some hxw a0
      have a1 := Ext.cell_some hxw a1
      have c0 := Ext.cell_some hxw c0
      have c1 := Ext.cell_some hxw c1
      clear hk hj hMv hz
      go_simp
      try go_bits
      first | rfl | skip
    · have a0 := Ext.cell_some hxw a0
      have a1 := Ext.cell_some hxw a1
      have c0 := Ext.cell_some hxw c0
      have c1 := Ext.cell_some hxw c1
      clear hk hj hMv hz
      go_simp
      try go_bits
      first | rfl | skip
    · have a0 := Ext.cell_some hxw a0
      have a1 := Ext.cell_some hxw a1
      have c0 := Ext.cell_some hxw c0
      have c1 := Ext.cell_some hxw c1
      clear hk hj hMv hz
      go_simp
      try go_bits
      first | rfl | skip
    · have a0 := Ext.cell_some hxw a0
      have a1 := Ext.cell_some hxw a1
      have c0 := Ext.cell_some hxw c0
      have c1 := Ext.cell_some hxw c1
      clear hk hj hMv hz
      go_simp
      try go_bits
      first | rfl | skip
    · have a0 := Ext.cell_some hxw a0
      have a1 := Ext.cell_some hxw a1
      have c0 := Ext.cell_some hxw c0
      have c1 := Ext.cell_some hxw c1
      clear hk hj hMv hz
      go_simp
      try go_bits
      exact PairRow.new _ _ _ _
    · have a0 := Ext.cell_some hxw a0
      have a1 := Ext.cell_some hxw a1
      have c0 := Ext.cell_some hxw c0
      have c1 := Ext.cell_some hxw c1
      have h6 := hj 6 (by kernel_rfl) (by kernel_rfl)
      clear hk hj hMv hz
      go_simp
      try go_bits
      exact concatJ h6 ((HA.out.1.ext HE2.out.2.2.2.1).ext hxw) ((HA.out.2.1.ext HE2.out.2.2.2.1).ext hxw) hF8 hG8 hxw.size
    · have a0 := Ext.cell_some hxw a0
      have a1 := Ext.cell_some hxw a1
      have c0 := Ext.cell_some hxw c0
      have c1 := Ext.cell_some hxw c1
      have h7 := hj 7 (by kernel_rfl) (by kernel_rfl)
      clear hk hj hMv hz
      go_simp
      try go_bits
      exact differentJ hxw rfl h7 HE2.out.2.1 HE2.out.1
    · have a0 := Ext.cell_some hxw a0
      have a1 := Ext.cell_some hxw a1
      have c0 := Ext.cell_some hxw c0
      have c1 := Ext.cell_some hxw c1
      have h8 := hMv (by kernel_rfl)
      clear hMv hz hj hk a0 a1 c0 c1
      apply WRow.elim h8
      intro qa qn qc e8 o8
      have hMv := h8
      have hj := h8
      have hz := h8
      have hk := h8
      clear hk hj hMv hz
      go_simp
      try go_bits
      exact BRow.of o8
    · have a0 := Ext.cell_some hxw a0
      have a1 := Ext.cell_some hxw a1
      have c0 := Ext.cell_some hxw c0
      have c1 := Ext.cell_some hxw c1
      clear hk hj hMv hz
      go_simp
      try go_bits
      exact ZBlk.new hxw.size
    · have a0 := Ext.cell_some hxw a0
      have a1 := Ext.cell_some hxw a1
      have c0 := Ext.cell_some hxw c0
      have c1 := Ext.cell_some hxw c1
      have h9 := hj 9 (by kernel_rfl) (by kernel_rfl)
      apply BRow.elim h9
      intro qa qn qc e9 o9
      have hz0 := hz rfl
      have hpt := hz0.1
      have hzb := hz0.2
      have z0 := Blk.c20 hzb.2.1
      have z1 := Blk.c21 hzb.2.1
      have f0 := hzb.2.1.frozen 0
      have f1 := hzb.2.1.frozen 1
      clear hk hj hMv hz
      go_simp
      try go_bits
      exact XVar.new hxw rfl hzb o9
  case' hy_1_p =>
    intro vs w3 hy z hz hX
    replace a0 := Ext.cell_some hy a0
    replace a1 := Ext.cell_some hy a1
    replace c0 := Ext.cell_some hy c0
    replace c1 := Ext.cell_some hy c1
    replace b1 := Blk.ext b1 hy
    replace b2 := Blk.ext b2 hy
    replace br := Blk.ext br hy
    replace hx := Ext.trans hx hy
    go_simp
    clear hz
    obtain ⟨hzB, az, nz, cz, bz, hown, hne⟩ := hX
    have z0 := Blk.c20 bz
    have z1 := Blk.c21 bz
    have hrd := Own.readsW hown
    obtain ⟨okr, hokr⟩ : ∃ b, b = decide (R.length ≤ 8) := ⟨_, rfl⟩
    have hcall := impl_IsShift_any K' (.slice az nz cz) R w3 hrd (by rw [HE2.out.2.2.1]; exact HE.out.2.2.2.2.2)
    rw [show shiftOk K' R = okr by rw [hokr, HE2.out.2.2.1]; exact HE.out.2.1] at hcall
    have HP := Lib.hid (And.intro hcall (And.intro hown (And.intro bz (And.intro hzB (And.intro hne hokr)))))
    clear hcall hown bz hzB hne hokr hrd a0 a1 c0 c1 b1 b2
    go_wp2_with fail
    with_reducible refine HP.out.1.mono ?_
    rintro e w4 ⟨rfl, hy⟩
    have z0 := hy.cell_some z0
    have z1 := hy.cell_some z1
    replace hx := hx.trans hy
    replace br := br.ext hy
    have r0 := Blk.c20 br
    have r1 := Blk.c21 br
    have f0 := br.frozen 0
    have f1 := br.frozen 1
    cases okr
    · have HN := Lib.hid (meetO_much (L := (K' : Int)) (L' := (K' : Int)) (F := F) (G := G) (by rw [← HE2.out.2.2.1]; exact of_decide_eq_false HP.out.2.2.2.2.2.symm))
      clear br
      go_wp2
      refine bodyPost_ret (v := .tuple #[.agg #[.int .i64 0, .slice none 0 0], .bool false]) ?_ rfl ⟨.slice none 0 0, by unfold meetL; rw [HN.out]; rfl, by rw [HN.out]; exact Own.nil _ _ _, (hx.setCell (by simp <;> omega) _).setCell (by simp <;> omega) _⟩
      simp [results, Tryz.results12, go_sem, r0, r1]
    · have HN := Lib.hid (HE.out.1 (by rw [← HE2.out.2.2.1]; exact of_decide_eq_true HP.out.2.2.2.2.2.symm))
      have hown4 := HP.out.2.1.ext hy
      have HO2 := Lib.hid (And.intro hown4 hx)
      clear br hx hown4 hy
      go_wp2
      have h1 := GB.own (GB.setCell (GB.refl w4 (some (w.heap.size + 2))) 0 (.int .i64 K')) HO2.out.1 (fun j hj e => by have h3 := HE2.out.2.2.2.2.2.2; have h4 := (World.ownsRow.lt HO2.out.1 j hj).1; injection e with e; omega)
      have h2 := GB.own (GB.setCell (GB.refl _ (some (w.heap.size + 2))) 1 (.slice az nz cz)) h1 (fun j hj e => by have h3 := HE2.out.2.2.2.2.2.2; have h4 := (World.ownsRow.lt HO2.out.1 j hj).1; injection e with e; omega)
      refine bodyPost_ret (v := .tuple #[.agg #[.int .i64 K', .slice az nz cz], .bool true]) ?_ rfl ⟨.slice az nz cz, by unfold meetL; rw [HN.out]; rfl, by rw [HN.out]; show Own _ _ _ _ (scells (meetR F G)); rw [← HE2.out.2.2.1]; exact h2.mono (Nat.le_of_lt (Nat.lt_of_le_of_lt (Nat.le_add_right _ 2) HE2.out.2.2.2.2.2.2)), (HO2.out.2.setCell (by simp <;> omega) _).setCell (by simp <;> omega) _⟩
      simp [results, Tryz.results12, go_sem, r0, r1]
end Go.Proofs.YtfiembmfkokllaaGreat
