/- Contract: the reference's search for a word without a source. -/
import Derived.Test.YtfkdpeifnfpldaaOrphA
import Derived.Test.YtfkdpeifnfpldaaPkM
import Derived.Test.YtfkdpeifnfpldaaPkC
import Derived.Test.YtfkdpeifnfpldaaFstA
import Derived.Test.YtfkdpeifnfpldaaSrcA
namespace Go.Proofs.Ytfkdpeifnfpldaa
open Go.RowKit Go.Cm

theorem setsOf_at {L : Sw} {i : Nat} (h : i < L.length) : (ncells (setsOf L))[i]? = some (.int .i64 ((setsOf L).getD i 0 : Nat)) := by
  have hl : i < (setsOf L).length := by simpa [setsOf] using h
  rw [List.getElem?_eq_getElem (by rw [ncells_length]; exact hl), ncells_at _ _ hl]
theorem textsOf_at {L : Sw} {i : Nat} (h : i < L.length) : (scells (textsOf L))[i]? = some (.string (mkS ((textsOf L).getD i []))) := by
  have hl : i < (textsOf L).length := by simpa [textsOf] using h
  simp [scells, List.getD_eq_getElem?_getD, List.getElem?_eq_getElem hl]
theorem setsOf_length (L : Sw) : (ncells (setsOf L)).length = L.length := by simp [ncells, setsOf]
theorem textsOf_length (L : Sw) : (scells (textsOf L)).length = L.length := by simp [scells, textsOf]

/-- the numbers that a width of ends has -/
theorem ends_few {K n m N : Nat} {o : ByteArray} (hf : CodeFit K n o) (hn : n = m + 1) (hN : N = K ^ m) : N * K ≤ 27 ∧ o.size = N * K ∧ 0 < N ∧ N ≤ 9 ∧ 2 ^ N ≤ 512 := by
  have hk2 := hf.k2
  have hk3 := hf.k3
  have hn4 := hf.n4
  have hNK : N * K ≤ 27 := by have := hf.le; rwa [hn, Nat.pow_succ, ← hN] at this
  have hos : o.size = N * K := by rw [hf.size, hn, Nat.pow_succ, hN]
  have hN1 : 0 < N := by rw [hN]; exact Nat.pow_pos (by omega)
  have hN9 : N ≤ 9 := by
    by_cases h2 : K = 2
    · have h1 : 2 ^ m ≤ 2 ^ 3 := Nat.pow_le_pow_right (by omega) (by omega)
      rw [hN, h2]
      omega
    · have h3 : K = 3 := by omega
      rw [h3] at hNK
      omega
  refine ⟨hNK, hos, hN1, hN9, ?_⟩
  have h1 : 2 ^ N ≤ 2 ^ 9 := Nat.pow_le_pow_right (by omega) hN9
  have h2 : (2 : Nat) ^ 9 = 512 := by decide
  omega

theorem Own.ptr {w : World} {B : Nat} {E : TypeId} {v : Value} {fs : List Value} (h : Own w B E v fs) {n : Nat} (hl : fs.length = n) (hn : 0 < n) : ∃ g cap, v = .slice (some ⟨g, 0, none⟩) n cap ∧ B ≤ g ∧ g < w.heap.size := by
  rcases h.shape with ⟨_, hnil⟩ | ⟨g, cap, hv, h1, h2, _, _⟩
  · rw [hnil] at hl
    simp at hl
    omega
  · exact ⟨g, cap, by rw [hv, hl], h1, h2⟩
/-- two rows lie in two blocks -/
def Apart (v v' : Value) : Prop := ∀ k, v.ownBlock = some k → v'.ownBlock ≠ some k
theorem Apart.symm {v v' : Value} (h : Apart v v') : Apart v' v := fun k hk h2 => h k h2 hk
theorem Apart.moved {w : World} {v v' u : Value} {B : Nat} {E : TypeId} {f : List Value} (h : Apart v u) (hu : Own w B E u f) (hm : Moved w v v') : Apart v' u := by
  intro k hk hk2
  rcases hm with hm | hm
  · rw [hm] at hk
    exact h k hk hk2
  · have h1 := hm k hk
    have h2 := (World.ownsRow.lt hu k hk2).2
    omega
theorem abc_get {a : Nat} (h : a < 3) (h' : a < (ByteArray.mk #[97, 98, 99]).size) : (ByteArray.mk #[97, 98, 99])[a] = letN a := by
  match a, h with
  | 0, _ => rfl
  | 1, _ => rfl
  | 2, _ => rfl
theorem mem_take_succ (l : List Nat) (j x : Nat) (h : j < l.length) : x ∈ l.take (j + 1) ↔ (x ∈ l.take j ∨ l.getD j 0 = x) := by
  rw [List.take_succ_eq_append_getElem h, List.mem_append, List.getD_eq_getElem?_getD, List.getElem?_eq_getElem h]
  simp
  constructor
  · rintro (h | h)
    · exact .inl h
    · exact .inr h.symm
  · rintro (h | h)
    · exact .inl h
    · exact .inr h.symm

set_option maxRecDepth 100000 in
set_option maxHeartbeats 8000000 in
theorem spec_l12Orphan_any (K n m N : Nat) (o : ByteArray) (w : World) (hf : CodeFit K n o) (hn : n = m + 1) (hN : N = K ^ m) :
    Calls Try.prog 45 #[.agg #[.int .i64 K, .int .i64 n, .string o]] w fun e w' => e = .returned (srcV (orphL K N o)) ∧ Ext w w' := by
  have hk2 := hf.k2
  have hk3 := hf.k3
  have hn4 := hf.n4
  obtain ⟨hNK, hos, hN1, hN9, h512⟩ := ends_few hf hn hN
  have e1 : (n : Int) - 1 = m := by omega
  have hpw : ∀ w, Calls Try.prog 61 #[.int .i64 K, .int .i64 m] w fun e w' => e = .returned (.int .i64 (N : Nat)) ∧ w = w' := by
    intro w
    have h := spec_l11Power_any (K : Int) (m : Int) w (by omega) (by omega) (by omega) (by omega)
    rw [pw_nat, ← hN] at h
    exact h
  obtain ⟨r, hr⟩ : ∃ r, r = orphL K N o := ⟨_, rfl⟩
  rw [← hr]
  have hpi := pow_int N
  obtain ⟨P, hP⟩ : ∃ P, P = 2 ^ N := ⟨_, rfl⟩
  rw [← hP] at hpi h512
  have hP1 : 0 < P := by rw [hP]; exact Nat.pow_pos (by omega)
  have hP0i : (P : Int) - 1 = ((P - 1 : Nat) : Int) := by omega
  have hst : stI K N o 0 = (none, [(P - 1, [])]) := by rw [hP]; rfl
  have hok : SwOk N [(P - 1, [])] := by rw [hP]; exact SwOk.start N
  have hstep : ∀ S c w, S < P → Calls Try.prog 81 #[.agg #[.int .i64 K, .int .i64 n, .string o], .int .i64 S, .int .u8 (c.toNat : Int)] w fun e w' => e = .returned (.int .i64 (nextS K N o S c : Nat)) ∧ Ext w w' := fun S c w h => spec_l12Step_any K n m N S c o w hf hn hN (by rw [← hP]; exact h)
  have hlt : ∀ S c, nextS K N o S c < P := fun S c => by rw [hP]; exact allB_lt hN1 o S c N
  have HP := Lib.hid (And.intro hpw (And.intro hstep (And.intro hlt (And.intro hP hr))))
  have HS0 := Lib.hid (And.intro hst hok)
  clear hpw hn hN hos hNK hstep hlt hP hr hst hok
  go_enter Try.func45, Try.ntmps45
  go_wp2_with fail
  with_reducible refine (HP.out.1 _).mono ?_
  rintro e w1 ⟨rfl, rfl⟩
  have bo : Blk (w.alloc (.cells #[.int .i64 K, .int .i64 n, .string o] 25)) w.heap.size #[.int .i64 K, .int .i64 n, .string o] := by (repeat (first | (refine Blk.mk' ?_; (simp; done)) | apply Blk.old))
  have hx : Ext w (w.alloc (.cells #[.int .i64 K, .int .i64 n, .string o] 25)) := Ext.alloc _ _
  have hsz : (w.alloc (.cells #[.int .i64 K, .int .i64 n, .string o] 25)).heap.size = w.heap.size + 1 := by simp
  obtain ⟨w1, hw1⟩ : ∃ w1 : World, w1 = w.alloc (.cells #[.int .i64 K, .int .i64 n, .string o] 25) := ⟨_, rfl⟩
  rw [← hw1] at bo hx hsz ⊢
  clear hw1
  go_wp2
  have hA : Own ((w1.alloc (.cells #[.int .i64 ((P - 1 : Nat) : Int)] 3)).alloc (.cells #[.string ⟨#[]⟩] 9)) w1.heap.size 3 (.slice (some ⟨w.heap.size + 1, 0, none⟩) 1 1) (ncells (setsOf [(P - 1, [])])) := by
    have h := (Own.lit w1 3 [.int .i64 ((P - 1 : Nat) : Int)] (by simp [maxLen])).ext (Ext.alloc _ (.cells #[.string ⟨#[]⟩] 9))
    rw [← hsz]
    exact h
  have hB : Own ((w1.alloc (.cells #[.int .i64 ((P - 1 : Nat) : Int)] 3)).alloc (.cells #[.string ⟨#[]⟩] 9)) w1.heap.size 9 (.slice (some ⟨w.heap.size + 1 + 1, 0, none⟩) 1 1) (scells (textsOf [(P - 1, [])])) := by
    have h := (Own.lit (w1.alloc (.cells #[.int .i64 ((P - 1 : Nat) : Int)] 3)) 9 [.string ⟨#[]⟩] (by simp [maxLen]))
    simp only [World.size_alloc] at h
    rw [← hsz]
    exact h.mono (by omega)
  have hx2 : Ext w1 ((w1.alloc (.cells #[.int .i64 ((P - 1 : Nat) : Int)] 3)).alloc (.cells #[.string ⟨#[]⟩] 9)) := (Ext.alloc _ _).trans (Ext.alloc _ _)
  have hap : Apart (.slice (some ⟨w.heap.size + 1, 0, none⟩) 1 1) (.slice (some ⟨w.heap.size + 1 + 1, 0, none⟩) 1 1) := by
    intro k h1 h2
    simp [Value.ownBlock] at h1 h2
    omega
  go_loopw [4, 5, 6] (fun v4 v5 i wr => ∃ (i' : Nat) (L : Sw), i' ≤ L.length ∧ 0 < L.length ∧ i = .int .i64 i' ∧ stI K N o i' = (none, L) ∧ SwOk N L ∧ Own wr w1.heap.size 3 v4 (ncells (setsOf L)) ∧ Own wr w1.heap.size 9 v5 (scells (textsOf L)) ∧ Apart v4 v5 ∧ Ext w1 wr) (fun _ _ i _ => 1000 - (intOf i).toNat)
  case atStart => exact ⟨0, [(P - 1, [])], by simp, by simp, rfl, HS0.out.1, HS0.out.2, hA, hB, hap, hx2⟩
  case round =>
    clear hA hB hx2 hap
    obtain ⟨i, L, hi, hL0, rfl, hst, hok, hA, hB, hap, hxr⟩ := hrel
    have hLP := hok.length
    rw [← HP.out.2.2.2.1] at hLP
    by_cases hlti : i < L.length
    · have HI := Lib.hid (And.intro hst hok)
      obtain ⟨g4, cap4, rfl, _, _⟩ := Own.ptr hA (setsOf_length L) (by omega)
      have h0 : stA K N o i L 0 = (none, L) := rfl
      clear hst
      obtain ⟨w2, rfl⟩ : ∃ w2 : World, w2 = wr := ⟨_, rfl⟩
      go_wp2
      go_loopw [4, 5, 7] (fun v4 v5 x wr => ∃ (a : Nat) (L' : Sw), a ≤ K ∧ x = .int .i64 a ∧ stA K N o i L a = (none, L') ∧ SwOk N L' ∧ i < L'.length ∧ Own wr w1.heap.size 3 v4 (ncells (setsOf L')) ∧ Own wr w1.heap.size 9 v5 (scells (textsOf L')) ∧ Apart v4 v5 ∧ Ext w1 wr) (fun _ _ x _ => K - (intOf x).toNat)
      case atStart => exact ⟨0, L, by omega, rfl, h0, hok, hlti, hA, hB, hap, hxr⟩
      case round =>
        clear hA hB hap hxr h0 hok
        obtain ⟨a, L', ha, rfl, hsa, hok, hiL, hA, hB, hap, hxr⟩ := hrel
        obtain ⟨c0, c1, c2, -, -, -⟩ := (bo.ext hxr).c3
        by_cases hlta : a < K
        · have hLP' := hok.length
          rw [← HP.out.2.2.2.1] at hLP'
          obtain ⟨ga, capa, rfl, _, _⟩ := Own.ptr hA (setsOf_length L') (by omega)
          obtain ⟨gb, capb, rfl, _, _⟩ := Own.ptr hB (textsOf_length L') (by omega)
          have hcA := hA.cell i (by rw [setsOf_length]; exact hiL)
          have hcB := hB.cell i (by rw [textsOf_length]; exact hiL)
          have e1 := setsOf_at hiL
          rw [List.getElem?_eq_getElem (by rw [setsOf_length]; exact hiL)] at e1
          rw [Option.some.inj e1] at hcA
          have e2 := textsOf_at hiL
          rw [List.getElem?_eq_getElem (by rw [textsOf_length]; exact hiL)] at e2
          rw [Option.some.inj e2] at hcB
          clear e1 e2
          have hSlt : (setsOf L').getD i 0 < P := by
            rw [HP.out.2.2.2.1]
            refine hok.lt _ ?_
            have hl : i < (setsOf L').length := by simpa [setsOf] using hiL
            rw [List.getD_eq_getElem?_getD, List.getElem?_eq_getElem hl]
            exact List.getElem_mem _
          have hUl := hok.word i
          have hstep : stA K N o i L (a + 1) = stepW K N o i a L' := by rw [stA, hsa]; rfl
          unfold stepW at hstep
          obtain ⟨S, hS⟩ : ∃ S, S = (setsOf L').getD i 0 := ⟨_, rfl⟩
          obtain ⟨U, hU⟩ : ∃ U, U = (textsOf L').getD i [] := ⟨_, rfl⟩
          rw [← hS] at hcA hSlt hstep
          rw [← hU] at hcB hUl hstep
          have hcall := fun w => HP.out.2.1 S (letN a) w hSlt
          have hTlt := HP.out.2.2.1 S (letN a)
          obtain ⟨T, hT⟩ : ∃ T, T = nextS K N o S (letN a) := ⟨_, rfl⟩
          rw [← hT] at hcall hTlt hstep
          have habc := abc_get (a := a) (by omega)
          have habs := abc_at a (by omega)
          have hcat := mkS_append U [letN a]
          have hp1 : ¬ 9223372036854775807 < (mkS U).size + (mkS [letN a]).size := by rw [mkS_size, mkS_size]; simp; omega
          have ha3 : a < 3 := by omega
          have HA := Lib.hid (And.intro hcall (And.intro hstep (And.intro hsa (And.intro hok hUl))))
          clear hcall hstep hsa hok hS hU hT hUl
          go_wp2
          refine wp_region_inv (by kernel_rfl) (.known ?hx5_53_v0 :: .known ?hx5_53_v1 :: .known ?hx5_53_v2 :: .known ?hx5_53_v3 :: .known ?hx5_53_v4 :: .known ?hx5_53_v5 :: .known (.int .i64 (T : Nat)) :: .known ?hx5_53_v7 :: []) rfl (by kernel_rfl) ?hx5_53_s ?hx5_53_p
          case hx5_53_s =>
            intro vs
            refine ⟨fun w' hxw hj => ?_, fun w' hxw hj => ?_, fun w' hxw hj => ?_, fun w' hxw hj => ?_, fun w' hxw hj => ?_, fun w' hxw hj => ?_, fun w' hxw hj => ?_, fun w' hxw hj => ?_, trivial⟩
            · have c0 := Ext.cell_some hxw c0
              have c1 := Ext.cell_some hxw c1
              have c2 := Ext.cell_some hxw c2
              have hcA := Ext.cell_some hxw hcA
              have hcB := Ext.cell_some hxw hcB
              clear hj
              go_simp
              try go_bits
              first | rfl | (rw [if_pos (by omega), if_pos (by omega)]; go_simp; rfl) | (rw [if_pos (by omega)]; go_simp; rfl) | skip
            · have c0 := Ext.cell_some hxw c0
              have c1 := Ext.cell_some hxw c1
              have c2 := Ext.cell_some hxw c2
              have hcA := Ext.cell_some hxw hcA
              have hcB := Ext.cell_some hxw hcB
              clear hj
              go_simp
              try go_bits
              first | rfl | (rw [if_pos (by omega), if_pos (by omega)]; go_simp; rfl) | (rw [if_pos (by omega)]; go_simp; rfl) | skip
            · have c0 := Ext.cell_some hxw c0
              have c1 := Ext.cell_some hxw c1
              have c2 := Ext.cell_some hxw c2
              have hcA := Ext.cell_some hxw hcA
              have hcB := Ext.cell_some hxw hcB
              clear hj
              go_simp
              try go_bits
              first | rfl | (rw [if_pos (by omega), if_pos (by omega)]; go_simp; rfl) | (rw [if_pos (by omega)]; go_simp; rfl) | skip
            · have c0 := Ext.cell_some hxw c0
              have c1 := Ext.cell_some hxw c1
              have c2 := Ext.cell_some hxw c2
              have hcA := Ext.cell_some hxw hcA
              have hcB := Ext.cell_some hxw hcB
              clear hj
              go_simp
              try go_bits
              first | rfl | (rw [if_pos (by omega), if_pos (by omega)]; go_simp; rfl) | (rw [if_pos (by omega)]; go_simp; rfl) | skip
            · have c0 := Ext.cell_some hxw c0
              have c1 := Ext.cell_some hxw c1
              have c2 := Ext.cell_some hxw c2
              have hcA := Ext.cell_some hxw hcA
              have hcB := Ext.cell_some hxw hcB
              clear hj
              go_simp
              try go_bits
              first | rfl | (rw [if_pos (by omega), if_pos (by omega)]; go_simp; rfl) | (rw [if_pos (by omega)]; go_simp; rfl) | skip
            · have c0 := Ext.cell_some hxw c0
              have c1 := Ext.cell_some hxw c1
              have c2 := Ext.cell_some hxw c2
              have hcA := Ext.cell_some hxw hcA
              have hcB := Ext.cell_some hxw hcB
              clear hj
              go_simp
              try go_bits
              first | rfl | (rw [if_pos (by omega), if_pos (by omega)]; go_simp; rfl) | (rw [if_pos (by omega)]; go_simp; rfl) | skip
            · have c0 := Ext.cell_some hxw c0
              have c1 := Ext.cell_some hxw c1
              have c2 := Ext.cell_some hxw c2
              have hcA := Ext.cell_some hxw hcA
              have hcB := Ext.cell_some hxw hcB
              clear hj
              go_simp
              try go_bits
              exact HA.out.1 _
            · have c0 := Ext.cell_some hxw c0
              have c1 := Ext.cell_some hxw c1
              have c2 := Ext.cell_some hxw c2
              have hcA := Ext.cell_some hxw hcA
              have hcB := Ext.cell_some hxw hcB
              clear hj
              go_simp
              try go_bits
              first | rfl | (rw [if_pos (by omega), if_pos (by omega)]; go_simp; rfl) | (rw [if_pos (by omega)]; go_simp; rfl) | skip
          case' hx5_53_p =>
            intro vs w5 hx5 hk
            clear hk
            replace c0 := Ext.cell_some hx5 c0
            replace c1 := Ext.cell_some hx5 c1
            replace c2 := Ext.cell_some hx5 c2
            replace hcA := Ext.cell_some hx5 hcA
            replace hcB := Ext.cell_some hx5 hcB
            replace hA := Own.ext hA hx5
            replace hB := Own.ext hB hx5
            replace hxr := Ext.trans hxr hx5
            go_simp
            clear hx5
            go_wp2
            refine wp_region_inv (by kernel_rfl) (.known ?hx6_54_v0 :: .known ?hx6_54_v1 :: .known ?hx6_54_v2 :: .known ?hx6_54_v3 :: .known ?hx6_54_v4 :: .known ?hx6_54_v5 :: .known ?hx6_54_v6 :: .known ?hx6_54_v7 :: .known ?hx6_54_v8 :: .known ?hx6_54_v9 :: []) rfl (by kernel_rfl) ?hx6_54_s ?hx6_54_p
            case hx6_54_s =>
              intro vs
              refine ⟨fun w' hxw hj => ?_, fun w' hxw hj => ?_, fun w' hxw hj => ?_, fun w' hxw hj => ?_, fun w' hxw hj => ?_, fun w' hxw hj => ?_, fun w' hxw hj => ?_, fun w' hxw hj => ?_, fun w' hxw hj => ?_, fun w' hxw hj => ?_, trivial⟩
              · have hcA := Ext.cell_some hxw hcA
                have hcB := Ext.cell_some hxw hcB
                clear hj
                go_simp
                try go_bits
                first | rfl | (rw [if_pos (by omega), if_pos (by omega)]; go_simp; rfl) | (rw [if_pos (by omega)]; go_simp; rfl) | skip
              · have hcA := Ext.cell_some hxw hcA
                have hcB := Ext.cell_some hxw hcB
                clear hj
                go_simp
                try go_bits
                first | rfl | (rw [if_pos (by omega), if_pos (by omega)]; go_simp; rfl) | (rw [if_pos (by omega)]; go_simp; rfl) | skip
              · have hcA := Ext.cell_some hxw hcA
                have hcB := Ext.cell_some hxw hcB
                clear hj
                go_simp
                try go_bits
                first | rfl | (rw [if_pos (by omega), if_pos (by omega)]; go_simp; rfl) | (rw [if_pos (by omega)]; go_simp; rfl) | skip
              · have hcA := Ext.cell_some hxw hcA
                have hcB := Ext.cell_some hxw hcB
                clear hj
                go_simp
                try go_bits
                first | rfl | (rw [if_pos (by omega), if_pos (by omega)]; go_simp; rfl) | (rw [if_pos (by omega)]; go_simp; rfl) | skip
              · have hcA := Ext.cell_some hxw hcA
                have hcB := Ext.cell_some hxw hcB
                clear hj
                go_simp
                try go_bits
                first | rfl | (rw [if_pos (by omega), if_pos (by omega)]; go_simp; rfl) | (rw [if_pos (by omega)]; go_simp; rfl) | skip
              · have hcA := Ext.cell_some hxw hcA
                have hcB := Ext.cell_some hxw hcB
                clear hj
                go_simp
                try go_bits
                first | rfl | (rw [if_pos (by omega), if_pos (by omega)]; go_simp; rfl) | (rw [if_pos (by omega)]; go_simp; rfl) | skip
              · have hcA := Ext.cell_some hxw hcA
                have hcB := Ext.cell_some hxw hcB
                clear hj
                go_simp
                try go_bits
                first | rfl | (rw [if_pos (by omega), if_pos (by omega)]; go_simp; rfl) | (rw [if_pos (by omega)]; go_simp; rfl) | skip
              · have hcA := Ext.cell_some hxw hcA
                have hcB := Ext.cell_some hxw hcB
                clear hj
                go_simp
                try go_bits
                first | rfl | (rw [if_pos (by omega), if_pos (by omega)]; go_simp; rfl) | (rw [if_pos (by omega)]; go_simp; rfl) | skip
              · have hcA := Ext.cell_some hxw hcA
                have hcB := Ext.cell_some hxw hcB
                clear hj
                go_simp
                try go_bits
                first | rfl | (rw [if_pos (by omega), if_pos (by omega)]; go_simp; rfl) | (rw [if_pos (by omega)]; go_simp; rfl) | skip
              · have hcA := Ext.cell_some hxw hcA
                have hcB := Ext.cell_some hxw hcB
                clear hj
                go_simp
                try go_bits
                first | rfl | (rw [if_pos (by omega), if_pos (by omega)]; go_simp; rfl) | (rw [if_pos (by omega)]; go_simp; rfl) | skip
            case' hx6_54_p =>
              intro vs w6 hx6 hk
              clear hk
              replace hcA := Ext.cell_some hx6 hcA
              replace hcB := Ext.cell_some hx6 hcB
              replace hA := Own.ext hA hx6
              replace hB := Own.ext hB hx6
              replace hxr := Ext.trans hxr hx6
              go_simp
              clear hx6 c0 c1 c2
              by_cases hT0 : T = 0
              · have hfound : stA K N o i L (a + 1) = (some (U ++ [letN a]), L') := by rw [HA.out.2.1, if_pos hT0]
                have hall : orphL K N o = some (U ++ [letN a]) := by
                  have h1 := stA_found hfound (K - (a + 1))
                  rw [show a + 1 + (K - (a + 1)) = K by omega] at h1
                  refine orphL_found (i := i + 1) (L := L') (by omega) ?_
                  rw [stI_of_stA HI.out.1 hlti, h1]
                have HF := Lib.hid hall
                have hTb : ((T : Int) == 0) = true := by simp; omega
                clear hfound hall hT0
                go_wp2
                go_ret2
                exact ⟨by rw [HP.out.2.2.2.2, HF.out]; rfl, hx.trans hxr⟩
              · have hTb : ((T : Int) == 0) = false := by simp; omega
                have HT0 := Lib.hid hT0
                have hd0 : decide (T ∈ (setsOf L').take 0) = false := by simp
                clear hT0
                obtain ⟨w7, rfl⟩ : ∃ w7 : World, w7 = w6 := ⟨_, rfl⟩
                go_wp2
                go_loop [11, 12] (fun f j => ∃ j' : Nat, j' ≤ L'.length ∧ j = .int .i64 j' ∧ f = .bool (decide (T ∈ (setsOf L').take j'))) (fun _ j => L'.length - (intOf j).toNat)
                case atStart => exact ⟨0, by omega, rfl, by rw [hd0]⟩
                case round =>
                  clear hd0
                  obtain ⟨j, hj, rfl, rfl⟩ := hrel
                  have hsl : (setsOf L').length = L'.length := by simp [setsOf]
                  by_cases hltj : j < L'.length
                  · have hcj := hA.cell j (by rw [setsOf_length]; exact hltj)
                    have e1 := setsOf_at hltj
                    rw [List.getElem?_eq_getElem (by rw [setsOf_length]; exact hltj)] at e1
                    rw [Option.some.inj e1] at hcj
                    clear e1
                    have hmem := mem_take_succ (setsOf L') j T (by rw [hsl]; exact hltj)
                    obtain ⟨Q, hQ⟩ : ∃ Q, Q = (setsOf L').getD j 0 := ⟨_, rfl⟩
                    rw [← hQ] at hcj hmem
                    have HM := Lib.hid hmem
                    clear hmem hQ hsl
                    cases hf : decide (T ∈ (setsOf L').take j) with
                    | true =>
                      have HG := Lib.hid (show decide (T ∈ (setsOf L').take (j + 1)) = true by rw [decide_eq_true_iff, HM.out]; exact .inl (by simpa using hf))
                      clear hf
                      go_wp2
                      go_round
                      case rel => exact ⟨j + 1, by omega, by go_num, by rw [HG.out]⟩
                      case measure => simp [intOf]; omega
                    | false =>
                      by_cases hQT : Q = T
                      · have hqb : ((Q : Int) == (T : Int)) = true := by simp; omega
                        have HG := Lib.hid (show decide (T ∈ (setsOf L').take (j + 1)) = true by rw [decide_eq_true_iff, HM.out]; exact .inr hQT)
                        clear hf hQT
                        go_wp2
                        go_round
                        case rel => exact ⟨j + 1, by omega, by go_num, by rw [HG.out]⟩
                        case measure => simp [intOf]; omega
                      · have hqb : ((Q : Int) == (T : Int)) = false := by simp; omega
                        have HG := Lib.hid (show decide (T ∈ (setsOf L').take (j + 1)) = false by
                          rw [decide_eq_false_iff_not, HM.out]
                          rintro (h | h)
                          · exact absurd h (by simpa using hf)
                          · exact hQT h)
                        clear hf hQT
                        go_wp2
                        go_round
                        case rel => exact ⟨j + 1, by omega, by go_num, by rw [HG.out]⟩
                        case measure => simp [intOf]; omega
                  · have hjl : j = L'.length := by omega
                    have htake : (setsOf L').take j = setsOf L' := List.take_of_length_le (by omega)
                    rw [htake]
                    clear htake
                    subst hjl
                    cases hf : decide (T ∈ setsOf L') with
                    | true =>
                      have hnext : stA K N o i L (a + 1) = (none, L') := by rw [HA.out.2.1, if_neg HT0.out, if_pos (by simpa using hf)]
                      have HN := Lib.hid hnext
                      clear hf hnext hsl
                      go_wp2
                      go_roundw
                      case rel => exact ⟨a + 1, L', by omega, by go_num, HN.out, HA.out.2.2.2.1, hiL, hA, hB, hap, hxr⟩
                      case measure => simp [intOf]; omega
                    | false =>
                      have hnm : T ∉ setsOf L' := by simpa using hf
                      have hnext : stA K N o i L (a + 1) = (none, L' ++ [(T, U ++ [letN a])]) := by rw [HA.out.2.1, if_neg HT0.out, if_neg hnm]
                      have hok2 := SwOk.push HA.out.2.2.2.1 (T := T) (u := U ++ [letN a]) (i := i) (by rw [← HP.out.2.2.2.1]; exact hTlt) hnm (by have := HA.out.2.2.2.2; simp; omega) hiL
                      have HN := Lib.hid (And.intro hnext hok2)
                      have hcx : (w7.alloc (.cells #[.int .i64 (T : Int)] 3)).cell? ⟨w7.heap.size, 0, none⟩ = some (.int .i64 (T : Int)) := by simp
                      have hAb := hA.ext (Ext.alloc w7 (.cells #[.int .i64 (T : Int)] 3))
                      have hBb := hB.ext (Ext.alloc w7 (.cells #[.int .i64 (T : Int)] 3))
                      have hxb := Ext.alloced hxr (.cells #[.int .i64 (T : Int)] 3)
                      have hl1 : (ncells (setsOf L')).length + 1 ≤ maxLen := by rw [setsOf_length]; unfold maxLen; omega
                      have hl2 : ((ncells (setsOf L')).length + 1) * 8 ≤ 140737488355328 := by rw [setsOf_length]; omega
                      have hl3 : (scells (textsOf L')).length + 1 ≤ maxLen := by rw [textsOf_length]; unfold maxLen; omega
                      have hl4 : ((scells (textsOf L')).length + 1) * 16 ≤ 140737488355328 := by rw [textsOf_length]; omega
                      clear hf hnm hnext hok2 hsl hA hB hxr hcA hcB
                      have tok1 : True := trivial
                      go_wp2_with (first
                        | (at_builtin
                           have _t := tok1
                           refine wpList_append_one rfl (.tmp 74) (.tmp 76) 63 rfl 3 _ _ Try.underlying63 infoInt rfl w1.heap.size _ _ rfl hAb w7.heap.size _ rfl hcx rfl hl1 hl2 w1 rfl hxb ?_
                           intro v' w8 hA8 hx8 hmv
                           have hB8 := GB.own hmv.1 hBb (fun k hk => Apart.symm hap k hk)
                           have hap8 := Apart.moved hap hBb hmv.2
                           have hcy : (w8.alloc (.cells #[.string (mkS (U ++ [letN a]))] 9)).cell? ⟨w8.heap.size, 0, none⟩ = some (.string (mkS (U ++ [letN a]))) := by simp
                           have hA9 := hA8.ext (Ext.alloc w8 (.cells #[.string (mkS (U ++ [letN a]))] 9))
                           have hB9 := hB8.ext (Ext.alloc w8 (.cells #[.string (mkS (U ++ [letN a]))] 9))
                           have hx9 := Ext.alloced hx8 (.cells #[.string (mkS (U ++ [letN a]))] 9)
                           clear tok1 _t hmv hAb hBb hxb hA8 hB8 hx8 hcx)
                        | (at_builtin
                           refine wpList_append_one rfl (.tmp 78) (.tmp 80) 48 rfl 9 _ _ Try.underlying48 infoStr rfl w1.heap.size _ _ rfl hB9 w8.heap.size _ rfl hcy rfl hl3 hl4 w1 rfl hx9 ?_
                           intro v'' w10 hB10 hx10 hmv2))
                      have hA10 := GB.own hmv2.1 hA9 (fun k hk => hap8 k hk)
                      have hap10 := Apart.symm (Apart.moved (Apart.symm hap8) hA9 hmv2.2)
                      have hA11 : Own w10 w1.heap.size 3 v' (ncells (setsOf (L' ++ [(T, U ++ [letN a])]))) := by simpa [ncells, setsOf] using hA10
                      have hB11 : Own w10 w1.heap.size 9 v'' (scells (textsOf (L' ++ [(T, U ++ [letN a])]))) := by simpa [scells, textsOf] using hB10
                      clear hA10 hB10 hA9 hB9 hx9 hmv2
                      go_roundw
                      case rel => exact ⟨a + 1, _, by omega, by go_num, HN.out.1, HN.out.2, by simp; omega, hA11, hB11, hap10, hx10⟩
                      case measure => simp [intOf]; omega
        · have haK : a = K := by omega
          have hnext : stI K N o (i + 1) = (none, L') := by rw [stI_of_stA HI.out.1 hlti, ← haK]; rw [haK] at hsa ⊢; exact hsa
          have HN := Lib.hid (And.intro hnext hok)
          clear hsa hok hnext
          subst haK
          go_wp2
          go_roundw
          case rel => exact ⟨i + 1, L', by omega, by omega, by go_num, HN.out.1, HN.out.2, hA, hB, hap, hxr⟩
          case measure => simp [intOf]; omega
    · have hiL : i = L.length := by omega
      have hnone : r = none := by rw [HP.out.2.2.2.2]; exact orphL_end (i := i) (by omega) hst (by omega)
      have HN := Lib.hid hnone
      clear hst hok hnone
      obtain ⟨g4, cap4, rfl, _, _⟩ := Own.ptr hA (setsOf_length L) hL0
      have hge : ¬ i < L.length := by omega
      clear hiL
      go_wp2
      go_ret2
      exact ⟨by rw [HN.out]; rfl, hx.trans hxr⟩
end Go.Proofs.Ytfkdpeifnfpldaa
