/- Contract: the program's search for a word without a source. -/
import Derived.Test.YtfkdpeifnfpldaaSeen
import Derived.Test.YtfkdpeifnfpldaaPermA
import Derived.BigRegion
namespace Go.Proofs.Ytfkdpeifnfpldaa
open Go.RowKit Go.Cm

theorem box_convert {w : World} {v : Value} {a : Nat} (ha : a < 3) (h : BoxOf (.int .u8 (97 + (a : Int))) v w) : (convert 22 9 v).run Try.prog w = .ok (.string (mkS [letN a])) w := by
  obtain ⟨b, rfl, hc⟩ := h
  have hl3 : ((letN a).toNat : Int) = 97 + a := by have := ofNat_toNat (n := 97 + a) (by omega); unfold letN; omega
  refine run_convert_bytes_back w _ _ 5 ⟨b, 0, none⟩ 1 [letN a] Try.underlying22 Try.underlying5 Try.underlying9 fun j hj => ?_
  have hj0 : j = 0 := by simp at hj; omega
  subst hj0
  simpa [Addr.add, hl3] using hc

set_option maxRecDepth 100000 in
set_option maxHeartbeats 8000000 in
theorem impl_orphan_any (K n m N : Nat) (o : ByteArray) (w : World) (hf : CodeFit K n o) (hn : n = m + 1) (hN : N = K ^ m) :
    Calls Try.prog 44 #[.agg #[.int .i64 K, .int .i64 n, .string o]] w fun e w' => e = .returned (srcV (orphL K N o)) ∧ Ext w w' := by
  have hk2 := hf.k2
  have hk3 := hf.k3
  have hn4 := hf.n4
  obtain ⟨hNK, hos, hN1, hN9, h512⟩ := ends_few hf hn hN
  have e1 : (n : Int) - 1 = m := by omega
  have hpw : ∀ w, Calls Try.prog 65 #[.int .i64 K, .int .i64 m] w fun e w' => e = .returned (.int .i64 (N : Nat)) ∧ w = w' := by
    intro w
    have h := impl_power_any (K : Int) (m : Int) w (by omega) (by omega) (by omega) (by omega)
    rw [pw_nat, ← hN] at h
    exact h
  obtain ⟨r, hr⟩ : ∃ r, r = orphL K N o := ⟨_, rfl⟩
  rw [← hr]
  have hpi := pow_int N
  obtain ⟨P, hP⟩ : ∃ P, P = 2 ^ N := ⟨_, rfl⟩
  rw [← hP] at hpi h512
  have hP1 : 0 < P := by rw [hP]; exact Nat.pow_pos (by omega)
  have hP0i : (P : Int) - 1 = ((P - 1 : Nat) : Int) := by omega
  have hst : stI K N o 0 = (none, [(P - 1, [])]) := by rw [hP]; rfl
  have hok : SwOk N [(P - 1, [])] := by rw [hP]; exact SwOk.start N
  have hlt : ∀ S c, nextS K N o S c < P := fun S c => by rw [hP]; exact allB_lt hN1 o S c N
  have ho27 : o.size ≤ 27 := by omega
  have HP := Lib.hid (And.intro hpw (And.intro hos (And.intro hlt (And.intro hP (And.intro hr hNK)))))
  have HS0 := Lib.hid (And.intro hst hok)
  clear hpw hn hN hos hNK hlt hP hr hst hok
  go_enter Try.func44, Try.ntmps44
  go_wp2_with fail
  with_reducible refine (HP.out.1 _).mono ?_
  rintro e w1 ⟨rfl, rfl⟩
  have bo : Blk (w.alloc (.cells #[.int .i64 K, .int .i64 n, .string o] 25)) w.heap.size #[.int .i64 K, .int .i64 n, .string o] := by (repeat (first | (refine Blk.mk' ?_; (simp; done)) | apply Blk.old))
  have hx : Ext w (w.alloc (.cells #[.int .i64 K, .int .i64 n, .string o] 25)) := Ext.alloc _ _
  have hsz : (w.alloc (.cells #[.int .i64 K, .int .i64 n, .string o] 25)).heap.size = w.heap.size + 1 := by simp
  obtain ⟨w1, hw1⟩ : ∃ w1 : World, w1 = w.alloc (.cells #[.int .i64 K, .int .i64 n, .string o] 25) := ⟨_, rfl⟩
  rw [← hw1] at bo hx hsz ⊢
  clear hw1
  have hsq : (w1.alloc (.cells #[.int .i64 ((P - 1 : Nat) : Int), .string ⟨#[]⟩] 85)).heap.size = w1.heap.size + 1 := by simp
  have hq := Seen.made (w1.alloc (.cells #[.int .i64 ((P - 1 : Nat) : Int), .string ⟨#[]⟩] 85))
  have hB : Own2 (w1.alloc (.cells #[.int .i64 ((P - 1 : Nat) : Int), .string ⟨#[]⟩] 85)) w1.heap.size 85 (.slice (some ⟨w1.heap.size, 0, none⟩) 1 1) 1 (stepCells [(P - 1, [])]) := by
    refine ⟨rfl, .inr ⟨w1.heap.size, 1, #[.int .i64 ((P - 1 : Nat) : Int), .string ⟨#[]⟩], rfl, Nat.le_refl _, heap_alloc_new w1 _, Nat.le_refl _, by decide, rfl, rfl⟩⟩
  obtain ⟨w2, hrun, hS2, hg2⟩ := hq.push (T := P - 1) (by omega) (by omega)
  have hB2 : Own2 w2 w1.heap.size 85 (.slice (some ⟨w.heap.size + 1, 0, none⟩) 1 1) 1 (stepCells [(P - 1, [])]) := by
    rw [← hsz]
    exact GB.own2 hg2 (hB.ext (Ext.alloc _ _)) (fun k hk e => by
      simp [Value.ownBlock] at hk e
      omega)
  have hx2 : Ext w1 w2 := ((Ext.alloc _ _).trans (Ext.alloc _ _)).grown hg2 (fun k hk => by simp at hk; omega)
  have hmk := run_makeMap (P := Try.prog) 87 (w1.alloc (.cells #[.int .i64 ((P - 1 : Nat) : Int), .string ⟨#[]⟩] 85))
  rw [hsq, hsz] at hrun hS2 hmk
  have hS3 : Seen w2 (w.heap.size + 1 + 1) 1 (setsOf [(P - 1, [])]) := hS2
  have hap : (Value.slice (some ⟨w.heap.size + 1, 0, none⟩) 1 1).ownBlock ≠ some (w.heap.size + 1 + 1) := by simp [Value.ownBlock]
  have hbM : w1.heap.size ≤ w.heap.size + 1 + 1 := by omega
  clear hq hB hg2 hS2
  go_wp2
  obtain ⟨M, hM⟩ : ∃ M, M = w.heap.size + 1 + 1 := ⟨_, rfl⟩
  rw [← hM] at hS3 hap hbM ⊢
  clear hmk hrun hM
  go_loopw [5, 7] (fun v5 i wr => ∃ (i' : Nat) (L : Sw), i' ≤ L.length ∧ 0 < L.length ∧ i = .int .i64 i' ∧ stI K N o i' = (none, L) ∧ SwOk N L ∧ Own2 wr w1.heap.size 85 v5 L.length (stepCells L) ∧ Seen wr M L.length (setsOf L) ∧ v5.ownBlock ≠ some M ∧ Ext w1 wr) (fun _ i _ => 1000 - (intOf i).toNat)
  case atStart => exact ⟨0, [(P - 1, [])], by simp, by simp, rfl, HS0.out.1, HS0.out.2, hB2, hS3, hap, hx2⟩
  case round =>
    clear hB2 hS3 hx2 hap
    obtain ⟨i, L, hi, hL0, rfl, hst, hok, hB, hS, hap, hxr⟩ := hrel
    have hLP := hok.length
    rw [← HP.out.2.2.2.1] at hLP
    by_cases hlti : i < L.length
    · have HI := Lib.hid (And.intro hst hok)
      obtain ⟨g4, cap4, rfl, _, _⟩ := hB.shape (by omega)
      obtain ⟨c0, c1, c2, -, -, -⟩ := (bo.ext hxr).c3
      have h0 : stA K N o i L 0 = (none, L) := rfl
      clear hst
      obtain ⟨w2, rfl⟩ : ∃ w2 : World, w2 = wr := ⟨_, rfl⟩
      go_wp2
      go_loopw [5, 37] (fun v5 x wr => ∃ (a : Nat) (L' : Sw), a ≤ K ∧ x = .int .i64 a ∧ stA K N o i L a = (none, L') ∧ SwOk N L' ∧ i < L'.length ∧ Own2 wr w1.heap.size 85 v5 L'.length (stepCells L') ∧ Seen wr M L'.length (setsOf L') ∧ v5.ownBlock ≠ some M ∧ Ext w1 wr) (fun _ x _ => K - (intOf x).toNat)
      case atStart => exact ⟨0, L, by omega, rfl, h0, hok, hlti, hB, hS, hap, hxr⟩
      case round =>
        clear hB hS hap hxr h0 hok c0 c1 c2
        obtain ⟨a, L', ha, rfl, hsa, hok, hiL, hB, hS, hap, hxr⟩ := hrel
        obtain ⟨c0, c1, c2, -, -, -⟩ := (bo.ext hxr).c3
        by_cases hlta : a < K
        · have hLP' := hok.length
          rw [← HP.out.2.2.2.1] at hLP'
          obtain ⟨ga, capa, rfl, _, _⟩ := hB.shape (by omega)
          have hcA := hB.cell (i * 2) (by omega)
          have hcB := hB.cell (i * 2 + 1) (by omega)
          rw [(stepCells_at L' i hiL).1] at hcA
          rw [(stepCells_at L' i hiL).2] at hcB
          have hSlt : (setsOf L').getD i 0 < P := by
            rw [HP.out.2.2.2.1]
            refine hok.lt _ ?_
            have hl : i < (setsOf L').length := by simpa [setsOf] using hiL
            rw [List.getD_eq_getElem?_getD, List.getElem?_eq_getElem hl]
            exact List.getElem_mem _
          have hUl := hok.word i
          have hstep : stA K N o i L (a + 1) = stepW K N o i a L' := by rw [stA, hsa]; rfl
          unfold stepW at hstep
          obtain ⟨S, hSe⟩ : ∃ S, S = (setsOf L').getD i 0 := ⟨_, rfl⟩
          obtain ⟨U, hU⟩ : ∃ U, U = (textsOf L').getD i [] := ⟨_, rfl⟩
          rw [← hSe] at hcA hSlt hstep
          rw [← hU] at hcB hUl hstep
          have hTlt := HP.out.2.2.1 S (letN a)
          have ha3 : a < 3 := by omega
          have HA := Lib.hid (And.intro hstep (And.intro hsa (And.intro hok hUl)))
          clear hstep hsa hok hSe hU hUl
          obtain ⟨w4, rfl⟩ : ∃ w4 : World, w4 = wr := ⟨_, rfl⟩
          go_wp2
          go_loop [9, 41] (fun t v => ∃ v' : Nat, v' ≤ N ∧ v = .int .i64 v' ∧ t = .int .i64 (allB K N o S (letN a) v' : Nat)) (fun _ v => N - (intOf v).toNat)
          case atStart => exact ⟨0, by omega, rfl, rfl⟩
          case round =>
            obtain ⟨v, hv, rfl, rfl⟩ := hrel
            by_cases hltv : v < N
            · obtain ⟨va, hva⟩ : ∃ va, va = v * K := ⟨_, rfl⟩
              have hvai : (v : Int) * (K : Int) = (va : Int) := by rw [hva]; simp
              have hvab : va + K ≤ N * K := by rw [hva, ← Nat.succ_mul]; exact Nat.mul_le_mul_right _ hltv
              rw [← HP.out.2.1] at hvab
              have HV := Lib.hid hva
              clear hva
              have hon := bit_on S v (by omega)
              have hTN := allB_lt (K := K) hN1 o S (letN a) v
              have hsucc := allB_succ K N o S (letN a) v
              obtain ⟨T0, hT0⟩ : ∃ T0, T0 = allB K N o S (letN a) v := ⟨_, rfl⟩
              rw [← hT0] at hTN hsucc ⊢
              have HT := Lib.hid (And.intro hTN hsucc)
              clear hTN hsucc hT0
              obtain ⟨bt, hbt⟩ : ∃ bt, bt = S.testBit v := ⟨_, rfl⟩
              rw [← hbt] at hon
              have HBT := Lib.hid hbt
              clear hbt
              go_wp2
              go_loop [9, 46] (fun t x => ∃ x' : Nat, x' ≤ K ∧ x = .int .i64 x' ∧ t = .int .i64 (rowB K N o S (letN a) v T0 x' : Nat)) (fun _ x => K - (intOf x).toNat)
              case atStart => exact ⟨0, by omega, rfl, rfl⟩
              case round =>
                obtain ⟨x, hx', rfl, rfl⟩ := hrel
                by_cases hltx : x < K
                · obtain ⟨q, hq⟩ : ∃ q, q = va + x := ⟨_, rfl⟩
                  have hqi : (va : Int) + (x : Int) = (q : Int) := by omega
                  have hqo : q < o.size := by omega
                  have hsucc := rowB_succ K N o S (letN a) v T0 x
                  have hTN := rowB_lt (K := K) hN1 (o := o) (S := S) (c := letN a) (v := v) HT.out.1 x
                  obtain ⟨T, hT⟩ : ∃ T, T = rowB K N o S (letN a) v T0 x := ⟨_, rfl⟩
                  rw [← hT] at hTN hsucc ⊢
                  have hT512 : T < 512 := by have := HP.out.2.2.2.1; omega
                  obtain ⟨j, hj⟩ : ∃ j, j = q % N := ⟨_, rfl⟩
                  have hji : (q : Int) % (N : Int) = (j : Int) := by rw [hj]; simp
                  have hjN : j < N := by rw [hj]; exact Nat.mod_lt _ hN1
                  have hp512 : 2 ^ j ≤ 512 := by
                    have h1 : 2 ^ j ≤ 2 ^ 9 := Nat.pow_le_pow_right (by omega) (by omega)
                    have h2 : (2 : Nat) ^ 9 = 512 := by decide
                    omega
                  have hpi := pow_int j
                  have hor := (i64_bits T (2 ^ j) (by omega) (by omega)).2
                  obtain ⟨hb1, hb2, -⟩ := letter_num hf.lets hqo
                  have hb := o[q].toNat_lt
                  obtain ⟨y, hy⟩ : ∃ y, y = o[q].toNat - 97 := ⟨_, rfl⟩
                  have ey : (o[q].toNat : Int) - 97 = (y : Int) := by omega
                  have hy3 : y < 3 := by omega
                  have hyc : o[q] = letN a ↔ y = a := by
                    have hl3 : (letN a).toNat = 97 + a := by have := ofNat_toNat (n := 97 + a) (by omega); unfold letN; omega
                    constructor
                    · intro h
                      rw [h] at hy
                      omega
                    · intro h
                      apply UInt8.toNat_inj.1
                      omega
                  have hadd : addS K N o S (letN a) v T x = if bt = true ∧ y = a then T ||| 2 ^ j else T := by
                    unfold addS
                    have e1 : o.data.toList.getD q 0 = o[q] := by rw [List.getD_eq_getElem?_getD, List.getElem?_eq_getElem (by simpa using hqo)]; rfl
                    rw [← HV.out, ← hq, e1, ← HBT.out, ← hj]
                    simp only [hyc]
                  obtain ⟨p2, hp2⟩ : ∃ p2, p2 = 2 ^ j := ⟨_, rfl⟩
                  rw [← hp2] at hp512 hpi hor hadd
                  rw [hadd] at hsucc
                  obtain ⟨T2, hT2⟩ : ∃ T2, T2 = T ||| p2 := ⟨_, rfl⟩
                  rw [← hT2] at hor hsucc
                  have HS := Lib.hid hsucc
                  clear hq hTN hsucc hT hj hadd hp2 hT2 hyc hb1 hb2 hy
                  cases bt with
                  | false =>
                    go_wp2
                    go_round
                    case rel => exact ⟨x + 1, by omega, by go_num, by rw [HS.out]; simp⟩
                    case measure => simp [intOf]; omega
                  | true =>
                    by_cases hya : y = a
                    · have hyb : ((y : Int) == (a : Int)) = true := by simp; omega
                      have HY := Lib.hid hya
                      clear hya
                      go_wp2
                      go_round
                      case rel => exact ⟨x + 1, by omega, by go_num, by rw [HS.out, if_pos ⟨rfl, HY.out⟩]⟩
                      case measure => simp [intOf]; omega
                    · have hyb : ((y : Int) == (a : Int)) = false := by simp; omega
                      have HY := Lib.hid hya
                      clear hya
                      go_wp2
                      go_round
                      case rel => exact ⟨x + 1, by omega, by go_num, by rw [HS.out, if_neg (fun h => HY.out h.2)]⟩
                      case measure => simp [intOf]; omega
                · have hxK : x = K := by omega
                  subst hxK
                  go_wp2
                  go_round
                  case rel => exact ⟨v + 1, by omega, by go_num, by rw [HT.out.2]⟩
                  case measure => simp [intOf]; omega
            · have hvN : v = N := by omega
              subst v
              obtain ⟨T, hT⟩ : ∃ T, T = allB K N o S (letN a) N := ⟨_, rfl⟩
              rw [← hT]
              have hTlt' : T < P := by rw [hT]; exact hTlt
              have hTd : nextS K N o S (letN a) = T := hT.symm
              have hstep := HA.out.1
              rw [hTd] at hstep
              have HT := Lib.hid hstep
              clear hT hTd hstep hTlt
              have hcat := mkS_append U [letN a]
              have hp1 : ¬ 9223372036854775807 < (mkS U).size + (mkS [letN a]).size := by
                have := HA.out.2.2.2
                rw [mkS_size, mkS_size]; simp; omega
              go_wp2
              refine wp_region_inv (by kernel_rfl) (.known ?hx6_25_v0 :: .known ?hx6_25_v1 :: .known ?hx6_25_v2 :: .known ?hx6_25_v3 :: .known ?hx6_25_v4 :: .known ?hx6_25_v5 :: .known ?hx6_25_v6 :: .known ?hx6_25_v7 :: .box ?hx6_25_v8 :: .known ?hx6_25_v9 :: .known ?hx6_25_v10 :: .known ?hx6_25_v11 :: []) rfl (by kernel_rfl) ?hx6_25_s ?hx6_25_p
              case hx6_25_s =>
                intro vs
                refine ⟨fun w' hxw hj => ?_, fun w' hxw hj => ?_, fun w' hxw hj => ?_, fun w' hxw hj => ?_, fun w' hxw hj => ?_, fun w' hxw hj => ?_, fun w' hxw hj => ?_, fun w' hxw hj => ?_, fun w' hxw hj => ?_, fun w' hxw hj => ?_, fun w' hxw hj => ?_, fun w' hxw hj => ?_, trivial⟩
                · have c0 := Ext.cell_some hxw c0
                  have c1 := Ext.cell_some hxw c1
                  have c2 := Ext.cell_some hxw c2
                  have hcA := Ext.cell_some hxw hcA
                  have hcB := Ext.cell_some hxw hcB
                  clear hj
                  go_simp
                  try go_bits
                  first | rfl | (rw [if_pos (by omega), if_pos (by omega)]; go_simp; rfl) | (rw [if_pos (by omega)]; go_simp; rfl) | skip
                · have c0 := Ext.cell_some hxw c0
                  have c1 := Ext.cell_some hxw c1
                  have c2 := Ext.cell_some hxw c2
                  have hcA := Ext.cell_some hxw hcA
                  have hcB := Ext.cell_some hxw hcB
                  clear hj
                  go_simp
                  try go_bits
                  first | rfl | (rw [if_pos (by omega), if_pos (by omega)]; go_simp; rfl) | (rw [if_pos (by omega)]; go_simp; rfl) | skip
                · have c0 := Ext.cell_some hxw c0
                  have c1 := Ext.cell_some hxw c1
                  have c2 := Ext.cell_some hxw c2
                  have hcA := Ext.cell_some hxw hcA
                  have hcB := Ext.cell_some hxw hcB
                  clear hj
                  go_simp
                  try go_bits
                  first | rfl | (rw [if_pos (by omega), if_pos (by omega)]; go_simp; rfl) | (rw [if_pos (by omega)]; go_simp; rfl) | skip
                · have c0 := Ext.cell_some hxw c0
                  have c1 := Ext.cell_some hxw c1
                  have c2 := Ext.cell_some hxw c2
                  have hcA := Ext.cell_some hxw hcA
                  have hcB := Ext.cell_some hxw hcB
                  clear hj
                  go_simp
                  try go_bits
                  first | rfl | (rw [if_pos (by omega), if_pos (by omega)]; go_simp; rfl) | (rw [if_pos (by omega)]; go_simp; rfl) | skip
                · have c0 := Ext.cell_some hxw c0
                  have c1 := Ext.cell_some hxw c1
                  have c2 := Ext.cell_some hxw c2
                  have hcA := Ext.cell_some hxw hcA
                  have hcB := Ext.cell_some hxw hcB
                  clear hj
                  go_simp
                  try go_bits
                  first | rfl | (rw [if_pos (by omega), if_pos (by omega)]; go_simp; rfl) | (rw [if_pos (by omega)]; go_simp; rfl) | skip
                · have c0 := Ext.cell_some hxw c0
                  have c1 := Ext.cell_some hxw c1
                  have c2 := Ext.cell_some hxw c2
                  have hcA := Ext.cell_some hxw hcA
                  have hcB := Ext.cell_some hxw hcB
                  clear hj
                  go_simp
                  try go_bits
                  first | rfl | (rw [if_pos (by omega), if_pos (by omega)]; go_simp; rfl) | (rw [if_pos (by omega)]; go_simp; rfl) | skip
                · have c0 := Ext.cell_some hxw c0
                  have c1 := Ext.cell_some hxw c1
                  have c2 := Ext.cell_some hxw c2
                  have hcA := Ext.cell_some hxw hcA
                  have hcB := Ext.cell_some hxw hcB
                  clear hj
                  go_simp
                  try go_bits
                  first | rfl | (rw [if_pos (by omega), if_pos (by omega)]; go_simp; rfl) | (rw [if_pos (by omega)]; go_simp; rfl) | skip
                · have c0 := Ext.cell_some hxw c0
                  have c1 := Ext.cell_some hxw c1
                  have c2 := Ext.cell_some hxw c2
                  have hcA := Ext.cell_some hxw hcA
                  have hcB := Ext.cell_some hxw hcB
                  clear hj
                  go_simp
                  try go_bits
                  first | rfl | (rw [if_pos (by omega), if_pos (by omega)]; go_simp; rfl) | (rw [if_pos (by omega)]; go_simp; rfl) | skip
                · have c0 := Ext.cell_some hxw c0
                  have c1 := Ext.cell_some hxw c1
                  have c2 := Ext.cell_some hxw c2
                  have hcA := Ext.cell_some hxw hcA
                  have hcB := Ext.cell_some hxw hcB
                  clear hj
                  go_simp
                  try go_bits
                  exact boxOf_new _ _ _
                · have c0 := Ext.cell_some hxw c0
                  have c1 := Ext.cell_some hxw c1
                  have c2 := Ext.cell_some hxw c2
                  have hcA := Ext.cell_some hxw hcA
                  have hcB := Ext.cell_some hxw hcB
                  have h8 : BoxOf (.int .u8 (97 + (a : Int))) (vs 8) w' := hj 8 (by kernel_rfl)
                  have hcv := box_convert ha3 h8
                  clear h8
                  clear hj
                  go_simp
                  try go_bits
                  first | rfl | (rw [if_pos (by omega), if_pos (by omega)]; go_simp; rfl) | (rw [if_pos (by omega)]; go_simp; rfl) | skip
                · have c0 := Ext.cell_some hxw c0
                  have c1 := Ext.cell_some hxw c1
                  have c2 := Ext.cell_some hxw c2
                  have hcA := Ext.cell_some hxw hcA
                  have hcB := Ext.cell_some hxw hcB
                  clear hj
                  go_simp
                  try go_bits
                  first | rfl | (rw [if_pos (by omega), if_pos (by omega)]; go_simp; rfl) | (rw [if_pos (by omega)]; go_simp; rfl) | skip
                · have c0 := Ext.cell_some hxw c0
                  have c1 := Ext.cell_some hxw c1
                  have c2 := Ext.cell_some hxw c2
                  have hcA := Ext.cell_some hxw hcA
                  have hcB := Ext.cell_some hxw hcB
                  clear hj
                  go_simp
                  try go_bits
                  first | rfl | (rw [if_pos (by omega), if_pos (by omega)]; go_simp; rfl) | (rw [if_pos (by omega)]; go_simp; rfl) | skip
              case' hx6_25_p =>
                intro vs w6 hx6 hk
                have k8 : BoxOf _ (vs 8) w6 := hk 8 _ rfl
                clear hk
                replace c0 := Ext.cell_some hx6 c0
                replace c1 := Ext.cell_some hx6 c1
                replace c2 := Ext.cell_some hx6 c2
                replace hcA := Ext.cell_some hx6 hcA
                replace hcB := Ext.cell_some hx6 hcB
                replace hxr := Ext.trans hxr hx6
                replace hB := hB.ext hx6
                replace hS := hS.ext hx6
                go_simp
                clear hx6 c0 c1 c2 hcA hcB
                by_cases hT0 : T = 0
                · have hfound : stA K N o i L (a + 1) = (some (U ++ [letN a]), L') := by rw [HT.out, if_pos hT0]
                  have hall : orphL K N o = some (U ++ [letN a]) := by
                    have h1 := stA_found hfound (K - (a + 1))
                    rw [show a + 1 + (K - (a + 1)) = K by omega] at h1
                    refine orphL_found (i := i + 1) (L := L') (by omega) ?_
                    rw [stI_of_stA HI.out.1 hlti, h1]
                  have HF := Lib.hid hall
                  have hTb : ((T : Int) == 0) = true := by simp; omega
                  clear hfound hall hT0
                  go_wp2
                  go_ret2
                  exact ⟨by rw [HP.out.2.2.2.2.1, HF.out]; rfl, hx.trans hxr⟩
                · have hTb : ((T : Int) == 0) = false := by simp; omega
                  have HT0 := Lib.hid hT0
                  clear hT0
                  have hlk := hS.look (T := T) (by omega)
                  cases hfd : decide (T ∈ setsOf L') with
                  | true =>
                    rw [hfd] at hlk
                    have hnext : stA K N o i L (a + 1) = (none, L') := by rw [HT.out, if_neg HT0.out, if_pos (by simpa using hfd)]
                    have HN := Lib.hid hnext
                    clear hfd hnext
                    go_wp2
                    go_roundw
                    case rel => exact ⟨a + 1, L', by omega, by go_num, HN.out, HA.out.2.2.1, hiL, hB, hS, hap, hxr⟩
                    case measure => simp [intOf]; omega
                  | false =>
                    rw [hfd] at hlk
                    have hnm : T ∉ setsOf L' := by simpa using hfd
                    have hnext : stA K N o i L (a + 1) = (none, L' ++ [(T, U ++ [letN a])]) := by rw [HT.out, if_neg HT0.out, if_neg hnm]
                    have hok2 := SwOk.push HA.out.2.2.1 (T := T) (u := U ++ [letN a]) (i := i) (by rw [← HP.out.2.2.2.1]; exact hTlt') hnm (by have := HA.out.2.2.2; simp; omega) hiL
                    have HN := Lib.hid (And.intro hnext hok2)
                    obtain ⟨w7, hup, hS7, hg7⟩ := hS.push (T := T) (by omega) (by omega)
                    have hB7 := GB.own2 hg7 hB (fun k hk e => hap (hk.trans e.symm))
                    have hx7 := hxr.grown hg7 (fun k hk => by simp at hk; omega)
                    have hcx : (w7.alloc (.cells #[.int .i64 (T : Int), .string (mkS (U ++ [letN a]))] 85)).cell? ⟨w7.heap.size, 0, none⟩ = some (.int .i64 (T : Int)) := by simp
                    have hcy : (w7.alloc (.cells #[.int .i64 (T : Int), .string (mkS (U ++ [letN a]))] 85)).cell? ⟨w7.heap.size, 1, none⟩ = some (.string (mkS (U ++ [letN a]))) := by simp
                    have hB8 := Own2.ext hB7 (Ext.alloc w7 (.cells #[.int .i64 (T : Int), .string (mkS (U ++ [letN a]))] 85))
                    have hS8 := Seen.ext hS7 (Ext.alloc w7 (.cells #[.int .i64 (T : Int), .string (mkS (U ++ [letN a]))] 85))
                    have hx8 := Ext.alloced hx7 (.cells #[.int .i64 (T : Int), .string (mkS (U ++ [letN a]))] 85)
                    have hl1 : L'.length + 1 ≤ maxLen := by unfold maxLen; omega
                    have hl2 : (L'.length + 1) * 24 ≤ 140737488355328 := by omega
                    clear hfd hnm hnext hok2 hB hS hg7 hB7 hS7 hx7
                    go_wp2_with (at_builtin; refine wpList_append_two rfl (.tmp 106) (.tmp 110) 86 rfl 85 _ _ Try.underlying86 infoStep rfl w1.heap.size _ _ _ rfl hB8 w7.heap.size _ _ rfl hcx hcy rfl rfl hl1 hl2 w1 rfl hx8 ?_; intro v' w9 hB9 hx9 hmv)
                    have hS9 : Seen w9 M (L' ++ [(T, U ++ [letN a])]).length (setsOf (L' ++ [(T, U ++ [letN a])])) := by
                      have h := Seen.kept hS8 hmv.1 (fun e => hap e.symm)
                      simpa [setsOf] using h
                    have hap9 : v'.ownBlock ≠ some M := by
                      intro hk
                      rcases hmv.2 with hm | hm
                      · rw [hm] at hk
                        exact hap hk
                      · have h1 := hm M hk
                        have h2 := hS8.lt
                        omega
                    have hB10 : Own2 w9 w1.heap.size 85 v' (L' ++ [(T, U ++ [letN a])]).length (stepCells (L' ++ [(T, U ++ [letN a])])) := by
                      rw [stepCells_push]
                      simpa using hB9
                    clear hB9 hS8 hx8 hmv hcx hcy hB8
                    go_roundw
                    case rel => exact ⟨a + 1, _, by omega, by go_num, HN.out.1, HN.out.2, by simp; omega, hB10, hS9, hap9, hx9⟩
                    case measure => simp [intOf]; omega
        · have haK : a = K := by omega
          have hnext : stI K N o (i + 1) = (none, L') := by rw [stI_of_stA HI.out.1 hlti, ← haK]; rw [haK] at hsa ⊢; exact hsa
          have HN := Lib.hid (And.intro hnext hok)
          clear hsa hok hnext
          subst haK
          go_wp2
          go_roundw
          case rel => exact ⟨i + 1, L', by omega, by omega, by go_num, HN.out.1, HN.out.2, hB, hS, hap, hxr⟩
          case measure => simp [intOf]; omega
    · have hiL : i = L.length := by omega
      have hnone : r = none := by rw [HP.out.2.2.2.2.1]; exact orphL_end (i := i) (by omega) hst (by omega)
      have HN := Lib.hid hnone
      clear hst hok hnone
      obtain ⟨g4, cap4, rfl, _, _⟩ := hB.shape hL0
      have hge : ¬ i < L.length := by omega
      clear hiL
      go_wp2
      go_ret2
      exact ⟨by rw [HN.out]; rfl, hx.trans hxr⟩
end Go.Proofs.Ytfkdpeifnfpldaa
