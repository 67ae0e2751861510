/- Contracts of the laws' own helpers on lists of words and on shifts: sizes, copies, comparisons, marks. -/
import Derived.Test.YtgbbidlbdjbilaaDoorShA
import Derived.Test.YtgbbidlbdjbilaaDoorFrame
import Derived.Test.YtgbbidlbdjbilaaDoorLawMatB
namespace Go.Cm
def sizeW (F : List (List UInt8)) : Nat := (F.map List.length).sum
theorem sizeW_take (F : List (List UInt8)) (k : Nat) (h : k < F.length) : sizeW (F.take (k + 1)) = sizeW (F.take k) + (F.getD k []).length := by
  unfold sizeW
  rw [List.take_succ_eq_append_getElem h, List.map_append, List.sum_append, List.getD_eq_getElem?_getD, List.getElem?_eq_getElem h]
  simp
theorem sizeW_take_le (F : List (List UInt8)) (k : Nat) : sizeW (F.take k) ≤ sizeW F := by
  have h : sizeW F = sizeW (F.take k) + sizeW (F.drop k) := by
    unfold sizeW
    rw [← List.sum_append, ← List.map_append, List.take_append_drop]
  omega
theorem sizeW_mem {F : List (List UInt8)} {f : List UInt8} (h : f ∈ F) : f.length ≤ sizeW F := by
  unfold sizeW
  induction F with
  | nil => cases h
  | cons a F ih =>
    simp only [List.map_cons, List.sum_cons]
    rcases List.mem_cons.1 h with rfl | h
    · omega
    · have := ih h
      omega
/-- what is left of a size -/
def leftW (l : Int) (F : List (List UInt8)) : Int := if l - (F.length : Int) - (sizeW F : Int) < 0 then -1 else l - (F.length : Int) - (sizeW F : Int)

/-- decimal digits; none for 0 -/
def decT (n : Nat) : List UInt8 := if _h : n = 0 then [] else decT (n / 10) ++ [UInt8.ofNat (48 + n % 10)]
termination_by n
decreasing_by exact Nat.div_lt_self (Nat.pos_of_ne_zero _h) (by omega)
theorem decT_zero : decT 0 = [] := by unfold decT; simp
theorem decT_pos {n : Nat} (h : 0 < n) : decT n = decT (n / 10) ++ [UInt8.ofNat (48 + n % 10)] := by
  rw [decT]
  rw [dif_neg (by omega)]
theorem decT_length (n : Nat) : (decT n).length ≤ n := by
  induction n using Nat.strongRecOn with
  | ind n ih =>
    by_cases h : 0 < n
    · rw [decT_pos h, List.length_append]
      have := ih (n / 10) (Nat.div_lt_self h (by omega))
      simp only [List.length_cons, List.length_nil]
      omega
    · rw [show n = 0 by omega, decT_zero]
      simp
/-- the mark of a number -/
def markL (k : Nat) : List UInt8 := 109 :: decT k
def marksW (q : Int) (n : Nat) : List (List UInt8) := (List.range n).map fun i : Nat => markL (q + (i : Int)).toNat
theorem marksW_length (q : Int) (n : Nat) : (marksW q n).length = n := by simp [marksW]
theorem marksW_at (q : Int) (n i : Nat) (h : i < n) : (marksW q n).getD i [] = markL (q + (i : Int)).toNat := by
  unfold marksW
  rw [List.getD_eq_getElem?_getD, List.getElem?_map, List.getElem?_range h]
  rfl
theorem marksW_succ (q : Int) (n : Nat) : marksW q (n + 1) = marksW q n ++ [markL (q + (n : Int)).toNat] := by simp [marksW, List.range_succ]
end Go.Cm
namespace Go.Proofs.YtgbbidlbdjbilaaDoor
open Go.RowKit Go.Cm

set_option maxHeartbeats 1000000 in
theorem szStringS_any (v : Value) (F : List (List UInt8)) (l : Int) (w : World) (h0 : 0 ≤ l) (h1 : l ≤ 1048576) (hm : ReadsW w v F) (hF : ∀ f ∈ F, f.length ≤ maxLen) :
    Calls Tryd.prog 13 #[v, .int .i64 l] w fun e w' => e = .returned (.int .i64 (leftW l F)) ∧ w = w' := by
  obtain ⟨a, c, rfl⟩ := hm.slice
  obtain ⟨-, hlc, hc⟩ := hm.len
  obtain ⟨n, hn⟩ : ∃ n, n = F.length := ⟨_, rfl⟩
  rw [← hn] at hlc hm ⊢
  have hn9 : n ≤ 9223372036854775807 := by omega
  have HM := Lib.hid (And.intro hm (And.intro hn hF))
  clear hm hn hF
  by_cases h2 : l - (n : Int) < 0
  · go_enter Tryd.func13, Tryd.ntmps13
    go_wp2
    go_ret
    exact ⟨ret_int (by unfold leftW; rw [← HM.out.2.1, if_pos (by omega)]), rfl⟩
  · go_enter Tryd.func13, Tryd.ntmps13
    go_wp2
    go_loop [1, 5] (fun x i => ∃ k : Nat, k ≤ n ∧ i = .int .i64 k ∧ x = .int .i64 (l - (n : Int) - (sizeW (F.take k) : Nat)) ∧ 0 ≤ l - (n : Int) - (sizeW (F.take k) : Nat)) (fun _ i => n - (intOf i).toNat)
    case atStart => exact ⟨0, by omega, rfl, by simp [sizeW], by simp [sizeW]; omega⟩
    case round =>
      obtain ⟨k, hk, rfl, rfl, hp⟩ := hrel
      by_cases hlt : k < n
      · have hkm : k < F.length := by rw [← HM.out.2.1]; exact hlt
        obtain ⟨b, o, rfl, hcell⟩ := HM.out.1.at k hkm
        have hs := sizeW_take F k hkm
        have hle := sizeW_take_le F (k + 1)
        have hfl := HM.out.2.2 _ (show F.getD k [] ∈ F by rw [List.getD_eq_getElem?_getD, List.getElem?_eq_getElem hkm]; exact List.getElem_mem hkm)
        obtain ⟨f, hf⟩ : ∃ f, f = F.getD k [] := ⟨_, rfl⟩
        obtain ⟨s, hss⟩ : ∃ s, s = sizeW (F.take k) := ⟨_, rfl⟩
        rw [← hf] at hcell hs hfl
        rw [← hss] at hs hp ⊢
        have hsz : (mkS f).size = f.length := mkS_size f
        have hfl' : f.length ≤ 9223372036854775807 := by unfold maxLen at hfl; omega
        have HS := Lib.hid (And.intro hs hle)
        clear hs hle hss hf hfl
        by_cases h3 : l - (n : Int) - (s : Int) - (f.length : Int) < 0
        · go_wp2
          go_ret
          refine ⟨ret_int ?_, rfl⟩
          have h4 := HS.out
          have h5 := HM.out.2.1
          unfold leftW
          rw [← h5, if_pos (by omega)]
        · go_wp2
          go_round
          case rel => exact ⟨k + 1, by omega, by go_num, by rw [HS.out.1]; congr 1; omega, by rw [HS.out.1]; omega⟩
          case measure => simp [intOf]; omega
      · have hkn : k = n := by omega
        have hs : F.take k = F := List.take_of_length_le (by rw [hkn, HM.out.2.1]; exact Nat.le_refl _)
        rw [hs] at hp ⊢
        clear hs
        go_wp2
        go_ret
        exact ⟨ret_int (by unfold leftW; rw [← HM.out.2.1, if_neg (by omega)]), rfl⟩

set_option maxHeartbeats 1000000 in
theorem toStringS_any (v : Value) (F : List (List UInt8)) (w : World) (h : ReadsW w v F) (hs : F.length ≤ 1048576) :
    Calls Tryd.prog 19 #[v] w fun e w' => e = .returned (.slice (some ⟨w.heap.size, 0, none⟩) F.length F.length) ∧ Own w' w.heap.size 9 (.slice (some ⟨w.heap.size, 0, none⟩) F.length F.length) (scells F) ∧ Ext w w' := by
  obtain ⟨a, c, rfl⟩ := h.slice
  obtain ⟨-, hlc, hc⟩ := h.len
  obtain ⟨n, hn⟩ : ∃ n, n = F.length := ⟨_, rfl⟩
  rw [← hn] at hlc h hs ⊢
  have hmk := run_make_row' (P := Tryd.prog) 22 9 (.string ⟨#[]⟩) 16 Tryd.underlying22 infoStr rfl .i64 .i64 n (by omega) (by omega)
  have HM := Lib.hid (And.intro h hn)
  clear h hn
  go_enter Tryd.func19, Tryd.ntmps19
  go_wp2
  go_loopw [4] (fun i wr => ∃ k : Nat, k ≤ n ∧ i = .int .i64 k ∧ Own wr w.heap.size 9 (.slice (some ⟨w.heap.size, 0, none⟩) n n) (scells (F.take k ++ List.replicate (n - k) [])) ∧ Ext w wr) (fun i _ => n - (intOf i).toNat)
  case atStart =>
    refine ⟨0, by omega, rfl, ?_, Ext.alloc _ _⟩
    have := Own.made w 9 (.string ⟨#[]⟩) n (by unfold maxLen; omega)
    simpa [scells, mkS] using this
  case round =>
    obtain ⟨k, hk, rfl, hown, hx⟩ := hrel
    by_cases hlt : k < n
    · have hkm : k < F.length := by rw [← HM.out.2]; exact hlt
      obtain ⟨b, o, rfl, hcell⟩ := (HM.out.1.ext hx).at k hkm
      have hc1 := Own.word_at hown k (by simp; rw [← HM.out.2]; omega)
      have hf1 := hown.frozen k
      have hst := hown.store k (.string (mkS (F.getD k [])))
      have e : (scells (F.take k ++ List.replicate (n - k) [])).set k (.string (mkS (F.getD k []))) = scells (F.take (k + 1) ++ List.replicate (n - (k + 1)) []) := by
        unfold scells
        rw [← List.map_set (f := fun u => Value.string (mkS u)), List.set_append_right _ _ (by simp; omega), List.length_take, Nat.min_eq_left (by omega), Nat.sub_self, show n - k = (n - (k + 1)) + 1 by omega, List.replicate_succ, List.set_cons_zero, List.take_succ_eq_append_getElem hkm, List.append_assoc]
        simp [List.getD_eq_getElem?_getD, List.getElem?_eq_getElem hkm]
      rw [e] at hst
      have HS := Lib.hid hst
      have hx' := hx.setCell (p := ⟨w.heap.size, k, none⟩) (Nat.le_refl _) (.string (mkS (F.getD k [])))
      obtain ⟨x, hxx⟩ : ∃ x, x = F.getD k [] := ⟨_, rfl⟩
      rw [← hxx] at hcell hx'
      have HX := Lib.hid hxx
      clear e hst hxx
      go_wp2
      go_roundw
      case rel => exact ⟨k + 1, by omega, by go_num, by rw [HX.out]; exact HS.out, hx'⟩
      case measure => simp [intOf]; omega
    · have hkn : k = n := by omega
      subst hkn
      have e : F.take k ++ List.replicate (k - k) [] = F := by rw [List.take_of_length_le (by rw [← HM.out.2]; omega)]; simp
      rw [e] at hown
      clear e
      go_wp2
      go_ret
      exact ⟨rfl, hown, hx⟩

set_option maxHeartbeats 1000000 in
theorem eqStringS_same (v v' : Value) (F : List (List UInt8)) (w : World) (h : ReadsW w v F) (h' : ReadsW w v' F) :
    Calls Tryd.prog 8 #[v, v'] w fun e w' => e = .returned (.bool true) ∧ Ext w w' := by
  obtain ⟨a, c, rfl⟩ := h.slice
  obtain ⟨a', c', rfl⟩ := h'.slice
  obtain ⟨-, hlc, hc⟩ := h.len
  obtain ⟨n, hn⟩ : ∃ n, n = F.length := ⟨_, rfl⟩
  rw [← hn] at hlc h h' ⊢
  have HM := Lib.hid (And.intro h (And.intro h' hn))
  clear h h' hn
  go_enter Tryd.func8, Tryd.ntmps8
  go_wp2
  go_loopw [5] (fun i wr => ∃ k : Nat, k ≤ n ∧ i = .int .i64 k ∧ Ext w wr) (fun i _ => n - (intOf i).toNat)
  case atStart => exact ⟨0, by omega, rfl, Ext.refl _⟩
  case round =>
    obtain ⟨k, hk, rfl, hx⟩ := hrel
    by_cases hlt : k < n
    · have hkm : k < F.length := by rw [← HM.out.2.2]; exact hlt
      obtain ⟨b, o, rfl, hcell⟩ := (HM.out.1.ext hx).at k hkm
      obtain ⟨b', o', rfl, hcell'⟩ := (HM.out.2.1.ext hx).at k hkm
      obtain ⟨x, hxx⟩ : ∃ x, x = F.getD k [] := ⟨_, rfl⟩
      rw [← hxx] at hcell hcell'
      clear hxx
      have hxd : ∀ j, Ext w (wr.drewN j) := fun j => hx.drewN j
      go_wp2
      go_quiet (fail)
      go_wp2
      go_roundw
      case rel => exact ⟨k + 1, by omega, by go_num, hxd _⟩
      case measure => simp [intOf]; omega
    · go_wp2
      go_ret
      exact ⟨rfl, hx⟩

theorem digit_convert {w : World} {v : Value} {i : Nat} (hi : i < 10) (h : BoxOf (.int .u8 (48 + (i : Int))) v w) : (convert 44 9 v).run Tryd.prog w = .ok (.string (mkS [UInt8.ofNat (48 + i)])) w := by
  obtain ⟨b, rfl, hc⟩ := h
  have hl3 : ((UInt8.ofNat (48 + i)).toNat : Int) = 48 + i := by
    have : (UInt8.ofNat (48 + i)).toNat = (48 + i) % 256 := rfl
    omega
  obtain ⟨c, hcc⟩ : ∃ c, c = UInt8.ofNat (48 + i) := ⟨_, rfl⟩
  rw [← hcc] at hl3 ⊢
  refine run_convert_bytes_back w _ _ 5 ⟨b, 0, none⟩ 1 [c] Tryd.underlying44 Tryd.underlying5 Tryd.underlying9 fun j hj => ?_
  have hj0 : j = 0 := by simp at hj; omega
  subst hj0
  simpa [Addr.add, hl3] using hc

set_option maxHeartbeats 1000000 in
theorem markText_any (k : Nat) (w : World) (h1 : 1 ≤ k) (hb : k ≤ 4611686018427387904) :
    Calls Tryd.prog 24 #[.int .i64 k] w fun e w' => e = .returned (.string (mkS (markL k))) ∧ Ext w w' := by
  have hdl := decT_length k
  have hle : decide ((k : Int) ≤ 0) = false := by simp; omega
  go_enter Tryd.func24, Tryd.ntmps24
  go_wp2
  go_loopw [0, 3] (fun n t wr => ∃ (r : Nat) (out : List UInt8), n = .int .i64 r ∧ t = .string (mkS out) ∧ decT r ++ out = decT k ∧ r ≤ k ∧ Ext w wr) (fun n _ _ => (intOf n).toNat)
  case atStart => exact ⟨k, [], rfl, rfl, by simp, Nat.le_refl _, Ext.refl _⟩
  case round =>
    obtain ⟨r, out, rfl, rfl, hd, hrk, hx⟩ := hrel
    have hol : out.length ≤ k := by
      have := congrArg List.length hd
      rw [List.length_append] at this
      omega
    have hs2 : (mkS out).size = out.length := mkS_size out
    by_cases hr : 0 < r
    · have hstep := decT_pos hr
      obtain ⟨d, hdd⟩ : ∃ d, d = r % 10 := ⟨_, rfl⟩
      obtain ⟨q, hq⟩ : ∃ q, q = r / 10 := ⟨_, rfl⟩
      have hd10 : d < 10 := by omega
      have hqr : q < r := by omega
      have hm : (r : Int) % 10 = (d : Int) := by omega
      have hqi : (r : Int) / 10 = (q : Int) := by omega
      rw [← hdd, ← hq] at hstep
      obtain ⟨c, hc⟩ : ∃ c, c = UInt8.ofNat (48 + d) := ⟨_, rfl⟩
      rw [← hc] at hstep
      have hcv := digit_convert (w := wr.alloc (.cells #[.int .u8 (48 + (d : Int))] 5)) (v := .slice (some ⟨wr.heap.size, 0, none⟩) 1 1) hd10 ⟨_, rfl, by simp⟩
      rw [← hc] at hcv
      have hcat := mkS_append [c] out
      have hs1 : (mkS [c]).size = 1 := mkS_size [c]
      have HD := Lib.hid (show decT q ++ ([c] ++ out) = decT k by rw [← hd, hstep, List.append_assoc])
      have hfit : ¬ 9223372036854775807 < 1 + out.length := by omega
      clear hd hstep hdd hq hc
      go_wp2
      go_roundw
      case rel => exact ⟨q, [c] ++ out, rfl, rfl, HD.out, by omega, hx.trans (Ext.alloc _ _)⟩
      case measure => simp [intOf]; omega
    · have hr0 : r = 0 := by omega
      subst hr0
      rw [decT_zero, List.nil_append] at hd
      have hcat : (⟨#[109]⟩ : ByteArray) ++ mkS out = mkS (markL k) := by
        have := mkS_append [109] out
        rw [hd] at this ⊢
        exact this
      have hs1 : (⟨#[109]⟩ : ByteArray).size = 1 := rfl
      have hfit : ¬ 9223372036854775807 < 1 + out.length := by omega
      clear hd
      go_wp2
      go_ret
      exact ⟨rfl, hx⟩

set_option maxHeartbeats 1000000 in
theorem markStringS_any (B : Nat) (v : Value) (F : List (List UInt8)) (q : Int) (w : World) (h : Own w B 9 v (scells F)) (h0 : 1 ≤ q) (h1 : q + (F.length : Int) ≤ 4611686018427387904) :
    Calls Tryd.prog 11 #[v, .int .i64 q] w fun e w' => e = .returned (.int .i64 (q + (F.length : Int))) ∧ w.grownBy w' v.ownBlock ∧ Own w' B 9 v (scells (marksW q F.length)) := by
  rcases h.shape with ⟨rfl, hnil⟩ | ⟨g, cap, rfl, hg, hgl, hnc, hcm⟩
  · have hx0 : F = [] := List.eq_nil_of_length_eq_zero (by rw [← scells_length, hnil]; rfl)
    subst hx0
    go_enter Tryd.func11, Tryd.ntmps11
    go_wp2
    go_loop [1, 5] (fun x i => x = .int .i64 q ∧ i = .int .i64 0) (fun _ i => 0)
    case atStart => exact ⟨rfl, rfl⟩
    case round =>
      obtain ⟨rfl, rfl⟩ := hrel
      go_wp2
      go_ret
      exact ⟨ret_int (by simp), GB.refl _ _, h⟩
  · rw [scells_length] at h hnc ⊢
    obtain ⟨n, hn⟩ : ∃ n, n = F.length := ⟨_, rfl⟩
    rw [← hn] at h h1 hnc ⊢
    unfold maxLen at hcm
    have H0 := Lib.hid (And.intro h hn)
    clear h hn
    go_enter Tryd.func11, Tryd.ntmps11
    go_wp2
    go_loopw [1, 5] (fun x i wr => ∃ k : Nat, k ≤ n ∧ i = .int .i64 k ∧ x = .int .i64 (q + (k : Int)) ∧ w.grownBy wr (some g) ∧ Own wr B 9 (.slice (some ⟨g, 0, none⟩) n cap) (scells (marksW q k ++ F.drop k))) (fun _ i _ => n - (intOf i).toNat)
    case atStart => exact ⟨0, by omega, rfl, by simp, GB.refl _ _, by simpa [marksW] using H0.out.1⟩
    case round =>
      obtain ⟨k, hk, rfl, rfl, hgb, hown⟩ := hrel
      by_cases hlt : k < n
      · have hkm : k < F.length := by rw [← H0.out.2]; exact hlt
        obtain ⟨t, ht⟩ : ∃ t : Nat, t = (q + (k : Int)).toNat := ⟨_, rfl⟩
        have hti : q + (k : Int) = (t : Int) := by omega
        have ht1 : 1 ≤ t := by omega
        have ht2 : t ≤ 4611686018427387904 := by omega
        have e : (scells (marksW q k ++ F.drop k)).set k (.string (mkS (markL t))) = scells (marksW q (k + 1) ++ F.drop (k + 1)) := by
          unfold scells
          rw [← List.map_set (f := fun u => Value.string (mkS u)), List.set_append_right _ _ (by simp [marksW_length]), marksW_length, Nat.sub_self, List.drop_eq_getElem_cons hkm, List.set_cons_zero, marksW_succ, ← ht]
          simp
        have HE := Lib.hid (And.intro e ht)
        clear e ht
        rw [hti]
        go_wp2_with fail
        with_reducible refine (markText_any t _ ht1 ht2).mono ?_
        rintro e w1 ⟨rfl, hx1⟩
        replace hgb := GB.ext hgb hx1
        replace hown := hown.ext hx1
        have hc1 := Own.word_at hown k (by simp [marksW_length]; omega)
        have hf1 := hown.frozen k
        have hst := hown.store k (.string (mkS (markL t)))
        rw [HE.out.1] at hst
        have hgb' := GB.setCell hgb k (.string (mkS (markL t)))
        have HS := Lib.hid (And.intro hst hgb')
        have hti2 : (t : Int) + 1 = q + ((k + 1 : Nat) : Int) := by omega
        have HT := Lib.hid hti2
        clear hst hgb' hgb hown hx1 hti hti2
        go_wp2
        go_roundw
        case rel => exact ⟨k + 1, by omega, by go_num, by rw [← HT.out], HS.out.2, HS.out.1⟩
        case measure => simp [intOf]; omega
      · have hkn : k = n := by omega
        subst hkn
        rw [List.drop_of_length_le (by rw [← H0.out.2]; exact Nat.le_refl _), List.append_nil] at hown
        go_wp2
        go_ret
        exact ⟨rfl, hgb, hown⟩

set_option maxHeartbeats 1000000 in
theorem heldStringS_same (v : Value) (n : Nat) (q : Int) (w : World) (h : ReadsW w v (marksW q n)) (h0 : 1 ≤ q) (h1 : q + (n : Int) ≤ 4611686018427387904) :
    Calls Tryd.prog 12 #[v, .int .i64 q] w fun e w' => e = .returned (.int .i64 (q + (n : Int))) ∧ Ext w w' := by
  obtain ⟨a, c, rfl⟩ := h.slice
  obtain ⟨-, hlc, hc⟩ := h.len
  rw [marksW_length] at h hlc ⊢
  have HM := Lib.hid h
  clear h
  go_enter Tryd.func12, Tryd.ntmps12
  go_wp2
  go_loopw [1, 5] (fun x i wr => ∃ k : Nat, k ≤ n ∧ i = .int .i64 k ∧ x = .int .i64 (q + (k : Int)) ∧ Ext w wr) (fun _ i _ => n - (intOf i).toNat)
  case atStart => exact ⟨0, by omega, rfl, by simp, Ext.refl _⟩
  case round =>
    obtain ⟨k, hk, rfl, rfl, hx⟩ := hrel
    by_cases hlt : k < n
    · obtain ⟨b, o, rfl, hcell⟩ := (HM.out.ext hx).at k (by rw [marksW_length]; exact hlt)
      rw [marksW_at _ _ _ hlt] at hcell
      obtain ⟨t, ht⟩ : ∃ t : Nat, t = (q + (k : Int)).toNat := ⟨_, rfl⟩
      have hti : q + (k : Int) = (t : Int) := by omega
      have ht1 : 1 ≤ t := by omega
      have ht2 : t ≤ 4611686018427387904 := by omega
      rw [← ht] at hcell
      have hti2 : (t : Int) + 1 = q + ((k + 1 : Nat) : Int) := by omega
      have HT := Lib.hid hti2
      rw [hti]
      clear hti hti2 ht
      go_wp2
      refine wp_region_inv (by kernel_rfl) (.known ?hx6_4_v0 :: .known ?hx6_4_v1 :: .known ?hx6_4_v2 :: .known ?hx6_4_v3 :: .known ?hx6_4_v4 :: .known (.string (mkS (markL t))) :: .known ?hx6_4_v6 :: []) rfl (by kernel_rfl) ?hx6_4_s ?hx6_4_p
      case hx6_4_s =>
        intro vs
        refine ⟨fun w' hxw hj => ?_, fun w' hxw hj => ?_, fun w' hxw hj => ?_, fun w' hxw hj => ?_, fun w' hxw hj => ?_, fun w' hxw hj => ?_, fun w' hxw hj => ?_, trivial⟩
        · have hcell := Ext.cell_some hxw hcell
          clear hj
          go_simp
          try go_bits
          first | rfl | (rw [if_pos (by omega), if_pos (by omega)]; go_simp; rfl) | (rw [if_pos (by omega)]; go_simp; rfl) | skip
        · have hcell := Ext.cell_some hxw hcell
          clear hj
          go_simp
          try go_bits
          first | rfl | (rw [if_pos (by omega), if_pos (by omega)]; go_simp; rfl) | (rw [if_pos (by omega)]; go_simp; rfl) | skip
        · have hcell := Ext.cell_some hxw hcell
          clear hj
          go_simp
          try go_bits
          first | rfl | (rw [if_pos (by omega), if_pos (by omega)]; go_simp; rfl) | (rw [if_pos (by omega)]; go_simp; rfl) | skip
        · have hcell := Ext.cell_some hxw hcell
          clear hj
          go_simp
          try go_bits
          first | rfl | (rw [if_pos (by omega), if_pos (by omega)]; go_simp; rfl) | (rw [if_pos (by omega)]; go_simp; rfl) | skip
        · have hcell := Ext.cell_some hxw hcell
          clear hj
          go_simp
          try go_bits
          first | rfl | (rw [if_pos (by omega), if_pos (by omega)]; go_simp; rfl) | (rw [if_pos (by omega)]; go_simp; rfl) | skip
        · have hcell := Ext.cell_some hxw hcell
          clear hj
          go_simp
          try go_bits
          exact markText_any t _ ht1 ht2
        · have hcell := Ext.cell_some hxw hcell
          clear hj
          go_simp
          try go_bits
          first | rfl | (rw [if_pos (by omega), if_pos (by omega)]; go_simp; rfl) | (rw [if_pos (by omega)]; go_simp; rfl) | skip
      case' hx6_4_p =>
        intro vs w6 hx6 hk
        clear hk
        replace hcell := Ext.cell_some hx6 hcell
        replace hx := Ext.trans hx hx6
        go_simp
        clear hx6
        go_wp2
        go_roundw
        case rel => exact ⟨k + 1, by omega, by go_num, by rw [← HT.out], hx⟩
        case measure => simp [intOf]; omega
    · have hkn : k = n := by omega
      subst hkn
      go_wp2
      go_ret
      exact ⟨rfl, hx⟩
end Go.Proofs.YtgbbidlbdjbilaaDoor
