/- Contracts: a text cut at a byte, a numeral read, by the reference. -/
import Derived.Test.YtgaeeibcfoppbaaDoorPcMath
import Derived.Test.YtgaeeibcfoppbaaDoorFmtA
import Derived.Test.YtgaeeibcfoppbaaDoorShR
namespace Go.Proofs.YtgaeeibcfoppbaaDoor
open Go.RowKit Go.Cm

set_option maxRecDepth 100000 in
set_option maxHeartbeats 1000000 in
theorem spec_SplitByte_any (s : List UInt8) (c : UInt8) (w : World) (hs : s.length ≤ 1048576) :
    Calls Tryd.prog 7 #[.string (mkS s), .int .u8 c.toNat] w fun e w' => ∃ z, e = .returned z ∧ Own w' w.heap.size 9 z (scells (splitL c s)) ∧ Ext w w' := by
  obtain ⟨n, hn⟩ : ∃ n, n = s.length := ⟨_, rfl⟩
  have hsz : (mkS s).size = n := by rw [mkS_size, hn]
  rw [← hn] at hs
  have hB0 : Own (w.alloc (.cells #[] 9)) w.heap.size 9 (.slice (some ⟨w.heap.size, 0, none⟩) 0 0) (scells (partsTo c s 0).1) := Own.lit w 9 [] (by simp)
  have HA := Lib.hid (And.intro hn hB0)
  clear hn hB0
  go_enter Tryd.func7, Tryd.ntmps7
  go_wp2
  go_loopw [5, 6, 7] (fun v f i wr => ∃ k : Nat, k ≤ n + 1 ∧ i = .int .i64 k ∧ f = .int .i64 (partsTo c s k).2 ∧ Own wr w.heap.size 9 v (scells (partsTo c s k).1) ∧ Ext w wr) (fun _ _ i _ => n + 1 - (intOf i).toNat)
  case atStart => exact ⟨0, by omega, rfl, rfl, HA.out.2, Ext.alloc _ _⟩
  case round =>
    obtain ⟨k, hk, rfl, rfl, hown, hxr⟩ := hrel
    have hle := partsTo_le c s k
    have hall := partsTo_all c s
    have hcut := fun h => partsTo_cut (c := c) (l := s) (i := k) h
    have hskip := fun h1 h2 => partsTo_skip (c := c) (l := s) (i := k) h1 h2
    rw [← HA.out.1] at hall hcut hskip
    have hpart := mkS_part s (partsTo c s k).2 (k - (partsTo c s k).2)
    rw [show (partsTo c s k).2 + (k - (partsTo c s k).2) = k by omega] at hpart
    have hpd : (s.drop (partsTo c s k).2).take (k - (partsTo c s k).2) = (s.take k).drop (partsTo c s k).2 := by rw [List.drop_take]
    rw [hpd] at hpart
    obtain ⟨P, hP⟩ : ∃ P, P = (partsTo c s k).1 := ⟨_, rfl⟩
    obtain ⟨f, hf⟩ : ∃ f, f = (partsTo c s k).2 := ⟨_, rfl⟩
    rw [← hP] at hown hle hcut
    rw [← hf] at hle hcut hpart ⊢
    have hl1 : (scells P).length + 1 ≤ maxLen := by rw [scells_length]; unfold maxLen; omega
    have hl2 : ((scells P).length + 1) * 16 ≤ 140737488355328 := by rw [scells_length]; omega
    obtain ⟨hf1, -⟩ := hle
    have HO := Lib.hid (And.intro hown (And.intro hxr (And.intro hl1 (And.intro hl2 (And.intro hall (And.intro hcut (And.intro hskip (And.intro hP hf))))))))
    clear hown hl1 hl2 hall hcut hskip hP hf
    by_cases hkn : k ≤ n
    · skip
      by_cases hke : k = n
      · have HC := Lib.hid (HO.out.2.2.2.2.2.1 (.inl (by omega)))
        subst hke
        have hkn2 : ((k : Int) == (k : Int)) = true := by simp
        go_wp2_with (at_builtin; refine wpList_append_one rfl (.tmp 26) (.tmp 31) 28 rfl 9 _ _ Tryd.underlying28 infoStr rfl w.heap.size _ _ rfl (HO.out.1.ext (Ext.alloc _ _)) wr.heap.size _ rfl (by simp; rfl) rfl HO.out.2.2.1 HO.out.2.2.2.1 w rfl (HO.out.2.1.trans (Ext.alloc _ _)) ?_; intro v' w4 hown4 hx4 hmv)
        go_roundw
        case rel => exact ⟨k + 1, by omega, by rfl, by rw [HC.out] <;> try go_num, by rw [HC.out]; simpa [scells] using hown4, hx4⟩
        case measure => simp [intOf] <;> omega
      · have hlt : k < n := by omega
        have hget := mkS_get s k (by rw [hsz]; exact hlt)
        have hks : k < (mkS s).size := by rw [hsz]; exact hlt
        by_cases hc : s.getD k 0 = c
        · have HC := Lib.hid (HO.out.2.2.2.2.2.1 (.inr hc))
          have hb : (((mkS s)[k].toNat : Int) == (c.toNat : Int)) = true := by rw [hget, hc]; simp
          have hkn2 : ((k : Int) == (n : Int)) = false := by simp; omega
          clear hget
          go_wp2_with (at_builtin; refine wpList_append_one rfl (.tmp 26) (.tmp 31) 28 rfl 9 _ _ Tryd.underlying28 infoStr rfl w.heap.size _ _ rfl (HO.out.1.ext (Ext.alloc _ _)) wr.heap.size _ rfl (by simp; rfl) rfl HO.out.2.2.1 HO.out.2.2.2.1 w rfl (HO.out.2.1.trans (Ext.alloc _ _)) ?_; intro v' w4 hown4 hx4 hmv)
          go_roundw
          case rel => exact ⟨k + 1, by omega, by go_num, by rw [HC.out] <;> try go_num, by rw [HC.out]; simpa [scells] using hown4, hx4⟩
          case measure => simp [intOf] <;> omega
        · have HC := Lib.hid (HO.out.2.2.2.2.2.2.1 hlt hc)
          have hb : (((mkS s)[k].toNat : Int) == (c.toNat : Int)) = false := by
            rw [hget, beq_eq_false_iff_ne]
            intro e
            exact hc (UInt8.toNat_inj.1 (by omega))
          have hkn2 : ((k : Int) == (n : Int)) = false := by simp; omega
          clear hget
          go_wp2
          go_roundw
          case rel => exact ⟨k + 1, by omega, by go_num, by rw [HC.out, ← HO.out.2.2.2.2.2.2.2.2], by rw [HC.out, ← HO.out.2.2.2.2.2.2.2.1]; exact HO.out.1, HO.out.2.1⟩
          case measure => simp [intOf]; omega
    · have hke : k = n + 1 := by omega
      subst hke
      have HE := Lib.hid (show P = splitL c s by rw [HO.out.2.2.2.2.2.2.2.1]; exact HO.out.2.2.2.2.1)
      go_wp2
      go_ret
      exact ⟨_, rfl, by rw [← HE.out]; exact HO.out.1, HO.out.2.1⟩
end Go.Proofs.YtgaeeibcfoppbaaDoor
