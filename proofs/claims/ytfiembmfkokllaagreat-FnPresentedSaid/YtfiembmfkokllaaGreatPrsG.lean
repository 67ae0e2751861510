/- Contracts: shifts drawn (4): what the law draws. -/
import Derived.Test.YtfiembmfkokllaaGreatPrsF
import Derived.Test.YtfiembmfkokllaaGreatShFs
import Derived.Test.YtfiembmfkokllaaGreatPkB
import Derived.Test.YtfiembmfkokllaaGreatOldB
namespace Go.Proofs.YtfiembmfkokllaaGreat
open Go.RowKit Go.Cm

theorem putsR_in {z : List UInt8} (cs : List (List UInt8)) : z ∈ putsR cs → z ∈ cs := by
  have : ∀ (cs l0 : List (List UInt8)), z ∈ cs.foldl (fun l x => putR x l) l0 → z ∈ l0 ∨ z ∈ cs := by
    intro cs
    induction cs with
    | nil => exact fun l0 h => .inl h
    | cons x cs ih =>
      intro l0 h
      rcases ih _ h with h | h
      · rcases putR_mem h with rfl | h
        · exact .inr List.mem_cons_self
        · exact .inl h
      · exact .inr (List.mem_cons_of_mem _ h)
  intro h
  rcases this cs [] h with h | h
  · cases h
  · exact h
/-- what is known where there are least forbidden words -/
theorem forbO_some {L : Int} {F R : List (List UInt8)} (h : forbO L F = some R) : ∃ K : Nat, L = K ∧ ShFit K F ∧ statesL K F ≠ [] ∧ R.length ≤ 8 ∧ R = putsR (candTo K F (statesL K F) 4 0) := by
  unfold forbO at h
  split at h
  · next h1 =>
    rw [Bool.and_eq_true] at h1
    obtain ⟨K, rfl, hf⟩ := ShFit.of h1.1
    rw [show ((K : Int).toNat) = K by omega] at h h1
    split at h
    · next h8 =>
      cases h
      exact ⟨K, rfl, hf, fun e => by rw [e] at h1; simp at h1, h8, rfl⟩
    · cases h
  · cases h
theorem forbO_short (L : Int) (F : List (List UInt8)) : ∀ f ∈ (forbO L F).getD [], f.length ≤ 3 := by
  intro f hf
  cases h : forbO L F with
  | none => rw [h] at hf; cases hf
  | some R =>
    obtain ⟨K, rfl, hfit, -, -, rfl⟩ := forbO_some h
    rw [h] at hf
    have := (cand_iff (by have := hfit.k1; omega) hfit.k3 F f).1 (putsR_in _ hf)
    exact this.1.2

/-- a shift that is drawn -/
def ShJ (w : World) (B : Nat) (v : Value) : Prop := ∃ (L : Int) (q : Option Addr) (n c : Nat) (F : List (List UInt8)), v = .agg #[.int .i64 L, .slice q n c] ∧ Own w B 9 (.slice q n c) (scells F) ∧ ∀ f ∈ F, f.length ≤ 100000

set_option maxRecDepth 100000 in
set_option maxHeartbeats 2000000 in
theorem spec_DrawCountWords_any (v : Value) (xs : List UInt8) (w : World) (h : ReadsB w v xs) :
    Calls Tryz.prog 5 #[v] w fun e w' => ∃ u n, e = .returned (.tuple #[u, .int .i64 n]) ∧ ShJ w' w.heap.size u ∧ Ext w w' := by
  have hx0 := Ext.alloc w (.cells #[.int .i64 0, .slice none 0 0] 26)
  have br : Blk (w.alloc (.cells #[.int .i64 0, .slice none 0 0] 26)) w.heap.size #[.int .i64 0, .slice none 0 0] := by (repeat (first | (refine Blk.mk' ?_; (simp; done)) | apply Blk.old))
  have h0 : ReadsB (w.alloc (.cells #[.int .i64 0, .slice none 0 0] 26)) v xs := h.ext hx0
  clear h
  have ho := OldB.start h0
  clear h0
  go_enter Tryz.func5, Tryz.ntmps5
  go_wp2_with fail
  with_reducible refine ho.new.mono ?_
  rintro e w1 ⟨z, rfl, hz, hc, hx⟩
  have hzw : w.heap.size < z := by
    have : (w.alloc (.cells #[.int .i64 0, .slice none 0 0] 26)).heap.size = w.heap.size + 1 := by simp
    omega
  replace br := br.ext hx
  replace hx := hx0.trans hx
  have hzl := hc.lt
  have hrl := br.lt
  clear ho hx0 hz
  go_wp2_with fail
  with_reducible refine (spec_l3Bent_any _ z _ hc).mono ?_
  rintro e w2 ⟨v, rfl, ⟨L, q, n, cc, F, rfl, ho, hf, -⟩, hd⟩
  replace br := hd.blk br (by omega)
  go_wp2_with fail
  with_reducible refine (spec_l1Below_any _ z _ _ hd.cur).mono ?_
  rintro e w3 ⟨y, rfl, hy, -, hd2⟩
  have hy : y < 9 := by have := hy (by omega); omega
  replace br := hd2.blk br (by omega)
  replace ho := hd2.keeps ho hzl
  replace hd := hd.trans hd2
  clear hd2
  go_wp2_with fail
  with_reducible refine (pickInt_lit (cs := #[.int .i64 0, .int .i64 0, .int .i64 0, .int .i64 0, .int .i64 12, .int .i64 (-9)]) hd.cur (l := [0, 0, 0, 0, 12, -9]) rfl (by omega) (by decide) (by omega) (by omega)).mono ?_
  rintro e w4 ⟨x, rfl, hx4, hd2⟩
  have hxb : -9 ≤ x ∧ x ≤ 12 := by
    have : x = 0 ∨ x = 12 ∨ x = -9 := by simpa using hx4
    omega
  replace br := hd2.blk br (by omega)
  replace ho := hd2.keeps ho hzl
  replace hd := hd.trans hd2
  clear hd2 hx4
  have hxe := hd.toExt hx (by omega)
  have HF := Lib.hid (And.intro ho (And.intro hf hxe))
  clear ho hf hxe hd hx hc
  have r0 := br.d0
  have r1 := br.d1
  have f0 := br.frozen 0
  have f1 := br.frozen 1
  go_wp2
  have h1 := grown_keeps (grown_store w4 ⟨w.heap.size, 0, none⟩ (.int .i64 L)) HF.out.1 hrl
  have h2 := grown_keeps (grown_store _ ⟨w.heap.size, 1, none⟩ (.slice q n cc)) h1 hrl
  refine bodyPost_ret (v := .tuple #[.agg #[.int .i64 L, .slice q n cc], .int .i64 (y + x)]) ?_ rfl ⟨_, _, rfl, ⟨_, _, _, _, F, rfl, h2.mono (by omega), HF.out.2.1⟩, (HF.out.2.2.setCell (Nat.le_refl _) _).setCell (Nat.le_refl _) _⟩
  simp [results, Tryz.results5, go_sem, r0, r1]
end Go.Proofs.YtfiembmfkokllaaGreat
