/- What the law of polynomials asks: contracts gathered, rows of numbers as such. -/
import Derived.Test.YtdngkfedkgiioaaDoorTrnA
import Derived.Test.YtdngkfedkgiioaaDoorPkB
import Derived.Test.YtdngkfedkgiioaaDoorPolyB
import Derived.Test.YtdngkfedkgiioaaDoorPolyD
import Derived.Test.YtdngkfedkgiioaaDoorPolyE
import Derived.Test.YtdngkfedkgiioaaDoorDetD
import Derived.Test.YtdngkfedkgiioaaDoorDetE
import Derived.Test.YtdngkfedkgiioaaDoorCharC
import Derived.Test.YtdngkfedkgiioaaDoorPolA
namespace Go.Proofs.YtdngkfedkgiioaaDoor
open Go.RowKit Go.Mx

def NumsJ (P : List Int) (v : Value) (w : World) : Prop := ReadsI w v P
theorem NumsJ.ok (P : List Int) : ∀ v w w', Ext w w' → NumsJ P v w → NumsJ P v w' := fun _ _ _ hx h => ReadsI.ext h hx
theorem turn_J (v : Value) (T : List (List Int)) (w : World) (h : ReadsRows w v T) (hm : isMat T = true) :
    Calls Tryd.prog 28 #[v] w fun e w' => ∃ u, e = .returned u ∧ Ext w w' ∧ RowsJ (turnM T) u w' :=
  (spec_TurnMatrix_any v T w h hm).mono fun _ _ ⟨u, h1, h2, h3⟩ => ⟨u, h1, h3, h2⟩
theorem char_J (v : Value) (T : List (List Int)) (P : List Int) (w : World) (h : ReadsRows w v T) (hp : cpV T = P) :
    Calls Tryd.prog 7 #[v] w fun e w' => ∃ u, e = .returned u ∧ Ext w w' ∧ NumsJ P u w' :=
  (impl_CharPoly_any v T w h).mono fun _ _ ⟨u, h1, h2, h3⟩ => ⟨u, h1, h3, hp ▸ h2.reads⟩
/-- values at 2 multiply -/
theorem two_mul {a b : List Int} (ha : atOk a 2 = true) (hb : atOk b 2 = true) (hp : atOk (polyMul a b) 2 = true) :
    atV a 2 * atV b 2 = atV (polyMul a b) 2 ∧ (-961000000000000 ≤ atV a 2 * atV b 2 ∧ atV a 2 * atV b 2 ≤ 961000000000000) := by
  have h1 : atV a 2 = polyV 2 a := if_pos ha
  have h2 : atV b 2 = polyV 2 b := if_pos hb
  have h3 : atV (polyMul a b) 2 = polyV 2 (polyMul a b) := if_pos hp
  unfold atOk at ha hb
  rw [Bool.and_eq_true] at ha hb
  have b1 := polyV_two ha.1
  have b2 := polyV_two hb.1
  rw [h1, h2, h3, polyV_mul 2 (numsOk_more ha.1) (numsOk_more hb.1)]
  have := mul_bd (a := 31000000) (b := 31000000) b1.1 b1.2 b2.1 b2.2
  exact ⟨rfl, by omega, by omega⟩
/-- a small matrix is a square table of bounded numbers -/
theorem sqOk_small {T : List (List Int)} (h : isSm T = true) : sqOk T = true := by
  have h0 := h
  simp only [isSm, Bool.and_eq_true, decide_eq_true_eq] at h
  obtain ⟨h1, h2, h3⟩ := h
  simp only [isMat, Bool.and_eq_true, decide_eq_true_eq, List.all_eq_true, rowOk] at h1
  simp only [List.all_eq_true, lowOk, decide_eq_true_eq] at h3
  simp only [sqOk, Bool.and_eq_true, decide_eq_true_eq, List.all_eq_true, sqRow]
  refine ⟨fun r hr => ⟨(h1.2 r hr).1, fun x hx => ?_⟩, h2⟩
  have := (h1.2 r hr).2 x hx
  have := h3 r hr x hx
  omega
/-- what the law asks of a small matrix -/
theorem small_facts {T : List (List Int)} (h : isSm T = true) : ∃ (k : Nat) (dt sg tr : Int), ((T.length : Int) - 1 = (k : Int) ∧ T.length ≤ 4 ∧ 1 ≤ T.length) ∧ ((sg = if T.length % 2 = 1 then -1 else 1) ∧ detV T = dt ∧ (-157464 ≤ sg * dt ∧ sg * dt ≤ 157464)) ∧ (atOk (cpV T) 0 = true ∧ atV (cpV T) 0 = sg * dt) ∧
    (((cpV T).length : Int) = (T.length : Int) + 1 ∧ (cpV T).getD T.length 0 = 1 ∧ (cpV T).getD k 0 = -tr) ∧ (trM T = tr ∧ (0 ≤ tr ∧ tr ≤ 9000000)) ∧ (0 < (tpV T).length ∧ (tpV T).getD 0 0 = 1) ∧ cpV (turnM T) = cpV T ∧ isMat T = true ∧ (isSm T && decide (detL T.length T ≠ 0)) = (dt != 0) := by
  obtain ⟨h4, h1, h9, ht⟩ := isSm_nine h
  have hc := cpV_yes h
  have hu := tpV_yes h
  have hm : isMat T = true := by
    cases hq : isMat T with
    | true => rfl
    | false => rw [isSm_noMat hq] at h; cases h
  have hM := isMat_yes hm
  have hat : atOk (cpL T) 0 = true := by unfold atOk; rw [cpL_nums h4 h9]; rfl
  have hz : atV (cpL T) 0 = sgn T.length * detL T.length T := by
    have e : atV (cpL T) 0 = polyV 0 (cpL T) := if_pos hat
    rw [e, polyV_zero, cpL_first h4 ht]
  have hsg : sgn T.length = if T.length % 2 = 1 then -1 else 1 := by
    unfold sgn
    rcases Nat.mod_two_eq_zero_or_one T.length with e | e <;> rw [e] <;> rfl
  have hbd : -157464 ≤ detL T.length T ∧ detL T.length T ≤ 157464 := by
    have hs : Sq T.length 9 T := ⟨rfl, hM.row, fun i j => by have := (h9 i j).1; unfold at2 at this; omega, fun i j => (h9 i j).2⟩
    have h5 := detL_bd (b := 9) (by omega) hs
    have h6 : detB 9 T.length ≤ 157464 := by
      generalize T.length = n at h4
      match n, h4 with
      | 0, _ => decide
      | 1, _ => decide
      | 2, _ => decide
      | 3, _ => decide
      | 4, _ => decide
    omega
  have htr := trTo_bd (m := T) (fun i j => by have := h9 i j; omega) T.length
  have hth := tpL_head (m := T) h4
  refine ⟨T.length - 1, detL T.length T, sgn T.length, trM T, ⟨by omega, h4, h1⟩, ⟨hsg, detV_yes (sqOk_small h), ?_⟩, ⟨by rw [hc]; exact hat, by rw [hc]; exact hz⟩, ⟨by rw [hc, cpL_length]; omega, by rw [hc]; exact cpL_last h4, by rw [hc]; exact cpL_trace h4 h1⟩, ⟨rfl, ?_⟩, ⟨by rw [hu]; exact hth.1, by rw [hu]; exact hth.2⟩, ?_, hm, ?_⟩
  · rcases sgn_or T.length with e | e <;> rw [e] <;> omega
  · have e : trM T = trTo T T.length := rfl
    rw [e]; omega
  · rw [cpV_yes (isSm_turn h), hc, cpL_turned h]
  · rw [h, Bool.true_and]
    by_cases e : detL T.length T = 0 <;> simp [e]
end Go.Proofs.YtdngkfedkgiioaaDoor
