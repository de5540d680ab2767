/- A line is read by the program as by the reference. -/
import Derived.Test.YtgjedgfncopjlaaDoorPlq
namespace Go.Proofs.YtgjedgfncopjlaaDoor.Lines
open Go Go.RowKit Go.Proofs.YtgjedgfncopjlaaDoorW.PrintWords Go.Proofs.YtgjedgfncopjlaaDoorW.PrintLast Go.Proofs.YtgjedgfncopjlaaDoorW.PrintMore Go.Proofs.YtgjedgfncopjlaaDoor.PPlayReads
set_option linter.unusedVariables false
set_option linter.unusedSimpArgs false
theorem trim_lf (x : List UInt8) : Lib.trimSuffix (x ++ [10]) [10] = x := by
  unfold Lib.trimSuffix
  have h : Lib.hasSuffix (x ++ [10]) [10] = true := by unfold Lib.hasSuffix; simp
  rw [if_pos h]
  simp
theorem words_lf (x : List UInt8) : wordsP (x ++ [10]) = splitL x := by unfold wordsP; rw [trim_lf]
theorem split_one : ∀ w : List UInt8, (32 : UInt8) ∉ w → splitL w = [w]
  | [], _ => rfl
  | c :: r, h => by
    rw [splitL, if_neg (fun e => h (by rw [e]; simp)), split_one r (fun hr => h (List.mem_cons_of_mem _ hr))]
theorem split_two : ∀ (w r : List UInt8), (32 : UInt8) ∉ w → splitL (w ++ 32 :: r) = w :: splitL r
  | [], r, _ => by simp [splitL]
  | c :: w, r, h => by
    rw [List.cons_append, splitL, if_neg (fun e => h (by rw [e]; simp)), split_two w r (fun hr => h (List.mem_cons_of_mem _ hr))]
def joinL : List (List UInt8) → List UInt8
  | [] => []
  | [w] => w
  | w :: v :: r => w ++ 32 :: joinL (v :: r)
theorem join_split : ∀ x : List UInt8, joinL (splitL x) = x
  | [] => rfl
  | c :: r => by
    have ih := join_split r
    unfold splitL
    by_cases h : c = 32
    · rw [if_pos h]
      cases hs : splitL r with
      | nil => exact absurd hs (splitL_ne r)
      | cons v vs => rw [hs] at ih; rw [joinL, ih, h]; rfl
    · rw [if_neg h]
      cases hs : splitL r with
      | nil => exact absurd hs (splitL_ne r)
      | cons v vs =>
        rw [hs] at ih
        cases vs with
        | nil => simp only [joinL] at ih ⊢; rw [ih]
        | cons u us => simp only [joinL] at ih ⊢; rw [← ih]; rfl
theorem itoa_nat (u : Nat) : Lib.itoa (u : Int) = Lib.decDigits u := by unfold Lib.itoa; rw [if_neg (by omega)]; simp
theorem dg_no {u : Nat} {b : UInt8} (hb : b.toNat < 48) : b ∉ Lib.decDigits u := fun h => by
  have := dec_dg u b h
  unfold isDg at this
  omega
theorem form_no (j : Nat) : (32 : UInt8) ∉ (formP j).1 := by unfold formP; split <;> decide
theorem kind_at (j : Nat) (hj : j < 8) : kindP (formP j).1 8 = (j : Int) + 1 := by
  obtain rfl | rfl | rfl | rfl | rfl | rfl | rfl | rfl : j = 0 ∨ j = 1 ∨ j = 2 ∨ j = 3 ∨ j = 4 ∨ j = 5 ∨ j = 6 ∨ j = 7 := by omega
  all_goals rfl
theorem form_inj (i j : Nat) (hi : i < j) (hj : j < 8) : (formP i).1 ≠ (formP j).1 := fun e => by
  have h1 := kind_at i (by omega)
  rw [e, kind_at j hj] at h1
  omega
theorem refK_at (ws : List (List UInt8)) (j : Nat) (hj : j < 8) (hh : (formP j).1 = ws.headD []) (hl : ws.length = manyP j) : ∀ (m i : Nat), m + i = 8 → i ≤ j → refK ws m i = pickP ws j
  | 0, i, h, hi => by omega
  | m + 1, i, h, hi => by
    unfold refK
    by_cases he : i = j
    · subst he
      rw [if_pos ⟨hh, hl⟩]
    · rw [if_neg (fun h => form_inj i j (by omega) hj (h.1.trans hh.symm))]
      exact refK_at ws j hj hh hl m (i + 1) (by omega) (by omega)
theorem refK_of (ws : List (List UInt8)) : ∀ (m i : Nat), m + i = 8 → (refK ws m i).1 ≠ 0 → ∃ j, j < 8 ∧ (formP j).1 = ws.headD [] ∧ ws.length = manyP j ∧ (pickP ws j).1 ≠ 0
  | 0, i, h, hr => absurd rfl hr
  | m + 1, i, h, hr => by
    unfold refK at hr
    split at hr
    · rename_i hc
      exact ⟨i, by omega, hc.1, hc.2, hr⟩
    · exact refK_of ws m (i + 1) (by omega) hr
/-- A line that is shown is read by the reference. -/
theorem ok_ref (x : List UInt8) (hok : okP (x ++ [10]) = true) : refK (splitL x) 8 0 = moveP (x ++ [10]) ∧ (moveP (x ++ [10])).1 ≠ 0 := by
  unfold okP again at hok
  generalize moveP (x ++ [10]) = M at *
  obtain ⟨k, a, n⟩ := M
  simp only [Bool.and_eq_true, beq_iff_eq] at hok ⊢
  obtain ⟨h2, h1⟩ := hok
  unfold lineP at h1 h2
  by_cases hk : k < 1 ∨ 8 < k
  · rw [if_pos hk] at h2; simp at h2
  · rw [if_neg hk] at h1 h2
    obtain ⟨j, hj⟩ := Int.eq_ofNat_of_zero_le (by omega : 0 ≤ k - 1)
    obtain rfl : k = (j : Int) + 1 := by omega
    have hj8 : j < 8 := by omega
    rw [show ((j : Int) + 1 - 1).toNat = j by omega] at h1 h2
    by_cases hba : partBad (formP j).2.1 a = true
    · rw [if_pos hba] at h2; simp at h2
    · rw [if_neg hba] at h1 h2
      by_cases hbn : partBad (formP j).2.2 n = true
      · rw [if_pos hbn] at h2; simp at h2
      · rw [if_neg hbn] at h1
        simp only at h1
        have hx := List.append_cancel_right h1
        refine ⟨?_, by omega⟩
        have hno := form_no j
        have hka := keep_at j
        have hm : manyP j = 1 + (if (formP j).2.1 = true then 1 else 0) + (if (formP j).2.2 = true then 1 else 0) := rfl
        have ra := part_cases (formP j).2.1 a
        have rn := part_cases (formP j).2.2 n
        have hpk : ∀ ws, pickP ws j = if partR (formP j).2.1 ws 1 < 0 ∨ partR (formP j).2.2 ws 2 < 0 then (0, 0, 0) else ((j : Int) + 1, partR (formP j).2.1 ws 1, partR (formP j).2.2 ws 2) := fun _ => rfl
        have hat := refK_at (splitL x) j hj8
        generalize (formP j).1 = wd at *
        generalize (formP j).2.1 = p at *
        generalize (formP j).2.2 = q at *
        rcases ra with ⟨h, _⟩ | ⟨_, a0, a1, _, _, rfl | ⟨rfl, rfl⟩⟩
        · exact absurd h hba
        · obtain ⟨u, rfl⟩ := Int.eq_ofNat_of_zero_le a0
          rcases rn with ⟨h, _⟩ | ⟨_, n0, n1, _, _, rfl | ⟨rfl, rfl⟩⟩
          · exact absurd h hbn
          · obtain ⟨v, rfl⟩ := Int.eq_ofNat_of_zero_le n0
            have hs : splitL x = [wd, Lib.decDigits u, Lib.decDigits v] := by
              rw [← hx]
              simp only [partP, if_true, itoa_nat]
              rw [List.append_assoc, List.cons_append, split_two _ _ hno, split_two _ _ (dg_no (by decide)), split_one _ (dg_no (by decide))]
            rw [hs] at hat ⊢
            rw [hat rfl (by rw [hm]; rfl) 8 0 rfl (Nat.zero_le _), hpk]
            simp only [partR, if_true, List.getD_cons_succ, List.getD_cons_zero]
            rw [bigL_dec u (by omega), bigL_dec v (by omega), if_neg (by omega)]
          · have hs : splitL x = [wd, Lib.decDigits u] := by
              rw [← hx]
              simp only [partP, if_true, itoa_nat, Bool.false_eq_true, if_false, List.append_nil]
              rw [split_two _ _ hno, split_one _ (dg_no (by decide))]
            rw [hs] at hat ⊢
            rw [hat rfl (by rw [hm]; rfl) 8 0 rfl (Nat.zero_le _), hpk]
            simp only [partR, if_true, List.getD_cons_succ, List.getD_cons_zero, Bool.false_eq_true, if_false]
            rw [bigL_dec u (by omega), if_neg (by omega)]
        · rcases rn with ⟨h, _⟩ | ⟨_, n0, n1, _, _, rfl | ⟨rfl, rfl⟩⟩
          · exact absurd h hbn
          · exact absurd (hka rfl) (by simp)
          · have hs : splitL x = [wd] := by
              rw [← hx]
              simp only [partP, Bool.false_eq_true, if_false, List.append_nil]
              exact split_one _ hno
            rw [hs] at hat ⊢
            rw [hat rfl (by rw [hm]; rfl) 8 0 rfl (Nat.zero_le _), hpk]
            simp [partR]
end Go.Proofs.YtgjedgfncopjlaaDoor.Lines
