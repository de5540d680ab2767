/- The reference's move of a line, on lists of bytes. -/
import Derived.Test.YtgjedgfncopjlaaDoorPlp
namespace Go.Proofs.YtgjedgfncopjlaaDoor.Lines
open Go Go.RowKit Go.Proofs.YtgjedgfncopjlaaDoorW.PrintWords Go.Proofs.YtgjedgfncopjlaaDoorW.PrintLast Go.Proofs.YtgjedgfncopjlaaDoorW.PrintMore Go.Proofs.YtgjedgfncopjlaaDoor.PPlayReads
set_option linter.unusedVariables false
set_option linter.unusedSimpArgs false
abbrev ba (x : List UInt8) : ByteArray := ⟨x.toArray⟩
def att (pre : List UInt8) : List (List UInt8) → List (List UInt8)
  | [] => [pre]
  | w :: ws => (pre ++ w) :: ws
theorem att_nil (l : List UInt8) : att [] (splitL l) = splitL l := by
  cases h : splitL l with
  | nil => exact absurd h (splitL_ne l)
  | cons w ws => simp [att]
theorem split_blank (pre r : List UInt8) : att pre (splitL (32 :: r)) = pre :: splitL r := by simp [splitL, att]
theorem split_other (pre r : List UInt8) (c : UInt8) (h : c ≠ 32) : att pre (splitL (c :: r)) = att (pre ++ [c]) (splitL r) := by
  rw [splitL, if_neg h]
  cases splitL r <;> simp [att]
theorem extract_ba (x : List UInt8) (a b : Nat) : (ba x).extract a b = ba ((x.drop a).take (b - a)) := by rw [Lib.extract_eq]
theorem mo_l0 (x : List UInt8) (hx : x.length ≤ 5000000) (R : Int × Int × Int) : ∀ (r : List UInt8) (i fr : Nat) (pre : List UInt8) (acc : List (List UInt8)), x.drop i = r → (x.drop fr).take (i - fr) = pre → fr ≤ i → i ≤ x.length → acc.length ≤ i →
    Ev (fun k => pacelineref_moveOf.l1 k ((acc ++ att pre (splitL r)).map ba) 1) R → Ev (fun k => pacelineref_moveOf.l0 k (ba x) (acc.map ba) (fr : Int) (i : Int)) R
  | [], i, fr, pre, acc, hr, hp, hf, hi, ha, h => by
    have hle := drop_nil hr
    obtain rfl : i = x.length := by omega
    have h2 : Ev (fun k => pacelineref_moveOf.l0 k (ba x) ((acc ++ [pre]).map ba) ((x.length + 1 : Nat) : Int) ((x.length + 1 : Nat) : Int)) R := by
      refine Ev.step (fun k => ?_) h
      rw [pacelineref_moveOf.l0, ba_size, if_neg (by omega)]
      simp [splitL, att]
    refine Ev.step (fun k => ?_) h2
    rw [pacelineref_moveOf.l0, ba_size, if_pos (by omega), if_pos rfl, if_pos (by omega), if_pos (by omega), if_pos (by rw [List.length_map]; omega), w64 (by omega) (by omega)]
    rw [show ((fr : Int)).toNat = fr from rfl, show ((x.length : Int)).toNat = x.length from rfl, extract_ba, hp, List.map_append]
    rfl
  | c :: r, i, fr, pre, acc, hr, hp, hf, hi, ha, h => by
    obtain ⟨h1, h2, h3⟩ := bt_drop hr
    have hc : c.toNat < 256 := c.toNat_lt
    by_cases hb : c = 32
    · subst hb
      rw [split_blank] at h
      have ih := mo_l0 x hx R r (i + 1) (i + 1) [] (acc ++ [pre]) h3 (by simp) (Nat.le_refl _) h2 (by simp; omega) (by rw [att_nil, List.append_assoc]; exact h)
      refine Ev.step (fun k => ?_) ih
      rw [pacelineref_moveOf.l0, ba_size, if_pos (by omega), if_neg (by omega), if_pos (by omega), if_pos (by omega), h1, if_pos (by decide), if_pos (by omega), if_pos (by omega), if_pos (by rw [List.length_map]; omega), w64 (by omega) (by omega)]
      rw [show ((fr : Int)).toNat = fr from rfl, show ((i : Int)).toNat = i from rfl, extract_ba, hp, List.map_append]
      rfl
    · rw [split_other _ _ _ hb] at h
      have hp2 : (x.drop fr).take (i + 1 - fr) = pre ++ [c] := by
        rw [show i + 1 - fr = (i - fr) + 1 by omega, List.take_add_one, hp, List.getElem?_drop, show fr + (i - fr) = i by omega]
        have : x[i]? = some c := by
          have := congrArg (fun l => l[0]?) hr
          simpa using this
        rw [this]; rfl
      have ih := mo_l0 x hx R r (i + 1) fr (pre ++ [c]) acc h3 hp2 (by omega) h2 (by omega) h
      refine Ev.step (fun k => ?_) ih
      rw [pacelineref_moveOf.l0, ba_size, if_pos (by omega), if_neg (by omega), if_pos (by omega), if_pos (by omega), h1, if_neg (fun e => hb (by apply UInt8.toNat_inj.1; show c.toNat = 32; omega)), w64 (by omega) (by omega)]
      rfl
theorem word_f (j : Nat) (hj : j < 8) : pacelineref_MoveWord.f ((j : Int) + 1) = some (ba (formP j).1, (formP j).2.1, (formP j).2.2) := by
  obtain rfl | rfl | rfl | rfl | rfl | rfl | rfl | rfl : j = 0 ∨ j = 1 ∨ j = 2 ∨ j = 3 ∨ j = 4 ∨ j = 5 ∨ j = 6 ∨ j = 7 := by omega
  all_goals rfl
def manyP (j : Nat) : Nat := 1 + (if (formP j).2.1 = true then 1 else 0) + (if (formP j).2.2 = true then 1 else 0)
noncomputable def partR (has : Bool) (ws : List (List UInt8)) (i : Nat) : Int := if has = true then bigL (ws.getD i []) else 0
noncomputable def pickP (ws : List (List UInt8)) (j : Nat) : Int × Int × Int :=
  if partR (formP j).2.1 ws 1 < 0 ∨ partR (formP j).2.2 ws 2 < 0 then (0, 0, 0) else ((j : Int) + 1, partR (formP j).2.1 ws 1, partR (formP j).2.2 ws 2)
noncomputable def refK (ws : List (List UInt8)) : Nat → Nat → Int × Int × Int
  | 0, _ => (0, 0, 0)
  | m + 1, j => if (formP j).1 = ws.headD [] ∧ ws.length = manyP j then pickP ws j else refK ws m (j + 1)
theorem rd_ba (ws : List (List UInt8)) (i : Nat) : rdOf ByteArray.empty (ws.map ba) (i : Int) = ba (ws.getD i []) := by
  unfold rdOf
  rw [show ((i : Int)).toNat = i from rfl, List.getD_eq_getElem?_getD, List.getD_eq_getElem?_getD, List.getElem?_map]
  cases ws[i]? <;> rfl
theorem both (a b : Int) (x : Int) : (if a < 0 then some ((0 : Int), (0 : Int), (0 : Int)) else if b < 0 then some (0, 0, 0) else some (x, a, b)) = some (if a < 0 ∨ b < 0 then ((0 : Int), (0 : Int), (0 : Int)) else (x, a, b)) := by
  by_cases h1 : a < 0
  · rw [if_pos h1, if_pos (Or.inl h1)]
  · by_cases h2 : b < 0
    · rw [if_neg h1, if_pos h2, if_pos (Or.inr h2)]
    · rw [if_neg h1, if_neg h2, if_neg (by omega)]
theorem keep_at (j : Nat) : (formP j).2.2 = true → (formP j).2.1 = true := by unfold formP; split <;> simp
theorem pick_ev (ws : List (List UInt8)) (hb : ∀ w ∈ ws, w.length ≤ 5000000) (j : Nat) (hw : ws.length = manyP j) :
    Ev (fun k => pacelineref_moveOf.j4 k (ws.map ba) ((j : Int) + 1) (formP j).2.1 (formP j).2.2 false) (pickP ws j) := by
  have hm := hw
  unfold manyP at hm
  have hl : ((ws.map ba).length : Int) = (ws.length : Int) := by rw [List.length_map]
  have hbig : ∀ i, i < ws.length → Ev (fun k => pacelineref_big.f k (rdOf ByteArray.empty (ws.map ba) (i : Int))) (bigL (ws.getD i [])) := fun i hi => by
    rw [rd_ba]
    refine big_ev _ ?_
    have := hb (ws.getD i []) (by rw [List.getD_eq_getElem?_getD, List.getElem?_eq_getElem hi]; exact List.getElem_mem hi)
    omega
  have hpq := keep_at j
  unfold pickP partR
  generalize (formP j).2.1 = p at *
  generalize (formP j).2.2 = q at *
  have j5 : ∀ a : Int, Ev (fun k => pacelineref_moveOf.j5 k (ws.map ba) q ((j : Int) + 1) a 0) (if a < 0 ∨ (if q = true then bigL (ws.getD 2 []) else 0) < 0 then (0, 0, 0) else ((j : Int) + 1, a, (if q = true then bigL (ws.getD 2 []) else 0))) := fun a => by
    cases q with
    | true =>
      have h2 : 2 < ws.length := by
        cases p with
        | true => simp at hm; omega
        | false => exact absurd (hpq rfl) (by simp)
      have hb2 := hbig 2 h2
      refine Ev.step (f := fun k => (pacelineref_big.f k (rdOf ByteArray.empty (ws.map ba) 2)).bind fun t158 => (if a < 0 then (some (0, 0, 0)) else (if t158 < 0 then (some (0, 0, 0)) else (some ((j : Int) + 1, a, t158))))) (fun k => ?_) (Ev.bind hb2 ?_)
      · rw [pacelineref_moveOf.j5, if_pos rfl, hl, if_pos (by omega)]
      · simp only [if_true]
        exact Ev.congr (fun k => both a (bigL (ws.getD 2 [])) ((j : Int) + 1)) (Ev.now _)
    | false =>
      simp only [Bool.false_eq_true, if_false]
      refine Ev.step (f := fun _ => some (if a < 0 ∨ (0 : Int) < 0 then ((0 : Int), (0 : Int), (0 : Int)) else ((j : Int) + 1, a, 0))) (fun k => ?_) (Ev.now _)
      rw [pacelineref_moveOf.j5, if_neg (by simp)]
      exact both a 0 ((j : Int) + 1)
  cases p with
  | true =>
    have h1 : 1 < ws.length := by simp at hm; omega
    refine Ev.step (f := fun k => (pacelineref_big.f k (rdOf ByteArray.empty (ws.map ba) 1)).bind fun t156 => pacelineref_moveOf.j5 k (ws.map ba) q ((j : Int) + 1) t156 0) (fun k => ?_) (Ev.bind (hbig 1 h1) (by simpa using j5 (bigL (ws.getD 1 []))))
    rw [pacelineref_moveOf.j4, if_neg (by simp), if_pos rfl, hl, if_pos (by omega)]
  | false =>
    refine Ev.step (fun k => ?_) (by simpa using j5 0)
    rw [pacelineref_moveOf.j4, if_neg (by simp), if_neg (by simp)]
theorem mo_l1 (ws : List (List UInt8)) (hne : ws ≠ []) (hb : ∀ w ∈ ws, w.length ≤ 5000000) : ∀ (m j : Nat), m + j = 8 → Ev (fun k => pacelineref_moveOf.l1 k (ws.map ba) ((j : Int) + 1)) (refK ws m j)
  | 0, j, h => by
    obtain rfl : j = 8 := by omega
    refine Ev.step (f := fun _ => some ((0 : Int), (0 : Int), (0 : Int))) (fun k => ?_) (Ev.now _)
    rw [pacelineref_moveOf.l1, if_neg (by omega)]
  | m + 1, j, h => by
    have ih := mo_l1 ws hne hb m (j + 1) (by omega)
    have hlen : 0 < ws.length := List.length_pos_iff.2 hne
    have hl : ((ws.map ba).length : Int) = (ws.length : Int) := by rw [List.length_map]
    have h0 : rdOf ByteArray.empty (ws.map ba) 0 = ba (ws.headD []) := by
      have := rd_ba ws 0
      rw [show ws.getD 0 [] = ws.headD [] by cases ws <;> rfl] at this
      exact this
    have tl : ∀ y : List UInt8, (ba y).toList = y := fun y => Lib.toList_data _
    have hm : manyP j = 1 + (if (formP j).2.1 = true then 1 else 0) + (if (formP j).2.2 = true then 1 else 0) := rfl
    have jt : Ev (fun k => pacelineref_moveOf.j4 k (ws.map ba) ((j : Int) + 1) (formP j).2.1 (formP j).2.2 true) (refK ws m (j + 1)) := by
      refine Ev.step (fun k => ?_) ih
      rw [pacelineref_moveOf.j4, if_pos rfl, w64 (by omega) (by omega)]
      rfl
    have j3 : Ev (fun k => pacelineref_moveOf.j3 k (ws.map ba) ((j : Int) + 1) (ba (formP j).1) (formP j).2.1 (formP j).2.2 (manyP j : Int)) (refK ws (m + 1) j) := by
      unfold refK
      by_cases hw : (formP j).1 = ws.headD []
      · by_cases hn : ws.length = manyP j
        · rw [if_pos ⟨hw, hn⟩]
          refine Ev.step (fun k => ?_) (pick_ev ws hb j hn)
          rw [pacelineref_moveOf.j3, hl, if_pos (by omega), h0, tl, tl, if_pos hw, hn, bne_self_eq_false]
        · rw [if_neg (fun h => hn h.2)]
          refine Ev.step (fun k => ?_) jt
          rw [pacelineref_moveOf.j3, hl, if_pos (by omega), h0, tl, tl, if_pos hw, show ((ws.length : Int) != (manyP j : Int)) = true by rw [bne_iff_ne]; omega]
      · rw [if_neg (fun h => hw h.1)]
        refine Ev.step (fun k => ?_) jt
        rw [pacelineref_moveOf.j3, hl, if_pos (by omega), h0, tl, tl, if_neg hw]
    have hj8 : j < 8 := by omega
    have j2 : ∀ p q : Bool, p = (formP j).2.1 → q = (formP j).2.2 → Ev (fun k => pacelineref_moveOf.j2 k (ws.map ba) ((j : Int) + 1) (ba (formP j).1) p q (1 + (if p = true then 1 else 0))) (refK ws (m + 1) j) := fun p q hp hq => by
      refine Ev.step (fun k => ?_) j3
      rw [pacelineref_moveOf.j2, hm, ← hp, ← hq]
      cases q <;> cases p <;> simp [wrap64]
    refine Ev.step (fun k => ?_) (j2 _ _ rfl rfl)
    rw [pacelineref_moveOf.l1, if_pos (by omega), word_f j hj8]
    simp only [Option.bind_some]
    cases (formP j).2.1 <;> simp
theorem moveOf_ev (x : List UInt8) (hx : x.length ≤ 5000000) : Ev (fun k => pacelineref_moveOf.f k (ba x)) (refK (splitL x) 8 0) := by
  unfold pacelineref_moveOf.f
  refine mo_l0 x hx _ x 0 0 [] [] rfl rfl (Nat.le_refl _) (Nat.zero_le _) (Nat.le_refl _) ?_
  rw [List.nil_append, att_nil]
  exact mo_l1 (splitL x) (splitL_ne x) (fun w hw => by have := split_le x w hw; omega) 8 0 rfl
end Go.Proofs.YtgjedgfncopjlaaDoor.Lines
