/- PlayReads, in plain words: the reference reads what the program reads. -/
import Derived.Test.YtgjedgfncopjlaaDoorPlr
namespace Go.Proofs.YtgjedgfncopjlaaDoor.Lines
open Go Go.RowKit Go.Proofs.YtgjedgfncopjlaaDoorW.PrintWords Go.Proofs.YtgjedgfncopjlaaDoorW.PrintLast Go.Proofs.YtgjedgfncopjlaaDoorW.PrintMore Go.Proofs.YtgjedgfncopjlaaDoor.PPlayReads
set_option linter.unusedVariables false
set_option linter.unusedSimpArgs false
theorem line_at (j : Nat) (hj : j < 8) (a n : Int) (ha : partBad (formP j).2.1 a = false) (hn : partBad (formP j).2.2 n = false) : lineP ((j : Int) + 1) a n = ((formP j).1 ++ partP (formP j).2.1 a ++ partP (formP j).2.2 n ++ [10], 0) := by
  unfold lineP
  rw [if_neg (by omega), show ((j : Int) + 1 - 1).toNat = j by omega, if_neg (by rw [ha]; simp), if_neg (by rw [hn]; simp)]
theorem good_nat (u : Nat) (h : u ≤ 1152921504606846976) : partBad true (u : Int) = false := by
  unfold partBad
  simp
  omega
theorem good_no : partBad false 0 = false := by decide
/-- A line that the reference reads is shown. -/
theorem ref_ok (x : List UInt8) (h : (refK (splitL x) 8 0).1 ≠ 0) : okP (x ++ [10]) = true := by
  obtain ⟨j, hj, hh, hl, hp⟩ := refK_of (splitL x) 8 0 rfl h
  have hjn := join_split x
  have hk := kind_at j hj
  have hka := keep_at j
  have hm : manyP j = 1 + (if (formP j).2.1 = true then 1 else 0) + (if (formP j).2.2 = true then 1 else 0) := rfl
  have hpk : pickP (splitL x) j = if partR (formP j).2.1 (splitL x) 1 < 0 ∨ partR (formP j).2.2 (splitL x) 2 < 0 then (0, 0, 0) else ((j : Int) + 1, partR (formP j).2.1 (splitL x) 1, partR (formP j).2.2 (splitL x) 2) := rfl
  have hla := line_at j hj
  have hmv : moveP (x ++ [10]) = (kindP ((splitL x).headD []) 8, numsP 0 (splitL x).tail 0 0) := by unfold moveP; rw [words_lf]
  rw [hpk] at hp
  have hneg : ¬ (partR (formP j).2.1 (splitL x) 1 < 0 ∨ partR (formP j).2.2 (splitL x) 2 < 0) := fun hc => by rw [if_pos hc] at hp; exact hp rfl
  clear hp hpk h
  rw [← hh, hk] at hmv
  rw [hm] at hl
  generalize (formP j).1 = wd at *
  generalize (formP j).2.1 = p at *
  generalize (formP j).2.2 = q at *
  have done : ∀ a n : Int, moveP (x ++ [10]) = ((j : Int) + 1, a, n) → partBad p a = false → partBad q n = false → wd ++ partP p a ++ partP q n = x → okP (x ++ [10]) = true := fun a n h1 h2 h3 h4 => by
    unfold okP again
    rw [h1]
    simp only
    rw [hla a n h2 h3, h4]
    simp
  match hws : splitL x, splitL_ne x with
  | w0 :: r, _ =>
    rw [hws] at hh hl hjn hmv hneg
    simp only [List.headD_cons] at hh
    subst hh
    cases p with
    | true =>
      cases q with
      | true =>
        match r, hl with
        | [w1, w2], _ =>
          simp only [partR, if_true, List.getD_cons_succ, List.getD_cons_zero] at hneg
          obtain ⟨u, hu, -, rfl⟩ := bigL_of w1 (by omega)
          obtain ⟨v, hv, -, rfl⟩ := bigL_of w2 (by omega)
          refine done u v ?_ (good_nat u hu) (good_nat v hv) ?_
          · rw [hmv]
            simp only [List.tail_cons, numsP, atoi_dec u hu, atoi_dec v hv]
          · rw [← hjn]
            simp only [partP, if_true, itoa_nat, joinL]
            simp
      | false =>
        match r, hl with
        | [w1], _ =>
          simp only [partR, if_true, List.getD_cons_succ, List.getD_cons_zero, Bool.false_eq_true, if_false] at hneg
          obtain ⟨u, hu, -, rfl⟩ := bigL_of w1 (by omega)
          refine done u 0 ?_ (good_nat u hu) good_no ?_
          · rw [hmv]
            simp only [List.tail_cons, numsP, atoi_dec u hu]
          · rw [← hjn]
            simp only [partP, if_true, itoa_nat, joinL, Bool.false_eq_true, if_false]
            simp
    | false =>
      cases q with
      | true => exact absurd (hka rfl) (by simp)
      | false =>
        match r, hl with
        | [], _ =>
          refine done 0 0 ?_ good_no good_no ?_
          · rw [hmv]
            simp only [List.tail_cons, numsP]
          · rw [← hjn]
            simp [partP, joinL]
theorem ref_no (x : List UInt8) (h : okP (x ++ [10]) = false) : (refK (splitL x) 8 0).1 = 0 := by
  rcases Decidable.em ((refK (splitL x) 8 0).1 = 0) with h1 | h1
  · exact h1
  · rw [ref_ok x h1] at h; cases h
def rdS (acc : List Mv) (cur : List UInt8) : List UInt8 → List Mv × Int
  | [] => if cur ≠ [] then ([], 3) else if 100000 < acc.length then ([], 1) else (acc, 0)
  | c :: r => if c = 10 then (if okP (cur ++ [10]) = true then rdS (acc ++ [mkP (cur ++ [10])]) [] r else ([], 3)) else rdS acc (cur ++ [c]) r
theorem rd_l0 (x : List UInt8) (hx : x.length ≤ 5000000) : ∀ (r : List UInt8) (i fr : Nat) (cur : List UInt8) (acc : List Mv), x.drop i = r → (x.drop fr).take (i - fr) = cur → fr ≤ i → i ≤ x.length → acc.length ≤ i →
    Ev (fun k => pacelineref_MovesRead.l0 k (ba x) acc (fr : Int) (i : Int)) (rdS acc cur r)
  | [], i, fr, cur, acc, hr, hp, hf, hi, ha => by
    have hle := drop_nil hr
    obtain rfl : i = x.length := by omega
    have hcl : cur.length = x.length - fr := by rw [← hp, List.length_take, List.length_drop]; omega
    refine Ev.step (f := fun _ => some (rdS acc cur [])) (fun k => ?_) (Ev.now _)
    rw [pacelineref_MovesRead.l0, ba_size, if_neg (by omega)]
    unfold rdS
    by_cases hc : cur = []
    · have : fr = x.length := by rw [hc] at hcl; simp at hcl; omega
      rw [if_neg (by omega), if_neg (show ¬ cur ≠ [] by simpa using hc)]
      by_cases hn : 100000 < acc.length
      · rw [if_pos (show (acc.length : Int) > 100000 by omega), if_pos hn]
      · rw [if_neg (show ¬ (acc.length : Int) > 100000 by omega), if_neg hn]
    · have : 0 < cur.length := List.length_pos_iff.2 hc
      rw [if_pos (by omega), if_pos hc]
  | c :: r, i, fr, cur, acc, hr, hp, hf, hi, ha => by
    obtain ⟨h1, h2, h3⟩ := bt_drop hr
    unfold rdS
    by_cases hb : c = 10
    · subst hb
      rw [if_pos rfl]
      have hcl : cur.length ≤ 5000000 := by rw [← hp, List.length_take, List.length_drop]; omega
      have hm := moveOf_ev cur hcl
      have hstep : ∀ k, pacelineref_MovesRead.l0 (k + 1) (ba x) acc (fr : Int) (i : Int) = (pacelineref_moveOf.f k (ba cur)).bind fun bt159 => (if bt159.1 = 0 then (some (([] : List Mv), 3)) else (if acc.length < 5864062014805 then (pacelineref_MovesRead.l0 k (ba x) (acc ++ [(⟨bt159.1, bt159.2.1, bt159.2.2⟩ : Mv)]) ((i + 1 : Nat) : Int) ((i + 1 : Nat) : Int)) else (none))) := fun k => by
        rw [pacelineref_MovesRead.l0, ba_size, if_pos (by omega), if_pos (by omega), h1, if_pos (by decide), if_pos (by omega), if_pos (by omega), if_pos (by omega), w64 (by omega) (by omega)]
        rw [show ((fr : Int)).toNat = fr from rfl, show ((i : Int)).toNat = i from rfl, extract_ba, hp]
        rfl
      refine Ev.step hstep (Ev.bind hm ?_)
      by_cases hok : okP (cur ++ [10]) = true
      · rw [if_pos hok]
        obtain ⟨e, hne⟩ := ok_ref cur hok
        have ih := rd_l0 x hx r (i + 1) (i + 1) [] (acc ++ [mkP (cur ++ [10])]) h3 (by simp) (Nat.le_refl _) h2 (by simp; omega)
        refine Ev.congr (fun k => ?_) ih
        rw [e, if_neg hne, if_pos (by omega)]
        rfl
      · rw [if_neg hok]
        exact Ev.congr (fun k => if_pos (ref_no cur (by simpa using hok))) (Ev.now _)
    · rw [if_neg hb]
      have hp2 : (x.drop fr).take (i + 1 - fr) = cur ++ [c] := by
        rw [show i + 1 - fr = (i - fr) + 1 by omega, List.take_add_one, hp, List.getElem?_drop, show fr + (i - fr) = i by omega]
        have : x[i]? = some c := by
          have := congrArg (fun l => l[0]?) hr
          simpa using this
        rw [this]; rfl
      refine Ev.step (fun k => ?_) (rd_l0 x hx r (i + 1) fr (cur ++ [c]) acc h3 hp2 (by omega) h2 (by omega))
      rw [pacelineref_MovesRead.l0, ba_size, if_pos (by omega), if_pos (by omega), h1, if_neg (fun e => hb (by apply UInt8.toNat_inj.1; show c.toNat = 10; omega)), w64 (by omega) (by omega)]
      rfl
def attL (cur : List UInt8) : List (List UInt8) → List (List UInt8)
  | [] => if cur = [] then [] else [cur]
  | y :: ys => (cur ++ y) :: ys
theorem ok_lf (x : List UInt8) (h : okP x = true) : (10 : UInt8) ∈ x := by
  unfold okP again at h
  simp only [Bool.and_eq_true, beq_iff_eq] at h
  obtain ⟨h1, h2⟩ := h
  unfold lineP at h1 h2
  split at h2
  · rename_i hc; rw [if_pos hc] at h1; simp at h1
  · rename_i hc
    rw [if_neg hc] at h1
    split at h2
    · rename_i hc; rw [if_pos hc] at h1; simp at h1
    · rename_i hc
      rw [if_neg hc] at h1
      split at h2
      · rename_i hc; rw [if_pos hc] at h1; simp at h1
      · rw [← h2]; simp
theorem rdS_eq : ∀ (r : List UInt8) (cur : List UInt8) (acc : List Mv), (10 : UInt8) ∉ cur → rdS acc cur r = if (attL cur (linesL r)).all okP = true then (if 100000 < acc.length + (attL cur (linesL r)).length then ([], 1) else (acc ++ (attL cur (linesL r)).map mkP, 0)) else ([], 3)
  | [], cur, acc, hc => by
    unfold rdS linesL attL
    by_cases h : cur = []
    · rw [if_neg (by simpa using h), if_pos h]
      simp
    · have hb : okP cur = false := by
        cases ho : okP cur with
        | false => rfl
        | true => exact absurd (ok_lf cur ho) hc
      rw [if_pos h, if_neg h]
      simp [hb]
  | c :: r, cur, acc, hc => by
    unfold rdS
    by_cases h : c = 10
    · subst h
      rw [if_pos rfl]
      have e : attL cur (linesL (10 :: r)) = (cur ++ [10]) :: linesL r := by rw [linesL, if_pos rfl]; rfl
      have e2 : attL [] (linesL r) = linesL r := by cases linesL r <;> rfl
      rw [e]
      by_cases ho : okP (cur ++ [10]) = true
      · rw [if_pos ho, rdS_eq r [] _ (by simp), e2, List.all_cons, ho, Bool.true_and]
        simp only [List.length_append, List.length_cons, List.length_nil, List.map_cons, List.append_assoc, List.cons_append, List.nil_append]
        rw [show acc.length + (0 + 1) + (linesL r).length = acc.length + ((linesL r).length + 1) by omega]
      · rw [if_neg ho, List.all_cons, if_neg (by simp [ho])]
    · rw [if_neg h, rdS_eq r (cur ++ [c]) acc (by simp; exact ⟨hc, fun e => h e.symm⟩)]
      have e : attL (cur ++ [c]) (linesL r) = attL cur (linesL (c :: r)) := by
        rw [linesL, if_neg h]
        cases linesL r <;> simp [attL]
      rw [e]
theorem rd_ev (l : List UInt8) : Ev (fun k => pacelineref_MovesRead.f k (ba l)) (readP l) := by
  unfold pacelineref_MovesRead.f readP
  rw [ba_size]
  by_cases h : 5000000 < l.length
  · rw [if_pos h]
    exact Ev.congr (fun k => if_pos (by omega)) (Ev.now _)
  · rw [if_neg h]
    have h1 := rd_l0 l (by omega) l 0 0 [] [] rfl rfl (Nat.le_refl _) (Nat.zero_le _) (Nat.le_refl _)
    rw [rdS_eq l [] [] (by simp)] at h1
    have e2 : attL [] (linesL l) = linesL l := by cases linesL l <;> rfl
    rw [e2] at h1
    simp only [List.length_nil, Nat.zero_add, List.nil_append] at h1
    exact Ev.congr (fun k => if_neg (by omega)) h1
theorem same_l0 (m : List Mv) (hm : m.length ≤ 4611686018427387904) : ∀ (d i : Nat), i + d = m.length → Ev (fun k => pacelinelaw_sameMoves.l0 k m m (i : Int)) true
  | 0, i, h => by
    refine Ev.step (f := fun _ => some true) (fun k => ?_) (Ev.now _)
    rw [pacelinelaw_sameMoves.l0, if_neg (by omega)]
  | d + 1, i, h => by
    refine Ev.step (fun k => ?_) (same_l0 m hm d (i + 1) (by omega))
    rw [pacelinelaw_sameMoves.l0, if_pos (by omega), if_pos (by omega), if_pos (by omega), if_neg (by simp), w64 (by omega) (by omega)]
    rfl
theorem same_ev (m : List Mv) (hm : m.length ≤ 4611686018427387904) : Ev (fun k => pacelinelaw_sameMoves.f k m m) true := by
  unfold pacelinelaw_sameMoves.f
  exact Ev.congr (fun k => if_pos rfl) (same_l0 m hm m.length 0 (by omega))
theorem read_len (l : List UInt8) : (readP l).1.length ≤ 100000 := by
  unfold readP
  split
  · simp
  · split
    · split
      · simp
      · simp only [List.length_map]; omega
    · simp
/-- The law, of the plain functions. -/
theorem play_plain (l : List UInt8) : ∃ k, pacelineref_MovesRead.f k (ba l) = some (readP l) ∧ pacelinelaw_sameMoves.f k (readP l).1 (readP l).1 = some true := by
  obtain ⟨K1, h1⟩ := rd_ev l
  obtain ⟨K2, h2⟩ := same_ev (readP l).1 (by have := read_len l; omega)
  exact ⟨max K1 K2, h1 _ (Nat.le_max_left _ _), h2 _ (Nat.le_max_right _ _)⟩
end Go.Proofs.YtgjedgfncopjlaaDoor.Lines
