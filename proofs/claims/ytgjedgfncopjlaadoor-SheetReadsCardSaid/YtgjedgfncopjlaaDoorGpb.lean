/- The reference's reading of graphs, on lists of bytes. -/
import Derived.Test.YtgjedgfncopjlaaDoorGpa
namespace Go.Proofs.YtgjedgfncopjlaaDoor.Lines
open Go Go.RowKit Go.Proofs.YtgjedgfncopjlaaDoorW.PrintWords Go.Proofs.YtgjedgfncopjlaaDoorW.PrintLast Go.Proofs.YtgjedgfncopjlaaDoorW.PrintMore Go.Proofs.YtgjedgfncopjlaaDoor.PSheetReads
set_option linter.unusedVariables false
set_option linter.unusedSimpArgs false
def numR (x : List UInt8) : Option (List UInt8 × List UInt8) → Int × Int
  | none => (0, -1)
  | some (d, r) => ((valD 0 d : Int), ((x.length - r.length : Nat) : Int))
theorem num_ev (x : List UInt8) (hx : x.length ≤ 20000) (e : UInt8) (fr : Nat) : ∀ (r : List UInt8) (i : Nat) (pre : List UInt8), x.drop i = r → (x.drop fr).take (i - fr) = pre → fr ≤ i → i ≤ x.length → (∀ c ∈ pre, isDg c) → pre.length ≤ 18 →
    Ev (fun k => pacelineref_number.l0 k (ba x) (fr : Int) (e.toNat : Int) (valD 0 pre : Int) (i : Int)) (numR x (nuS e pre r))
  | [], i, pre, hr, hp, hf, hi, hd, hl => by
    have hle := drop_nil hr
    refine Ev.step (f := fun _ => some (0, -1)) (fun k => ?_) (Ev.now _)
    rw [pacelineref_number.l0, ba_size, if_neg (by omega)]
  | c :: r, i, pre, hr, hp, hf, hi, hd, hl => by
    obtain ⟨h1, h2, h3⟩ := bt_drop hr
    have hpl : pre.length = i - fr := by rw [← hp, List.length_take, List.length_drop]; omega
    have hrl : x.length - r.length = i + 1 := by rw [← h3, List.length_drop]; omega
    have hv := val_lt pre hd
    -- behind the test for the end
    have J : Ev (fun k => pacelineref_number.j1 k (ba x) (fr : Int) (e.toNat : Int) (valD 0 pre : Int) (i : Int) false) (if c.toNat < 48 ∨ 57 < c.toNat ∨ 17 < pre.length then (0, -1) else numR x (nuS e (pre ++ [c]) r)) := by
      by_cases hb : c.toNat < 48 ∨ 57 < c.toNat ∨ 17 < pre.length
      · rw [if_pos hb]
        refine Ev.step (f := fun _ => some (0, -1)) (fun k => ?_) (Ev.now _)
        rw [pacelineref_number.j1, if_neg (by decide), ba_size, if_pos (by omega), if_pos (by omega), h1]
        by_cases b1 : c.toNat < 48
        · rw [if_pos (by omega)]
        · rw [if_neg (by omega)]
          by_cases b2 : 57 < c.toNat
          · rw [if_pos (by omega)]
          · rw [if_neg (by omega), w64 (by omega) (by omega), if_pos (by omega)]
      · rw [if_neg hb]
        have hb17 : pre.length ≤ 17 := by omega
        have hv2 : valD 0 pre < 100000000000000000 := by
          have : 10 ^ pre.length ≤ 10 ^ 17 := Nat.pow_le_pow_right (by omega) hb17
          have : (10 : Nat) ^ 17 = 100000000000000000 := by decide
          omega
        have hnext : (x.drop fr).take (i + 1 - fr) = pre ++ [c] := by
          rw [show i + 1 - fr = (i - fr) + 1 by omega, List.take_add_one, hp, List.getElem?_drop, show fr + (i - fr) = i by omega]
          have : x[i]? = some c := by
            have h := List.getElem?_drop (xs := x) (i := i) (j := 0)
            rw [hr] at h
            simpa using h.symm
          rw [this]; rfl
        have ih := num_ev x hx e fr r (i + 1) (pre ++ [c]) h3 hnext (by omega) (by omega) (fun y hy => by
          rcases List.mem_append.1 hy with hy | hy
          · exact hd y hy
          · obtain rfl := List.mem_singleton.1 hy
            unfold isDg; omega) (by simp; omega)
        refine Ev.step (fun k => ?_) ih
        rw [pacelineref_number.j1, if_neg (by decide), ba_size, if_pos (by omega), if_pos (by omega), h1, if_neg (by omega), if_neg (by omega), w64 (x := (i : Int) - fr) (by omega) (by omega), if_neg (by omega), w64 (x := 10 * ((valD 0 pre : Nat) : Int)) (by omega) (by omega), w64 (x := (i : Int) + 1) (by omega) (by omega), valD_snoc, w64 (by omega) (by omega)]
        congr 1
        omega
    have T : Ev (fun k => pacelineref_number.j1 k (ba x) (fr : Int) (e.toNat : Int) (valD 0 pre : Int) (i : Int) true) ((valD 0 pre : Int), ((x.length - r.length : Nat) : Int)) := by
      refine Ev.step (f := fun _ => some ((valD 0 pre : Int), ((x.length - r.length : Nat) : Int))) (fun k => ?_) (Ev.now _)
      rw [pacelineref_number.j1, if_pos rfl, w64 (by omega) (by omega), hrl]
      rfl
    show Ev _ (numR x (nuS e pre (c :: r)))
    unfold nuS
    by_cases hce : c = e
    · by_cases hpe : pre = []
      · have hfi : fr = i := by rw [hpe] at hpl; simp at hpl; omega
        rw [if_neg (fun h => h.2.1 hpe), apply_ite (numR x)]
        refine Ev.step (fun k => ?_) J
        rw [pacelineref_number.l0, ba_size, if_pos (by omega), if_pos (by omega), h1, if_pos (by rw [hce]), if_neg (by omega)]
      · have hlt : fr < i := by
          have : pre.length ≠ 0 := fun h => hpe (List.eq_nil_of_length_eq_zero h)
          omega
        obtain ⟨p, q, hpq⟩ : ∃ p q, pre = p :: q := by
          match pre, hpe with
          | p :: q, _ => exact ⟨p, q, rfl⟩
        obtain ⟨y, ys, hy⟩ : ∃ y ys, x.drop fr = y :: ys := by
          cases h : x.drop fr with
          | nil => rw [h] at hp; simp at hp; exact absurd hp hpe
          | cons y ys => exact ⟨y, ys, rfl⟩
        obtain ⟨g1, g2, g3⟩ := bt_drop hy
        have hyp : y = p := by
          rw [hy, show i - fr = (i - fr - 1) + 1 by omega, List.take_succ_cons, hpq] at hp
          injection hp
        by_cases h48 : p = 48
        · by_cases hl1 : pre.length = 1
          · rw [if_pos ⟨hce, hpe, .inr hl1⟩]
            refine Ev.step (fun k => ?_) T
            rw [pacelineref_number.l0, ba_size, if_pos (by omega), if_pos (by omega), h1, if_pos (by rw [hce]), if_pos (by omega), if_pos (by omega), if_pos (by omega), g1, if_pos (by rw [hyp, h48]; rfl), w64 (by omega) (by omega), show ((i : Int) == (fr : Int) + 1) = true by rw [beq_iff_eq]; omega]
          · rw [if_neg (fun h => by
              rcases h.2.2 with h | h
              · rw [hpq, h48] at h; exact h rfl
              · exact hl1 h), apply_ite (numR x)]
            refine Ev.step (fun k => ?_) J
            rw [pacelineref_number.l0, ba_size, if_pos (by omega), if_pos (by omega), h1, if_pos (by rw [hce]), if_pos (by omega), if_pos (by omega), if_pos (by omega), g1, if_pos (by rw [hyp, h48]; rfl), w64 (by omega) (by omega), show ((i : Int) == (fr : Int) + 1) = false by rw [beq_eq_false_iff_ne]; omega]
        · rw [if_pos ⟨hce, hpe, .inl (by rw [hpq]; simpa using h48)⟩]
          refine Ev.step (fun k => ?_) T
          rw [pacelineref_number.l0, ba_size, if_pos (by omega), if_pos (by omega), h1, if_pos (by rw [hce]), if_pos (by omega), if_pos (by omega), if_pos (by omega), g1, if_neg (by
            rw [hyp]
            intro h
            exact h48 (UInt8.toNat_inj.1 (by have : p.toNat = 48 := by omega
                                             rw [this]; rfl)))]
    · rw [if_neg (fun h => hce h.1), apply_ite (numR x)]
      refine Ev.step (fun k => ?_) J
      rw [pacelineref_number.l0, ba_size, if_pos (by omega), if_pos (by omega), h1, if_neg (fun h => hce (UInt8.toNat_inj.1 (by omega)))]
theorem number_ev (x : List UInt8) (hx : x.length ≤ 20000) (e : UInt8) (fr : Nat) (hf : fr ≤ x.length) : Ev (fun k => pacelineref_number.f k (ba x) (fr : Int) (e.toNat : Int)) (numR x (nuS e [] (x.drop fr))) := by
  have h := num_ev x hx e fr (x.drop fr) fr [] rfl (by simp) (Nat.le_refl _) hf (fun _ h => by cases h) (by simp)
  exact h
/-! ### faults of a graph -/
theorem In_eq (a b c : Int) : pacelineref_In.f a b c = some (decide (b ≤ a ∧ a ≤ c)) := by
  unfold pacelineref_In.f
  by_cases h : a ≥ b
  · rw [if_pos h]; simp [h]
  · rw [if_neg h]; simp; omega
theorem rd_get (es : List Ed) (i : Nat) (h : i < es.length) : rd_T45 es (i : Int) = es[i] := by unfold rd_T45; simp [h]
theorem fault_l0 (n : Int) (hn : 0 ≤ n ∧ n ≤ 200) (es : List Ed) (hl : es.length ≤ 600) : ∀ (d i : Nat), i + d = es.length → Ev (fun k => pacelineref_GraphFault.l0 k (i : Int) n es) (if (es.drop i).all (edgeOk n) = true then 0 else 2)
  | 0, i, h => by
    rw [List.drop_eq_nil_of_le (by omega)]
    refine Ev.step (f := fun _ => some 0) (fun k => ?_) (Ev.now _)
    rw [pacelineref_GraphFault.l0, if_neg (by omega)]
  | d + 1, i, h => by
    have hi : i < es.length := by omega
    rw [List.drop_eq_getElem_cons hi, List.all_cons]
    have ih := fault_l0 n hn es hl d (i + 1) (by omega)
    have hw : wrap64 (n - 1) = n - 1 := w64 (by omega) (by omega)
    have hE : edgeOk n es[i] = (decide (0 ≤ es[i].f0 ∧ es[i].f0 ≤ n - 1) && (decide (0 ≤ es[i].f1 ∧ es[i].f1 ≤ n - 1) && decide (0 ≤ es[i].f2 ∧ es[i].f2 ≤ 1099511627776))) := by
      unfold edgeOk inP
      rw [Bool.eq_iff_iff]
      simp
      omega
    rw [hE]
    by_cases a : 0 ≤ es[i].f0 ∧ es[i].f0 ≤ n - 1
    · by_cases b : 0 ≤ es[i].f1 ∧ es[i].f1 ≤ n - 1
      · by_cases c : 0 ≤ es[i].f2 ∧ es[i].f2 ≤ 1099511627776
        · rw [decide_eq_true a, decide_eq_true b, decide_eq_true c]
          simp only [Bool.true_and]
          refine Ev.step (fun k => ?_) ih
          rw [pacelineref_GraphFault.l0, if_pos (by omega), if_pos (by omega), rd_get es i hi, hw, In_eq, In_eq, In_eq, decide_eq_true a, decide_eq_true b, decide_eq_true c, w64 (by omega) (by omega)]
          rfl
        · rw [decide_eq_true a, decide_eq_true b, decide_eq_false c]
          refine Ev.step (f := fun _ => some 2) (fun k => ?_) (Ev.now _)
          rw [pacelineref_GraphFault.l0, if_pos (by omega), if_pos (by omega), rd_get es i hi, hw, In_eq, In_eq, In_eq, decide_eq_true a, decide_eq_true b, decide_eq_false c]
          rfl
      · rw [decide_eq_true a, decide_eq_false b]
        refine Ev.step (f := fun _ => some 2) (fun k => ?_) (Ev.now _)
        rw [pacelineref_GraphFault.l0, if_pos (by omega), if_pos (by omega), rd_get es i hi, hw, In_eq, In_eq, decide_eq_true a, decide_eq_false b]
        rfl
    · rw [decide_eq_false a]
      refine Ev.step (f := fun _ => some 2) (fun k => ?_) (Ev.now _)
      rw [pacelineref_GraphFault.l0, if_pos (by omega), if_pos (by omega), rd_get es i hi, hw, In_eq, decide_eq_false a]
      rfl
theorem fault_ev (n : Int) (es : List Ed) : Ev (fun k => pacelineref_GraphFault.f k n es) (checkP n es) := by
  unfold pacelineref_GraphFault.f checkP
  rw [In_eq]
  by_cases hn : 0 ≤ n ∧ n ≤ 200
  · rw [decide_eq_true hn]
    by_cases hl : 600 < es.length
    · rw [if_pos (.inr (.inr hl))]
      refine Ev.congr (fun k => rfl) ?_
      show Ev (fun k => pacelineref_GraphFault.j0 k (decide ((es.length : Int) > 600)) n es) 1
      rw [decide_eq_true (by omega)]
      refine Ev.step (f := fun _ => some 1) (fun k => ?_) (Ev.now _)
      rw [pacelineref_GraphFault.j0, if_pos rfl]
    · rw [if_neg (by omega)]
      show Ev (fun k => pacelineref_GraphFault.j0 k (decide ((es.length : Int) > 600)) n es) _
      rw [decide_eq_false (by omega)]
      have h := fault_l0 n hn es (by omega) es.length 0 (by omega)
      rw [List.drop_zero] at h
      refine Ev.step (fun k => ?_) h
      rw [pacelineref_GraphFault.j0, if_neg (by decide)]
      rfl
  · rw [decide_eq_false hn, if_pos (by omega)]
    show Ev (fun k => pacelineref_GraphFault.j0 k true n es) 1
    refine Ev.step (f := fun _ => some 1) (fun k => ?_) (Ev.now _)
    rw [pacelineref_GraphFault.j0, if_pos rfl]
end Go.Proofs.YtgjedgfncopjlaaDoor.Lines
