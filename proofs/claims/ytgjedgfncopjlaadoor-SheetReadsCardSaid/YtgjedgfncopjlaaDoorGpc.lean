/- SheetReads, in plain words: the reference reads what the program reads. -/
import Derived.Test.YtgjedgfncopjlaaDoorGpb
namespace Go.Proofs.YtgjedgfncopjlaaDoor.Lines
open Go Go.RowKit Go.Proofs.YtgjedgfncopjlaaDoorW.PrintWords Go.Proofs.YtgjedgfncopjlaaDoorW.PrintLast Go.Proofs.YtgjedgfncopjlaaDoorW.PrintMore Go.Proofs.YtgjedgfncopjlaaDoor.PSheetReads
set_option linter.unusedVariables false
set_option linter.unusedSimpArgs false
def G4 (k : Nat) (x : ByteArray) (n : Int) (es : List Ed) (a b c : Int × Int) : Option (Int × List Ed × Int) := if es.length < 5864062014805 then pacelineref_GraphRead.l0 k x c.2 n (es ++ [(⟨a.1, b.1, c.1⟩ : Ed)]) else none
def G3 (k : Nat) (x : ByteArray) (n : Int) (es : List Ed) (a b : Int × Int) : Option (Int × List Ed × Int) := if b.2 < 0 then some (0, [], 3) else (pacelineref_number.f k x b.2 10).bind (G4 k x n es a b)
def G2 (k : Nat) (x : ByteArray) (n : Int) (es : List Ed) (a : Int × Int) : Option (Int × List Ed × Int) := if a.2 < 0 then some (0, [], 3) else (pacelineref_number.f k x a.2 32).bind (G3 k x n es a)
theorem j1_true (k : Nat) (x : ByteArray) (p : Int) (n : Int) (es : List Ed) : pacelineref_GraphRead.j1 (k + 1) x p true n es = (pacelineref_number.f k x p 32).bind (G2 k x n es) := by
  rw [pacelineref_GraphRead.j1, if_pos rfl]
  rfl
theorem j1_false (k : Nat) (x : ByteArray) (p : Int) (n : Int) (es : List Ed) : pacelineref_GraphRead.j1 (k + 1) x p false n es = if p < 0 then some (0, [], 3) else (pacelineref_GraphFault.f k n es).bind fun t => if t = 0 then some (n, es, 0) else some (0, [], 3) := by
  rw [pacelineref_GraphRead.j1, if_neg (by decide)]
theorem drop_suffix {x m r : List UInt8} {p : Nat} (h : x.drop p = m ++ r) : x.drop (x.length - r.length) = r := by
  obtain ⟨q, e⟩ : ∃ q, x = q ++ r := ⟨x.take p ++ m, by rw [List.append_assoc, ← h, List.take_append_drop]⟩
  clear h
  subst e
  simp
def readS (n : Int) (acc : List Ed) (o : Option (List Ed)) : Int × List Ed × Int := match o with
  | none => (0, [], 3)
  | some es => if checkP n (acc ++ es) = 0 then (n, acc ++ es, 0) else (0, [], 3)
theorem readS_map (n : Int) (acc : List Ed) (e : Ed) (o : Option (List Ed)) : readS n (acc ++ [e]) o = readS n acc (o.map fun l => e :: l) := by
  cases o with
  | none => rfl
  | some es => simp [readS]
theorem gr_bad (x : List UInt8) (n : Int) (es : List Ed) : Ev (fun k => pacelineref_GraphRead.l0 k (ba x) (-1) n es) ((0, [], 3) : Int × List Ed × Int) := by
  refine Ev.step (f := fun k => pacelineref_GraphRead.j1 k (ba x) (-1) false n es) (fun k => ?_) (Ev.step (f := fun _ => some (0, [], 3)) (fun k => ?_) (Ev.now _))
  · rw [pacelineref_GraphRead.l0, if_neg (by decide)]
  · rw [j1_false, if_pos (by decide)]
theorem gr_ev (x : List UInt8) (hx : x.length ≤ 20000) (n : Int) : ∀ (f : Nat) (r : List UInt8) (p : Nat) (acc : List Ed), x.drop p = r → p ≤ x.length → r.length < f → acc.length + r.length ≤ 20000 →
    Ev (fun k => pacelineref_GraphRead.l0 k (ba x) (p : Int) n acc) (readS n acc (edgesF f r))
  | 0, r, p, acc, hr, hp, hf, ha => by omega
  | f + 1, r, p, acc, hr, hp, hf, ha => by
    have hrl : r.length = x.length - p := by rw [← hr, List.length_drop]
    refine Ev.step (f := fun k => pacelineref_GraphRead.j1 k (ba x) (p : Int) (decide ((p : Int) < (x.length : Int))) n acc) (fun k => by rw [pacelineref_GraphRead.l0, if_pos (by omega), ba_size]) ?_
    unfold edgesF
    by_cases he : r = []
    · rw [if_pos he, decide_eq_false (by rw [he] at hrl; simp at hrl; omega)]
      refine Ev.step (fun k => j1_false k _ _ _ _) ?_
      refine Ev.congr (fun k => if_neg (by omega)) ?_
      refine Ev.bind (fault_ev n acc) ?_
      unfold readS
      simp only [List.append_nil]
      by_cases hc : checkP n acc = 0
      · rw [if_pos hc, if_pos hc]; exact Ev.now _
      · rw [if_neg hc, if_neg hc]; exact Ev.now _
    · have hpl : p < x.length := by
        have : r.length ≠ 0 := fun h => he (List.eq_nil_of_length_eq_zero h)
        omega
      rw [if_neg he, decide_eq_true (by omega)]
      refine Ev.step (fun k => j1_true k _ _ _ _) ?_
      have N1 := number_ev x hx 32 p hp
      rw [hr] at N1
      cases h1 : nuS 32 [] r with
      | none =>
        rw [h1] at N1
        refine Ev.bind N1 ?_
        exact Ev.congr (fun k => if_pos (by show (-1 : Int) < 0; decide)) (Ev.now _)
      | some a =>
        obtain ⟨a, r1⟩ := a
        rw [h1] at N1
        obtain ⟨ca, la, m, ham, hrm⟩ := nuS_some 32 r [] a r1 h1 (fun _ h => by cases h) (by simp)
        have hl1 : r1.length < r.length := by rw [hrm]; simp; omega
        have hd1 : x.drop (x.length - r1.length) = r1 := drop_suffix (p := p) (m := m ++ [32]) (by rw [hr, hrm]; simp)
        refine Ev.bind N1 ?_
        refine Ev.congr (fun k => if_neg (by show ¬ ((x.length - r1.length : Nat) : Int) < 0; omega)) ?_
        have N2 := number_ev x hx 32 (x.length - r1.length) (by omega)
        rw [hd1] at N2
        simp only
        cases h2 : nuS 32 [] r1 with
        | none =>
          rw [h2] at N2
          refine Ev.bind N2 ?_
          exact Ev.congr (fun k => if_pos (by show (-1 : Int) < 0; decide)) (Ev.now _)
        | some b =>
          obtain ⟨b, r2⟩ := b
          rw [h2] at N2
          obtain ⟨cb, lb, m2, hbm, hrm2⟩ := nuS_some 32 r1 [] b r2 h2 (fun _ h => by cases h) (by simp)
          have hl2 : r2.length < r1.length := by rw [hrm2]; simp; omega
          have hd2 : x.drop (x.length - r2.length) = r2 := drop_suffix (p := x.length - r1.length) (m := m2 ++ [32]) (by rw [hd1, hrm2]; simp)
          refine Ev.bind N2 ?_
          refine Ev.congr (fun k => if_neg (by show ¬ ((x.length - r2.length : Nat) : Int) < 0; omega)) ?_
          have N3 := number_ev x hx 10 (x.length - r2.length) (by omega)
          rw [hd2] at N3
          simp only
          cases h3 : nuS 10 [] r2 with
          | none =>
            rw [h3] at N3
            refine Ev.bind N3 ?_
            refine Ev.congr (fun k => if_pos (by omega)) ?_
            exact gr_bad x n _
          | some c =>
            obtain ⟨c, r3⟩ := c
            rw [h3] at N3
            obtain ⟨cc, lc, m3, hcm, hrm3⟩ := nuS_some 10 r2 [] c r3 h3 (fun _ h => by cases h) (by simp)
            have hl3 : r3.length < r2.length := by rw [hrm3]; simp; omega
            have hd3 : x.drop (x.length - r3.length) = r3 := drop_suffix (p := x.length - r2.length) (m := m3 ++ [10]) (by rw [hd2, hrm3]; simp)
            refine Ev.bind N3 ?_
            refine Ev.congr (fun k => if_pos (by omega)) ?_
            simp only
            rw [← readS_map]
            exact gr_ev x hx n f r3 (x.length - r3.length) _ hd3 (by omega) (by omega) (by simp; omega)
theorem graph_ev (x : List UInt8) : Ev (fun k => pacelineref_GraphRead.f k (ba x)) (graphP x) := by
  rw [graph_eq]
  unfold pacelineref_GraphRead.f
  rw [ba_size]
  by_cases h : 20000 < x.length
  · rw [if_pos h]
    exact Ev.congr (fun k => if_pos (by omega)) (Ev.now _)
  · rw [if_neg h]
    refine Ev.congr (fun k => if_neg (by omega)) ?_
    have N := number_ev x (by omega) 10 0 (Nat.zero_le _)
    rw [List.drop_zero] at N
    refine Ev.bind N ?_
    unfold refG parseR
    cases h1 : nuS 10 [] x with
    | none => exact gr_bad x 0 []
    | some d =>
      obtain ⟨d, r⟩ := d
      obtain ⟨cd, ld, m, hdm, hrm⟩ := nuS_some 10 x [] d r h1 (fun _ h => by cases h) (by simp)
      have hl : r.length < x.length := by rw [hrm]; simp; omega
      have hd : x.drop (x.length - r.length) = r := drop_suffix (p := 0) (m := m ++ [10]) (by rw [List.drop_zero, hrm]; simp)
      have g := gr_ev x (by omega) (valD 0 d : Int) (r.length + 1) r (x.length - r.length) [] hd (by omega) (by omega) (by simp; omega)
      have e : readS (valD 0 d : Int) [] (edgesF (r.length + 1) r) = (match (edgesF (r.length + 1) r).map (fun es => ((valD 0 d : Int), es)) with
          | none => ((0, [], 3) : Int × List Ed × Int)
          | some (n, es) => if checkP n es = 0 then (n, es, 0) else (0, [], 3)) := by
        cases edgesF (r.length + 1) r with
        | none => rfl
        | some es => simp [readS]
      rw [e] at g
      exact g
theorem same_gl0 (n : Int) (m : List Ed) (hm : m.length ≤ 4611686018427387904) : ∀ (d i : Nat), i + d = m.length → Ev (fun k => pacelinelaw_sameGraph.l0 k (i : Int) n m n m) true
  | 0, i, h => by
    refine Ev.step (f := fun _ => some true) (fun k => ?_) (Ev.now _)
    rw [pacelinelaw_sameGraph.l0, if_neg (by omega)]
  | d + 1, i, h => by
    refine Ev.step (fun k => ?_) (same_gl0 n m hm d (i + 1) (by omega))
    rw [pacelinelaw_sameGraph.l0, if_pos (by omega), if_pos (by omega), if_pos (by omega), if_neg (by simp), w64 (by omega) (by omega)]
    rfl
theorem same_gev (n : Int) (m : List Ed) (hm : m.length ≤ 4611686018427387904) : Ev (fun k => pacelinelaw_sameGraph.f k n m n m) true := by
  unfold pacelinelaw_sameGraph.f
  refine Ev.congr (fun k => if_pos rfl) ?_
  refine Ev.step (fun k => ?_) (same_gl0 n m hm m.length 0 (by omega))
  rw [pacelinelaw_sameGraph.j0, if_neg (by simp)]
  rfl
theorem graph_len (l : List UInt8) : (graphP l).2.1.length ≤ 600 := by
  rw [graph_eq]
  split
  · simp
  · unfold refG
    split
    · simp
    · split
      · rename_i hc
        exact (check_zero hc).2.1
      · simp
/-- The law, of the plain functions. -/
theorem sheet_plain (l : List UInt8) : ∃ k, pacelineref_GraphRead.f k (ba l) = some (graphP l) ∧ pacelinelaw_sameGraph.f k (graphP l).1 (graphP l).2.1 (graphP l).1 (graphP l).2.1 = some true := by
  obtain ⟨K1, h1⟩ := graph_ev l
  obtain ⟨K2, h2⟩ := same_gev (graphP l).1 (graphP l).2.1 (by have := graph_len l; omega)
  exact ⟨max K1 K2, h1 _ (Nat.le_max_left _ _), h2 _ (Nat.le_max_right _ _)⟩
end Go.Proofs.YtgjedgfncopjlaaDoor.Lines
