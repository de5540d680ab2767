/- Graphs as texts, on lists of bytes: what is read of what is shown. -/
import Derived.Test.YtgjedgfncopjlaaDoorDec
import Derived.Test.YtgjedgfncopjlaaDoorGlw
namespace Go.Proofs.YtgjedgfncopjlaaDoor.Lines
open Go Go.RowKit Go.Proofs.YtgjedgfncopjlaaDoorW.PrintWords Go.Proofs.YtgjedgfncopjlaaDoorW.PrintLast Go.Proofs.YtgjedgfncopjlaaDoorW.PrintMore Go.Proofs.YtgjedgfncopjlaaDoor.PSheetReads
set_option linter.unusedVariables false
set_option linter.unusedSimpArgs false
abbrev ba (x : List UInt8) : ByteArray := ⟨x.toArray⟩
theorem w64 {x : Int} (h0 : -9223372036854775808 ≤ x) (h1 : x ≤ 9223372036854775807) : wrap64 x = x := by unfold wrap64; omega
theorem ba_size (x : List UInt8) : (⟨x.toArray⟩ : ByteArray).size = x.length := by rw [Lib.size_eq]
theorem bt_drop {x : List UInt8} {i : Nat} {c : UInt8} {r : List UInt8} (h : x.drop i = c :: r) : bt ⟨x.toArray⟩ (i : Int) = (c.toNat : Int) ∧ i < x.length ∧ x.drop (i + 1) = r := by
  have hi : i < x.length := by
    rcases Nat.lt_or_ge i x.length with h' | h'
    · exact h'
    · rw [List.drop_eq_nil_of_le h'] at h; cases h
  rw [List.drop_eq_getElem_cons hi] at h
  injection h with h1 h2
  refine ⟨?_, hi, h2⟩
  unfold bt
  rw [dif_pos (by rw [ba_size]; exact hi), ← h1]
  rfl
theorem drop_nil {x : List UInt8} {i : Nat} (h : x.drop i = []) : x.length ≤ i := by
  rcases Nat.lt_or_ge i x.length with h' | h'
  · rw [List.drop_eq_getElem_cons h'] at h; cases h
  · exact h'
theorem trim_lf (x : List UInt8) : Lib.trimSuffix (x ++ [10]) [10] = x := by
  unfold Lib.trimSuffix
  have h : Lib.hasSuffix (x ++ [10]) [10] = true := by unfold Lib.hasSuffix; simp
  rw [if_pos h]
  simp
theorem words_lf (x : List UInt8) : wordsP (x ++ [10]) = splitL x := by unfold wordsP; rw [trim_lf]
theorem split_one : ∀ w : List UInt8, (32 : UInt8) ∉ w → splitL w = [w]
  | [], _ => rfl
  | c :: r, h => by
    rw [splitL, if_neg (fun e => h (by rw [e]; simp)), split_one r (fun hr => h (List.mem_cons_of_mem _ hr))]
theorem split_two : ∀ (w r : List UInt8), (32 : UInt8) ∉ w → splitL (w ++ 32 :: r) = w :: splitL r
  | [], r, _ => by simp [splitL]
  | c :: w, r, h => by
    rw [List.cons_append, splitL, if_neg (fun e => h (by rw [e]; simp)), split_two w r (fun hr => h (List.mem_cons_of_mem _ hr))]
theorem itoa_nat (u : Nat) : Lib.itoa (u : Int) = Lib.decDigits u := by unfold Lib.itoa; rw [if_neg (by omega)]; simp
theorem dg_no {u : Nat} {b : UInt8} (hb : b.toNat < 48) : b ∉ Lib.decDigits u := fun h => by
  have := dec_dg u b h
  unfold isDg at this
  omega
/-- Digits as a number is written: none ahead that is nought. -/
structure Canon (d : List UInt8) : Prop where
  dg : ∀ c ∈ d, isDg c
  ne : d ≠ []
  ld : d.head? ≠ some 48 ∨ d.length = 1
theorem Canon.dec {d : List UInt8} (h : Canon d) : Lib.decDigits (valD 0 d) = d := by
  refine (dec_of d h.dg h.ne (fun c r hd hc => ?_)).1
  subst hd
  rcases h.ld with h1 | h1
  · refine absurd ?_ h1
    have : c = 48 := UInt8.toNat_inj.1 hc
    rw [this]; rfl
  · simpa using h1
theorem canon_dec (u : Nat) : Canon (Lib.decDigits u) where
  dg := dec_dg u
  ne := dec_ne u
  ld := by
    by_cases h : u < 10
    · right; rw [dec_small h]; rfl
    · left
      obtain ⟨c, r, e, hc⟩ := dec_lead u (by omega)
      rw [e]
      simp only [List.head?_cons, ne_eq, Option.some.injEq]
      intro h; rw [h] at hc; exact hc rfl
theorem val_lt : ∀ (d : List UInt8), (∀ c ∈ d, isDg c) → valD 0 d < 10 ^ d.length := by
  have key : ∀ m : List UInt8, (∀ c ∈ m.reverse, isDg c) → valD 0 m.reverse < 10 ^ m.reverse.length := fun m => by
    induction m with
    | nil => intro _; simp [valD]
    | cons c m ih =>
      intro h
      rw [List.reverse_cons] at h ⊢
      have h1 := ih (fun x hx => h x (List.mem_append_left _ hx))
      have h2 := h c (by simp)
      unfold isDg at h2
      rw [valD_snoc, List.length_append, List.length_singleton, Nat.pow_succ]
      omega
  intro d h
  have := key d.reverse (by rwa [List.reverse_reverse])
  rwa [List.reverse_reverse] at this
/-- The reference's reading of a number: its digits, and what is left behind its end. -/
def nuS (e : UInt8) : List UInt8 → List UInt8 → Option (List UInt8 × List UInt8)
  | _, [] => none
  | pre, c :: r => if c = e ∧ pre ≠ [] ∧ (pre.head? ≠ some 48 ∨ pre.length = 1) then some (pre, r) else if c.toNat < 48 ∨ 57 < c.toNat ∨ 17 < pre.length then none else nuS e (pre ++ [c]) r
theorem nuS_some (e : UInt8) : ∀ (r pre d r' : List UInt8), nuS e pre r = some (d, r') → (∀ c ∈ pre, isDg c) → pre.length ≤ 18 → Canon d ∧ d.length ≤ 18 ∧ ∃ m, d = pre ++ m ∧ r = m ++ e :: r'
  | [], pre, d, r', h, _, _ => by simp [nuS] at h
  | c :: r, pre, d, r', h, hd, hl => by
    unfold nuS at h
    split at h
    · rename_i hc
      obtain ⟨rfl, h2, h3⟩ := hc
      injection h with h
      injection h with h4 h5
      subst h4 h5
      exact ⟨⟨hd, h2, h3⟩, hl, [], by simp, rfl⟩
    · split at h
      · cases h
      · rename_i h1 h2
        obtain ⟨a, b, m, h3, h4⟩ := nuS_some e r (pre ++ [c]) d r' h (fun x hx => by
          rcases List.mem_append.1 hx with hx | hx
          · exact hd x hx
          · obtain rfl := List.mem_singleton.1 hx
            unfold isDg; omega) (by simp; omega)
        exact ⟨a, b, c :: m, by rw [h3]; simp, by rw [h4]; rfl⟩
theorem nuS_canon (e : UInt8) (he : e.toNat < 48) : ∀ (m pre r' : List UInt8), Canon (pre ++ m) → (pre ++ m).length ≤ 18 → nuS e pre (m ++ e :: r') = some (pre ++ m, r')
  | [], pre, r', hc, hl => by
    rw [List.append_nil] at hc hl ⊢
    show nuS e pre (e :: r') = _
    unfold nuS
    rw [if_pos ⟨rfl, hc.ne, hc.ld⟩]
  | c :: m, pre, r', hc, hl => by
    have hdg := hc.dg c (by simp)
    unfold isDg at hdg
    have hne : c ≠ e := fun h => by rw [h] at hdg; omega
    show nuS e pre (c :: (m ++ e :: r')) = _
    unfold nuS
    rw [if_neg (fun h => hne h.1), if_neg (by simp at hl; omega)]
    have h1 : pre ++ c :: m = (pre ++ [c]) ++ m := by simp
    rw [h1] at hc hl ⊢
    exact nuS_canon e he m (pre ++ [c]) r' hc hl
/-- The edges of the rest of a text. -/
def edgesF : Nat → List UInt8 → Option (List Ed)
  | 0, _ => none
  | f + 1, r => if r = [] then some [] else match nuS 32 [] r with
    | none => none
    | some (a, r1) => match nuS 32 [] r1 with
      | none => none
      | some (b, r2) => match nuS 10 [] r2 with
        | none => none
        | some (c, r3) => (edgesF f r3).map (fun l => (⟨(valD 0 a : Int), (valD 0 b : Int), (valD 0 c : Int)⟩ : Ed) :: l)
def parseR (l : List UInt8) : Option (Int × List Ed) := match nuS 10 [] l with
  | none => none
  | some (d, r) => (edgesF (r.length + 1) r).map (fun es => ((valD 0 d : Int), es))
/-- A number that the reference reads. -/
def small (x : Int) : Prop := ∃ u : Nat, x = (u : Int) ∧ u ≤ 999999999999999999
theorem small_of {d : List UInt8} (h : ∀ c ∈ d, isDg c) (hl : d.length ≤ 18) : small (valD 0 d : Int) := by
  have h1 := val_lt d h
  have h2 : 10 ^ d.length ≤ 10 ^ 18 := Nat.pow_le_pow_right (by omega) hl
  exact ⟨_, rfl, by have : (10 : Nat) ^ 18 = 1000000000000000000 := by decide
                    omega⟩
theorem itoa_canon {d : List UInt8} (h : Canon d) : Lib.itoa (valD 0 d : Int) = d := by rw [itoa_nat, h.dec]
theorem line_of (x y z : Int) : lineE ⟨x, y, z⟩ = Lib.itoa x ++ 32 :: (Lib.itoa y ++ 32 :: (Lib.itoa z ++ [10])) := by simp [lineE, wS, tailS]
theorem edgesF_some : ∀ (f : Nat) (r : List UInt8) (es : List Ed), edgesF f r = some es → r = es.flatMap lineE ∧ ∀ x ∈ es, small x.f0 ∧ small x.f1 ∧ small x.f2
  | 0, r, es, h => by simp [edgesF] at h
  | f + 1, r, es, h => by
    unfold edgesF at h
    split at h
    · rename_i hr
      injection h with h
      subst h hr
      exact ⟨rfl, fun x hx => by cases hx⟩
    · split at h
      · cases h
      · rename_i a r1 h1
        split at h
        · cases h
        · rename_i b r2 h2
          split at h
          · cases h
          · rename_i c r3 h3
            obtain ⟨l, hl, rfl⟩ := Option.map_eq_some_iff.1 h
            obtain ⟨e1, e2⟩ := edgesF_some f r3 l hl
            obtain ⟨ca, la, m, ha, hr⟩ := nuS_some 32 r [] a r1 h1 (fun _ h => by cases h) (by simp)
            obtain ⟨cb, lb, m2, hb, hr1⟩ := nuS_some 32 r1 [] b r2 h2 (fun _ h => by cases h) (by simp)
            obtain ⟨cc, lc, m3, hc, hr2⟩ := nuS_some 10 r2 [] c r3 h3 (fun _ h => by cases h) (by simp)
            rw [List.nil_append] at ha hb hc
            subst ha hb hc
            refine ⟨?_, fun x hx => ?_⟩
            · rw [List.flatMap_cons, line_of, itoa_canon ca, itoa_canon cb, itoa_canon cc, ← e1, hr, hr1, hr2]
              simp
            · rcases List.mem_cons.1 hx with rfl | hx
              · exact ⟨small_of ca.dg la, small_of cb.dg lb, small_of cc.dg lc⟩
              · exact e2 x hx
/-- What the reference reads is what is shown of it. -/
theorem parse_some {l : List UInt8} {n : Int} {es : List Ed} (h : parseR l = some (n, es)) : l = accG n es ∧ small n ∧ ∀ x ∈ es, small x.f0 ∧ small x.f1 ∧ small x.f2 := by
  unfold parseR at h
  split at h
  · cases h
  · rename_i d r h1
    obtain ⟨es', he, h2⟩ := Option.map_eq_some_iff.1 h
    injection h2 with h3 h4
    subst h3 h4
    obtain ⟨cd, ld, m, hd, hr⟩ := nuS_some 10 l [] d r h1 (fun _ h => by cases h) (by simp)
    rw [List.nil_append] at hd
    subst hd
    obtain ⟨e1, e2⟩ := edgesF_some _ r es' he
    refine ⟨?_, small_of cd.dg ld, e2⟩
    rw [hr, e1, accG]
    simp [wS, tailS, itoa_canon cd]
theorem small_canon {x : Int} (h : small x) : Canon (Lib.itoa x) ∧ (Lib.itoa x).length ≤ 18 ∧ ((valD 0 (Lib.itoa x) : Nat) : Int) = x := by
  obtain ⟨u, rfl, hu⟩ := h
  rw [itoa_nat]
  exact ⟨canon_dec u, dec_len 17 u (by have : (10 : Nat) ^ 18 = 1000000000000000000 := by decide
                                       omega), by rw [dec_val]⟩
theorem edgesF_show : ∀ (es : List Ed) (f : Nat), es.length < f → (∀ x ∈ es, small x.f0 ∧ small x.f1 ∧ small x.f2) → edgesF f (es.flatMap lineE) = some es
  | [], f + 1, _, _ => by simp [edgesF]
  | x :: es, f + 1, hf, h => by
    obtain ⟨s0, s1, s2⟩ := h x (by simp)
    obtain ⟨c0, l0, v0⟩ := small_canon s0
    obtain ⟨c1, l1, v1⟩ := small_canon s1
    obtain ⟨c2, l2, v2⟩ := small_canon s2
    have e : (x :: es).flatMap lineE = Lib.itoa x.f0 ++ 32 :: (Lib.itoa x.f1 ++ 32 :: (Lib.itoa x.f2 ++ 10 :: es.flatMap lineE)) := by
      rw [List.flatMap_cons, line_of]; simp
    unfold edgesF
    rw [e, if_neg (by simp)]
    have n0 := nuS_canon 32 (by decide) (Lib.itoa x.f0) [] (Lib.itoa x.f1 ++ 32 :: (Lib.itoa x.f2 ++ 10 :: es.flatMap lineE)) c0 l0
    have n1 := nuS_canon 32 (by decide) (Lib.itoa x.f1) [] (Lib.itoa x.f2 ++ 10 :: es.flatMap lineE) c1 l1
    have n2 := nuS_canon 10 (by decide) (Lib.itoa x.f2) [] (es.flatMap lineE) c2 l2
    rw [List.nil_append] at n0 n1 n2
    rw [n0]
    simp only
    rw [n1]
    simp only
    rw [n2]
    simp only
    rw [edgesF_show es f (by simp at hf; omega) (fun y hy => h y (List.mem_cons_of_mem _ hy)), v0, v1, v2]
    rfl
theorem flat_len : ∀ es : List Ed, es.length ≤ (es.flatMap lineE).length
  | [] => by simp
  | x :: es => by
    have := flat_len es
    rw [List.flatMap_cons, List.length_append, List.length_cons, line_of]
    simp only [List.length_append, List.length_cons]
    omega
theorem parse_show {n : Int} {es : List Ed} (hn : small n) (h : ∀ x ∈ es, small x.f0 ∧ small x.f1 ∧ small x.f2) : parseR (accG n es) = some (n, es) := by
  obtain ⟨c, l, v⟩ := small_canon hn
  have e : accG n es = Lib.itoa n ++ 10 :: es.flatMap lineE := by simp [accG, wS, tailS]
  have h1 := nuS_canon 10 (by decide) (Lib.itoa n) [] (es.flatMap lineE) c l
  rw [List.nil_append] at h1
  unfold parseR
  rw [e, h1]
  simp only
  rw [edgesF_show es _ (by have := flat_len es; omega) h, v]
  rfl
/-! ### lines -/
theorem lines_cut : ∀ (a r : List UInt8), (10 : UInt8) ∉ a → linesL (a ++ 10 :: r) = (a ++ [10]) :: linesL r
  | [], r, _ => by show linesL (10 :: r) = _; rw [linesL, if_pos rfl]; rfl
  | c :: a, r, h => by
    have h1 := lines_cut a r (fun hr => h (List.mem_cons_of_mem _ hr))
    show linesL (c :: (a ++ 10 :: r)) = _
    rw [linesL, if_neg (fun e => h (by rw [e]; simp)), h1]
    rfl
theorem small_no {x : Int} (h : small x) {b : UInt8} (hb : b.toNat < 48) : b ∉ Lib.itoa x := by
  obtain ⟨u, rfl, -⟩ := h
  rw [itoa_nat]
  exact dg_no hb
theorem numN_small {x : Int} (h : small x) : numN (Lib.itoa x) = x := by
  obtain ⟨u, rfl, hu⟩ := h
  unfold numN
  rw [itoa_nat, atoi_dec u (by omega)]
  rfl
theorem numP_one {n : Int} (h : small n) : numP (Lib.itoa n ++ [10]) = [n] := by
  unfold numP
  rw [words_lf, split_one _ (small_no h (by decide)), List.map_singleton, numN_small h]
theorem numP_line {x : Ed} (h : small x.f0 ∧ small x.f1 ∧ small x.f2) : numP (lineE x) = [x.f0, x.f1, x.f2] := by
  obtain ⟨h0, h1, h2⟩ := h
  have e : lineE x = (Lib.itoa x.f0 ++ 32 :: (Lib.itoa x.f1 ++ 32 :: Lib.itoa x.f2)) ++ [10] := by rw [line_of]; simp
  unfold numP
  rw [e, words_lf, split_two _ _ (small_no h0 (by decide)), split_two _ _ (small_no h1 (by decide)), split_one _ (small_no h2 (by decide))]
  simp only [List.map_cons, List.map_nil, numN_small h0, numN_small h1, numN_small h2]
theorem edgeL_line {x : Ed} (h : small x.f0 ∧ small x.f1 ∧ small x.f2) : edgeL (lineE x) = [x] := by
  unfold edgeL
  rw [numP_line h]
theorem lines_flat : ∀ es : List Ed, (∀ x ∈ es, small x.f0 ∧ small x.f1 ∧ small x.f2) → linesL (es.flatMap lineE) = es.map lineE
  | [], _ => by simp [linesL]
  | x :: es, h => by
    obtain ⟨s0, s1, s2⟩ := h x (by simp)
    have e : (x :: es).flatMap lineE = (Lib.itoa x.f0 ++ 32 :: (Lib.itoa x.f1 ++ 32 :: Lib.itoa x.f2)) ++ 10 :: es.flatMap lineE := by
      rw [List.flatMap_cons, line_of]; simp
    rw [e, lines_cut _ _ ?_, lines_flat es (fun y hy => h y (List.mem_cons_of_mem _ hy)), List.map_cons, line_of]
    · simp
    · simp only [List.mem_append, List.mem_cons, not_or]
      exact ⟨small_no s0 (by decide), by decide, small_no s1 (by decide), by decide, small_no s2 (by decide)⟩
theorem lines_show {n : Int} {es : List Ed} (hn : small n) (h : ∀ x ∈ es, small x.f0 ∧ small x.f1 ∧ small x.f2) : nG (linesL (accG n es)) = n ∧ esG (linesL (accG n es)) = es := by
  have e : accG n es = Lib.itoa n ++ 10 :: es.flatMap lineE := by simp [accG, wS, tailS]
  rw [e, lines_cut _ _ (small_no hn (by decide)), lines_flat es h]
  refine ⟨by show (numP (Lib.itoa n ++ [10])).headD 0 = n; rw [numP_one hn]; rfl, ?_⟩
  show (es.map lineE).flatMap edgeL = es
  clear e
  induction es with
  | nil => rfl
  | cons x r ih =>
    rw [List.map_cons, List.flatMap_cons, edgeL_line (h x (by simp)), ih (fun y hy => h y (List.mem_cons_of_mem _ hy))]
    rfl
theorem check_small {n : Int} {es : List Ed} (h : checkP n es = 0) : small n ∧ ∀ x ∈ es, small x.f0 ∧ small x.f1 ∧ small x.f2 := by
  obtain ⟨hn, -, ha⟩ := check_zero h
  have mk : ∀ x : Int, 0 ≤ x → x ≤ 1099511627776 → small x := fun x h0 h1 => ⟨x.toNat, by omega, by omega⟩
  refine ⟨mk n (by omega) (by omega), fun x hx => ?_⟩
  have h1 := List.all_eq_true.1 ha x hx
  unfold edgeOk inP at h1
  simp at h1
  exact ⟨mk _ (by omega) (by omega), mk _ (by omega) (by omega), mk _ (by omega) (by omega)⟩
/-- The program's answer, in the reference's words. -/
def refG (l : List UInt8) : Int × List Ed × Int := match parseR l with
  | none => (0, [], 3)
  | some (n, es) => if checkP n es = 0 then (n, es, 0) else (0, [], 3)
theorem graph_eq (l : List UInt8) : graphP l = if 20000 < l.length then ((0, [], 1) : Int × List Ed × Int) else refG l := by
  unfold graphP refG
  by_cases hl : 20000 < l.length
  · rw [if_pos hl, if_pos hl]
  · rw [if_neg hl, if_neg hl]
    cases hp : parseR l with
    | none =>
      simp only
      rw [if_neg]
      intro h
      unfold showP at h
      split at h
      · rename_i hc
        obtain ⟨h1, h2⟩ := check_small hc
        injection h with h3 h4
        have h5 := parse_show h1 h2
        rw [h3, hp] at h5
        cases h5
      · rename_i hc
        injection h with h3 h4
        exact hc h4
    | some x =>
      obtain ⟨n, es⟩ := x
      obtain ⟨hl2, hn, hes⟩ := parse_some hp
      obtain ⟨e1, e2⟩ := lines_show hn hes
      simp only
      rw [hl2, e1, e2]
      unfold showP
      by_cases hc : checkP n es = 0
      · rw [if_pos hc, if_pos rfl, if_pos hc]
      · rw [if_neg hc, if_neg hc, if_neg]
        intro h
        injection h with h3 h4
        exact hc h4
end Go.Proofs.YtgjedgfncopjlaaDoor.Lines
