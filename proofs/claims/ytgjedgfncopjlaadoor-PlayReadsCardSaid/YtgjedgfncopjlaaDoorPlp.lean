/- The reference's reading of moves, on lists of bytes. -/
import Derived.Test.YtgjedgfncopjlaaDoorDec
import Derived.Test.YtgjedgfncopjlaaDoorPlw
namespace Go.Proofs.YtgjedgfncopjlaaDoor.Lines
open Go Go.RowKit Go.Proofs.YtgjedgfncopjlaaDoorW.PrintWords Go.Proofs.YtgjedgfncopjlaaDoorW.PrintLast Go.Proofs.YtgjedgfncopjlaaDoorW.PrintMore Go.Proofs.YtgjedgfncopjlaaDoor.PPlayReads
set_option linter.unusedVariables false
set_option linter.unusedSimpArgs false
theorem w64 {x : Int} (h0 : -9223372036854775808 ≤ x) (h1 : x ≤ 9223372036854775807) : wrap64 x = x := by unfold wrap64; omega
theorem ba_size (x : List UInt8) : (⟨x.toArray⟩ : ByteArray).size = x.length := by rw [Lib.size_eq]
theorem bt_drop {x : List UInt8} {i : Nat} {c : UInt8} {r : List UInt8} (h : x.drop i = c :: r) : bt ⟨x.toArray⟩ (i : Int) = (c.toNat : Int) ∧ i < x.length ∧ x.drop (i + 1) = r := by
  have hi : i < x.length := by
    rcases Nat.lt_or_ge i x.length with h' | h'
    · exact h'
    · rw [List.drop_eq_nil_of_le h'] at h; cases h
  rw [List.drop_eq_getElem_cons hi] at h
  injection h with h1 h2
  refine ⟨?_, hi, h2⟩
  unfold bt
  rw [dif_pos (by rw [ba_size]; exact hi), ← h1]
  rfl
theorem drop_nil {x : List UInt8} {i : Nat} (h : x.drop i = []) : x.length ≤ i := by
  rcases Nat.lt_or_ge i x.length with h' | h'
  · rw [List.drop_eq_getElem_cons h'] at h; cases h
  · exact h'
def digsL : Nat → List UInt8 → Int
  | n, [] => if 1152921504606846976 < n then -1 else (n : Int)
  | n, c :: r => if c.toNat < 48 ∨ 57 < c.toNat ∨ 115292150460684697 < n then -1 else digsL (10 * n + (c.toNat - 48)) r
open Classical in
noncomputable def bigL (x : List UInt8) : Int := if x = [] ∨ 19 < x.length ∨ (∃ c r, x = c :: r ∧ c.toNat = 48 ∧ r ≠ []) then -1 else digsL 0 x
theorem digs_ev (x : List UInt8) (hx : x.length ≤ 4611686018427387904) : ∀ (r : List UInt8) (i n : Nat), x.drop i = r → n ≤ 1152921504606846979 → Ev (fun k => pacelineref_big.l0 k ⟨x.toArray⟩ (n : Int) (i : Int)) (digsL n r)
  | [], i, n, hr, hn => by
    have hle := drop_nil hr
    refine Ev.step (f := fun _ => some (digsL n [])) (fun k => ?_) (Ev.now _)
    rw [pacelineref_big.l0, ba_size, if_neg (by omega)]
    unfold digsL
    by_cases h : 1152921504606846976 < n
    · rw [if_pos h, if_pos (by omega)]
    · rw [if_neg h, if_neg (by omega)]
  | c :: r, i, n, hr, hn => by
    obtain ⟨h1, h2, h3⟩ := bt_drop hr
    have hc : c.toNat < 256 := c.toNat_lt
    unfold digsL
    by_cases hb : c.toNat < 48 ∨ 57 < c.toNat ∨ 115292150460684697 < n
    · rw [if_pos hb]
      refine Ev.step (f := fun _ => some (-1 : Int)) (fun k => ?_) (Ev.now _)
      rw [pacelineref_big.l0, ba_size, if_pos (by omega), if_pos (by omega), h1]
      by_cases b1 : c.toNat < 48
      · rw [if_pos (by omega)]
      · rw [if_neg (by omega)]
        by_cases b2 : 57 < c.toNat
        · rw [if_pos (by omega)]
        · rw [if_neg (by omega), if_pos (by omega)]
    · rw [if_neg hb]
      refine Ev.step (f := fun k => pacelineref_big.l0 k ⟨x.toArray⟩ ((10 * n + (c.toNat - 48) : Nat) : Int) ((i + 1 : Nat) : Int)) (fun k => ?_) (digs_ev x hx r (i + 1) _ h3 (by omega))
      rw [pacelineref_big.l0, ba_size, if_pos (by omega), if_pos (by omega), h1, if_neg (by omega), if_neg (by omega), if_neg (by omega), w64 (x := 10 * (n : Int)) (by omega) (by omega), w64 (x := (i : Int) + 1) (by omega) (by omega), w64 (by omega) (by omega)]
      congr 1
      omega
theorem not_bad {c : UInt8} {r : List UInt8} (b1 : ¬ 19 < (c :: r).length) (b : c.toNat = 48 → r = []) : ¬ ((c :: r) = [] ∨ 19 < (c :: r).length ∨ (∃ c' r', c :: r = c' :: r' ∧ c'.toNat = 48 ∧ r' ≠ [])) := by
  rintro (h | h | ⟨c', r', h, h1, h2⟩)
  · cases h
  · exact b1 h
  · injection h with e1 e2
    subst e1 e2
    exact h2 (b h1)
theorem big_ev (x : List UInt8) (hx : x.length ≤ 4611686018427387904) : Ev (fun k => pacelineref_big.f k ⟨x.toArray⟩) (bigL x) := by
  have hd : Ev (fun k => pacelineref_big.l0 k ⟨x.toArray⟩ 0 0) (digsL 0 x) := digs_ev x hx x 0 0 rfl (by omega)
  have jt : Ev (fun k => pacelineref_big.j0 k ⟨x.toArray⟩ true) (-1) := Ev.step (f := fun _ => some (-1 : Int)) (fun k => by rw [pacelineref_big.j0, if_pos rfl]) (Ev.now _)
  have jf : Ev (fun k => pacelineref_big.j0 k ⟨x.toArray⟩ false) (digsL 0 x) := Ev.step (fun k => by rw [pacelineref_big.j0, if_neg (by simp)]) hd
  unfold pacelineref_big.f bigL
  rw [ba_size]
  cases x with
  | nil =>
    rw [if_pos (.inl rfl)]
    exact Ev.congr (fun k => if_pos rfl) jt
  | cons c r =>
    have h0 : bt ⟨(c :: r).toArray⟩ 0 = (c.toNat : Int) := (bt_drop (x := c :: r) (i := 0) rfl).1
    have hl : ((c :: r).length : Int) = (r.length : Int) + 1 := by rw [List.length_cons]; rfl
    by_cases b1 : 19 < (c :: r).length
    · rw [if_pos (.inr (.inl b1))]
      exact Ev.congr (fun k => (if_neg (by omega)).trans (if_pos (by omega))) jt
    · by_cases b2 : c.toNat = 48
      · by_cases b3 : r = []
        · rw [if_neg (not_bad b1 (fun _ => b3))]
          refine Ev.congr (fun k => (if_neg (by omega)).trans ((if_neg (by omega)).trans ((if_pos (by omega)).trans ((if_pos (by rw [h0]; omega)).trans ?_)))) jf
          rw [decide_eq_false (by subst b3; simp)]
        · have hr : 0 < r.length := List.length_pos_iff.2 b3
          rw [if_pos (.inr (.inr ⟨c, r, rfl, b2, b3⟩))]
          refine Ev.congr (fun k => (if_neg (by omega)).trans ((if_neg (by omega)).trans ((if_pos (by omega)).trans ((if_pos (by rw [h0]; omega)).trans ?_)))) jt
          rw [decide_eq_true (by omega)]
      · rw [if_neg (not_bad b1 (fun h => absurd h b2))]
        exact Ev.congr (fun k => (if_neg (by omega)).trans ((if_neg (by omega)).trans ((if_pos (by omega)).trans (if_neg (by rw [h0]; omega))))) jf
theorem digsL_ok : ∀ (l : List UInt8) (n : Nat), (∀ c ∈ l, isDg c) → valD n l ≤ 1152921504606846976 → digsL n l = (valD n l : Int)
  | [], n, _, h => by
    unfold digsL
    rw [if_neg (by simpa [valD] using h)]
    rfl
  | c :: r, n, hd, h => by
    have hc := hd c (by simp)
    unfold isDg at hc
    rw [valD_cons] at h ⊢
    have := valD_ge r (10 * n + (c.toNat - 48))
    unfold digsL
    rw [if_neg (by omega)]
    exact digsL_ok r _ (fun x hx => hd x (List.mem_cons_of_mem _ hx)) h
theorem digsL_of : ∀ (l : List UInt8) (n : Nat), 0 ≤ digsL n l → (∀ c ∈ l, isDg c) ∧ valD n l ≤ 1152921504606846976 ∧ digsL n l = (valD n l : Int)
  | [], n, h => by
    unfold digsL at h ⊢
    split at h
    · omega
    · rename_i h1
      rw [if_neg h1]
      exact ⟨by simp, by show n ≤ _; omega, rfl⟩
  | c :: r, n, h => by
    unfold digsL at h ⊢
    split at h
    · omega
    · rename_i h1
      rw [if_neg h1, valD_cons]
      obtain ⟨a, b, e⟩ := digsL_of r _ h
      refine ⟨fun x hx => ?_, b, e⟩
      rcases List.mem_cons.1 hx with rfl | hx
      · unfold isDg; omega
      · exact a x hx
theorem bigL_dec (u : Nat) (hu : u ≤ 1152921504606846976) : bigL (Lib.decDigits u) = (u : Int) := by
  unfold bigL
  have hl := dec_len 18 u (by have : (10 : Nat) ^ 19 = 10000000000000000000 := by decide
                              omega)
  rw [if_neg, digsL_ok _ _ (dec_dg u) (by rw [dec_val]; exact hu), dec_val]
  rintro (h | h | ⟨c, r, h, h1, h2⟩)
  · exact dec_ne u h
  · omega
  · by_cases hb : 10 ≤ u
    · obtain ⟨c', r', e, hc⟩ := dec_lead u hb
      rw [e] at h
      injection h with e1 e2
      exact hc (e1 ▸ h1)
    · rw [dec_small (by omega)] at h
      injection h with e1 e2
      exact h2 e2.symm
theorem bigL_of (x : List UInt8) (h : 0 ≤ bigL x) : ∃ u : Nat, u ≤ 1152921504606846976 ∧ bigL x = (u : Int) ∧ x = Lib.decDigits u := by
  unfold bigL at h ⊢
  split at h
  · omega
  · rename_i h1
    rw [if_neg h1]
    obtain ⟨a, b, e⟩ := digsL_of x 0 h
    refine ⟨valD 0 x, b, e, ?_⟩
    refine (dec_of x a (fun e => h1 (.inl e)) (fun c r e h48 => ?_)).1.symm
    by_cases hr : r = []
    · exact hr
    · exact absurd (.inr (.inr ⟨c, r, e, h48, hr⟩)) h1
end Go.Proofs.YtgjedgfncopjlaaDoor.Lines
