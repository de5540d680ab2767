/- Decimal digits: what they are, and that atoi and the reference's reading take them back. -/
import Derived.Test.YtgjedgfncopjlaaDoorPmv
namespace Go.Proofs.YtgjedgfncopjlaaDoor.Lines
open Go Go.RowKit
set_option linter.unusedVariables false
set_option linter.unusedSimpArgs false
def isDg (c : UInt8) : Prop := 48 ≤ c.toNat ∧ c.toNat ≤ 57
def valD (n : Nat) (l : List UInt8) : Nat := l.foldl (fun n c => 10 * n + (c.toNat - 48)) n
theorem valD_snoc (n : Nat) (l : List UInt8) (c : UInt8) : valD n (l ++ [c]) = 10 * valD n l + (c.toNat - 48) := by unfold valD; simp only [List.foldl_append, List.foldl_cons, List.foldl_nil]
theorem valD_cons (n : Nat) (c : UInt8) (l : List UInt8) : valD n (c :: l) = valD (10 * n + (c.toNat - 48)) l := by unfold valD; rw [List.foldl_cons]
theorem valD_ge : ∀ (l : List UInt8) (n : Nat), n ≤ valD n l
  | [], n => Nat.le_refl _
  | c :: r, n => by
    rw [valD_cons]
    have := valD_ge r (10 * n + (c.toNat - 48))
    omega
theorem ofNat_dg (d : Nat) (h : d < 10) : (UInt8.ofNat (48 + d)).toNat = 48 + d := by
  rw [UInt8.toNat_ofNat']; omega
theorem dec_small {u : Nat} (h : u < 10) : Lib.decDigits u = [UInt8.ofNat (48 + u)] := by rw [Lib.decDigits, dif_pos h]
theorem dec_big {u : Nat} (h : ¬ u < 10) : Lib.decDigits u = Lib.decDigits (u / 10) ++ [UInt8.ofNat (48 + u % 10)] := by conv => lhs; rw [Lib.decDigits, dif_neg h]
theorem dec_ne (u : Nat) : Lib.decDigits u ≠ [] := by
  by_cases h : u < 10
  · rw [dec_small h]; simp
  · rw [dec_big h]; simp
theorem dec_dg (u : Nat) : ∀ c ∈ Lib.decDigits u, isDg c := by
  induction u using Nat.strongRecOn with
  | _ u ih =>
    intro c hc
    by_cases h : u < 10
    · rw [dec_small h] at hc
      obtain rfl := List.mem_singleton.1 hc
      unfold isDg; rw [ofNat_dg _ h]; omega
    · rw [dec_big h] at hc
      rcases List.mem_append.1 hc with hc | hc
      · exact ih (u / 10) (by omega) c hc
      · obtain rfl := List.mem_singleton.1 hc
        unfold isDg; rw [ofNat_dg _ (by omega)]; omega
theorem dec_val (u : Nat) : valD 0 (Lib.decDigits u) = u := by
  induction u using Nat.strongRecOn with
  | _ u ih =>
    by_cases h : u < 10
    · rw [dec_small h]; show 10 * 0 + ((UInt8.ofNat (48 + u)).toNat - 48) = u; rw [ofNat_dg _ h]; omega
    · rw [dec_big h, valD_snoc, ih (u / 10) (by omega), ofNat_dg _ (by omega)]; omega
theorem dec_lead (u : Nat) (hu : 10 ≤ u) : ∃ c r, Lib.decDigits u = c :: r ∧ c.toNat ≠ 48 := by
  induction u using Nat.strongRecOn with
  | _ u ih =>
    rw [dec_big (by omega)]
    by_cases h : u / 10 < 10
    · rw [dec_small h]
      exact ⟨_, _, rfl, by rw [ofNat_dg _ h]; omega⟩
    · obtain ⟨c, r, e, hc⟩ := ih (u / 10) (by omega) (by omega)
      exact ⟨c, r ++ [_], by rw [e]; rfl, hc⟩
theorem dec_len (k : Nat) : ∀ u, u < 10 ^ (k + 1) → (Lib.decDigits u).length ≤ k + 1 := by
  induction k with
  | zero => intro u hu; rw [dec_small (by simpa using hu)]; simp
  | succ k ih =>
    intro u hu
    by_cases h : u < 10
    · rw [dec_small h]; simp
    · rw [dec_big h, List.length_append, List.length_singleton]
      have := ih (u / 10) (by rw [Nat.pow_succ] at hu; omega)
      omega
/-- Digits without a nought ahead are what their value is written as. -/
theorem dec_of (l : List UInt8) : (∀ c ∈ l, isDg c) → l ≠ [] → (∀ c r, l = c :: r → c.toNat = 48 → r = []) → Lib.decDigits (valD 0 l) = l ∧ (1 < l.length → 1 ≤ valD 0 l ∧ 10 ≤ valD 0 l) := by
  have key : ∀ m : List UInt8, (∀ c ∈ m.reverse, isDg c) → m.reverse ≠ [] → (∀ c r, m.reverse = c :: r → c.toNat = 48 → r = []) → Lib.decDigits (valD 0 m.reverse) = m.reverse ∧ (1 < m.reverse.length → 1 ≤ valD 0 m.reverse ∧ 10 ≤ valD 0 m.reverse) := fun m => by
    induction m with
    | nil => intro _ h; exact absurd rfl h
    | cons d m ih =>
      intro h1 h2 h3
      rw [List.reverse_cons] at h1 h2 h3 ⊢
      generalize m.reverse = M at *
      have hd := h1 d (by simp)
      unfold isDg at hd
      have hud : UInt8.ofNat d.toNat = d := by simp
      cases M with
      | nil =>
        simp only [List.nil_append]
        refine ⟨?_, fun h => by simp at h⟩
        have hv : valD 0 [d] = d.toNat - 48 := by show 10 * 0 + (d.toNat - 48) = _; omega
        rw [hv, dec_small (by omega), show 48 + (d.toNat - 48) = d.toNat by omega, hud]
      | cons c r =>
        have hc48 : c.toNat ≠ 48 := fun h => by
          have := h3 c (r ++ [d]) (by simp) h
          simp at this
        have hc := h1 c (by simp)
        unfold isDg at hc
        obtain ⟨e, hv⟩ := ih (fun x hx => h1 x (List.mem_append_left _ hx)) (by simp) (fun c' r' he h => by injection he with e1 e2; subst e1; exact absurd h hc48)
        have hge : 1 ≤ valD 0 (c :: r) := by
          rw [valD_cons]
          have := valD_ge r (10 * 0 + (c.toNat - 48))
          omega
        rw [valD_snoc]
        refine ⟨?_, fun _ => by omega⟩
        rw [dec_big (by omega), show (10 * valD 0 (c :: r) + (d.toNat - 48)) / 10 = valD 0 (c :: r) by omega, show 48 + (10 * valD 0 (c :: r) + (d.toNat - 48)) % 10 = d.toNat by omega, e, hud]
  have := key l.reverse
  rwa [List.reverse_reverse] at this
/-- strconv.Atoi takes digits back. -/
theorem parse_dg : ∀ (l : List UInt8) (n : Nat), (∀ c ∈ l, isDg c) → valD n l < 10000000000000000000 → Lib.parseUint10 n l = .ok (valD n l)
  | [], n, _, _ => rfl
  | c :: r, n, h, hv => by
    have hc := h c (by simp)
    unfold isDg at hc
    have h1 := valD_ge r (10 * n + (c.toNat - 48))
    rw [valD_cons] at hv ⊢
    unfold Lib.parseUint10
    rw [if_pos hc, if_neg (by omega), if_neg (by omega), show n * 10 + (c.toNat - 48) = 10 * n + (c.toNat - 48) by omega]
    exact parse_dg r _ (fun x hx => h x (List.mem_cons_of_mem _ hx)) hv
theorem atoi_dec (u : Nat) (hu : u ≤ 1152921504606846976) : atoiP (Lib.decDigits u) = ((u : Int), true) := by
  have hd := dec_dg u
  have hv := dec_val u
  have hp := parse_dg (Lib.decDigits u) 0 hd (by rw [hv]; omega)
  rw [hv] at hp
  unfold atoiP Lib.atoiAll
  match he : Lib.decDigits u, dec_ne u with
  | c :: r, _ =>
    rw [he] at hd hp
    have hc := hd c (by simp)
    unfold isDg at hc
    simp only
    rw [if_neg (by omega)]
    have hm : Lib.parseMag (c :: r) = .ok u := by unfold Lib.parseMag; rw [if_neg (by simp)]; exact hp
    rw [hm]
    simp only
    rw [if_neg (by omega), if_neg (by omega), if_neg (by omega)]
end Go.Proofs.YtgjedgfncopjlaaDoor.Lines
