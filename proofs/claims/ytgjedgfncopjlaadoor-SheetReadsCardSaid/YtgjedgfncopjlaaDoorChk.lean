/- graph.Check: its contract. -/
import Derived.Test.YtgjedgfncopjlaaDoorPln
import Derived.Test.YtgjedgfncopjlaaDoorPSheetReadsx0
namespace Go.Proofs.YtgjedgfncopjlaaDoor.Lines
open Go Go.RowKit Go.Shelf Go.Proofs.YtgjedgfncopjlaaDoorW.PrintWords Go.Proofs.YtgjedgfncopjlaaDoorW.PrintLast Go.Proofs.YtgjedgfncopjlaaDoorW.PrintMore
set_option linter.unusedVariables false
set_option linter.unusedSimpArgs false
abbrev Ed := PSheetReads.S45
abbrev kE : Kd Ed := PSheetReads.k45
def inP (n v : Int) : Bool := decide (0 ≤ v) && decide (v < n)
def edgeOk (n : Int) (x : Ed) : Bool := inP n x.f0 && inP n x.f1 && decide (0 ≤ x.f2) && decide (x.f2 ≤ 1099511627776)
def checkP (n : Int) (es : List Ed) : Int := if n < 0 ∨ 200 < n ∨ 600 < es.length then 1 else if es.all (edgeOk n) = true then 0 else 2
set_option maxRecDepth 100000 in
set_option maxHeartbeats 1000000 in
theorem inside_calls (n v : Int) (g : Nat) (w : World) (hg : w.cell? ⟨g, 0, none⟩ = some (.int .i64 n)) : Calls Tryd.prog 39 #[.int .i64 v, .pointer (some ⟨g, 0, none⟩)] w fun e w' => e = .returned (.bool (inP n v)) ∧ w' = w := by
  rcases Int.lt_or_le v 0 with h | h
  · have e1 : decide (v ≥ 0) = false := decide_eq_false (by omega)
    have HE : Aside0 (inP n v = false) := ⟨by unfold inP; rw [decide_eq_false (by omega)]; rfl⟩
    go_enter Tryd.func39, Tryd.ntmps39
    go_wp2
    go_ret
    exact ⟨by rw [HE.out]; rfl, rfl⟩
  · have e1 : decide (v ≥ 0) = true := decide_eq_true h
    have HE : Aside0 (inP n v = decide (v < n)) := ⟨by unfold inP; rw [decide_eq_true (by omega)]; simp⟩
    go_enter Tryd.func39, Tryd.ntmps39
    go_wp2
    go_ret
    exact ⟨by rw [HE.out]; rfl, rfl⟩
def RelC (w : World) (n : Int) (A : Option Addr) (c : Nat) (es : List Ed) (v24 : Value) (w' : World) : Prop :=
  ∃ i : Nat, i ≤ es.length ∧ v24 = .int .i64 i ∧ w'.heap[w.heap.size]? = some (.cells #[.int .i64 n, .slice A es.length c] 30) ∧ Below w.heap.size w w' ∧ (es.take i).all (edgeOk n) = true
theorem edge_cases (n : Int) (x : Ed) : (edgeOk n x = true ∧ inP n x.f0 = true ∧ inP n x.f1 = true ∧ decide (x.f2 < 0) = false ∧ decide (1099511627776 < x.f2) = false) ∨
    (edgeOk n x = false ∧ (inP n x.f0 = false ∨ (inP n x.f0 = true ∧ inP n x.f1 = false) ∨ (inP n x.f0 = true ∧ inP n x.f1 = true ∧ decide (x.f2 < 0) = true) ∨ (inP n x.f0 = true ∧ inP n x.f1 = true ∧ decide (x.f2 < 0) = false ∧ decide (1099511627776 < x.f2) = true))) := by
  unfold edgeOk
  cases h0 : inP n x.f0 with
  | false => right; simp
  | true =>
    cases h1 : inP n x.f1 with
    | false => right; simp
    | true =>
      by_cases h2 : x.f2 < 0
      · right; simp [h2]; omega
      · by_cases h3 : 1099511627776 < x.f2
        · right; simp [h2, h3]
        · left; simp [h2, h3]; omega
set_option maxRecDepth 100000 in
set_option maxHeartbeats 2000000 in
theorem check_calls (n : Int) (A : Option Addr) (c : Nat) (es : List Ed) (w : World) (hC : Kd.C kE w A es.length es) (hc : es.length ≤ c) : Calls Tryd.prog 27 #[.agg #[.int .i64 n, .slice A es.length c]] w fun e w' => e = .returned (.int .i64 (checkP n es)) ∧ Below w.heap.size w w' := by
  have HC := Lib.hid hC
  clear hC
  have HB := Lib.hid (below_alloc (Below.refl w.heap.size w) (.cells #[.int .i64 n, .slice A es.length c] 30))
  have HP : Aside0 (checkP n es = if n < 0 ∨ 200 < n ∨ 600 < es.length then 1 else if es.all (edgeOk n) = true then 0 else 2) := ⟨rfl⟩
  generalize checkP n es = R at *
  rcases Int.lt_or_le n 0 with h | h
  · have e1 : decide (n < 0) = true := decide_eq_true h
    have HR : Aside0 (R = 1) := ⟨by rw [HP.out, if_pos (.inl h)]⟩
    clear HP
    go_enter Tryd.func27, Tryd.ntmps27
    go_wp2
    go_ret
    exact ⟨by rw [HR.out]; rfl, HB.out⟩
  have e1 : decide (n < 0) = false := decide_eq_false (by omega)
  rcases Int.lt_or_le 200 n with h2 | h2
  · have e2 : decide (200 < n) = true := decide_eq_true h2
    have HR : Aside0 (R = 1) := ⟨by rw [HP.out, if_pos (.inr (.inl h2))]⟩
    clear HP
    go_enter Tryd.func27, Tryd.ntmps27
    go_wp2
    go_ret
    exact ⟨by rw [HR.out]; rfl, HB.out⟩
  have e2 : decide (200 < n) = false := decide_eq_false (by omega)
  rcases Nat.lt_or_ge 600 es.length with h3 | h3
  · have e3 : decide ((600 : Int) < (es.length : Int)) = true := decide_eq_true (by omega)
    have HR : Aside0 (R = 1) := ⟨by rw [HP.out, if_pos (.inr (.inr h3))]⟩
    clear HP
    go_enter Tryd.func27, Tryd.ntmps27
    go_wp2
    go_ret
    exact ⟨by rw [HR.out]; rfl, HB.out⟩
  have e3 : decide ((600 : Int) < (es.length : Int)) = false := decide_eq_false (by omega)
  have HR : Aside0 (R = if es.all (edgeOk n) = true then 0 else 2) := ⟨by rw [HP.out, if_neg (by omega)]⟩
  clear HP
  go_enter Tryd.func27, Tryd.ntmps27
  go_wp2
  go_loopw [24] (fun v24 w' => RelC w n A c es v24 w') (fun v24 _ => es.length - (intOf v24).toNat)
  case atStart => exact ⟨0, by omega, rfl, by exact blk_new _ _, HB.out, by simp⟩
  case round =>
    obtain ⟨i, hi, rfl, hb, hB, hall⟩ := hrel
    have HBk := Lib.hid hb
    have HBe := Lib.hid hB
    have HA := Lib.hid hall
    clear hB hall HB
    rcases Nat.lt_or_ge i es.length with h8 | h8
    · obtain ⟨ad, rfl, z0, z1, z2⟩ := PSheetReads.at_T45 (Kd.C_below HC.out HBe.out) (i : Int) (by omega) (by omega)
      have HT : Aside0 (es.take (i + 1) = es.take i ++ [es[i]'h8]) := ⟨by simp⟩
      have HM : Aside0 (es[i]'h8 ∈ es) := ⟨List.getElem_mem h8⟩
      have hrd : PSheetReads.rd_T45 es i = es[i]'h8 := by unfold PSheetReads.rd_T45; simp [h8]
      rw [hrd] at z0 z1 z2
      rw [Int.toNat_natCast] at z0 z1 z2
      clear hrd
      generalize es[i]'h8 = x at *
      have hec := edge_cases n x
      obtain ⟨x0, x1, x2⟩ := x
      simp only at z0 z1 z2 hec
      have c0 : ∀ o, (wr.alloc o).cell? ⟨w.heap.size, 0, none⟩ = some (.int .i64 n) := fun o => (blk_cell (blk_alloc HBk.out o) 0).trans rfl
      clear hb
      have IN : Aside0 (∀ v W, W.cell? ⟨w.heap.size, 0, none⟩ = some (.int .i64 n) → Calls Tryd.prog 39 #[.int .i64 v, .pointer (some ⟨w.heap.size, 0, none⟩)] W fun e w' => e = .returned (.bool (inP n v)) ∧ w' = W) := ⟨fun v W h => inside_calls n v _ W h⟩
      generalize hi0 : inP n x0 = b0 at hec
      generalize hi1 : inP n x1 = b1 at hec
      have HI0 := Lib.hid hi0
      have HI1 := Lib.hid hi1
      clear hi0 hi1
      have IN0 : Aside0 (∀ W, W.cell? ⟨w.heap.size, 0, none⟩ = some (.int .i64 n) → Calls Tryd.prog 39 #[.int .i64 x0, .pointer (some ⟨w.heap.size, 0, none⟩)] W fun e w' => e = .returned (.bool b0) ∧ w' = W) := ⟨fun W h => by have := IN.out x0 W h; rwa [HI0.out] at this⟩
      have IN1 : Aside0 (∀ W, W.cell? ⟨w.heap.size, 0, none⟩ = some (.int .i64 n) → Calls Tryd.prog 39 #[.int .i64 x1, .pointer (some ⟨w.heap.size, 0, none⟩)] W fun e w' => e = .returned (.bool b1) ∧ w' = W) := ⟨fun W h => by have := IN.out x1 W h; rwa [HI1.out] at this⟩
      clear IN
      rcases hec with ⟨hok, rfl, rfl, g2, g3⟩ | ⟨hbad, hec⟩
      · have HOK := Lib.hid hok
        clear hok
        go_wp2_with (first | (go_at_call 39; with_reducible refine (IN0.out _ (by first | assumption | exact c0 _)).mono ?_; rintro e w1 ⟨rfl, rfl⟩) | (go_at_call 39; with_reducible refine (IN1.out _ (by first | assumption | exact c0 _)).mono ?_; rintro e w1 ⟨rfl, rfl⟩))
        go_roundw
        case rel => exact ⟨i + 1, h8, by go_num, blk_alloc HBk.out _, below_alloc HBe.out _, by rw [HT.out, List.all_append, HA.out]; simpa using HOK.out⟩
        case measure => simp [intOf]; omega
      · have HR2 : Aside0 (R = 2) := ⟨by
          rw [HR.out, if_neg]
          intro h
          have := List.all_eq_true.1 h _ HM.out
          rw [hbad] at this
          cases this⟩
        clear hbad HR HT HM
        rcases hec with rfl | ⟨rfl, rfl⟩ | ⟨rfl, rfl, g2⟩ | ⟨rfl, rfl, g2, g3⟩
        all_goals
          go_wp2_with (first | (go_at_call 39; with_reducible refine (IN0.out _ (by first | assumption | exact c0 _)).mono ?_; rintro e w1 ⟨rfl, rfl⟩) | (go_at_call 39; with_reducible refine (IN1.out _ (by first | assumption | exact c0 _)).mono ?_; rintro e w1 ⟨rfl, rfl⟩))
          go_ret
          exact ⟨by rw [HR2.out]; rfl, below_alloc HBe.out _⟩
    · obtain rfl : i = es.length := by omega
      have HR2 : Aside0 (R = 0) := ⟨by
        rw [HR.out, if_pos]
        have := HA.out
        rwa [List.take_length] at this⟩
      clear hb HR
      go_wp2
      go_ret
      exact ⟨by rw [HR2.out]; rfl, HBe.out⟩
end Go.Proofs.YtgjedgfncopjlaaDoor.Lines
