/- play.line: a move's line. -/
import Derived.Test.YtgjedgfncopjlaaDoorVrs
import Derived.Deep.LoopGhost
import Derived.BigQuiet
import Derived.Deep.QuietTactic
import Derived.Lib.AppendStr
import Derived.Lib.ItoaLen
namespace Go.Proofs.YtgjedgfncopjlaaDoor.Lines
open Go Go.RowKit Go.Shelf Go.Proofs.YtgjedgfncopjlaaDoorW.PrintWords Go.Proofs.YtgjedgfncopjlaaDoorW.PrintLast Go.Proofs.YtgjedgfncopjlaaDoorW.PrintMore
set_option linter.unusedVariables false
set_option linter.unusedSimpArgs false
/-- The word of kind j + 1, whether it has At, and Keep. -/
def formP : Nat → List UInt8 × Bool × Bool
  | 0 => ([119, 111, 114, 107], true, false)
  | 1 => ([99, 97, 114, 114, 121], true, false)
  | 2 => ([108, 111, 115, 101], true, false)
  | 3 => ([100, 111, 117, 98, 108, 101], true, false)
  | 4 => ([97, 108, 108], false, false)
  | 5 => ([99, 114, 97, 115, 104], true, true)
  | 6 => ([115, 116, 97, 114, 116], true, false)
  | _ => ([108, 101, 97, 100], false, false)
/-- The variable play.forms. -/
def formsC : Array Value := #[.string ⟨(formP 0).1.toArray⟩, .bool (formP 0).2.1, .bool (formP 0).2.2, .string ⟨(formP 1).1.toArray⟩, .bool (formP 1).2.1, .bool (formP 1).2.2, .string ⟨(formP 2).1.toArray⟩, .bool (formP 2).2.1, .bool (formP 2).2.2, .string ⟨(formP 3).1.toArray⟩, .bool (formP 3).2.1, .bool (formP 3).2.2, .string ⟨(formP 4).1.toArray⟩, .bool (formP 4).2.1, .bool (formP 4).2.2, .string ⟨(formP 5).1.toArray⟩, .bool (formP 5).2.1, .bool (formP 5).2.2, .string ⟨(formP 6).1.toArray⟩, .bool (formP 6).2.1, .bool (formP 6).2.2, .string ⟨(formP 7).1.toArray⟩, .bool (formP 7).2.1, .bool (formP 7).2.2]
def Forms (w : World) : Prop := ∃ t fr, w.heap[0]? = some (.cells formsC t fr)
theorem Forms.below {n : Nat} {w w' : World} (h : Forms w) (hb : Below n w w') (hn : 9 ≤ n) : Forms w' := by
  obtain ⟨t, fr, h⟩ := h
  exact ⟨t, fr, (hb.block _ (by omega)).trans h⟩
theorem Forms.at {w : World} (h : Forms w) (j : Nat) (hj : j < 8) : w.cell? ⟨0, j * 3, none⟩ = some (.string ⟨(formP j).1.toArray⟩) ∧ w.cell? ⟨0, j * 3 + 1, none⟩ = some (.bool (formP j).2.1) ∧ w.cell? ⟨0, j * 3 + 2, none⟩ = some (.bool (formP j).2.2) := by
  obtain ⟨t, fr, h⟩ := h
  rw [cell_of_row w _ _ _ _ _ h, cell_of_row w _ _ _ _ _ h, cell_of_row w _ _ _ _ _ h]
  obtain rfl | rfl | rfl | rfl | rfl | rfl | rfl | rfl : j = 0 ∨ j = 1 ∨ j = 2 ∨ j = 3 ∨ j = 4 ∨ j = 5 ∨ j = 6 ∨ j = 7 := by omega
  all_goals exact ⟨rfl, rfl, rfl⟩
def partBad (has : Bool) (n : Int) : Bool := decide (n < 0 ∨ 1152921504606846976 < n) || (!has && n != 0)
def partP (has : Bool) (n : Int) : List UInt8 := if has = true then 32 :: Lib.itoa n else []
def lineP (k a n : Int) : List UInt8 × Int :=
  if k < 1 ∨ 8 < k then ([], 3) else
  if partBad (formP (k - 1).toNat).2.1 a = true then ([], 2) else
  if partBad (formP (k - 1).toNat).2.2 n = true then ([], 2) else
  ((formP (k - 1).toNat).1 ++ partP (formP (k - 1).toNat).2.1 a ++ partP (formP (k - 1).toNat).2.2 n ++ [10], 0)
theorem str_app (a b : List UInt8) : (⟨a.toArray⟩ : ByteArray) ++ ⟨b.toArray⟩ = ⟨(a ++ b).toArray⟩ := by
  apply ByteArray.ext
  simp [ByteArray.data_append]
def accP (wd : List UInt8) (p q : Bool) (a n : Int) : Nat → List UInt8
  | 0 => wd
  | 1 => wd ++ partP p a
  | _ => wd ++ (partP p a ++ partP q n)
theorem partP_len {has : Bool} {n : Int} (h : partBad has n = false) : (partP has n).length ≤ 22 := by
  unfold partBad at h
  unfold partP
  cases has with
  | false => simp
  | true =>
    have := Lib.itoa_length_le n (by simp at h; omega) (by simp at h; omega)
    simp; omega
theorem formP_len (j : Nat) : (formP j).1.length ≤ 6 := by unfold formP; split <;> simp
def LineRel (w : World) (wd : List UInt8) (p q : Bool) (a n : Int) (v5 v34 : Value) (w' : World) : Prop :=
  ∃ i : Nat, i ≤ 2 ∧ v34 = .int .i64 i ∧ v5 = .string ⟨(accP wd p q a n i).toArray⟩ ∧ (1 ≤ i → partBad p a = false) ∧ (2 ≤ i → partBad q n = false) ∧ Below w.heap.size w w'
theorem part_cases (has : Bool) (n : Int) :
    (partBad has n = true ∧ ((decide (n < 0) = true) ∨ (decide (n < 0) = false ∧ decide (1152921504606846976 < n) = true) ∨ (decide (n < 0) = false ∧ decide (1152921504606846976 < n) = false ∧ has = false ∧ (n != 0) = true))) ∨
    (partBad has n = false ∧ 0 ≤ n ∧ n ≤ 1152921504606846976 ∧ decide (n < 0) = false ∧ decide (1152921504606846976 < n) = false ∧ (has = true ∨ has = false ∧ n = 0)) := by
  unfold partBad
  by_cases h1 : n < 0
  · left; simp [h1]
  · by_cases h2 : 1152921504606846976 < n
    · left; simp [h1, h2]
    · cases has with
      | true => right; simp [h1, h2]; omega
      | false =>
        by_cases h3 : n = 0
        · right; subst h3; simp
        · left; simp [h1, h2, h3]
set_option maxRecDepth 100000 in
set_option maxHeartbeats 1000000 in
theorem line_bad (k a n : Int) (w : World) (h : k < 1 ∨ 8 < k) : Calls Tryd.prog 13 #[.agg #[.int .i64 k, .int .i64 a, .int .i64 n]] w fun e w' => e = .returned (.tuple #[.string ⟨#[]⟩, .int .i64 3]) ∧ Below w.heap.size w w' := by
  go_enter Tryd.func13, Tryd.ntmps13
  rcases Int.lt_or_le k 1 with h1 | h1
  · have e1 : decide (k < 1) = true := decide_eq_true h1
    go_wp2
    go_ret2
    exact ⟨rfl, below_alloc (Below.refl _ _) _⟩
  · have e1 : decide (k < 1) = false := decide_eq_false (by omega)
    have e2 : decide (8 < k) = true := decide_eq_true (by omega)
    go_wp2
    go_ret2
    exact ⟨rfl, below_alloc (Below.refl _ _) _⟩
set_option maxRecDepth 100000 in
set_option maxHeartbeats 1000000 in
theorem line_good (j : Nat) (hj : j < 8) (a n : Int) (w : World) (hv : Vars w) (hf : Forms w) : Calls Tryd.prog 13 #[.agg #[.int .i64 ((j : Int) + 1), .int .i64 a, .int .i64 n]] w fun e w' => e = .returned (.tuple #[.string ⟨(lineP ((j : Int) + 1) a n).1.toArray⟩, .int .i64 (lineP ((j : Int) + 1) a n).2]) ∧ Below w.heap.size w w' := by
  obtain ⟨c0, c1, c2⟩ := hf.at j hj
  have e1 : decide ((j : Int) + 1 < 1) = false := decide_eq_false (by omega)
  have e2 : decide (8 < (j : Int) + 1) = false := decide_eq_false (by omega)
  have HV := Lib.hid hv
  have HF := Lib.hid hf
  clear hv hf
  have hL : lineP ((j : Int) + 1) a n = if partBad (formP j).2.1 a = true then ([], 2) else if partBad (formP j).2.2 n = true then ([], 2) else ((formP j).1 ++ (partP (formP j).2.1 a ++ partP (formP j).2.2 n) ++ [10], 0) := by
    unfold lineP
    rw [if_neg (by omega), show ((j : Int) + 1 - 1).toNat = j by omega, List.append_assoc (formP j).1]
  generalize lineP ((j : Int) + 1) a n = L at *
  have hwl := formP_len j
  generalize formP j = f at *
  obtain ⟨wd, p, q⟩ := f
  simp only at c0 c1 c2 hL hwl
  have HL := Lib.hid hL
  clear hL
  have d0 : ∀ o, (w.alloc o).cell? ⟨0, j * 3, none⟩ = some (.string ⟨wd.toArray⟩) := fun o => ((Below.refl w.heap.size w).alloc (Nat.le_refl _) o |>.cell (World.block_lt_of_cell? w _ c0)).trans c0
  have d1 : ∀ o, (w.alloc o).cell? ⟨0, j * 3 + 1, none⟩ = some (.bool p) := fun o => ((Below.refl w.heap.size w).alloc (Nat.le_refl _) o |>.cell (World.block_lt_of_cell? w _ c1)).trans c1
  have d2 : ∀ o, (w.alloc o).cell? ⟨0, j * 3 + 2, none⟩ = some (.bool q) := fun o => ((Below.refl w.heap.size w).alloc (Nat.le_refl _) o |>.cell (World.block_lt_of_cell? w _ c2)).trans c2
  clear c0 c1 c2
  have HB := Lib.hid (below_alloc (below_alloc (Below.refl w.heap.size w) (.cells #[.int .i64 ((j : Int) + 1), .int .i64 a, .int .i64 n] 38)) (.cells #[.string ⟨wd.toArray⟩, .bool p, .bool q] 55))
  go_enter Tryd.func13, Tryd.ntmps13
  go_wp2
  go_loopw [5, 34] (fun v5 v34 w' => LineRel w wd p q a n v5 v34 w') (fun _ v34 _ => 2 - (intOf v34).toNat)
  case atStart => exact ⟨0, by omega, rfl, rfl, fun h => by omega, fun h => by omega, HB.out⟩
  case round =>
    obtain ⟨i, hi, rfl, rfl, hb0, hb1, hB⟩ := hrel
    obtain rfl | rfl | rfl : i = 0 ∨ i = 1 ∨ i = 2 := by omega
    · rw [show ((0 : Nat) : Int) = 0 from rfl, show accP wd p q a n 0 = wd from rfl]
      have x0 : ∀ w, (Instr.index 62 (.agg #[.bool p, .int .i64 a, .bool q, .int .i64 n]) (.int .i64 0)).run Tryd.prog w = .ok (.agg #[.bool p, .int .i64 a]) w := fun _ => by kernel_rfl
      have HB1 := Lib.hid hB
      clear hB
      rcases part_cases p a with ⟨hbad, h | ⟨h1, h2⟩ | ⟨h1, h2, rfl, h3⟩⟩ | ⟨hgood, n0, n1, h1, h2, rfl | ⟨rfl, rfl⟩⟩
      · have HL2 : Aside0 (L = ([], 2)) := ⟨by rw [HL.out, if_pos hbad]⟩
        go_wp2
        go_ret2
        exact ⟨by rw [HL2.out]; rfl, below_alloc HB1.out _⟩
      · have HL2 : Aside0 (L = ([], 2)) := ⟨by rw [HL.out, if_pos hbad]⟩
        go_wp2
        go_ret2
        exact ⟨by rw [HL2.out]; rfl, below_alloc HB1.out _⟩
      · have HL2 : Aside0 (L = ([], 2)) := ⟨by rw [HL.out, if_pos hbad]⟩
        go_wp2
        go_ret2
        exact ⟨by rw [HL2.out]; rfl, below_alloc HB1.out _⟩
      · have hil := Lib.itoa_length_le a (by omega) (by omega)
        have HG : Aside0 (partBad true a = false) := ⟨hgood⟩
        clear hgood
        go_wp2_with (go_at_call 24; with_reducible refine (itoa_calls a n0 n1 _ (by exact HV.out.below (below_alloc HB1.out _) HV.out.n9)).mono ?_; rintro e w1 ⟨rfl, hb2⟩; replace hb2 := Lib.hid hb2)
        go_roundw
        case rel => exact ⟨1, by omega, rfl, by rw [str_app, str_app]; rfl, fun _ => HG.out, fun h => by omega, below_step (below_alloc HB1.out _) hb2.out⟩
        case measure => simp [intOf]
      · have HG : Aside0 (partBad false 0 = false) := ⟨hgood⟩
        clear hgood
        go_wp2
        go_roundw
        case rel => exact ⟨1, by omega, rfl, by simp [accP, partP], fun _ => HG.out, fun h => by omega, below_alloc HB1.out _⟩
        case measure => simp [intOf]
    · rw [show ((1 : Nat) : Int) = 1 from rfl, show accP wd p q a n 1 = (wd ++ partP p a) from rfl]
      have x0 : ∀ w, (Instr.index 62 (.agg #[.bool p, .int .i64 a, .bool q, .int .i64 n]) (.int .i64 1)).run Tryd.prog w = .ok (.agg #[.bool q, .int .i64 n]) w := fun _ => by kernel_rfl
      have HB1 := Lib.hid hB
      clear hB
      rcases part_cases q n with ⟨hbad, h | ⟨h1, h2⟩ | ⟨h1, h2, rfl, h3⟩⟩ | ⟨hgood, n0, n1, h1, h2, rfl | ⟨rfl, rfl⟩⟩
      · have HL2 : Aside0 (L = ([], 2)) := ⟨by rw [HL.out, if_neg (by rw [hb0 (by omega)]; simp), if_pos hbad]⟩
        go_wp2
        go_ret2
        exact ⟨by rw [HL2.out]; rfl, below_alloc HB1.out _⟩
      · have HL2 : Aside0 (L = ([], 2)) := ⟨by rw [HL.out, if_neg (by rw [hb0 (by omega)]; simp), if_pos hbad]⟩
        go_wp2
        go_ret2
        exact ⟨by rw [HL2.out]; rfl, below_alloc HB1.out _⟩
      · have HL2 : Aside0 (L = ([], 2)) := ⟨by rw [HL.out, if_neg (by rw [hb0 (by omega)]; simp), if_pos hbad]⟩
        go_wp2
        go_ret2
        exact ⟨by rw [HL2.out]; rfl, below_alloc HB1.out _⟩
      · have hil := Lib.itoa_length_le n (by omega) (by omega)
        have hpl := partP_len (hb0 (by omega))
        have HG : Aside0 (partBad true n = false) := ⟨hgood⟩
        clear hgood
        go_wp2_with (go_at_call 24; with_reducible refine (itoa_calls n n0 n1 _ (by exact HV.out.below (below_alloc HB1.out _) HV.out.n9)).mono ?_; rintro e w1 ⟨rfl, hb2⟩; replace hb2 := Lib.hid hb2)
        go_roundw
        case rel => exact ⟨2, by omega, rfl, by rw [str_app, str_app, List.append_assoc]; rfl, fun _ => hb0 (by omega), fun _ => HG.out, below_step (below_alloc HB1.out _) hb2.out⟩
        case measure => simp [intOf]
      · have HG : Aside0 (partBad false 0 = false) := ⟨hgood⟩
        clear hgood
        go_wp2
        go_roundw
        case rel => exact ⟨2, by omega, rfl, by simp [accP, partP], fun _ => hb0 (by omega), fun _ => HG.out, below_alloc HB1.out _⟩
        case measure => simp [intOf]
    · rw [show ((2 : Nat) : Int) = 2 from rfl, show accP wd p q a n 2 = wd ++ (partP p a ++ partP q n) from rfl]
      have HB1 := Lib.hid hB
      clear hB
      have HL2 : Aside0 (L = (wd ++ (partP p a ++ partP q n) ++ [10], 0)) := ⟨by rw [HL.out, if_neg (by rw [hb0 (by omega)]; simp), if_neg (by rw [hb1 (by omega)]; simp)]⟩
      have hbig : ¬ 9223372036854775807 < wd.length + ((partP p a).length + (partP q n).length) + 1 := by
        have := partP_len (hb0 (by omega))
        have := partP_len (hb1 (by omega))
        omega
      go_wp2
      go_ret2
      exact ⟨by rw [HL2.out]; simp only; rw [← str_app]; rfl, HB1.out⟩
end Go.Proofs.YtgjedgfncopjlaaDoor.Lines
