/- sheet.Show's closure: a line of numbers goes into the builder. -/
import Derived.Test.YtgjedgfncopjlaaDoorBld
import Derived.Test.YtgjedgfncopjlaaDoorPln
namespace Go.Proofs.YtgjedgfncopjlaaDoor.Lines
open Go Go.RowKit Go.Shelf Go.Proofs.YtgjedgfncopjlaaDoorW.PrintWords Go.Proofs.YtgjedgfncopjlaaDoorW.PrintLast Go.Proofs.YtgjedgfncopjlaaDoorW.PrintMore
set_option linter.unusedVariables false
set_option linter.unusedSimpArgs false
def tailS (xs : List Int) : List UInt8 := xs.flatMap fun x => 32 :: Lib.itoa x
/-- Numbers with blanks between. -/
def wS : List Int → List UInt8
  | [] => []
  | x :: r => Lib.itoa x ++ tailS r
theorem wS_snoc (l : List Int) (x : Int) (h : l ≠ []) : wS (l ++ [x]) = wS l ++ ([32] ++ Lib.itoa x) := by
  match l, h with
  | y :: r, _ => simp [wS, tailS]
theorem tailS_len : ∀ (xs : List Int), (∀ x ∈ xs, 0 ≤ x ∧ x ≤ 1152921504606846976) → (tailS xs).length ≤ 22 * xs.length
  | [], _ => by simp [tailS]
  | x :: r, h => by
    have h1 := tailS_len r (fun y hy => h y (List.mem_cons_of_mem _ hy))
    have h2 := Lib.itoa_length_le x (by have := h x (List.mem_cons_self ..); omega) (by have := h x (List.mem_cons_self ..); omega)
    simp only [tailS, List.flatMap_cons, List.length_append, List.length_cons] at h1 ⊢
    omega
theorem wS_len : ∀ (xs : List Int), (∀ x ∈ xs, 0 ≤ x ∧ x ≤ 1152921504606846976) → (wS xs).length ≤ 22 * xs.length
  | [], _ => by simp [wS]
  | x :: r, h => by
    have h1 := tailS_len r (fun y hy => h y (List.mem_cons_of_mem _ hy))
    have h2 := Lib.itoa_length_le x (by have := h x (List.mem_cons_self ..); omega) (by have := h x (List.mem_cons_self ..); omega)
    simp only [wS, List.length_append, List.length_cons]
    omega
theorem byteCells_app (a b : List UInt8) : Lib.byteCells (a ++ b) = Lib.byteCells a ++ Lib.byteCells b := by simp [Lib.byteCells]
theorem byteCells_len (a : List UInt8) : (Lib.byteCells a).length = a.length := by simp [Lib.byteCells]
theorem writeB (B b : Nat) (l : List UInt8) (c : UInt8) (n : Int) (hc : (c.toNat : Int) = n) (w : World) (h : Lib.IsBuilderF tB tU B b (Lib.byteCells l) w) (hlen : l.length + 1 ≤ 140737488355328) (hBw : B ≤ w.heap.size) :
    Calls Tryd.prog 29 #[.pointer (some ⟨b, 0, none⟩), .int .u8 n] w fun e w' => e = .returned .nilIface ∧ Lib.IsBuilderF tB tU B b (Lib.byteCells (l ++ [c])) w' ∧ Below B w w' ∧ Lib.OthersKept tU (some b) w w' := by
  refine (writeByte_calls B b _ n w h (by rw [byteCells_len]; exact hlen) hBw).mono ?_
  rintro e w' ⟨rfl, h1, h2, h3⟩
  refine ⟨rfl, .inr ?_, h2, h3⟩
  rw [byteCells_app, show Lib.byteCells [c] = [Value.int .u8 n] by rw [← hc]; rfl]
  exact h1
theorem writeS (B b : Nat) (l x : List UInt8) (w : World) (h : Lib.IsBuilderF tB tU B b (Lib.byteCells l) w) (hlen : l.length + x.length ≤ 140737488355328) (hBw : B ≤ w.heap.size) :
    Calls Tryd.prog 30 #[.pointer (some ⟨b, 0, none⟩), .string ⟨x.toArray⟩] w fun e w' => e = .returned (.tuple #[.int .i64 (⟨x.toArray⟩ : ByteArray).size, .nilIface]) ∧ Lib.IsBuilderF tB tU B b (Lib.byteCells (l ++ x)) w' ∧ Below B w w' ∧ Lib.OthersKept tU (some b) w w' := by
  refine (writeString_calls B b _ ⟨x.toArray⟩ w h (by rw [byteCells_len, Lib.size_eq]; exact hlen) hBw).mono ?_
  rintro e w' ⟨rfl, h1, h2, h3⟩
  refine ⟨rfl, .inr ?_, h2, h3⟩
  rw [byteCells_app]
  exact h1
theorem below_mono {B : Nat} {w w' : World} (h : B ≤ w.heap.size) (hb : Below w.heap.size w w') : Below B w w' := ⟨hb.os, hb.tape, hb.output, hb.size, fun k hk => hb.block k (Nat.lt_of_lt_of_le hk h)⟩
theorem bld_below {B b : Nat} {bs : List Value} {w w' : World} (h : Lib.IsBuilderF tB tU B b bs w) (hb : Below w.heap.size w w') : Lib.IsBuilderF tB tU B b bs w' := by
  have one : ∀ p, Lib.BuilderAtF tB tU B b p bs w → Lib.BuilderAtF tB tU B b p bs w' := by
    rintro p ⟨hB, v, hbk, hown, hne⟩
    exact ⟨hB, v, (hb.block b (Array.getElem?_eq_some_iff.1 hbk).1).trans hbk, hown.kept (grown_of_below hb none) (Classical.em _), hne⟩
  exact h.elim (fun x => .inl (one _ x)) (fun x => .inr (one _ x))
abbrev numsC (xs : List Int) : Obj := .cells (xs.map (fun x => Value.int .i64 x)).toArray 3
def RelS (w : World) (B b s : Nat) (bs : List UInt8) (xs : List Int) (v7 : Value) (w' : World) : Prop :=
  ∃ i : Nat, i ≤ xs.length ∧ v7 = .int .i64 i ∧ Lib.IsBuilderF tB tU B b (Lib.byteCells (bs ++ wS (xs.take i))) w' ∧ Below B w w' ∧ w'.heap[s]? = some (numsC xs)
set_option maxRecDepth 100000 in
set_option maxHeartbeats 1000000 in
theorem show1_calls (B b s : Nat) (bs : List UInt8) (xs : List Int) (hx : ∀ x ∈ xs, 0 ≤ x ∧ x ≤ 1152921504606846976) (hlen : bs.length + 22 * xs.length + 1 ≤ 140737488355328) (w : World) (hv : Vars w)
    (h : Lib.IsBuilderF tB tU B b (Lib.byteCells bs) w) (h9 : 9 ≤ B) (hBw : B ≤ w.heap.size) (hs : w.heap[s]? = some (numsC xs)) (hsb : s ≠ b) :
    Calls Tryd.prog 28 #[.slice (some ⟨s, 0, none⟩) xs.length xs.length, .pointer (some ⟨b, 0, none⟩)] w fun e w' => e = .returned (.tuple #[]) ∧ Lib.IsBuilderF tB tU B b (Lib.byteCells (bs ++ wS xs ++ [10])) w' ∧ Below B w w' := by
  have hwl : ∀ i, (wS (xs.take i)).length ≤ 22 * (xs.take i).length := fun i => wS_len _ (fun x h => hx x (List.mem_of_mem_take h))
  have HV := Lib.hid hv
  have H := Lib.hid h
  have HS := Lib.hid hs
  have HX := Lib.hid hx
  have HWL := Lib.hid hwl
  clear hv h hs hx hwl
  have KEPT : Aside0 (∀ w1 w2 : World, Lib.OthersKept tU (some b) w1 w2 → w1.heap[s]? = some (numsC xs) → w2.heap[s]? = some (numsC xs)) := ⟨fun w1 w2 hk h => hk s _ h (fun e => hsb (by injection e)) (fun c fz e => by cases e)⟩
  go_enter Tryd.func28, Tryd.ntmps28
  go_wp2
  go_loopw [7] (fun v7 w' => RelS w B b s bs xs v7 w') (fun v7 _ => xs.length - (intOf v7).toNat)
  case atStart => exact ⟨0, by omega, rfl, by simpa [wS] using H.out, Below.refl _ _, HS.out⟩
  case round =>
    obtain ⟨i, hi, rfl, hb, hB, hr⟩ := hrel
    have HB := Lib.hid hB
    have HR := Lib.hid hr
    have hBs := Nat.le_trans hBw hB.size
    have HVB := Lib.hid (HV.out.below hB h9)
    have HWI := HWL.out i
    rw [List.length_take] at HWI
    have hbl : (bs ++ wS (xs.take i)).length + 22 ≤ 140737488355328 ∨ i = xs.length := by
      rcases Nat.lt_or_ge i xs.length with h | h
      · left; rw [List.length_append]; omega
      · right; omega
    clear hB
    rcases Nat.lt_or_ge i xs.length with h8 | h8
    · have z : wr.cell? ⟨s, i, none⟩ = some (.int .i64 (xs[i]'h8)) := (blk_cell hr i).trans (by simp [h8])
      have HT : Aside0 (xs.take (i + 1) = xs.take i ++ [xs[i]'h8]) := ⟨by simp⟩
      have hxi := HX.out _ (List.getElem_mem h8)
      have htl : (xs.take i).length = i := by simp; omega
      replace hbl : (bs ++ wS (xs.take i)).length + 22 ≤ 140737488355328 := by rcases hbl with h | h <;> omega
      have HW0 : Aside0 (i = 0 → wS (xs.take i) = []) := ⟨fun h => by subst h; rfl⟩
      clear hr
      generalize xs[i]'h8 = x at *
      have hil := Lib.itoa_length_le x (by omega) (by omega)
      have HLB := Lib.hid (show (bs ++ wS (xs.take i)).length + 1 ≤ 140737488355328 by omega)
      have HLS := Lib.hid (show (bs ++ wS (xs.take i)).length + (Lib.itoa x).length ≤ 140737488355328 by omega)
      have HLT := Lib.hid (show (bs ++ wS (xs.take i) ++ [32]).length + (Lib.itoa x).length ≤ 140737488355328 by rw [List.length_append, List.length_singleton]; omega)
      have HI := Lib.hid hb
      have HBS := Lib.hid hBs
      clear hb hbl HWI hil hBs
      rcases i with _ | i
      · rw [show ((0 : Nat) : Int) = 0 from rfl] at *
        go_wp2_with (first
          | (go_at_call 24; with_reducible refine (itoa_calls x hxi.1 hxi.2 _ HVB.out).mono ?_; rintro e w1 ⟨rfl, hb1⟩; replace hb1 := Lib.hid hb1)
          | (go_at_call 30; with_reducible refine (writeS B b _ (Lib.itoa x) _ (bld_below HI.out hb1.out) HLS.out (Nat.le_trans HBS.out hb1.out.size)).mono ?_; rintro e w2 ⟨rfl, hn, hb2, hk2⟩; replace hn := Lib.hid hn; replace hb2 := Lib.hid hb2; replace hk2 := Lib.hid hk2))
        go_roundw
        case rel =>
          refine ⟨1, h8, rfl, ?_, (HB.out.trans (below_mono HBS.out hb1.out)).trans hb2.out, KEPT.out _ _ hk2.out ((hb1.out.block s (Array.getElem?_eq_some_iff.1 HR.out).1).trans HR.out)⟩
          have h := hn.out
          rw [HW0.out (by trivial), List.append_nil] at h
          rw [HT.out]
          simpa [wS, tailS] using h
        case measure => simp [intOf]; omega
      · have e0 : decide ((0 : Int) < (i : Int) + 1) = true := decide_eq_true (by omega)
        go_wp2_with (first
          | (go_at_call 29; with_reducible refine (writeB B b _ 32 32 (by decide) _ HI.out HLB.out HBS.out).mono ?_; rintro e w0 ⟨rfl, hn0, hb0, hk0⟩; replace hn0 := Lib.hid hn0; replace hb0 := Lib.hid hb0; replace hk0 := Lib.hid hk0)
          | (go_at_call 24; with_reducible refine (itoa_calls x hxi.1 hxi.2 _ (HVB.out.below hb0.out h9)).mono ?_; rintro e w1 ⟨rfl, hb1⟩; replace hb1 := Lib.hid hb1)
          | (go_at_call 30; with_reducible refine (writeS B b _ (Lib.itoa x) _ (bld_below hn0.out hb1.out) HLT.out (Nat.le_trans (Nat.le_trans HBS.out hb0.out.size) hb1.out.size)).mono ?_; rintro e w2 ⟨rfl, hn, hb2, hk2⟩; replace hn := Lib.hid hn; replace hb2 := Lib.hid hb2; replace hk2 := Lib.hid hk2))
        go_roundw
        case rel =>
          refine ⟨i + 1 + 1, h8, rfl, ?_, ((HB.out.trans hb0.out).trans (below_mono (Nat.le_trans HBS.out hb0.out.size) hb1.out)).trans hb2.out, KEPT.out _ _ hk2.out ?_⟩
          · have h := hn.out
            rw [HT.out, wS_snoc _ _ (by intro e; rw [e] at htl; simp at htl), ← List.append_assoc, ← List.append_assoc]
            exact h
          · have h1 := KEPT.out _ _ hk0.out HR.out
            exact (hb1.out.block s (Array.getElem?_eq_some_iff.1 h1).1).trans h1
        case measure => simp [intOf]; omega
    · obtain rfl : i = xs.length := by omega
      have HLB := Lib.hid (show (bs ++ wS (xs.take xs.length)).length + 1 ≤ 140737488355328 by rw [List.length_append]; omega)
      have HI := Lib.hid hb
      have HBS := Lib.hid hBs
      clear hb hbl HWI hBs hr
      go_wp2_with (go_at_call 29; with_reducible refine (writeB B b _ 10 10 (by decide) _ HI.out HLB.out HBS.out).mono ?_; rintro e w0 ⟨rfl, hn0, hb0, hk0⟩; replace hn0 := Lib.hid hn0; replace hb0 := Lib.hid hb0; replace hk0 := Lib.hid hk0)
      go_end0
      have h := hn0.out
      rw [List.take_length] at h
      exact ⟨rfl, h, HB.out.trans hb0.out⟩
end Go.Proofs.YtgjedgfncopjlaaDoor.Lines
