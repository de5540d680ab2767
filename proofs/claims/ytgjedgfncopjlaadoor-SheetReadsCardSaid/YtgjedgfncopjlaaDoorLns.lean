/- strings.Lines: what it yields, one line after another, and a range over it. -/
import Derived.RangeFuncBox
import Derived.RangeFuncNested
import Derived.RangeFuncBound
import Derived.RangeFuncCalls
import Derived.RangeFuncLeaves
import Derived.Shelf.Abstract
import Derived.Shelf.RegionOpen
import Derived.WalkKit
import Derived.OwnWalkIn
import Derived.TacticsInMore
import Derived.LoopNIn
import Derived.LoopIn
import Derived.Lib.Hide
import Derived.Test.YtgjedgfncopjlaaDoorShp
namespace Go.Proofs.YtgjedgfncopjlaaDoor.Lines
open Go Go.RowKit Go.Shelf
attribute [local go_sem] Oper.semAt_some
set_option linter.unusedVariables false
set_option linter.unusedSimpArgs false
/-- A text's lines, each with its line feed. -/
def linesL : List UInt8 → List (List UInt8)
  | [] => []
  | c :: r => if c = 10 then [c] :: linesL r else match linesL r with
    | [] => [[c]]
    | x :: xs => (c :: x) :: xs
/-- The first line, and what is left. -/
def cutL (l : List UInt8) : List UInt8 × List UInt8 := if 0 ≤ Lib.indexByte l 10 then (l.take ((Lib.indexByte l 10).toNat + 1), l.drop ((Lib.indexByte l 10).toNat + 1)) else (l, [])
theorem cut_nf : ∀ l : List UInt8, Lib.indexByte l 10 = -1 → linesL l = if l = [] then [] else [l]
  | [], _ => rfl
  | c :: r, h => by
    unfold Lib.indexByte at h
    by_cases hc : c = 10
    · simp [hc] at h
    · have hb : (c == 10) = false := by simpa using hc
      rw [if_neg (by simpa using hc)] at h
      have hr : Lib.indexByte r 10 = -1 := by
        have := Lib.indexByte_ge r 10
        by_cases h1 : Lib.indexByte r 10 = -1
        · exact h1
        · rw [if_neg (by simpa using h1)] at h
          omega
      rw [linesL, if_neg hc, cut_nf r hr]
      cases r <;> simp
theorem cut_step : ∀ l : List UInt8, l ≠ [] → linesL l = (cutL l).1 :: linesL (cutL l).2
  | [], h => absurd rfl h
  | c :: r, _ => by
    by_cases hc : c = 10
    · subst hc
      have : cutL (10 :: r) = ([10], r) := by simp [cutL, Lib.indexByte]
      rw [this, linesL, if_pos rfl]
    · rw [linesL, if_neg hc]
      have hge := Lib.indexByte_ge r 10
      have hi : Lib.indexByte (c :: r) 10 = if 0 ≤ Lib.indexByte r 10 then Lib.indexByte r 10 + 1 else -1 := by
        conv => lhs; unfold Lib.indexByte
        rw [if_neg (by simpa using hc)]
        by_cases h1 : Lib.indexByte r 10 = -1
        · rw [if_pos (by simpa using h1), if_neg (by omega)]
        · rw [if_neg (by simpa using h1), if_pos (by omega)]
      by_cases h0 : 0 ≤ Lib.indexByte r 10
      · have hr : r ≠ [] := by intro e; subst e; simp [Lib.indexByte] at h0
        have ih := cut_step r hr
        have e1 : cutL r = (r.take ((Lib.indexByte r 10).toNat + 1), r.drop ((Lib.indexByte r 10).toNat + 1)) := by unfold cutL; rw [if_pos h0]
        have e2 : cutL (c :: r) = (c :: (cutL r).1, (cutL r).2) := by
          rw [e1]; unfold cutL
          rw [hi, if_pos h0, if_pos (by omega), show (Lib.indexByte r 10 + 1).toNat = (Lib.indexByte r 10).toNat + 1 by omega]
          simp
        rw [ih, e2]
      · have e2 : cutL (c :: r) = (c :: r, []) := by unfold cutL; rw [hi, if_neg h0, if_neg (by omega)]
        have hn := cut_nf r (by omega)
        rw [e2, hn]
        cases r <;> simp [linesL]
theorem cut_lt (l : List UInt8) (h : l ≠ []) : (cutL l).2.length < l.length := by
  have hp : 0 < l.length := List.length_pos_iff.2 h
  unfold cutL
  split
  · simp; omega
  · simpa using hp
/-- How much is left, read off the world. -/
def restOf (c : Nat) (w : World) : Nat := match w.cell? ⟨c, 0, none⟩ with
  | some (.string t) => t.size
  | _ => 0
theorem restOf_eq {c : Nat} {w : World} {t : List UInt8} (h : w.cell? ⟨c, 0, none⟩ = some (.string ⟨t.toArray⟩)) : restOf c w = t.length := by
  unfold restOf
  rw [h]
  exact (Lib.size_eq _).trans (by simp)
theorem ext_take (t : List UInt8) (k : Nat) : (⟨t.toArray⟩ : ByteArray).extract 0 k = ⟨(t.take k).toArray⟩ := by
  rw [Lib.extract_eq]; simp
theorem ext_drop (t : List UInt8) (k : Nat) : (⟨t.toArray⟩ : ByteArray).extract k t.length = ⟨(t.drop k).toArray⟩ := by
  rw [Lib.extract_eq, List.take_of_length_le (by simp)]
def Rest (c : Nat) (J : List (List UInt8) → World → Prop) (all : List (List UInt8)) (wr : World) : Prop := ∃ (pre : List (List UInt8)) (t : List UInt8), all = pre ++ linesL t ∧ t.length ≤ 4611686018427387904 ∧ J pre wr ∧ wr.cell? ⟨c, 0, none⟩ = some (.string ⟨t.toArray⟩) ∧ wr.frozen? ⟨c, 0, none⟩ = false
def Yields (n l c : Nat) (J Jx : List (List UInt8) → World → Prop) (all : List (List UInt8)) : Prop := ∀ pre x W, J pre W → (pre ++ [x]) <+: all → YieldAt Fence.wide (n - 1) Tryd.prog l #[.string ⟨x.toArray⟩] W fun e W' => (e = .returned (.bool true) ∧ J (pre ++ [x]) W' ∧ W'.heap[c]? = W.heap[c]?) ∨ (e = .returned (.bool false) ∧ Jx (pre ++ [x]) W')
def Ended (J Jx : List (List UInt8) → World → Prop) (all : List (List UInt8)) (W' : World) : Prop := J all W' ∨ ∃ pre, pre <+: all ∧ Jx pre W'
set_option maxRecDepth 100000 in
set_option maxHeartbeats 1000000 in
theorem iter_in (n l c : Nat) (hn : 1 ≤ n) (J Jx : List (List UInt8) → World → Prop) (all : List (List UInt8)) (hJ : ∀ pre W W', J pre W → W.grownBy W' (some c) → J pre W') (hY : Yields n l c J Jx all)
    (W : World) (s : List UInt8) (hs : linesL s = all) (hlen : s.length ≤ 4611686018427387904) (hc : W.cell? ⟨c, 0, none⟩ = some (.string ⟨s.toArray⟩)) (hf : W.frozen? ⟨c, 0, none⟩ = false) (h0 : J [] W) :
    CallsIn Fence.wide n Tryd.prog 19 #[.func (.yield l) #[] #[], .pointer (some ⟨c, 0, none⟩)] W fun e W' => (∃ v, e = .returned v) ∧ Ended J Jx all W' := by
  refine callsIn_of_wp Tryd.func19 rfl trivial ?_ rfl
  simp only [Tryd.ntmps19, List.size_toArray, List.length_cons, List.length_nil, Nat.reduceAdd, Nat.reduceSub, Array.replicate_succ, Array.replicate_zero, List.push_toArray, List.append_toArray, List.nil_append, List.cons_append]
  have HS := Lib.hid hs
  clear hs
  gi_wp2
  gi_loopw [3, 4] (fun _ _ wr => Rest c J all wr) (fun _ _ wr => restOf c wr)
  case atStart => exact ⟨[], s, by simpa using HS.out.symm, hlen, h0, hc, hf⟩
  case round =>
    obtain ⟨pre, t, ha, hl, hj, hc1, hf1⟩ := hrel
    by_cases ht : t = []
    · subst ht
      gi_wp2
      go_end0
      exact ⟨⟨_, rfl⟩, .inl (by rw [ha]; simpa [linesL] using hj)⟩
    · have hp : 0 < t.length := List.length_pos_iff.2 ht
      have e10 : ((10 : Int).toNat.toUInt8) = 10 := by decide
      have hge := Lib.indexByte_ge t 10
      have hcs := cut_step t ht
      have hcl := cut_lt t ht
      have hct : cutL t = if 0 ≤ Lib.indexByte t 10 then (t.take ((Lib.indexByte t 10).toNat + 1), t.drop ((Lib.indexByte t 10).toNat + 1)) else (t, []) := rfl
      have hle : Lib.indexByte t 10 < t.length := by
        by_cases h : 0 ≤ Lib.indexByte t 10
        · obtain ⟨o, ho⟩ := Int.eq_ofNat_of_zero_le h
          have := (Lib.indexByte_some ho).1
          have := (List.getElem?_eq_some_iff.1 this).1
          omega
        · omega
      have HCS := Lib.hid hcs
      have HCT := Lib.hid hct
      have HA := Lib.hid ha
      clear hcs hct ha
      gi_wp2_with (refine ⟨trivial, ?_⟩; gi_at_call 20; refine (callsIn_wide.2 (Tryd.strings_IndexByte _ _ _)).mono ?_; rintro e w' ⟨rfl, rfl⟩; rw [e10]; generalize Lib.indexByte t 10 = i at *)
      rotate_left
      · have hi0 : i < 0 := by assumption
        have hct : cutL t = (t, []) := by rw [HCT.out, if_neg (by omega)]
        have hx : (pre ++ [t]) <+: all := ⟨[], by rw [HA.out, HCS.out, hct]; simp [linesL]⟩
        have hall : all = (pre ++ [t]) ++ linesL [] := by rw [HA.out, HCS.out, hct]; simp [linesL]
        obtain ⟨fn, tmps, assign, body, hy, hR⟩ := hY pre t _ (hJ pre _ (w'.setCell ⟨c, 0, none⟩ (.string ⟨#[]⟩)) hj (grownBy_setCell' w' c _)) hx
        have HALL := Lib.hid hall
        clear hall hct
        rw [hy]
        gi_wp2
        refine hR.mono ?_
        rintro e W3 (⟨rfl, hJ3, hk3⟩ | ⟨rfl, hJx3⟩)
        · have hc3 := (World.cell?_of_block (a := ⟨c, 0, none⟩) hk3).trans (World.cell?_setCell_same' w' ⟨c, 0, none⟩ (.string ⟨#[]⟩) (by rw [hc1]; rfl))
          have hf3 : W3.frozen? ⟨c, 0, none⟩ = false := (World.frozen?_of_block (a := ⟨c, 0, none⟩) hk3).trans (by rw [World.frozen?_setCell]; exact hf1)
          gi_wp2
          go_roundw
          case rel => exact ⟨pre ++ [t], [], HALL.out, by simp, hJ3, hc3, hf3⟩
          case measure => rw [restOf_eq hc3, restOf_eq hc1]; simpa using hp
        · gi_wp2
          refine bodyPost_ret (results_none rfl _ _ _) rfl ?_
          exact ⟨⟨_, rfl⟩, .inr ⟨pre ++ [t], hx, hJx3⟩⟩
      · have hi0 : 0 ≤ i := by assumption
        gi_region
        gi_wp2
        have e1 : (i + 1).toNat = i.toNat + 1 := by omega
        rw [e1, ext_take, ext_drop]
        have hct : cutL t = (t.take (i.toNat + 1), t.drop (i.toNat + 1)) := by rw [HCT.out, if_pos hi0]
        have hx : (pre ++ [t.take (i.toNat + 1)]) <+: all := ⟨linesL (t.drop (i.toNat + 1)), by rw [HA.out, HCS.out, hct]; simp⟩
        have hall : all = (pre ++ [t.take (i.toNat + 1)]) ++ linesL (t.drop (i.toNat + 1)) := by rw [HA.out, HCS.out, hct]; simp
        have hlt : (t.drop (i.toNat + 1)).length < t.length := by simp; omega
        generalize t.drop (i.toNat + 1) = r at *
        generalize t.take (i.toNat + 1) = x at *
        obtain ⟨fn, tmps, assign, body, hy, hR⟩ := hY pre x (w'.setCell ⟨c, 0, none⟩ (.string ⟨r.toArray⟩)).drew (hJ pre _ _ hj (by have h := grownBy_setCell' w' c (.string ⟨r.toArray⟩); exact ⟨h.os, h.tape, h.output, h.size, h.block⟩)) hx
        have HALL := Lib.hid hall
        clear hall hct HCT
        rw [hy]
        gi_wp2
        refine hR.mono ?_
        rintro e W3 (⟨rfl, hJ3, hk3⟩ | ⟨rfl, hJx3⟩)
        · have hc3 : W3.cell? ⟨c, 0, none⟩ = some (.string ⟨r.toArray⟩) := (World.cell?_of_block (a := ⟨c, 0, none⟩) hk3).trans (World.cell?_setCell_same' w' ⟨c, 0, none⟩ (.string ⟨r.toArray⟩) (by rw [hc1]; rfl))
          have hf3 : W3.frozen? ⟨c, 0, none⟩ = false := (World.frozen?_of_block (a := ⟨c, 0, none⟩) hk3).trans (by rw [frozen_drew_own, World.frozen?_setCell]; exact hf1)
          gi_wp2
          go_roundw
          case rel => exact ⟨pre ++ [x], r, HALL.out, by omega, hJ3, hc3, hf3⟩
          case measure => rw [restOf_eq hc3, restOf_eq hc1]; omega
        · gi_wp2
          refine bodyPost_ret (results_none rfl _ _ _) rfl ?_
          exact ⟨⟨_, rfl⟩, .inr ⟨pre ++ [x], hx, hJx3⟩⟩
/-- How a round's body may be left. -/
def bodyP (c : Nat) (B : Nat) (I : List (List UInt8) → World → Prop) (Ix : Code → List (List UInt8) → World → Prop) (xs : List (List UInt8)) (W : World) : Exit → Act → World → Prop
  | .normal, _, W' => KeepsFrom B W W' ∧ W'.heap[c]? = W.heap[c]? ∧ I xs W'
  | .ret, _, W' => KeepsFrom B W W' ∧ Ix .ret xs W'
  | .exit id, _, W' => KeepsFrom B W W' ∧ Ix (.exit id) xs W'
  | .goto t, _, W' => KeepsFrom B W W' ∧ Ix (.goto t) xs W'
  | .panic _, _, _ => False
  | .outgrown, _, _ => False
/-- 'for x := range strings.Lines(s) { .. }', outermost: s lies in the cell of block c, which the body keeps; what the caller's invariant says does not hang on that block, nor on blocks that lie at or beyond the loop's own. -/
theorem range_lines {g : Operand} {p : Tmp} {assign body : Code} {Q : Exit → Act → World → Prop} {a : Act} {w : World} {n : Nat} (h1 : 2 ≤ n) (c : Nat) (s : List UInt8)
    (hg : a.eval g = .func (.func 19) #[] #[.pointer (some ⟨c, 0, none⟩)]) (hlen : s.length ≤ 4611686018427387904) (hcw : c < w.heap.size)
    (hc : w.cell? ⟨c, 0, none⟩ = some (.string ⟨s.toArray⟩)) (hf : w.frozen? ⟨c, 0, none⟩ = false)
    (I : List (List UInt8) → World → Prop) (Ix : Code → List (List UInt8) → World → Prop)
    (hI : ∀ pre W W' row, I pre W → W.grownBy W' row → (∀ r, row = some r → r = c ∨ w.heap.size ≤ r ∧ ∃ o : Obj, W.heap[r]? = some o ∧ o.isCells = false) → I pre W')
    (hIx : ∀ j pre W W' row, Ix j pre W → W.grownBy W' row → (∀ r, row = some r → w.heap.size ≤ r ∧ ∃ o : Obj, W.heap[r]? = some o ∧ o.isCells = false) → Ix j pre W')
    (h0 : I [] w) (a₁ : List UInt8 → Act)
    (hassign : ∀ (l : Nat) (x : List UInt8) (W : World) (K : Act → World → Prop), K (a₁ x) W → assign.wpIn (Fence.wide.inRound l) (n - 1 - 1) Tryd.prog (Exit.then K (fun _ _ _ => False)) { tmps := ((#[p] : Array Tmp).zip #[Value.string ⟨x.toArray⟩]).foldl (fun t (p, v) => t.setIfInBounds p v) a.tmps, defers := [] } W)
    (hbody : ∀ (l : Nat) (pre : List (List UInt8)) (x : List UInt8) (W : World), I pre W → (pre ++ [x]) <+: linesL s → body.wpIn (Fence.wide.inRound l) (n - 1 - 1) Tryd.prog (bodyP c w.heap.size I Ix (pre ++ [x]) W) (a₁ x) W)
    (hdone : ∀ (D : Nat) (W : World), w.heap.size ≤ D → I (linesL s) W → W.heap[D]? = some (.deferred (some [])) → Q .normal { a with defers := { target := .collected D, args := #[] } :: a.defers } W)
    (hstop : ∀ (D : Nat) (j : Code) (pre : List (List UInt8)) (W : World), w.heap.size ≤ D → pre <+: linesL s → Ix j pre W → W.heap[D]? = some (.deferred (some [])) → j.wpIn Fence.wide n Tryd.prog Q { a with defers := { target := .collected D, args := #[] } :: a.defers } W) :
    (Code.rangeFunc g #[p] assign body).wpIn Fence.wide n Tryd.prog Q a w := by
  have eg : ∀ args w, (callFunc 19 args).run Tryd.prog w = .ok (.enter 19 args) w := enters_of Tryd.func19 (by kernel_rfl) rfl
  refine wpIn_rangeFunc (fun fn hfn => ?_)
  have hro : Fence.wide.round = none := rfl
  rw [hro]
  -- the two blocks of the loop's own: D (the rounds' deferred calls), D + 1 (the record)
  let rec' : LoopState → Option Code → Obj := fun st pe => .loop { state := st, pending := pe, fn, tmps := a.tmps, params := #[p], assign, body, defers := w.heap.size }
  have hsz : ((w.alloc (.deferred (some []))).alloc (rec' .ready none)).heap.size = w.heap.size + 1 + 1 := by simp
  have hnew : ∀ W o, (World.alloc W o).heap[W.heap.size]? = some o := fun W o => World.alloc_heap_new W o
  refine ⟨w.heap.size + 1, [{ target := .collected w.heap.size, args := #[] }], (w.alloc (.deferred (some []))).alloc (rec' .ready none), { target := .fn (.func 19) #[.pointer (some ⟨c, 0, none⟩)], args := #[.func (.yield (w.heap.size + 1)) #[] #[]] }, (w.alloc (.deferred (some []))).alloc (rec' .ready none), 19,
    #[.func (.yield (w.heap.size + 1)) #[] #[], .pointer (some ⟨c, 0, none⟩)], (w.alloc (.deferred (some []))).alloc (rec' .ready none), run_enterLoop_outer _ _ _ _ _, ?_, fun f' _ => trivial, ?_, fun _ => by omega, ?_⟩
  · simp only [resolve, hg]
    simp [go_sem]
  · simp [invoke, go_sem, eg]
  have put : ∀ (W : World) (k : Nat) (o o' : Obj), w.heap.size ≤ k → W.heap[k]? = some o → o.isCells = false → W.grownBy (W.putObj k o') (some k) ∧ ∀ r, some k = some r → w.heap.size ≤ r ∧ ∃ o : Obj, W.heap[r]? = some o ∧ o.isCells = false := fun W k o o' hk h ho => ⟨grownBy_putObj' W k o', fun r e => by cases e; exact ⟨hk, o, h, ho⟩⟩
  have putI : ∀ pre (W : World) (k : Nat) (o o' : Obj), I pre W → w.heap.size ≤ k → W.heap[k]? = some o → o.isCells = false → I pre (W.putObj k o') := fun pre W k o o' hi hk h ho => hI pre W _ _ hi (put W k o o' hk h ho).1 (fun r e => .inr ((put W k o o' hk h ho).2 r e))
  have putX : ∀ j pre (W : World) (k : Nat) (o o' : Obj), Ix j pre W → w.heap.size ≤ k → W.heap[k]? = some o → o.isCells = false → Ix j pre (W.putObj k o') := fun j pre W k o o' hi hk h ho => hIx j pre W _ _ hi (put W k o o' hk h ho).1 (put W k o o' hk h ho).2
  have newI : ∀ pre (W : World) (o : Obj), I pre W → I pre (W.alloc o) := fun pre W o hi => hI pre W _ none hi (World.grownBy_alloc W o none) (fun r e => by cases e)
  have below : Below w.heap.size w ((w.alloc (.deferred (some []))).alloc (rec' .ready none)) := (((Below.refl _ w).alloc (Nat.le_refl _) _).alloc (by simp) _)
  refine (iter_in (n - 1) (w.heap.size + 1) c (by omega)
    (fun pre W => I pre W ∧ W.heap[w.heap.size + 1]? = some (rec' .ready none) ∧ W.heap[w.heap.size]? = some (.deferred (some [])))
    (fun pre W => ∃ j, Ix j pre W ∧ W.heap[w.heap.size + 1]? = some (rec' .done (some j)) ∧ W.heap[w.heap.size]? = some (.deferred (some [])))
    (linesL s) ?_ ?_ _ s rfl hlen ((below.cell (p := ⟨c, 0, none⟩) hcw).trans hc) ((below.frozen (p := ⟨c, 0, none⟩) hcw).trans hf) ⟨newI _ _ _ (newI _ _ _ h0), ?_, ?_⟩).mono ?_
  · rintro pre W W' ⟨hi, hl, hd⟩ hg'
    have keep : ∀ (k : Nat) (o : Obj), k ≠ c → W.heap[k]? = some o → W'.heap[k]? = some o := fun k o hk h => (hg'.block k (Array.getElem?_eq_some_iff.1 h).1 (fun e => hk (by cases e; rfl))).trans h
    exact ⟨hI pre W W' _ hi hg' (fun r e => by cases e; exact .inl rfl), keep _ _ (by omega) hl, keep _ _ (by omega) hd⟩
  · rintro pre x W ⟨hi, hl, hd⟩ hx
    have hlt : w.heap.size + 1 < W.heap.size := (Array.getElem?_eq_some_iff.1 hl).1
    refine ⟨fn, _, assign, body, run_yield (args := #[.string ⟨x.toArray⟩]) hl rfl, roundIn_of_wpIn hfn ?_⟩
    refine hassign (w.heap.size + 1) x W _ ?_
    refine ⟨_, run_beginRound hl rfl, ?_⟩
    have hi2 := putI pre W _ _ (rec' .busy none) hi (Nat.le_succ _) hl rfl
    have hl2 : (W.putObj (w.heap.size + 1) (rec' .busy none)).heap[w.heap.size + 1]? = some (rec' .busy none) := World.putObj_heap_same hlt
    have hd2 : (W.putObj (w.heap.size + 1) (rec' .busy none)).heap[w.heap.size]? = some (.deferred (some [])) := (World.putObj_heap_other (by omega)).trans hd
    have hc2 : (W.putObj (w.heap.size + 1) (rec' .busy none)).heap[c]? = W.heap[c]? := World.putObj_heap_other (by omega)
    refine wpIn_mono (hbody _ pre x _ hi2 hx) ?_
    have fin : ∀ (j : Option Code) (W3 : World), KeepsFrom w.heap.size (W.putObj (w.heap.size + 1) (rec' .busy none)) W3 →
        (Instr.endRound (w.heap.size + 1) j).run Tryd.prog W3 = .ok (.bool j.isNone) (W3.putObj (w.heap.size + 1) (rec' (if j.isNone then .ready else .done) j)) ∧
        W3.heap[w.heap.size + 1]? = some (rec' .busy none) ∧
        (W3.putObj (w.heap.size + 1) (rec' (if j.isNone then .ready else .done) j)).heap[w.heap.size + 1]? = some (rec' (if j.isNone then .ready else .done) j) ∧
        (W3.putObj (w.heap.size + 1) (rec' (if j.isNone then .ready else .done) j)).heap[w.heap.size]? = some (.deferred (some [])) := fun j W3 hk3 => by
      have hl3 := hk3.same _ _ (Nat.le_succ _) hl2 rfl
      exact ⟨run_endRound j hl3, hl3, World.putObj_heap_same (Array.getElem?_eq_some_iff.1 hl3).1, (World.putObj_heap_other (by omega)).trans (hk3.same _ _ (Nat.le_refl _) hd2 rfl)⟩
    rintro e a3 W3 hp
    cases e with
    | normal =>
      obtain ⟨hk3, hc3, hi3⟩ := hp
      obtain ⟨hr, hl3, hl4, hd4⟩ := fin none W3 hk3
      exact ⟨_, _, hr, .inl ⟨rfl, ⟨putI _ _ _ _ _ hi3 (Nat.le_succ _) hl3 rfl, hl4, hd4⟩, (World.putObj_heap_other (by omega)).trans (hc3.trans hc2)⟩⟩
    | ret =>
      obtain ⟨hk3, hi3⟩ := hp
      obtain ⟨hr, hl3, hl4, hd4⟩ := fin (some .ret) W3 hk3
      exact ⟨_, _, hr, .inr ⟨rfl, .ret, putX _ _ _ _ _ _ hi3 (Nat.le_succ _) hl3 rfl, hl4, hd4⟩⟩
    | exit id =>
      obtain ⟨hk3, hi3⟩ := hp
      obtain ⟨hr, hl3, hl4, hd4⟩ := fin (some (.exit id)) W3 hk3
      exact ⟨_, _, hr, .inr ⟨rfl, .exit id, putX _ _ _ _ _ _ hi3 (Nat.le_succ _) hl3 rfl, hl4, hd4⟩⟩
    | goto t =>
      obtain ⟨hk3, hi3⟩ := hp
      obtain ⟨hr, hl3, hl4, hd4⟩ := fin (some (.goto t)) W3 hk3
      exact ⟨_, _, hr, .inr ⟨rfl, .goto t, putX _ _ _ _ _ _ hi3 (Nat.le_succ _) hl3 rfl, hl4, hd4⟩⟩
    | panic ch => exact hp.elim
    | outgrown => exact hp.elim
  · have := hnew (w.alloc (.deferred (some []))) (rec' .ready none)
    rwa [World.size_alloc] at this
  · exact (Below.heap_alloc _ _ _ (by simp)).trans (hnew w _)
  · rintro e W2 ⟨⟨v, rfl⟩, (⟨hi, hl, hd⟩ | ⟨pre, hpre, j, hi, hl, hd⟩)⟩
    · exact ⟨none, _, run_endLoop hl (by simp), hdone _ _ (Nat.le_refl _) (putI _ _ _ _ _ hi (Nat.le_succ _) hl rfl) ((World.putObj_heap_other (by omega)).trans hd)⟩
    · exact ⟨some j, _, run_endLoop hl (by simp), hstop _ j pre _ (Nat.le_refl _) hpre (putX _ _ _ _ _ _ hi (Nat.le_succ _) hl rfl) ((World.putObj_heap_other (by omega)).trans hd)⟩
end Go.Proofs.YtgjedgfncopjlaaDoor.Lines
