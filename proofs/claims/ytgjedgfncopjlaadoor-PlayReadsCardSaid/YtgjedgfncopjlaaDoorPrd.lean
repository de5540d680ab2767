/- play.Read: moves of a text. -/
import Derived.Test.YtgjedgfncopjlaaDoorPmv
import Derived.Maps.OwnIn
import Derived.Maps.AppendAt
import Derived.Test.YtgjedgfncopjlaaDoorPPlayReadsx56
import Derived.Test.YtgjedgfncopjlaaDoorPPlayReadsx55
namespace Go.Proofs.YtgjedgfncopjlaaDoor.Lines
open Go Go.RowKit Go.Shelf Go.Proofs.YtgjedgfncopjlaaDoorW.PrintWords Go.Proofs.YtgjedgfncopjlaaDoorW.PrintLast Go.Proofs.YtgjedgfncopjlaaDoorW.PrintMore Go.Proofs.YtgjedgfncopjlaaDoor.PPlayReads
attribute [local go_sem] Oper.semAt_some
set_option linter.unusedVariables false
set_option linter.unusedSimpArgs false
abbrev Mv := S38
def again (x : List UInt8) : List UInt8 × Int := lineP (moveP x).1 (moveP x).2.1 (moveP x).2.2
def okP (x : List UInt8) : Bool := (again x).2 == 0 && (again x).1 == x
def mkP (x : List UInt8) : Mv := ⟨(moveP x).1, (moveP x).2.1, (moveP x).2.2⟩
def readP (l : List UInt8) : List Mv × Int := if 5000000 < l.length then ([], 1) else if (linesL l).all okP = true then (if 100000 < (linesL l).length then ([], 1) else ((linesL l).map mkP, 0)) else ([], 3)
theorem line_calls (k a n : Int) (w : World) (hv : Vars w) (hf : Forms w) : Calls Tryd.prog 13 #[.agg #[.int .i64 k, .int .i64 a, .int .i64 n]] w fun e w' => e = .returned (.tuple #[.string ⟨(lineP k a n).1.toArray⟩, .int .i64 (lineP k a n).2]) ∧ Below w.heap.size w w' := by
  by_cases h : k < 1 ∨ 8 < k
  · have e : lineP k a n = ([], 3) := by unfold lineP; rw [if_pos h]
    rw [e]
    exact line_bad k a n w h
  · obtain ⟨j, hj⟩ := Int.eq_ofNat_of_zero_le (by omega : 0 ≤ k - 1)
    obtain rfl : k = (j : Int) + 1 := by omega
    exact line_good j (by omega) a n w hv hf
theorem Lines_calls (l : List UInt8) (w : World) : Calls Tryd.prog 11 #[.string ⟨l.toArray⟩] w fun e w' => e = .returned (.func (.func 19) #[] #[.pointer (some ⟨w.heap.size, 0, none⟩)]) ∧ w' = w.alloc (.cells #[.string ⟨l.toArray⟩] 9) := by
  go_enter Tryd.func11, Tryd.ntmps11
  go_wp2
  go_ret
  exact ⟨rfl, rfl⟩
theorem lines_le : ∀ (l x : List UInt8), x ∈ linesL l → x.length ≤ l.length
  | [], x, h => by simp [linesL] at h
  | c :: r, x, h => by
    unfold linesL at h
    have ih := lines_le r
    split at h
    · rcases List.mem_cons.1 h with rfl | h
      · simp
      · have := ih x h
        rw [List.length_cons]; omega
    · split at h
      · simp at h
        subst h
        simp
      · rename_i y ys he
        rcases List.mem_cons.1 h with rfl | h
        · have := ih y (by rw [he]; simp)
          rw [List.length_cons, List.length_cons]; omega
        · have := ih x (by rw [he]; exact List.mem_cons_of_mem _ h)
          rw [List.length_cons]; omega
theorem lines_len : ∀ l : List UInt8, (linesL l).length ≤ l.length
  | [] => by simp [linesL]
  | c :: r => by
    have ih := lines_len r
    unfold linesL
    split
    · simp only [List.length_cons]; omega
    · split
      · simp
      · rename_i y ys he
        rw [he] at ih
        simp only [List.length_cons] at ih ⊢
        omega
def cellsP (pre : List (List UInt8)) : List Value := (pre.map (fun x => [Value.int .i64 (mkP x).f0, .int .i64 (mkP x).f1, .int .i64 (mkP x).f2])).flatten
theorem cellsP_snoc (pre : List (List UInt8)) (x : List UInt8) : cellsP (pre ++ [x]) = cellsP pre ++ [.int .i64 (mkP x).f0, .int .i64 (mkP x).f1, .int .i64 (mkP x).f2] := by simp [cellsP]
/-- Between two rounds: the result's two cells, the list so far. -/
def RI (w : World) (pre : List (List UInt8)) (W : World) : Prop :=
  Boxed W w.heap.size 22 (.slice none 0 0) ∧ Boxed W (w.heap.size + 1) 23 (.int .i64 0) ∧ (∃ v, Boxed W (w.heap.size + 1 + 1) 22 v ∧ W.ownsRow w.heap.size 38 3 v pre.length (cellsP pre) ∧ ∀ b, v.ownBlock = some b → w.heap.size + 1 + 1 + 1 < b) ∧ pre.all okP = true ∧ Below w.heap.size w W ∧ w.heap.size + 1 + 1 + 1 < W.heap.size
/-- A round has returned. -/
def RX (w : World) (l : List UInt8) : Code → List (List UInt8) → World → Prop
  | .ret, pre, W => Boxed W w.heap.size 22 (.slice none 0 0) ∧ Boxed W (w.heap.size + 1) 23 (.int .i64 3) ∧ (pre <+: linesL l → (linesL l).all okP = false) ∧ Below w.heap.size w W
  | _, _, _ => False
theorem RI_keep (w : World) (pre : List (List UInt8)) (W W' : World) (row : Option Nat) (B : Nat) (hB : w.heap.size + 1 + 1 + 1 < B) (h : RI w pre W) (hg : W.grownBy W' row) (hr : ∀ r, row = some r → r = w.heap.size + 1 + 1 + 1 ∨ B ≤ r ∧ ∃ o : Obj, W.heap[r]? = some o ∧ o.isCells = false) : RI w pre W' := by
  obtain ⟨h1, h2, ⟨v, h3, h4, h5⟩, h6, h7, h8⟩ := h
  have ne : ∀ g, g < w.heap.size + 1 + 1 + 1 → some g ≠ row := fun g hlt e => by rcases hr g e.symm with h | h <;> omega
  refine ⟨h1.kept hg (ne _ (by omega)), h2.kept hg (ne _ (by omega)), ⟨v, h3.kept hg (ne _ (by omega)), h4.kept hg ?_, h5⟩, h6, h7.grown hg h7.size (fun k e => ?_), Nat.lt_of_lt_of_le h8 hg.size⟩
  · rcases h4.2 with ⟨rfl, _⟩ | ⟨g, cap, cur, rfl, _, hgb, _⟩
    · exact .inl rfl
    · refine .inr fun e' => ?_
      have hown : (Value.slice (some ⟨g, 0, none⟩) pre.length cap).ownBlock = some g := by simp [Value.ownBlock]
      have h9 := h5 g hown
      rw [hown] at e'
      rcases hr g e'.symm with h | ⟨_, o, ho, hc⟩
      · omega
      · rw [hgb] at ho; cases ho; cases hc
  · rcases hr k e with h | h <;> omega
theorem RX_keep (w : World) (l : List UInt8) (j : Code) (pre : List (List UInt8)) (W W' : World) (row : Option Nat) (B : Nat) (hB : w.heap.size + 1 + 1 + 1 < B) (h : RX w l j pre W) (hg : W.grownBy W' row) (hr : ∀ r, row = some r → B ≤ r ∧ ∃ o : Obj, W.heap[r]? = some o ∧ o.isCells = false) : RX w l j pre W' := by
  have ne : ∀ g, g < w.heap.size + 1 + 1 + 1 → some g ≠ row := fun g hlt e => by have := (hr g e.symm).1; omega
  cases j with
  | ret =>
    obtain ⟨h1, h2, h6, h7⟩ := h
    exact ⟨h1.kept hg (ne _ (by omega)), h2.kept hg (ne _ (by omega)), h6, h7.grown hg h7.size (fun k e => by have := (hr k e).1; omega)⟩
  | _ => exact h
end Go.Proofs.YtgjedgfncopjlaaDoor.Lines
