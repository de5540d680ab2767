/- strings.Lines: its call; the lengths of lines. -/
import Derived.Test.YtgjedgfncopjlaaDoorPmv
namespace Go.Proofs.YtgjedgfncopjlaaDoor.Lines
open Go Go.RowKit Go.Shelf Go.Proofs.YtgjedgfncopjlaaDoorW.PrintWords Go.Proofs.YtgjedgfncopjlaaDoorW.PrintLast Go.Proofs.YtgjedgfncopjlaaDoorW.PrintMore
set_option linter.unusedVariables false
set_option linter.unusedSimpArgs false
theorem Lines_calls (l : List UInt8) (w : World) : Calls Tryd.prog 11 #[.string ⟨l.toArray⟩] w fun e w' => e = .returned (.func (.func 19) #[] #[.pointer (some ⟨w.heap.size, 0, none⟩)]) ∧ w' = w.alloc (.cells #[.string ⟨l.toArray⟩] 9) := by
  go_enter Tryd.func11, Tryd.ntmps11
  go_wp2
  go_ret
  exact ⟨rfl, rfl⟩
theorem lines_le : ∀ (l x : List UInt8), x ∈ linesL l → x.length ≤ l.length
  | [], x, h => by simp [linesL] at h
  | c :: r, x, h => by
    unfold linesL at h
    have ih := lines_le r
    split at h
    · rcases List.mem_cons.1 h with rfl | h
      · simp
      · have := ih x h
        rw [List.length_cons]; omega
    · split at h
      · simp at h
        subst h
        simp
      · rename_i y ys he
        rcases List.mem_cons.1 h with rfl | h
        · have := ih y (by rw [he]; simp)
          rw [List.length_cons, List.length_cons]; omega
        · have := ih x (by rw [he]; exact List.mem_cons_of_mem _ h)
          rw [List.length_cons]; omega
theorem lines_len : ∀ l : List UInt8, (linesL l).length ≤ l.length
  | [] => by simp [linesL]
  | c :: r => by
    have ih := lines_len r
    unfold linesL
    split
    · simp only [List.length_cons]; omega
    · split
      · simp
      · rename_i y ys he
        rw [he] at ih
        simp only [List.length_cons] at ih ⊢
        omega
end Go.Proofs.YtgjedgfncopjlaaDoor.Lines
