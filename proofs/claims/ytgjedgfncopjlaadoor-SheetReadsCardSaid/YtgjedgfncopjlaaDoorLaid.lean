/- From the row's listed variables to what the walks ask of the world. -/
import Derived.Test.YtgjedgfncopjlaaDoorVrs
import Derived.Test.YtgjedgfncopjlaaDoorRows
import Derived.Lib.LaidTab
import Derived.Lib.LaidIn
import Derived.Lib.LaidU8
import Derived.Stop.LaidErr
import Derived.Shelf.Vars
import Derived.Deep.Strs
namespace Go.Proofs.YtgjedgfncopjlaaDoor.Lines
open Go Go.RowKit Go.Shelf Go.Lib Go.Proofs.YtgjedgfncopjlaaDoorW.PrintWords Go.Proofs.YtgjedgfncopjlaaDoorW.PrintLast Go.Proofs.YtgjedgfncopjlaaDoorW.PrintMore
set_option linter.unusedVariables false
set_option linter.unusedSimpArgs false
theorem head_var {n : String} {d : DataW Unit} {W : World} (h : VarReads Tryd.prog W n d) {g : Nat} (hg : Tryd.prog.globalNamed n = some g) {t : TypeId} (ht : (Tryd.prog.globals[g]?).map (·.type) = some t) : ∃ cs fuel p, W.var? Tryd.prog n = some cs ∧ DataW.trod (fun _ => ()) Tryd.prog W 0 (fun _ => true) false fuel t cs.toList = some (d, p) := by
  obtain ⟨g', t', cs, fuel, p, h1, h2, h3, h4⟩ := h
  obtain rfl := Option.some.inj (hg.symm.trans h1)
  obtain rfl := Option.some.inj (ht.symm.trans h2)
  exact ⟨cs, fuel, p, h3, h4⟩
theorem err_cell {n : String} {nm : String} {d : DataW Unit} {W : World} (h : VarReads Tryd.prog W n (.iface nm d)) {g : Nat} (hg : Tryd.prog.globalNamed n = some g) {t : TypeId} (ht : (Tryd.prog.globals[g]?).map (·.type) = some t) {ms : Array (String × TypeId)} (hi : Tryd.prog.underlying t = some (.interface ms)) : ∃ ev, W.cell? ⟨g, 0, none⟩ = some ev ∧ IsErr ev := by
  obtain ⟨cs, fuel, p, hv, hd⟩ := head_var h hg ht
  have hc := World.var?_cell hg hv 0
  obtain ⟨l⟩ := cs
  cases fuel with
  | zero => simp [DataW.trod] at hd
  | succ n =>
    unfold DataW.trod at hd
    rw [hi] at hd
    split at hd <;> simp_all
    exact .inr ⟨_, _, rfl⟩
theorem vars_of {x0 x1 x3 : String × DataW Unit} {r : List (String × DataW Unit)} {W : World} (hL : laidMet Tryd.prog (x0 :: x1 :: ("internal/strconv.uint64pow10", Rows.laid_internal_strconv_uint64pow10) :: x3 :: ("strconv.ErrRange", Rows.laid_strconv_ErrRange) :: ("strconv.ErrSyntax", Rows.laid_strconv_ErrSyntax) :: r) W) (hsh : W.ShapedOpen Tryd.prog) : Vars W where
  n9 := by
    obtain ⟨cs, hh, _, _⟩ := hsh.1 8 _ _ (of_decide_eq_true (by kernel_rfl)) (show ((begin Tryd.prog (fun _ _ => 0) default).world.heap[8]?).bind Obj.row? = some ((Array.replicate 64 (.int .u8 0)), 124) by kernel_rfl)
    rcases Nat.lt_or_ge 8 W.heap.size with h | h
    · exact h
    · rw [Array.getElem?_eq_none h] at hh; cases hh
  mx := cell_of_shapedOpen_int (t := 3) (zero := #[.int .i64 0]) hsh (of_decide_eq_true (by kernel_rfl)) (by kernel_rfl) rfl (by kernel_rfl) (by kernel_rfl) (by kernel_rfl)
  es := err_cell (Lib.laidMet.reads hL (.tail _ (.tail _ (.tail _ (.tail _ (.tail _ (.head _))))))) (by kernel_rfl) (t := 58) (by kernel_rfl) (show Tryd.prog.underlying 58 = some (.interface #[("Error", 73)]) by kernel_rfl)
  er := err_cell (Lib.laidMet.reads hL (.tail _ (.tail _ (.tail _ (.tail _ (.head _)))))) (by kernel_rfl) (t := 58) (by kernel_rfl) (show Tryd.prog.underlying 58 = some (.interface #[("Error", 73)]) by kernel_rfl)
  tab := Lib.tabIs_of_head (g := 4) (n := 20) (t := 112) (e := 93) (by kernel_rfl) (by kernel_rfl) (by kernel_rfl) (by kernel_rfl) (by kernel_rfl) (by kernel_rfl) hL.tail.tail
end Go.Proofs.YtgjedgfncopjlaaDoor.Lines
