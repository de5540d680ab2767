/- From the row's listed variable play.forms to what the walk of PlayReads asks of it. -/
import Derived.Test.YtgjedgfncopjlaaDoorLaid
import Derived.Test.YtgjedgfncopjlaaDoorPln
namespace Go.Proofs.YtgjedgfncopjlaaDoor.Lines
open Go Go.RowKit Go.Shelf Go.Lib Go.Proofs.YtgjedgfncopjlaaDoorW.PrintWords Go.Proofs.YtgjedgfncopjlaaDoorW.PrintLast Go.Proofs.YtgjedgfncopjlaaDoorW.PrintMore
set_option linter.unusedVariables false
set_option linter.unusedSimpArgs false
theorem str_eq {s : ByteArray} {l : List UInt8} (h : s.data.toList = l) : s = ⟨l.toArray⟩ := by
  obtain ⟨⟨a⟩⟩ := s
  simp at h
  subst h
  rfl
theorem list3 {α : Type} : ∀ {l : List α}, l.length = 3 → ∃ a b c, l = [a, b, c]
  | [a, b, c], _ => ⟨a, b, c, rfl⟩
theorem form_struct {W : World} {fuel : Nat} {cs : List Value} {p : List MemPlace} {l : List UInt8} {a b : Bool} (h : DataW.trod (fun _ => ()) Tryd.prog W 0 (fun _ => true) false fuel 55 cs = some (.agg [.lit (.string l), .lit (.bool a), .lit (.bool b)], p)) :
    cs = [.string ⟨l.toArray⟩, .bool a, .bool b] := by
  have hu : Tryd.prog.underlying 55 = some (.struct #[⟨ "word", 9, 0, false, "", "paceline/play", 0⟩, ⟨ "at", 4, 1, false, "", "paceline/play", 16⟩, ⟨ "keep", 4, 2, false, "", "paceline/play", 17⟩]) := by kernel_rfl
  have hc : Tryd.prog.cellsOf 55 = 3 := by kernel_rfl
  have c9 : Tryd.prog.cellsOf 9 = 1 := by kernel_rfl
  have c4 : Tryd.prog.cellsOf 4 = 1 := by kernel_rfl
  obtain ⟨y0, y1, y2, n, hx, hl, h0, h1, h2⟩ := Go.Deep.trod_struct3 hu h
  rw [hc] at hl
  obtain ⟨e0, e1, e2, rfl⟩ := list3 hl
  have k0 : DataW.trod (fun _ => ()) Tryd.prog W 0 (fun _ => true) false n 9 [e0] = some y0 := Eq.mp (congrArg (fun m => DataW.trod (fun _ => ()) Tryd.prog W 0 (fun _ => true) false n 9 ((([e0, e1, e2]).drop 0).take m) = some y0) c9) h0
  have k1 : DataW.trod (fun _ => ()) Tryd.prog W 0 (fun _ => true) false n 4 [e1] = some y1 := Eq.mp (congrArg (fun m => DataW.trod (fun _ => ()) Tryd.prog W 0 (fun _ => true) false n 4 ((([e0, e1, e2]).drop 1).take m) = some y1) c4) h1
  have k2 : DataW.trod (fun _ => ()) Tryd.prog W 0 (fun _ => true) false n 4 [e2] = some y2 := Eq.mp (congrArg (fun m => DataW.trod (fun _ => ()) Tryd.prog W 0 (fun _ => true) false n 4 ((([e0, e1, e2]).drop 2).take m) = some y2) c4) h2
  clear h0 h1 h2 hu hc h
  obtain ⟨s, z0, rfl, -⟩ := DataW.trod_string (by kernel_rfl) k0
  obtain ⟨b1, z1, rfl⟩ := DataW.trod_bool (by kernel_rfl) k1
  obtain ⟨b2, z2, rfl⟩ := DataW.trod_bool (by kernel_rfl) k2
  simp only [List.cons.injEq, and_true] at z0 z1 z2
  subst z0 z1 z2
  simp only [Prod.mk.injEq, DataW.agg.injEq, List.cons.injEq, DataW.lit.injEq, Lit.string.injEq, Lit.bool.injEq, and_true] at hx
  obtain ⟨⟨e, rfl, rfl⟩, -⟩ := hx
  rw [str_eq e.symm]
theorem forms_of {W : World} (h : VarReads Tryd.prog W "paceline/play.forms" Rows.laid_paceline_play_forms) : Forms W := by
  have hg : Tryd.prog.globalNamed "paceline/play.forms" = some 0 := by kernel_rfl
  obtain ⟨cs, fuel, p, hv, hd⟩ := head_var h hg (t := 56) (by kernel_rfl)
  have hu : Tryd.prog.underlying 56 = some (.array 8 55) := by kernel_rfl
  have hc : Tryd.prog.cellsOf 55 = 3 := by kernel_rfl
  have hc8 : Tryd.prog.cellsOf 56 = 24 := by kernel_rfl
  have hl : cs.toList.length = 24 := by
    cases fuel with
    | zero => simp [DataW.trod] at hd
    | succ fuel =>
      simp only [DataW.trod, hu, hc8] at hd
      split at hd
      · assumption
      · cases hd
  have hcs : cs = formsC := by
    obtain ⟨l⟩ := cs
    simp only at hl hd
    have e : ∀ j, j < 8 → (l.drop (j * 3)).take 3 = [.string ⟨(formP j).1.toArray⟩, .bool (formP j).2.1, .bool (formP j).2.2] := by
      intro j hj
      obtain ⟨f', d, q, hdi, he⟩ := array_elem hu hd j hj
      rw [hc] at he
      obtain rfl | rfl | rfl | rfl | rfl | rfl | rfl | rfl : j = 0 ∨ j = 1 ∨ j = 2 ∨ j = 3 ∨ j = 4 ∨ j = 5 ∨ j = 6 ∨ j = 7 := by omega
      all_goals
        (obtain rfl := Option.some.inj hdi
         exact form_struct he)
    have hj : l = (List.range 8).flatMap fun j => (l.drop (j * 3)).take 3 := by
      match l, hl with
      | [_, _, _, _, _, _, _, _, _, _, _, _, _, _, _, _, _, _, _, _, _, _, _, _], _ => rfl
    rw [hj]
    show Array.mk ((l.drop (0 * 3)).take 3 ++ ((l.drop (1 * 3)).take 3 ++ ((l.drop (2 * 3)).take 3 ++ ((l.drop (3 * 3)).take 3 ++ ((l.drop (4 * 3)).take 3 ++ ((l.drop (5 * 3)).take 3 ++ ((l.drop (6 * 3)).take 3 ++ ((l.drop (7 * 3)).take 3 ++ [])))))))) = _
    rw [e 0 (by omega), e 1 (by omega), e 2 (by omega), e 3 (by omega), e 4 (by omega), e 5 (by omega), e 6 (by omega), e 7 (by omega)]
    rfl
  unfold World.var? at hv
  rw [hg] at hv
  simp only [Option.bind_some] at hv
  split at hv
  · rename_i c t fr hh
    cases hv
    subst hcs
    exact ⟨t, fr, hh⟩
  · cases hv
end Go.Proofs.YtgjedgfncopjlaaDoor.Lines
