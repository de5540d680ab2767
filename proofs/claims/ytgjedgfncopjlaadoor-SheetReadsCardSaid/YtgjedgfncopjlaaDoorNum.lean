/- sheet.numbers: its contract. -/
import Derived.Test.YtgjedgfncopjlaaDoorPmv
import Derived.Maps.AppendAt
namespace Go.Proofs.YtgjedgfncopjlaaDoor.Lines
open Go Go.RowKit Go.Shelf Go.Proofs.YtgjedgfncopjlaaDoorW.PrintWords Go.Proofs.YtgjedgfncopjlaaDoorW.PrintLast Go.Proofs.YtgjedgfncopjlaaDoorW.PrintMore
set_option linter.unusedVariables false
set_option linter.unusedSimpArgs false
/-- A word's number; what is none is -1. -/
def numN (x : List UInt8) : Int := if (atoiP x).2 = true then (atoiP x).1 else -1
def numP (l : List UInt8) : List Int := (wordsP l).map numN
def numC (ws : List (List UInt8)) : List Value := ws.map fun x => Value.int .i64 (numN x)
def RelN (w : World) (ws : List (List UInt8)) (v3 v12 : Value) (w' : World) : Prop :=
  ∃ i : Nat, i ≤ ws.length ∧ v12 = .int .i64 i ∧ w'.ownsRow (w.heap.size + 1) 3 1 v3 i (numC (ws.take i)) ∧ w'.heap[w.heap.size]? = some (strs ws) ∧ Below w.heap.size w w'
theorem info_int : (Tryd.prog.info? 3).map (fun i => (i.zero, i.size, i.bytes)) = some (some (.int .i64 0), 1, 8) := by kernel_rfl
set_option maxRecDepth 100000 in
set_option maxHeartbeats 2000000 in
theorem numbers_calls (l : List UInt8) (hl : l.length < 4294967281) (w : World) (hv : Vars w) : Calls Tryd.prog 15 #[.string ⟨l.toArray⟩] w fun e w' => (∃ g cap, e = .returned (.slice (some ⟨g, 0, none⟩) (numP l).length cap) ∧ w.heap.size ≤ g ∧ g < w'.heap.size ∧ ∀ j x, (numP l)[j]? = some x → w'.cell? ⟨g, j, none⟩ = some (.int .i64 x)) ∧ Below w.heap.size w w' := by
  obtain ⟨i0, hinf, hz0, hz1, hz2⟩ := info_parts info_int
  have hs : (⟨l.toArray⟩ : ByteArray).size = l.length := by rw [Lib.size_eq]
  have htl : (Lib.trimSuffix l [10]).length < 4294967281 := by
    unfold Lib.trimSuffix
    split
    · rw [List.length_take]; omega
    · exact hl
  have hm : numP l = (splitL (Lib.trimSuffix l [10])).map numN := rfl
  have hne := splitL_ne (Lib.trimSuffix l [10])
  have SC := Lib.hid (split_calls (Lib.trimSuffix l [10]) htl w hv)
  have hwl : ∀ x ∈ splitL (Lib.trimSuffix l [10]), x.length ≤ 281474976710656 := fun x hx => by have := split_le _ x hx; omega
  have hwn := split_len (Lib.trimSuffix l [10])
  have HV := Lib.hid hv
  clear hv
  generalize numP l = M at *
  generalize splitL (Lib.trimSuffix l [10]) = ws at *
  have HM := Lib.hid hm
  have HWL := Lib.hid hwl
  have HNE := Lib.hid hne
  have hwb : ws.length ≤ 4294967281 := by omega
  clear hm hne hwl hwn
  go_enter Tryd.func15, Tryd.ntmps15
  go_wp2_with (first | (go_at_call 22; with_reducible refine (Tryd.strings_TrimSuffix ⟨l.toArray⟩ ⟨#[10]⟩ _ (by omega)).mono ?_; rintro e w1 ⟨rfl, hw⟩; subst w1) | (go_at_call 21; refine SC.out.mono ?_; rintro e w1 ⟨rfl, rfl⟩))
  go_loopw [3, 12] (fun v3 v12 w' => RelN w ws v3 v12 w') (fun _ v12 _ => ws.length - (intOf v12).toNat)
  case atStart => exact ⟨0, by omega, rfl, World.ownsRow_nil _ _ _ _, blk_new _ _, below_alloc (Below.refl _ _) _⟩
  case round =>
    obtain ⟨i, hi, rfl, hown, hb, hB⟩ := hrel
    have HOW := Lib.hid hown
    have HBk := Lib.hid hb
    have HB := Lib.hid hB
    clear hB
    rcases Nat.lt_or_ge i ws.length with h8 | h8
    · have z2 : wr.cell? ⟨w.heap.size, i, none⟩ = some (.string ⟨(ws[i]'h8).toArray⟩) := (blk_cell hb i).trans (by simp [h8])
      have HT : Aside0 (ws.take (i + 1) = ws.take i ++ [ws[i]'h8]) := ⟨by simp⟩
      have hxl : (ws[i]'h8).length ≤ 281474976710656 := HWL.out _ (List.getElem_mem h8)
      generalize ws[i]'h8 = x at *
      have AC := Lib.hid (atoi_calls x hxl wr (HV.out.below HB.out HV.out.n9))
      have HN : Aside0 (numN x = if (atoiP x).2 = true then (atoiP x).1 else -1) := ⟨rfl⟩
      clear hb hown
      generalize atoiP x = ap at AC HN
      obtain ⟨n, ok⟩ := ap
      simp only at AC HN
      have step : ∀ (m : Int) (w1 : World) (hm : numN x = m) (hb1 : Below wr.heap.size wr w1) (v' : Value) (w2 : World), w2.ownsRow (w.heap.size + 1) 3 1 v' (i + 1) (numC (ws.take i) ++ [.int .i64 m]) → (w1.alloc (.cells #[.int .i64 m] 3)).grownBy w2 u3.ownBlock → RelN w ws v' (.int .i64 ((i : Int) + 1)) w2 := by
        intro m w1 hm hb1 v' w2 ho hg
        have hne : u3.ownBlock ≠ some w.heap.size := fun e => by have := (HOW.out.lt w.heap.size e).1; omega
        have hlt : w.heap.size < wr.heap.size := (Array.getElem?_eq_some_iff.1 HBk.out).1
        refine ⟨i + 1, h8, by go_num, ?_, ?_, ?_⟩
        · rw [HT.out, numC, List.map_append, List.map_singleton, hm]
          exact ho
        · rw [hg.block w.heap.size (by have := hb1.size; simp; omega) (fun e => hne e.symm)]
          exact blk_alloc ((hb1.block _ hlt).trans HBk.out) _
        · exact (below_alloc (below_step HB.out hb1) _).grown hg (by have := hb1.size; have := HB.out.size; simp; omega) (fun k hk => by have := (HOW.out.lt k hk).1; omega)
      have STEP := Lib.hid step
      clear step
      cases ok with
      | true =>
        go_wp2_with (first
          | (go_at_call 23; with_reducible refine AC.out.mono ?_; rintro e w1 ⟨⟨er, rfl, h1, -⟩, hb1⟩; obtain rfl := h1 rfl; clear h1; have ho1 := HOW.out.kept (grown_of_below hb1 none) (Classical.em _); replace ho1 := Lib.hid ho1; replace hb1 := Lib.hid hb1)
          | (at_builtin; refine wpList_append_own_at _ rfl (.tmp 23) (.tmp 25) 42 rfl (w.heap.size + 1) 3 i0 (.int .i64 0) 1 8 Tryd.underlying42 hinf hz0 hz1 hz2 rfl (by decide) u3 i (numC (ws.take i)) rfl (ho1.out.alloc _) ⟨w1.heap.size, 0, none⟩ 1 1 [.int .i64 n] rfl rfl ?c1 ?c2 ?c3 ?c4 ?c5 ?_; rotate_left 5; intro v' w2 hown' hgrow _ _; replace hown' := Lib.hid hown'; replace hgrow := Lib.hid hgrow))
        case c1 =>
          intro j u hj
          match j, hj with
          | 0, hj => simp at hj; subst hj; simp [Addr.add]
        case c2 => intro u hu; simp at hu; subst hu; rfl
        case c3 => unfold maxLen; omega
        case c4 => omega
        case c5 => have := hb1.out.size; have := HB.out.size; have := (Array.getElem?_eq_some_iff.1 HBk.out).1; simp; omega
        go_roundw
        case rel => exact STEP.out n w1 (by rw [HN.out]; simp) hb1.out _ w2 hown'.out hgrow.out
        case measure => simp [intOf]; omega
      | false =>
        go_wp2_with (first
          | (go_at_call 23; with_reducible refine AC.out.mono ?_; rintro e w1 ⟨⟨er, rfl, -, h1⟩, hb1⟩; obtain ⟨N, rfl⟩ := h1 rfl; clear h1; have ho1 := HOW.out.kept (grown_of_below hb1 none) (Classical.em _); replace ho1 := Lib.hid ho1; replace hb1 := Lib.hid hb1)
          | (at_builtin; refine wpList_append_own_at _ rfl (.tmp 23) (.tmp 25) 42 rfl (w.heap.size + 1) 3 i0 (.int .i64 0) 1 8 Tryd.underlying42 hinf hz0 hz1 hz2 rfl (by decide) u3 i (numC (ws.take i)) rfl (ho1.out.alloc _) ⟨w1.heap.size, 0, none⟩ 1 1 [.int .i64 (-1)] rfl rfl ?c1 ?c2 ?c3 ?c4 ?c5 ?_; rotate_left 5; intro v' w2 hown' hgrow _ _; replace hown' := Lib.hid hown'; replace hgrow := Lib.hid hgrow))
        case c1 =>
          intro j u hj
          match j, hj with
          | 0, hj => simp at hj; subst hj; simp [Addr.add]
        case c2 => intro u hu; simp at hu; subst hu; rfl
        case c3 => unfold maxLen; omega
        case c4 => omega
        case c5 => have := hb1.out.size; have := HB.out.size; have := (Array.getElem?_eq_some_iff.1 HBk.out).1; simp; omega
        go_roundw
        case rel => exact STEP.out (-1) w1 (by rw [HN.out]; simp) hb1.out _ w2 hown'.out hgrow.out
        case measure => simp [intOf]; omega
    · obtain rfl : i = ws.length := by omega
      rw [List.take_length] at hown
      obtain ⟨g, cap, cur, rfl, hg, hgb⟩ : ∃ g cap cur, u3 = .slice (some ⟨g, 0, none⟩) ws.length cap ∧ w.heap.size + 1 ≤ g ∧ wr.heap[g]? = some cur := by
        rcases hown.2 with ⟨_, h0⟩ | ⟨g, cap, cur, hv, hg, hgb, _⟩
        · exact absurd (List.eq_nil_of_length_eq_zero h0) HNE.out
        · exact ⟨g, cap, _, hv, hg, hgb⟩
      have HCl := Lib.hid (hown.cells (g := g) rfl)
      clear hown hb
      go_wp2
      go_ret
      refine ⟨⟨g, cap, ?_, by omega, (Array.getElem?_eq_some_iff.1 hgb).1, fun j x hx => ?_⟩, HB.out⟩
      · rw [HM.out, List.length_map]; rfl
      · have h := HCl.out j (.int .i64 x) (by rw [numC]; rw [HM.out] at hx; rw [List.getElem?_map] at hx ⊢; cases h : ws[j]? with
          | none => rw [h] at hx; cases hx
          | some y => rw [h] at hx; simp only [Option.map_some, Option.some.injEq] at hx ⊢; rw [hx])
        have ea : (⟨g, 0, none⟩ : Addr).add j = ⟨g, j, none⟩ := by
          unfold Addr.add
          split <;> simp_all
        rwa [ea] at h
end Go.Proofs.YtgjedgfncopjlaaDoor.Lines
