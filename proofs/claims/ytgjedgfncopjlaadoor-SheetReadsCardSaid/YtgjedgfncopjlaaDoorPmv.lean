/- play.move: the move of a line, as far as it can be read. -/
import Derived.Test.YtgjedgfncopjlaaDoorPln
import Derived.Laws.Rows
namespace Go.Proofs.YtgjedgfncopjlaaDoor.Lines
open Go Go.RowKit Go.Shelf Go.Proofs.YtgjedgfncopjlaaDoorW.PrintWords Go.Proofs.YtgjedgfncopjlaaDoorW.PrintLast Go.Proofs.YtgjedgfncopjlaaDoorW.PrintMore
set_option linter.unusedVariables false
set_option linter.unusedSimpArgs false
/-- The kind whose word this is, of the first i kinds; 0: none. -/
def kindP (x : List UInt8) : Nat → Int
  | 0 => 0
  | i + 1 => if (formP i).1 = x then (i : Int) + 1 else kindP x i
/-- The numbers behind the word: the first one, the last one of the others. -/
def numsP : Nat → List (List UInt8) → Int → Int → Int × Int
  | _, [], a, k => (a, k)
  | 0, x :: r, a, k => numsP 1 r (atoiP x).1 k
  | i + 1, x :: r, a, k => numsP (i + 2) r a (atoiP x).1
def wordsP (l : List UInt8) : List (List UInt8) := splitL (Lib.trimSuffix l [10])
def moveP (l : List UInt8) : Int × Int × Int := (kindP ((wordsP l).headD []) 8, numsP 0 (wordsP l).tail 0 0)
theorem index_forms (j : Nat) (hj : j < 8) (w : World) : (Instr.index 56 (.agg formsC) (.int .i64 j)).run Tryd.prog w = .ok (.agg #[.string ⟨(formP j).1.toArray⟩, .bool (formP j).2.1, .bool (formP j).2.2]) w := by
  obtain rfl | rfl | rfl | rfl | rfl | rfl | rfl | rfl : j = 0 ∨ j = 1 ∨ j = 2 ∨ j = 3 ∨ j = 4 ∨ j = 5 ∨ j = 6 ∨ j = 7 := by omega
  all_goals kernel_rfl
abbrev mv (a b c : Int) : Obj := .cells #[.int .i64 a, .int .i64 b, .int .i64 c] 38
abbrev strs (ws : List (List UInt8)) : Obj := .cells (ws.map (fun x => Value.string ⟨x.toArray⟩)).toArray 9
def Rel1 (w : World) (ws : List (List UInt8)) (x0 : List UInt8) (v15 : Value) (w' : World) : Prop :=
  ∃ i : Nat, i ≤ 8 ∧ v15 = .int .i64 i ∧ w'.heap[w.heap.size]? = some (mv 0 0 0) ∧ w'.heap[w.heap.size + 1]? = some (mv (kindP x0 i) 0 0) ∧ w'.heap[w.heap.size + 1 + 1]? = some (strs ws) ∧ Below w.heap.size w w'
theorem split_le : ∀ (l x : List UInt8), x ∈ splitL l → x.length ≤ l.length
  | [], x, h => by
    simp [splitL] at h
    subst h
    simp
  | c :: r, x, h => by
    unfold splitL at h
    have ih := split_le r
    split at h
    · rcases List.mem_cons.1 h with rfl | h
      · simp
      · have := ih x h
        rw [List.length_cons]; omega
    · split at h
      · simp at h
        subst h
        simp
      · rename_i y ys he
        rcases List.mem_cons.1 h with rfl | h
        · have := ih y (by rw [he]; simp)
          rw [List.length_cons, List.length_cons]; omega
        · have := ih x (by rw [he]; exact List.mem_cons_of_mem _ h)
          rw [List.length_cons]; omega
theorem split_len : ∀ l : List UInt8, (splitL l).length ≤ l.length + 1
  | [] => by simp [splitL]
  | c :: r => by
    have ih := split_len r
    unfold splitL
    split
    · simp only [List.length_cons]; omega
    · split
      · simp
      · rename_i y ys he
        rw [he] at ih
        simp only [List.length_cons] at ih ⊢
        omega
def Rel2 (w : World) (ws : List (List UInt8)) (k : Int) (r : List (List UInt8)) (v32 : Value) (w' : World) : Prop :=
  ∃ (i : Nat) (a c : Int), i ≤ r.length ∧ v32 = .int .i64 i ∧ w'.heap[w.heap.size]? = some (mv 0 0 0) ∧ w'.heap[w.heap.size + 1]? = some (mv k a c) ∧ w'.heap[w.heap.size + 1 + 1]? = some (strs ws) ∧ Below w.heap.size w w' ∧ numsP i (r.drop i) a c = numsP 0 r 0 0
set_option maxRecDepth 100000 in
set_option maxHeartbeats 1000000 in
theorem move_calls (l : List UInt8) (hl : l.length < 4294967281) (w : World) (hv : Vars w) (hf : Forms w) : Calls Tryd.prog 12 #[.string ⟨l.toArray⟩] w fun e w' => e = .returned (.agg #[.int .i64 (moveP l).1, .int .i64 (moveP l).2.1, .int .i64 (moveP l).2.2]) ∧ Below w.heap.size w w' := by
  have hs : (⟨l.toArray⟩ : ByteArray).size = l.length := by rw [Lib.size_eq]
  have htl : (Lib.trimSuffix l [10]).length < 4294967281 := by
    unfold Lib.trimSuffix
    split
    · rw [List.length_take]; omega
    · exact hl
  have hm : moveP l = (kindP ((splitL (Lib.trimSuffix l [10])).headD []) 8, numsP 0 (splitL (Lib.trimSuffix l [10])).tail 0 0) := rfl
  have hne := splitL_ne (Lib.trimSuffix l [10])
  have HB0 := Lib.hid (below_alloc (below_alloc (Below.refl w.heap.size w) (.cells #[.int .i64 0, .int .i64 0, .int .i64 0] 38)) (.cells #[.int .i64 0, .int .i64 0, .int .i64 0] 38))
  have HV := Lib.hid (hv.below HB0.out hv.n9)
  have HF := Lib.hid (hf.below HB0.out hv.n9)
  have HN := Lib.hid hv.n9
  obtain ⟨ft, ffr, hf0⟩ := HF.out
  have SC := Lib.hid (split_calls (Lib.trimSuffix l [10]) htl _ HV.out)
  have hwl : ∀ x ∈ splitL (Lib.trimSuffix l [10]), x.length ≤ 281474976710656 := fun x hx => by have := split_le _ x hx; omega
  have hwn := split_len (Lib.trimSuffix l [10])
  have HV0 := Lib.hid hv
  clear hv hf
  generalize moveP l = M at *
  generalize splitL (Lib.trimSuffix l [10]) = ws at *
  obtain ⟨x0, r, rfl⟩ : ∃ x0 r, ws = x0 :: r := by
    cases ws with
    | nil => exact absurd rfl hne
    | cons x r => exact ⟨x, r, rfl⟩
  have HM := Lib.hid hm
  have HWL := Lib.hid hwl
  clear hm hne hwl
  go_enter Tryd.func12, Tryd.ntmps12
  go_wp2_with (first | (go_at_call 22; with_reducible refine (Tryd.strings_TrimSuffix ⟨l.toArray⟩ ⟨#[10]⟩ _ (by omega)).mono ?_; rintro e w1 ⟨rfl, rfl⟩) | (go_at_call 21; refine SC.out.mono ?_; rintro e w1 ⟨rfl, rfl⟩) | (with_reducible refine wpList_load_row rfl 56 (.global 0) rfl 0 rfl ft formsC ffr _ (blk_alloc hf0 _) Tryd.underlying56 rfl (by kernel_rfl) ?_))
  clear hf0
  go_loopw [15] (fun v15 w' => Rel1 w (x0 :: r) x0 v15 w') (fun v15 _ => 8 - (intOf v15).toNat)
  case atStart =>
    refine ⟨0, by omega, rfl, ?_, ?_, ?_, below_alloc HB0.out _⟩
    · exact blk_alloc (blk_alloc (blk_new _ _) _) _
    · exact blk_alloc (by have := blk_new (w.alloc (mv 0 0 0)) (mv 0 0 0); rwa [World.size_alloc] at this) _
    · have := blk_new ((w.alloc (mv 0 0 0)).alloc (mv 0 0 0)) (strs (x0 :: r)); rwa [World.size_alloc, World.size_alloc] at this
  case round =>
    obtain ⟨i, hi, rfl, b0, b1, b2, hB⟩ := hrel
    have B0 := Lib.hid b0
    have B1 := Lib.hid b1
    have B2 := Lib.hid b2
    have HB := Lib.hid hB
    have z2 : ∀ o, (wr.alloc o).cell? ⟨w.heap.size + 1 + 1, 0, none⟩ = some (.string ⟨x0.toArray⟩) := fun o => (blk_cell (blk_alloc b2 o) 0).trans (by simp)
    clear b0 b1 b2 hB
    rcases Nat.lt_or_ge i 8 with h8 | h8
    · have HI := index_forms i h8
      generalize hf : formP i = f at HI
      obtain ⟨wd, p, q⟩ := f
      simp only at HI
      have HF2 := Lib.hid hf
      clear hf
      have z1 : ∀ o, (wr.alloc o).cell? ⟨w.heap.size + 1, 0, none⟩ = some (.int .i64 (kindP x0 i)) := fun o => (blk_cell (blk_alloc B1.out o) 0).trans rfl
      have f1 : ∀ o, (wr.alloc o).frozen? ⟨w.heap.size + 1, 0, none⟩ = false := fun o => blk_frozen (blk_alloc B1.out o) 0
      by_cases hx : wd = x0
      · have e1 : (wd == x0) = true := by simpa using hx
        have HK : Aside0 (kindP x0 (i + 1) = (i : Int) + 1) := ⟨by unfold kindP; rw [HF2.out, if_pos hx]⟩
        clear hx
        go_wp2
        go_quiet (fail)
        go_wp2
        go_roundw
        case rel =>
          refine ⟨i + 1, by omega, by go_num, blk_far (blk_drewN (blk_alloc B0.out _) _) (by simp) _, ?_, blk_far (blk_drewN (blk_alloc B2.out _) _) (by simp) _, (pw_below_drewN (below_alloc HB.out _) _).setCell (by simp) _⟩
          rw [HK.out]
          exact (blk_set (blk_drewN (blk_alloc B1.out _) _) 0 _).trans rfl
        case measure => simp [intOf]; omega
      · have e1 : (wd == x0) = false := by simpa using hx
        have HK : Aside0 (kindP x0 (i + 1) = kindP x0 i) := ⟨by conv => lhs; unfold kindP
                                                                rw [HF2.out, if_neg hx]⟩
        clear hx
        go_wp2
        go_quiet (fail)
        go_wp2
        go_roundw
        case rel =>
          refine ⟨i + 1, by omega, by go_num, blk_drewN (blk_alloc B0.out _) _, ?_, blk_drewN (blk_alloc B2.out _) _, pw_below_drewN (below_alloc HB.out _) _⟩
          rw [HK.out]
          exact blk_drewN (blk_alloc B1.out _) _
        case measure => simp [intOf]; omega
    · obtain rfl : i = 8 := by omega
      rw [show ((8 : Nat) : Int) = 8 from rfl]
      have HM' : Aside0 (M = (kindP x0 8, numsP 0 r 0 0)) := ⟨HM.out⟩
      generalize kindP x0 8 = k at *
      clear HM
      rcases r with _ | ⟨y, r⟩
      · simp only [List.length_cons, List.length_nil]
        go_wp2
        go_loopw [32] (fun v32 w' => Rel2 w [x0] k [] v32 w') (fun v32 _ => 1 - (intOf v32).toNat)
        case atStart => exact ⟨0, 0, 0, by simp, rfl, B0.out, B1.out, B2.out, HB.out, rfl⟩
        case round =>
          clear B0 B1 B2 HB z2
          obtain ⟨i, a, c, hi, rfl, b0, b1, b2, hB, hq⟩ := hrel
          obtain rfl : i = 0 := by simpa using hi
          have HB := Lib.hid hB
          have d0 := (blk_cell b0 0).trans rfl
          have d1 := (blk_cell b0 1).trans rfl
          have d2 := (blk_cell b0 2).trans rfl
          have e0 := (blk_cell b1 0).trans rfl
          have e1 := (blk_cell b1 1).trans rfl
          have e2 := (blk_cell b1 2).trans rfl
          have f0 := blk_frozen b0 0
          have f1 := blk_frozen b0 1
          have f2 := blk_frozen b0 2
          have HQ := Lib.hid hq
          have B0 := Lib.hid b0
          clear hB hq b0 b1 b2
          go_wp2
          have hblk := blk_set (blk_set (blk_set B0.out 0 (.int .i64 k)) 1 (.int .i64 a)) 2 (.int .i64 c)
          have hbel := ((HB.out.setCell (p := ⟨w.heap.size, 0, none⟩) (Nat.le_refl _) (.int .i64 k)).setCell (p := ⟨w.heap.size, 1, none⟩) (Nat.le_refl _) (.int .i64 a)).setCell (p := ⟨w.heap.size, 2, none⟩) (Nat.le_refl _) (.int .i64 c)
          exact bodyPost_ret (results_cell_row rfl _ _ w.heap.size _ _ _ _ rfl hblk Tryd.underlying38 rfl (by kernel_rfl)) rfl ⟨by rw [HM'.out, ← HQ.out]; rfl, hbel⟩
      · simp only [List.length_cons] at hwn ⊢
        have hrl : r.length ≤ 4294967281 := by omega
        clear hwn
        go_wp2
        go_loopw [32] (fun v32 w' => Rel2 w (x0 :: y :: r) k (y :: r) v32 w') (fun v32 _ => (r.length + 1) - (intOf v32).toNat)
        case atStart => exact ⟨0, 0, 0, by omega, rfl, B0.out, B1.out, B2.out, HB.out, rfl⟩
        case round =>
          clear B0 B1 B2 HB z2
          obtain ⟨i, a, c, hi, rfl, b0, b1, b2, hB, hq⟩ := hrel
          have B0 := Lib.hid b0
          have B1 := Lib.hid b1
          have B2 := Lib.hid b2
          have HB := Lib.hid hB
          have HQ := Lib.hid hq
          rw [List.length_cons] at hi
          rcases Nat.lt_or_ge i (r.length + 1) with h8 | h8
          · have hxi : i < (y :: r).length := h8
            have z2 : wr.cell? ⟨w.heap.size + 1 + 1, 1 + i, none⟩ = some (.string ⟨((y :: r)[i]'hxi).toArray⟩) := (blk_cell b2 (1 + i)).trans (by rw [List.getElem?_toArray, List.getElem?_map, Nat.add_comm, List.getElem?_cons_succ, List.getElem?_eq_getElem hxi]; rfl)
            have HX : Aside0 ((y :: r).drop i = (y :: r)[i]'hxi :: (y :: r).drop (i + 1)) := ⟨List.drop_eq_getElem_cons hxi⟩
            have hxl : ((y :: r)[i]'hxi).length ≤ 281474976710656 := HWL.out _ (List.mem_cons_of_mem _ (List.getElem_mem hxi))
            generalize (y :: r)[i]'hxi = x at *
            clear b0 b1 b2 hB hq
            have AC := Lib.hid (atoi_calls x hxl wr (HV0.out.below HB.out HN.out))
            generalize hat : (atoiP x).1 = n at AC
            have HAT := Lib.hid hat
            clear hat
            rcases i with _ | i
            · rw [show ((0 : Nat) : Int) = 0 from rfl]
              go_wp2_with (go_at_call 23; with_reducible refine AC.out.mono ?_; rintro e w1 ⟨⟨er, rfl, -, -⟩, hb1⟩; have c1 := (blk_cell (blk_below B1.out hb1) 1).trans rfl; have f1 := blk_frozen (blk_below B1.out hb1) 1; replace hb1 := Lib.hid hb1)
              go_roundw
              case rel =>
                refine ⟨_, n, c, h8, rfl, blk_far (blk_below B0.out hb1.out) (by simp) _, ?_, blk_far (blk_below B2.out hb1.out) (by simp) _, (below_step HB.out hb1.out).setCell (by simp) _, ?_⟩
                · exact (blk_set (blk_below B1.out hb1.out) 1 _).trans rfl
                · have h1 := HQ.out
                  rw [HX.out] at h1
                  refine Eq.trans ?_ h1
                  simp only [numsP, HAT.out, Nat.zero_add]
              case measure => simp [intOf]
            · have e0 : (((i + 1 : Nat) : Int) == 0) = false := by rw [beq_eq_false_iff_ne]; omega
              go_wp2_with (go_at_call 23; with_reducible refine AC.out.mono ?_; rintro e w1 ⟨⟨er, rfl, -, -⟩, hb1⟩; have c1 := (blk_cell (blk_below B1.out hb1) 2).trans rfl; have f1 := blk_frozen (blk_below B1.out hb1) 2; replace hb1 := Lib.hid hb1)
              go_roundw
              case rel =>
                refine ⟨_, a, n, h8, rfl, blk_far (blk_below B0.out hb1.out) (by simp) _, ?_, blk_far (blk_below B2.out hb1.out) (by simp) _, (below_step HB.out hb1.out).setCell (by simp) _, ?_⟩
                · exact (blk_set (blk_below B1.out hb1.out) 2 _).trans rfl
                · have h1 := HQ.out
                  rw [HX.out] at h1
                  refine Eq.trans ?_ h1
                  simp only [numsP, HAT.out, Nat.zero_add]
              case measure => simp [intOf]; omega
          · obtain rfl : i = r.length + 1 := by omega
            have d0 := (blk_cell b0 0).trans rfl
            have d1 := (blk_cell b0 1).trans rfl
            have d2 := (blk_cell b0 2).trans rfl
            have e0 := (blk_cell b1 0).trans rfl
            have e1 := (blk_cell b1 1).trans rfl
            have e2 := (blk_cell b1 2).trans rfl
            have f0 := blk_frozen b0 0
            have f1 := blk_frozen b0 1
            have f2 := blk_frozen b0 2
            clear hB hq b0 b1 b2
            go_wp2
            have hblk := blk_set (blk_set (blk_set B0.out 0 (.int .i64 k)) 1 (.int .i64 a)) 2 (.int .i64 c)
            have hbel := ((HB.out.setCell (p := ⟨w.heap.size, 0, none⟩) (Nat.le_refl _) (.int .i64 k)).setCell (p := ⟨w.heap.size, 1, none⟩) (Nat.le_refl _) (.int .i64 a)).setCell (p := ⟨w.heap.size, 2, none⟩) (Nat.le_refl _) (.int .i64 c)
            exact bodyPost_ret (results_cell_row rfl _ _ w.heap.size _ _ _ _ rfl hblk Tryd.underlying38 rfl (by kernel_rfl)) rfl ⟨by rw [HM'.out, ← HQ.out, show (y :: r).drop (r.length + 1) = [] from List.drop_eq_nil_of_le (Nat.le_refl _)]; rfl, hbel⟩
end Go.Proofs.YtgjedgfncopjlaaDoor.Lines
