/- sheet.Read: graphs of a text (what holds between two rounds). -/
import Derived.Test.YtgjedgfncopjlaaDoorNum
import Derived.Test.YtgjedgfncopjlaaDoorShw
import Derived.Test.YtgjedgfncopjlaaDoorRin
import Derived.Maps.OwnIn
import Derived.Maps.AppendAt
namespace Go.Proofs.YtgjedgfncopjlaaDoor.Lines
open Go Go.RowKit Go.Shelf Go.Proofs.YtgjedgfncopjlaaDoorW.PrintWords Go.Proofs.YtgjedgfncopjlaaDoorW.PrintLast Go.Proofs.YtgjedgfncopjlaaDoorW.PrintMore
set_option linter.unusedVariables false
set_option linter.unusedSimpArgs false
/-- The first line's number. -/
def nG (pre : List (List UInt8)) : Int := match pre with
  | [] => 0
  | x :: _ => (numP x).headD 0
def edgeL (x : List UInt8) : List Ed := match numP x with
  | [a, b, c] => [⟨a, b, c⟩]
  | _ => []
/-- The other lines' edges. -/
def esG (pre : List (List UInt8)) : List Ed := pre.tail.flatMap edgeL
theorem nG_snoc (pre : List (List UInt8)) (x : List UInt8) (h : pre ≠ []) : nG (pre ++ [x]) = nG pre := by
  match pre, h with
  | y :: r, _ => rfl
theorem esG_snoc (pre : List (List UInt8)) (x : List UInt8) (h : pre ≠ []) : esG (pre ++ [x]) = esG pre ++ edgeL x := by
  match pre, h with
  | y :: r, _ => simp [esG]
theorem numP_ne (x : List UInt8) : numP x ≠ [] := by
  unfold numP wordsP
  intro h
  exact splitL_ne _ (List.map_eq_nil_iff.1 h)
def cellsE (es : List Ed) : List Value := es.flatMap fun e => [.int .i64 e.f0, .int .i64 e.f1, .int .i64 e.f2]
theorem cellsE_snoc (es : List Ed) (e : Ed) : cellsE (es ++ [e]) = cellsE es ++ [.int .i64 e.f0, .int .i64 e.f1, .int .i64 e.f2] := by simp [cellsE]
abbrev gC (n : Int) (v : Value) : Obj := .cells #[.int .i64 n, v] 30
/-- Between two rounds. -/
def RG (w : World) (pre : List (List UInt8)) (W : World) : Prop :=
  W.heap[w.heap.size]? = some (gC 0 (.slice none 0 0)) ∧ (∃ v, W.heap[w.heap.size + 1]? = some (gC (nG pre) v) ∧ W.ownsRow w.heap.size 45 3 v (esG pre).length (cellsE (esG pre)) ∧ ∀ b, v.ownBlock = some b → w.heap.size + 1 + 1 + 1 < b) ∧
    W.heap[w.heap.size + 1 + 1]? = some (.cells #[.bool pre.isEmpty] 4) ∧ Below w.heap.size w W ∧ w.heap.size + 1 + 1 + 1 < W.heap.size
theorem grownBy_set (W : World) (b i : Nat) (v : Value) : W.grownBy (W.setCell ⟨b, i, none⟩ v) (some b) := by
  have h := grownBy_setCell' W b v
  exact ⟨rfl, rfl, rfl, by simp, fun k _ hn => Below.heap_setCell _ _ _ k (fun e => hn (by rw [e]))⟩
theorem blk_kept {W W' : World} {row : Option Nat} {k : Nat} {o : Obj} (h : W.heap[k]? = some o) (hg : W.grownBy W' row) (hn : some k ≠ row) : W'.heap[k]? = some o := (hg.block k (Array.getElem?_eq_some_iff.1 h).1 hn).trans h
theorem RG_keep (w : World) (pre : List (List UInt8)) (W W' : World) (row : Option Nat) (B : Nat) (hB : w.heap.size + 1 + 1 + 1 < B) (h : RG w pre W) (hg : W.grownBy W' row) (hr : ∀ r, row = some r → r = w.heap.size + 1 + 1 + 1 ∨ B ≤ r ∧ ∃ o : Obj, W.heap[r]? = some o ∧ o.isCells = false) : RG w pre W' := by
  obtain ⟨h1, ⟨v, h3, h4, h5⟩, h2, h7, h8⟩ := h
  have ne : ∀ g, g < w.heap.size + 1 + 1 + 1 → some g ≠ row := fun g hlt e => by rcases hr g e.symm with h | h <;> omega
  refine ⟨blk_kept h1 hg (ne _ (by omega)), ⟨v, blk_kept h3 hg (ne _ (by omega)), h4.kept hg ?_, h5⟩, blk_kept h2 hg (ne _ (by omega)), h7.grown hg h7.size (fun k e => ?_), Nat.lt_of_lt_of_le h8 hg.size⟩
  · rcases h4.2 with ⟨rfl, _⟩ | ⟨g, cap, cur, rfl, _, hgb, _⟩
    · exact .inl rfl
    · refine .inr fun e' => ?_
      have hown : (Value.slice (some ⟨g, 0, none⟩) (esG pre).length cap).ownBlock = some g := by simp [Value.ownBlock]
      have h9 := h5 g hown
      rw [hown] at e'
      rcases hr g e'.symm with h | ⟨_, o, ho, hc⟩
      · omega
      · rw [hgb] at ho; cases ho; cases hc
  · rcases hr k e with h | h <;> omega
/-- A round's end: a call that turned nothing of what was there. -/
theorem keeps_below {W w1 : World} (B : Nat) (h : Below W.heap.size W w1) : KeepsFrom B W w1 := (KeepsOthers.of_grownBy (row := none) (grown_of_below h none) (fun j o e => by cases e)).from _
theorem RG_first (w W w1 : World) (x : List UInt8) (n : Int) (B : Nat) (hn : (numP x).headD 0 = n) (h : RG w [] W) (hb : Below W.heap.size W w1) :
    KeepsFrom B W ((w1.setCell ⟨w.heap.size + 1, 0, none⟩ (.int .i64 n)).setCell ⟨w.heap.size + 1 + 1, 0, none⟩ (.bool false)) ∧ ((w1.setCell ⟨w.heap.size + 1, 0, none⟩ (.int .i64 n)).setCell ⟨w.heap.size + 1 + 1, 0, none⟩ (.bool false)).heap[w.heap.size + 1 + 1 + 1]? = W.heap[w.heap.size + 1 + 1 + 1]? ∧ RG w ([] ++ [x]) ((w1.setCell ⟨w.heap.size + 1, 0, none⟩ (.int .i64 n)).setCell ⟨w.heap.size + 1 + 1, 0, none⟩ (.bool false)) := by
  obtain ⟨h1, ⟨v, h3, h4, h5⟩, h2, h7, h8⟩ := h
  have far : ∀ k o, k ≠ w.heap.size + 1 → k ≠ w.heap.size + 1 + 1 → W.heap[k]? = some o → ((w1.setCell ⟨w.heap.size + 1, 0, none⟩ (.int .i64 n)).setCell ⟨w.heap.size + 1 + 1, 0, none⟩ (.bool false)).heap[k]? = some o := fun k o hk1 hk2 hk => by
    rw [Below.heap_setCell _ _ _ k hk2, Below.heap_setCell _ _ _ k hk1]
    exact blk_below hk hb
  have g1 : w1.grownBy (w1.setCell ⟨w.heap.size + 1, 0, none⟩ (.int .i64 n)) (some (w.heap.size + 1)) := grownBy_setCell' w1 _ _
  have g2 : (w1.setCell ⟨w.heap.size + 1, 0, none⟩ (.int .i64 n)).grownBy ((w1.setCell ⟨w.heap.size + 1, 0, none⟩ (.int .i64 n)).setCell ⟨w.heap.size + 1 + 1, 0, none⟩ (.bool false)) (some (w.heap.size + 1 + 1)) := grownBy_setCell' _ _ _
  refine ⟨⟨?_, fun k o hk hko ho => ?_⟩, ?_, ?_⟩
  · exact Nat.le_trans hb.size (Nat.le_trans g1.size g2.size)
  · refine far k o ?_ ?_ hko
    · rintro rfl; rw [h3] at hko; cases hko; cases ho
    · rintro rfl; rw [h2] at hko; cases hko; cases ho
  · obtain ⟨o, ho⟩ : ∃ o, W.heap[w.heap.size + 1 + 1 + 1]? = some o := ⟨_, Array.getElem?_eq_getElem h8⟩
    rw [ho]
    exact far _ o (by omega) (by omega) ho
  · refine ⟨far _ _ (by omega) (by omega) h1, ⟨v, ?_, ?_, h5⟩, ?_, ?_, ?_⟩
    · refine (Below.heap_setCell _ _ _ _ (by simp)).trans ?_
      refine (blk_set (blk_below h3 hb) 0 _).trans ?_
      rw [show nG ([] ++ [x]) = n from hn]
      rfl
    · have h6 : w1.ownsRow w.heap.size 45 3 v (esG []).length (cellsE (esG [])) := h4.kept (grown_of_below hb none) (Classical.em _)
      have hne : ∀ k, k ≤ w.heap.size + 1 + 1 + 1 → v.ownBlock ≠ some k := fun k hk e => by have := h5 k e; omega
      exact (h6.kept g1 (.inr (hne _ (by omega)))).kept g2 (.inr (hne _ (by omega)))
    · refine (blk_set (blk_far (blk_below h2 hb) (by simp) _) 0 _).trans ?_
      simp
    · exact ((below_step h7 hb).setCell (p := ⟨w.heap.size + 1, 0, none⟩) (by simp) _).setCell (p := ⟨w.heap.size + 1 + 1, 0, none⟩) (by simp; omega) _
    · exact Nat.lt_of_lt_of_le h8 (Nat.le_trans hb.size (Nat.le_trans g1.size g2.size))
theorem RG_skip (w W w1 : World) (pre : List (List UInt8)) (x : List UInt8) (B : Nat) (hp : pre ≠ []) (hx : edgeL x = []) (h : RG w pre W) (hb : Below W.heap.size W w1) :
    KeepsFrom B W w1 ∧ w1.heap[w.heap.size + 1 + 1 + 1]? = W.heap[w.heap.size + 1 + 1 + 1]? ∧ RG w (pre ++ [x]) w1 := by
  obtain ⟨h1, ⟨v, h3, h4, h5⟩, h2, h7, h8⟩ := h
  refine ⟨keeps_below B hb, hb.block _ h8, blk_below h1 hb, ⟨v, ?_, ?_, h5⟩, ?_, below_step h7 hb, Nat.lt_of_lt_of_le h8 hb.size⟩
  · rw [nG_snoc _ _ hp]; exact blk_below h3 hb
  · rw [esG_snoc _ _ hp, hx, List.append_nil]
    exact h4.kept (grown_of_below hb none) (Classical.em _)
  · have : (pre ++ [x]).isEmpty = pre.isEmpty := by
      match pre, hp with
      | y :: r, _ => rfl
    rw [this]; exact blk_below h2 hb
theorem RG_add (w W w1 w3 : World) (pre : List (List UInt8)) (x : List UInt8) (e : Ed) (v v' : Value) (B : Nat) (tmp : Obj) (hp : pre ≠ []) (hx : edgeL x = [e]) (h : RG w pre W) (hb : Below W.heap.size W w1)
    (hv : W.heap[w.heap.size + 1]? = some (gC (nG pre) v)) (hvb : ∀ b, v.ownBlock = some b → w.heap.size + 1 + 1 + 1 < b)
    (hown' : w3.ownsRow w.heap.size 45 3 v' ((esG pre).length + 1) (cellsE (esG pre) ++ [.int .i64 e.f0, .int .i64 e.f1, .int .i64 e.f2])) (hgrow : (w1.alloc tmp).grownBy w3 v.ownBlock) (hat : v'.ownBlock = v.ownBlock ∨ v'.ownBlock = some (w1.alloc tmp).heap.size)
    (hcell : ∀ b, v.ownBlock = some b → ∃ c t f, W.heap[b]? = some (.cells c t f)) :
    KeepsFrom B W (w3.setCell ⟨w.heap.size + 1, 1, none⟩ v') ∧ (w3.setCell ⟨w.heap.size + 1, 1, none⟩ v').heap[w.heap.size + 1 + 1 + 1]? = W.heap[w.heap.size + 1 + 1 + 1]? ∧ RG w (pre ++ [x]) (w3.setCell ⟨w.heap.size + 1, 1, none⟩ v') := by
  obtain ⟨h1, -, h2, h7, h8⟩ := h
  have hne : ∀ g, g ≤ w.heap.size + 1 + 1 + 1 → some g ≠ v.ownBlock := fun g hg e => by have := hvb g e.symm; omega
  have hne' : ∀ g, g ≤ w.heap.size + 1 + 1 + 1 → some g ≠ v'.ownBlock := fun g hg e => by
    rcases hat with h | h
    · rw [h] at e; exact hne g hg e
    · rw [h] at e
      injection e with e
      have := hb.size
      simp at e
      omega
  have hsz : W.heap.size ≤ w3.heap.size := by have h1 := hb.size; have h2 := hgrow.size; simp at h2; omega
  have up : ∀ k, k < W.heap.size → some k ≠ v.ownBlock → w3.heap[k]? = W.heap[k]? := fun k hk hn =>
    (hgrow.block k (by have := hb.size; simp; omega) hn).trans ((Below.heap_alloc w1 tmp k (by have := hb.size; omega)).trans (hb.block k hk))
  have far : ∀ k, k ≠ w.heap.size + 1 → (w3.setCell ⟨w.heap.size + 1, 1, none⟩ v').heap[k]? = w3.heap[k]? := fun k hk => Below.heap_setCell _ _ _ k hk
  have g2 : w3.grownBy (w3.setCell ⟨w.heap.size + 1, 1, none⟩ v') (some (w.heap.size + 1)) := grownBy_set w3 _ _ v'
  refine ⟨⟨Nat.le_trans hsz g2.size, fun k o hk hko ho => ?_⟩, ?_, ?_⟩
  · have hk1 : k ≠ w.heap.size + 1 := by
      rintro rfl
      rw [hv] at hko
      cases hko
      cases ho
    rw [far k hk1, up k (Array.getElem?_eq_some_iff.1 hko).1 ?_]
    · exact hko
    · intro e
      obtain ⟨c, t, f, hc⟩ := hcell k e.symm
      rw [hc] at hko; cases hko; cases ho
  · rw [far _ (by omega), up _ h8 (hne _ (by omega))]
  · refine ⟨?_, ⟨v', ?_, ?_, fun b hb => ?_⟩, ?_, ?_, ?_⟩
    · exact (far _ (by omega)).trans ((up _ (Array.getElem?_eq_some_iff.1 h1).1 (hne _ (by omega))).trans h1)
    · rw [nG_snoc _ _ hp]
      exact (blk_set ((up _ (Array.getElem?_eq_some_iff.1 hv).1 (hne _ (by omega))).trans hv) 1 _).trans rfl
    · rw [esG_snoc _ _ hp, hx, cellsE_snoc, List.length_append, List.length_singleton]
      exact hown'.kept g2 (.inr (hne' _ (by omega)).symm)
    · have := hne' b
      rcases Nat.lt_or_ge (w.heap.size + 1 + 1 + 1) b with h | h
      · exact h
      · exact absurd hb.symm (this h)
    · have : (pre ++ [x]).isEmpty = pre.isEmpty := by
        match pre, hp with
        | y :: r, _ => rfl
      rw [this]
      exact (far _ (by omega)).trans ((up _ (Array.getElem?_eq_some_iff.1 h2).1 (hne _ (by omega))).trans h2)
    · refine (((below_step h7 hb).alloc (Nat.le_trans h7.size hb.size) tmp).grown hgrow (by have := hb.size; have := h7.size; simp; omega) fun j ej => ?_).setCell (p := ⟨w.heap.size + 1, 1, none⟩) (by simp) v'
      have := hvb j ej
      omega
    · exact Nat.lt_of_lt_of_le h8 (Nat.le_trans hsz g2.size)
end Go.Proofs.YtgjedgfncopjlaaDoor.Lines
