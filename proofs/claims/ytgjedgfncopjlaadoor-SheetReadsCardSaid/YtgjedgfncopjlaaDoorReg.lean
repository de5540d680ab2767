/- Regions that draw their order, walked by a plan: operations that yield are taken at once, the others one by one (plain theorems over the kit's own). -/
import Derived.Test.YtgjedgfncopjlaaDoorWTab
import Derived.WalkKit
set_option linter.unusedSimpArgs false
set_option linter.unusedVariables false
namespace Go.Proofs.YtgjedgfncopjlaaDoor.Reg
open Go.Proofs.YtgjedgfncopjlaaDoorW.PrintLast
section
variable {P : Program} {ops : Array Oper} {Q : Exit → Act → World → Prop} {S : World → Prop} {ds : List Nat}

/-- The operations, by their numbers, each with its slot, one after the other in this order: each yields in world w and leaves it; the act is a' behind them. -/
def Runs (P : Program) (ops : Array Oper) : List (Nat × Nat) → Act → World → Act → Prop
  | [], a, _, a' => a = a'
  | i :: is, a, w, a' => match ops[i.1]? with
    | none => False
    | some o => if Region.wanted o (yielded ops a.tmps) = true then ∃ v, (execOp a.eval o).run P w = .ok (.value v) w ∧ Runs P ops is (a.put (some i.2) v) w a'
      else Runs P ops is (a.put (some i.2) undef) w a'

theorem Runs.step {i N : Nat} {is : List (Nat × Nat)} {a a1 a' : Act} {w : World} {o : Oper} {v : Value} (ho : ops[i]? = some o) (hw : Region.wanted o (yielded ops a.tmps) = true)
    (hr : (execOp a.eval o).run P w = .ok (.value v) w) (ha : a.put (some N) v = a1) (h : Runs P ops is a1 w a') : Runs P ops ((i, N) :: is) a w a' := by
  unfold Runs
  simp only [ho, hw, if_true]
  subst ha
  exact ⟨v, hr, h⟩
theorem Runs.skip {i N : Nat} {is : List (Nat × Nat)} {a a1 a' : Act} {w : World} {o : Oper} (ho : ops[i]? = some o) (hw : Region.wanted o (yielded ops a.tmps) = false)
    (ha : a.put (some N) undef = a1) (h : Runs P ops is a1 w a') : Runs P ops ((i, N) :: is) a w a' := by
  unfold Runs
  simp only [ho, hw]
  subst ha
  simpa using h
theorem Runs.nil {a : Act} {w : World} : Runs P ops [] a w a := rfl

theorem put_get_ne {a : Act} {d k : Nat} {v : Value} (h : d ≠ k) : (a.put (some d) v).tmps[k]? = a.tmps[k]? := by
  simp only [Act.put]
  exact Array.getElem?_setIfInBounds_ne h

theorem Runs.keeps : ∀ {is : List (Nat × Nat)} {a a' : Act} {w : World}, Runs P ops is a w a' → ∀ k : Nat, k ∉ is.map (·.2) → a'.tmps[k]? = a.tmps[k]?
  | [], _, _, _, h, _, _ => by cases h; rfl
  | i :: is, a, a', w, h, k, hk => by
    unfold Runs at h
    cases ho : ops[i.1]? with
    | none => rw [ho] at h; exact h.elim
    | some o =>
      rw [ho] at h
      simp only at h
      simp only [List.map_cons, List.mem_cons, not_or] at hk
      split at h
      · obtain ⟨v, _, h2⟩ := h
        exact (Runs.keeps h2 k hk.2).trans (put_get_ne (Ne.symm hk.1))
      · exact (Runs.keeps h k hk.2).trans (put_get_ne (Ne.symm hk.1))

theorem Runs.det {i : Nat × Nat} {r : List (Nat × Nat)} {a a' : Act} {w0 : World} (hin : i.2 < a.tmps.size) (hnd : i.2 ∉ r.map (·.2)) (h0 : S w0)
    (h : ∀ w, S w → Runs P ops (i :: r) a w a') : ∃ o v, ops[i.1]? = some o ∧ YieldsIf P ops S o v a ∧ ∀ w, S w → Runs P ops r (a.put (some i.2) v) w a' := by
  have h1 := h w0 h0
  unfold Runs at h1
  cases ho : ops[i.1]? with
  | none => rw [ho] at h1; exact h1.elim
  | some o =>
    have hall : ∀ w, S w → if Region.wanted o (yielded ops a.tmps) = true then ∃ v, (execOp a.eval o).run P w = .ok (.value v) w ∧ Runs P ops r (a.put (some i.2) v) w a' else Runs P ops r (a.put (some i.2) undef) w a' := by
      intro w hw
      have h2 := h w hw
      unfold Runs at h2
      rw [ho] at h2
      exact h2
    by_cases hw : Region.wanted o (yielded ops a.tmps) = true
    · simp only [if_pos hw] at hall
      obtain ⟨v, hv, hr⟩ := hall w0 h0
      have hkv : a'.tmps[i.2]? = some v := by
        rw [hr.keeps _ hnd]
        simp [Act.put, hin]
      refine ⟨o, v, rfl, .inl ⟨hw, fun w hS => ?_⟩, fun w hS => ?_⟩
      · obtain ⟨v', hv', hr'⟩ := hall w hS
        have : a'.tmps[i.2]? = some v' := by
          rw [hr'.keeps _ hnd]
          simp [Act.put, hin]
        rw [hkv] at this
        obtain rfl := Option.some.inj this
        exact hv'
      · obtain ⟨v', hv', hr'⟩ := hall w hS
        have : a'.tmps[i.2]? = some v' := by
          rw [hr'.keeps _ hnd]
          simp [Act.put, hin]
        rw [hkv] at this
        obtain rfl := Option.some.inj this
        exact hr'
    · simp only [if_neg hw] at hall
      exact ⟨o, undef, rfl, .inr ⟨by simpa using hw, rfl⟩, hall⟩

theorem put_size (a : Act) (d : Option Tmp) (v : Value) : (a.put d v).tmps.size = a.tmps.size := by
  cases d <;> simp [Act.put]
theorem put_tmps {c : List PanicEntry} {a : Act} {d : Option Tmp} {v : Value} {w : World} (h : Q (.panic c) (a.put d v) w) : Q (.panic c) { a with tmps := (a.put d v).tmps } w := by
  cases d <;> exact h

/-- A region's plan: what is taken at once, and what acts, one by one ('last': nothing is shown behind it). -/
inductive Stp where
  | pure (is : List (Nat × Nat))
  | eff (i : Nat) (N : Option Nat)
  | par (i N j M : Nat) (is : List (Nat × Nat))
  | last (i : Nat) (N : Option Nat)

def dstIs (ops : Array Oper) (i : Nat) (N : Option Nat) : Bool := match ops[i]? with
  | some o => o.dst == N
  | none => false
/-- Operations whose value hangs on no memory. -/
def stillAt (ops : Array Oper) (i : Nat) : Bool := match ops[i]? with
  | some o => match o.op with
    | .move _ | .assign _ | .extract _ _ => true
    | _ => false
  | none => false
/-- A still operation that does not look at slot M. -/
def farAt (ops : Array Oper) (i M : Nat) : Bool := match ops[i]? with
  | some o => o.guard.isNone && match o.op with
    | .move (.tmp x) | .assign (.tmp x) | .extract (.tmp x) _ => x != M
    | _ => false
  | none => false
def purOk (ops : Array Oper) (n : Nat) (T : Bool × List (List Nat × List Nat)) (ds : List Nat) : List (Nat × Nat) → List Bool → Option (List Bool)
  | [], l => some l
  | i :: is, l => if T.1 && freeT T.2 l i.1 && readyAt T.2 l i.1 && closedT T.2 l && (lastT T.2 l ds i.1 || stillAt ops i.1) && dstIs ops i.1 (some i.2) && decide (i.2 < n) && !(is.map (·.2)).contains i.2 then purOk ops n T ds is (l.set i.1 true) else none
def planOk (ops : Array Oper) (n : Nat) (T : Bool × List (List Nat × List Nat)) (ds : List Nat) : Bool → List Stp → List Bool → Bool
  | _, [], l => readyT T.2 l == []
  | b, .pure is :: r, l => match purOk ops n T ds is l with | some l' => planOk ops n T ds b r l' | none => false
  | b, .eff i N :: r, l => !b && readyT T.2 l == [i] && !ds.contains i && dstIs ops i N && planOk ops n T ds b r (l.set i true)
  | b, .par i N j M is :: r, l => !b && ((readyT T.2 l).all fun k => k == i || k == j) && (readyT T.2 l).contains i && (readyT T.2 l).contains j && (match purOk ops n T ds is (l.set i true) with | some l' => readyT T.2 l' == [j] && (match purOk ops n T ds is ((l.set i true).set j true) with | some l2 => l'.set j true == l2 && planOk ops n T ds b r l2 | none => false) | none => false) && readyT T.2 (l.set j true) == [i] && !ds.contains i && !ds.contains j && dstIs ops i (some N) && dstIs ops j (some M) && N != M && (is.all fun k => farAt ops k.1 M && k.2 != M)
  | _, .last i N :: r, l => readyT T.2 l == [i] && ds.contains i && dstIs ops i N && planOk ops n T ds true r (l.set i true)
def lastsOf : List Stp → List Nat
  | [] => []
  | .last i _ :: r => i :: lastsOf r
  | _ :: r => lastsOf r
def lenOf : List Stp → Nat
  | [] => 0
  | .pure is :: r => is.length + lenOf r
  | .eff _ _ :: r => 1 + lenOf r
  | .par _ _ _ _ is :: r => 2 + is.length + lenOf r
  | .last _ _ :: r => 1 + lenOf r
def planIs (ops : Array Oper) (n : Nat) (p : List Stp) : Bool := planOk ops n (rtab .any ops) (lastsOf p) false p (List.replicate ops.size false) && lenOf p == ops.size

/-- What is to be shown for a plan. -/
def wpPlan (P : Program) (ops : Array Oper) (Q : Exit → Act → World → Prop) (S : World → Prop) : List Stp → Act → World → Prop
  | [], a, w => Q .normal a w
  | .pure is :: r, a, w => ∃ a', (∀ w', S w' → Runs P ops is a w' a') ∧ wpPlan P ops Q S r a' w
  | .eff i N :: r, a, w => match ops[i]? with
    | none => False
    | some o => ∀ K : Act → World → Prop, Shut (∀ v w', S w' → (S w' → wpPlan P ops Q S r (a.put N v) w') → K (a.put N v) w') → if Region.wanted o (yielded ops a.tmps) = true then Oper.wp P o a w K Q else K (a.put N undef) w
  | .par i N j M is :: r, a, w => match ops[i]?, ops[j]? with
    | some o, some q => ∃ (O : Obj) (F : Value → Value → World → Prop), (∀ (a : Act) w, Region.wanted q (yielded ops a.tmps) = true ∧ (execOp a.eval q).run P w = .ok (.value (.pointer (some ⟨w.heap.size, 0, none⟩))) (w.alloc O)) ∧ S (w.alloc O) ∧
        (∀ v p w', F v p w' → S w' ∧ ∃ a', (∀ w'', S w'' → Runs P ops is ((a.put (some N) v).put (some M) p) w'' a') ∧ wpPlan P ops Q S r a' w') ∧
        (∀ K : Act → World → Prop, Shut (∀ v w1, S w1 → F v (.pointer (some ⟨w1.heap.size, 0, none⟩)) (w1.alloc O) → K (a.put (some N) v) w1) → if Region.wanted o (yielded ops a.tmps) = true then Oper.wp P o a w K Q else K (a.put (some N) undef) w) ∧
        (∀ K : Act → World → Prop, Shut (∀ v w2, F v (.pointer (some ⟨w.heap.size, 0, none⟩)) w2 → K ((a.put (some M) (.pointer (some ⟨w.heap.size, 0, none⟩))).put (some N) v) w2) → if Region.wanted o (yielded ops (a.put (some M) (.pointer (some ⟨w.heap.size, 0, none⟩))).tmps) = true then Oper.wp P o (a.put (some M) (.pointer (some ⟨w.heap.size, 0, none⟩))) (w.alloc O) K Q else K ((a.put (some M) (.pointer (some ⟨w.heap.size, 0, none⟩))).put (some N) undef) (w.alloc O))
    | _, _ => False
  | .last i N :: r, a, w => match ops[i]? with
    | none => False
    | some o => ∀ K : Act → World → Prop, Shut (∀ v w', wpPlan P ops Q (fun _ => True) r (a.put N v) w' → K (a.put N v) w') → if Region.wanted o (yielded ops a.tmps) = true then Oper.wp P o a w K Q else K (a.put N undef) w

theorem still_yields {i : Nat} {o : Oper} {v : Value} {a : Act} {w : World} (hs : stillAt ops i = true) (ho : ops[i]? = some o) (hS : S w) (h : YieldsIf P ops S o v a) : Yields P ops o v a := by
  rcases h with ⟨h1, h2⟩ | h
  · refine .inl ⟨h1, fun w' => ?_⟩
    have h3 := h2 w hS
    unfold stillAt at hs
    rw [ho] at hs
    simp only at hs
    unfold execOp at h3 ⊢
    split at hs
    · rename_i e
      simp only [e] at h3 ⊢
      simpa [Sem.run_pure] using h3
    · rename_i e
      simp only [e] at h3 ⊢
      simpa [Sem.run_pure] using h3
    · rename_i t ix e
      simp only [e] at h3 ⊢
      generalize a.eval t = x at *
      revert h3
      unfold Instr.extract
      split <;> simp [Sem.run_bind, Sem.run_pure]
      split <;> simp [Sem.run_bind, Sem.run_pure]
    · cases hs
  · exact .inr h

theorem far_spec {i M : Nat} {o : Oper} (h : farAt ops i M = true) (ho : ops[i]? = some o) (a : Act) (p : Value) : stillAt ops i = true ∧ Region.wanted o (yielded ops (a.put (some M) p).tmps) = true ∧ Region.wanted o (yielded ops a.tmps) = true ∧ execOp (a.put (some M) p).eval o = execOp a.eval o := by
  unfold farAt at h
  rw [ho] at h
  simp only [Bool.and_eq_true] at h
  obtain ⟨hg, h⟩ := h
  have hw : ∀ y, Region.wanted o y = true := fun y => by
    unfold Region.wanted
    have : o.guard = none := by simpa using hg
    simp [this]
  have key : ∀ x : Nat, (x != M) = true → (a.put (some M) p).eval (.tmp x) = a.eval (.tmp x) := fun x hx => by
    have hx' : x ≠ M := by simpa using hx
    simp only [Act.eval, Act.put]
    rw [Array.getD_eq_getD_getElem?, Array.getD_eq_getD_getElem?, Array.getElem?_setIfInBounds_ne (Ne.symm hx')]
  refine ⟨?_, hw _, hw _, ?_⟩
  · unfold stillAt
    rw [ho]
    simp only
    split at h <;> first | (rename_i e; rw [e]) | (exact absurd h (by simp))
  · unfold execOp
    split at h <;> rename_i e <;> simp only [e] <;> first | (rw [key _ h]) | cases h

theorem Runs.unput {M : Nat} {p : Value} : ∀ {is : List (Nat × Nat)} {a a' : Act} {w : World}, (is.all fun k => farAt ops k.1 M && k.2 != M) = true → Runs P ops is (a.put (some M) p) w a' → ∃ a1, Runs P ops is a w a1 ∧ a1.put (some M) p = a'
  | [], a, a', w, _, h => by cases h; exact ⟨a, rfl, rfl⟩
  | i :: is, a, a', w, hf, h => by
    simp only [List.all_cons, Bool.and_eq_true, bne_iff_ne] at hf
    unfold Runs at h
    cases ho : ops[i.1]? with
    | none => rw [ho] at h; exact h.elim
    | some o =>
      rw [ho] at h
      obtain ⟨_, hw1, hw2, he⟩ := far_spec hf.1.1 ho a p
      simp only [hw1, if_true] at h
      obtain ⟨v, hv, h2⟩ := h
      rw [he] at hv
      have hc : (a.put (some M) p).put (some i.2) v = (a.put (some i.2) v).put (some M) p := by
        simp only [Act.put]
        rw [Array.setIfInBounds_comm _ _ (Ne.symm hf.1.2)]
      rw [hc] at h2
      obtain ⟨a1, h3, h4⟩ := Runs.unput (is := is) (by simpa using hf.2) h2
      refine ⟨a1, ?_, h4⟩
      unfold Runs
      simp only [ho, hw2, if_true]
      exact ⟨v, hv, h3⟩

theorem Runs.still : ∀ {is : List (Nat × Nat)} {a a1 a2 : Act} {w1 w2 : World} {M : Nat}, Runs P ops is a w1 a1 → Runs P ops is a w2 a2 → (∀ k ∈ is, farAt ops k.1 M = true) → a1 = a2
  | [], a, a1, a2, w1, w2, M, h1, h2, _ => by cases h1; cases h2; rfl
  | i :: is, a, a1, a2, w1, w2, M, h1, h2, hf => by
    unfold Runs at h1 h2
    cases ho : ops[i.1]? with
    | none => rw [ho] at h1; exact h1.elim
    | some o =>
      rw [ho] at h1 h2
      obtain ⟨hst, _, hw, _⟩ := far_spec (hf i List.mem_cons_self) ho a undef
      simp only [hw, if_true] at h1 h2
      obtain ⟨v1, hv1, h1⟩ := h1
      obtain ⟨v2, hv2, h2⟩ := h2
      have hy : Yields P ops o v1 a := still_yields (S := fun w => w = w1) (w := w1) hst ho rfl (.inl ⟨hw, fun w e => e ▸ hv1⟩)
      rcases hy with ⟨_, hy⟩ | ⟨hy, _⟩
      · have := (hy w2).symm.trans hv2
        simp only [Result.ok.injEq, Next.value.injEq, and_true] at this
        subst this
        exact Runs.still h1 h2 (fun k hk => hf k (List.mem_cons_of_mem _ hk))
      · rw [hw] at hy; cases hy

theorem dstIs_spec {i : Nat} {N : Option Nat} {o : Oper} (h : dstIs ops i N = true) (ho : ops[i]? = some o) : o.dst = N := by
  unfold dstIs at h
  rw [ho] at h
  exact eq_of_beq h

section
variable {T : Bool × List (List Nat × List Nat)}
theorem pure_batch (hT : rtab .any ops = T) (hQ : ∀ c (a : Act) t w, Q (.panic c) { a with tmps := t } w → Q (.panic c) a w) {n : Nat} : ∀ {is : List (Nat × Nat)} {l l' : List Bool} {a a' : Act} {w : World} {fuel : Nat},
    purOk ops n T ds is l = some l' → a.tmps.size = n → S w → (∀ w, S w → Runs P ops is a w a') →
    (a'.tmps.size = n → wpAnyLast P .any ops Q S ds fuel l'.toArray a' w) → wpAnyLast P .any ops Q S ds (is.length + fuel) l.toArray a w
  | [], l, l', a, a', w, fuel, hp, hn, hS, hr, h => by
    cases hp
    have := hr w hS
    cases this
    simpa using h hn
  | i :: r, l, l', a, a', w, fuel, hp, hn, hS, hr, h => by
    unfold purOk at hp
    split at hp
    · rename_i hc
      simp only [Bool.and_eq_true, decide_eq_true_eq, Bool.not_eq_true', List.contains_eq_mem, decide_eq_false_iff_not] at hc
      obtain ⟨⟨⟨hc, hd⟩, hlt⟩, hnot⟩ := hc
      obtain ⟨o, v, ho, hy, hr'⟩ := Runs.det (by omega) hnot hS hr
      have h1 := pure_batch hT hQ (is := r) (a := a.put (some i.2) v) hp ((put_size _ _ _).trans hn) hS hr' h
      rw [show (i :: r).length + fuel = (r.length + fuel) + 1 by simp; omega]
      cases hl : lastT T.2 l ds i.1 with
      | true =>
        have h2 : takeB .any ops ds l.toArray (l.set i.1 true).toArray i.1 = true := take_of hT (by simp only [takeT, hc.1.1.1.1, hc.1.1.1.2, hc.1.1.2, hc.1.2, hl, Bool.true_and]; simp)
        exact take_ _ ho (dstIs_spec hd ho) h2 (fun c a0 w0 hq => hQ c _ _ w0 (put_tmps hq)) hy hS rfl h1
      | false =>
        have hst : stillAt ops i.1 = true := by simpa [hl] using hc.2
        have h2 : anyB .any ops l.toArray (l.set i.1 true).toArray i.1 = true := any_of hT (by simp only [anyT, hc.1.1.1.1, hc.1.1.1.2, hc.1.1.2, Bool.true_and]; simp)
        exact pure_ _ ho (dstIs_spec hd ho) h2 (fun c a0 w0 hq => hQ c _ _ w0 (put_tmps hq)) (still_yields hst ho hS hy) rfl h1
    · cases hp

theorem pure_batchT (hT : rtab .any ops = T) (hQ : ∀ c (a : Act) t w, Q (.panic c) { a with tmps := t } w → Q (.panic c) a w) {n : Nat} : ∀ {is : List (Nat × Nat)} {l l' : List Bool} {a a' : Act} {w : World} {fuel : Nat},
    purOk ops n T ds is l = some l' → a.tmps.size = n → (∀ w, Runs P ops is a w a') →
    (a'.tmps.size = n → wpAnyLast P .any ops Q S ds fuel l'.toArray a' w) → wpAnyLast P .any ops Q S ds (is.length + fuel) l.toArray a w
  | [], l, l', a, a', w, fuel, hp, hn, hr, h => by
    cases hp
    have := hr w
    cases this
    simpa using h hn
  | i :: r, l, l', a, a', w, fuel, hp, hn, hr, h => by
    unfold purOk at hp
    split at hp
    · rename_i hc
      simp only [Bool.and_eq_true, decide_eq_true_eq, Bool.not_eq_true', List.contains_eq_mem, decide_eq_false_iff_not] at hc
      obtain ⟨⟨⟨hc, hd⟩, hlt⟩, hnot⟩ := hc
      obtain ⟨o, v, ho, hy, hr'⟩ := Runs.det (S := fun _ => True) (by omega) hnot (w0 := w) trivial (fun w _ => hr w)
      have h1 := pure_batchT hT hQ (is := r) (a := a.put (some i.2) v) hp ((put_size _ _ _).trans hn) (fun w => hr' w trivial) h
      have h2 : anyB .any ops l.toArray (l.set i.1 true).toArray i.1 = true := any_of hT (by simp only [anyT, hc.1.1.1.1, hc.1.1.1.2, hc.1.1.2, Bool.true_and]; simp)
      rw [show (i :: r).length + fuel = (r.length + fuel) + 1 by simp; omega]
      exact pure_ _ ho (dstIs_spec hd ho) h2 (fun c a0 w0 hq => hQ c _ _ w0 (put_tmps hq)) (hy.imp (fun ⟨x, y⟩ => ⟨x, fun w => y w trivial⟩) id) rfl h1
    · cases hp

theorem plan_sound (hT : rtab .any ops = T) (hQ : ∀ c (a : Act) t w, Q (.panic c) { a with tmps := t } w → Q (.panic c) a w) {n : Nat} : ∀ {p : List Stp} {b : Bool} {l : List Bool} {a : Act} {w : World} {fuel : Nat},
    planOk ops n T ds b p l = true → a.tmps.size = n → (b = false → S w) → wpPlan P ops Q (fun w => b = true ∨ S w) p a w → wpAnyLast P .any ops Q S ds (lenOf p + fuel) l.toArray a w
  | [], b, l, a, w, fuel, hp, hn, hS, h => done_ (done_of hT (by simpa [planOk] using hp)) h
  | .pure is :: r, b, l, a, w, fuel, hp, hn, hS, h => by
    simp only [planOk] at hp
    obtain ⟨a', hr, h⟩ := h
    split at hp
    · rename_i l' hl
      rw [show lenOf (.pure is :: r) + fuel = is.length + (lenOf r + fuel) by simp [lenOf]; omega]
      cases b with
      | false => exact pure_batch hT hQ hl hn (hS rfl) (fun w' hw => hr w' (.inr hw)) (fun hn' => plan_sound hT hQ hp hn' hS h)
      | true => exact pure_batchT hT hQ hl hn (fun w' => hr w' (.inl rfl)) (fun hn' => plan_sound hT hQ hp hn' hS h)
    · cases hp
  | .eff i N :: r, b, l, a, w, fuel, hp, hn, hS, h => by
    simp only [planOk, Bool.and_eq_true, Bool.not_eq_true'] at hp
    obtain ⟨⟨⟨⟨rfl, h1⟩, h2⟩, hd⟩, hp⟩ := hp
    rw [show lenOf (.eff i N :: r) + fuel = (lenOf r + fuel) + 1 by simp [lenOf]; omega]
    unfold wpPlan at h
    cases ho : ops[i]? with
    | none => rw [ho] at h; exact h.elim
    | some o =>
      rw [ho] at h
      simp only at h
      have hc : readyB .any ops l.toArray (l.set i true).toArray i = true := one_of hT (by simp only [Bool.and_eq_true]; exact ⟨h1, by simp⟩)
      refine one_ (N := N) _ ho (dstIs_spec hd ho) hc (by simpa using h2) (fun K hK => h K (fun v w' hSw hW => ?_))
      have hSw' : S w' := hSw.elim (fun e => by cases e) id
      exact hK _ _ hSw' (fun _ => plan_sound hT hQ hp ((put_size _ _ _).trans hn) (fun _ => hSw') (hW hSw))
  | .par i N j M is :: r, b, l, a, w, fuel, hp, hn, hS, h => by
    simp only [planOk, Bool.and_eq_true, Bool.not_eq_true', bne_iff_ne] at hp
    obtain ⟨⟨⟨⟨⟨⟨⟨⟨⟨⟨⟨rfl, h1⟩, hci⟩, hcj⟩, hm⟩, h3⟩, hdi⟩, hdj⟩, hi⟩, hj⟩, hNM⟩, hfar⟩ := hp
    rw [show lenOf (.par i N j M is :: r) + fuel = (is.length + ((lenOf r + fuel) + 1)) + 1 by simp [lenOf]; omega]
    unfold wpPlan at h
    cases ho : ops[i]? with
    | none => rw [ho] at h; exact h.elim
    | some o =>
      cases hq : ops[j]? with
      | none => rw [ho, hq] at h; exact h.elim
      | some q =>
        rw [ho, hq] at h
        simp only at h
        obtain ⟨O, F, hrq, hSO, hF, ha, hb⟩ := h
        have un : ∀ w', (false = true ∨ S w') → S w' := fun _ h => h.elim (fun e => by cases e) id
        cases hl' : purOk ops n T ds is (l.set i true) with
        | none => rw [hl'] at hm; simp at hm
        | some l' =>
          cases hl2 : purOk ops n T ds is ((l.set i true).set j true) with
          | none => rw [hl', hl2] at hm; simp at hm
          | some l2 =>
            rw [hl', hl2] at hm
            simp only [Bool.and_eq_true, beq_iff_eq] at hm
            obtain ⟨hr', hset, hp⟩ := hm
            have hcomm : ∀ v p, (a.put (some M) p).put (some N) v = (a.put (some N) v).put (some M) p := fun v p => by
              simp only [Act.put]
              rw [Array.setIfInBounds_comm _ _ hNM]
            have hne : Region.ready .any ops l.toArray ≠ [] := by
              rw [← hT] at hci
              intro e
              rw [ready_eq] at e
              simp at hci
              rw [e] at hci
              simp at hci
            have hrd : Region.ready .any ops l.toArray = readyT T.2 l := by rw [ready_eq, hT]
            have hij : i ≠ j := by
              rintro rfl
              have e1 := dstIs_spec hi ho
              rw [dstIs_spec hj ho] at e1
              exact hNM (Option.some.inj e1).symm
            have hsw : (l.set j true).set i true = (l.set i true).set j true := by rw [List.set_comm _ _ hij]
            refine wpAnyLast_ready hrd (hrd ▸ hne) (fun k hk => ?_)
            have hk' : k = i ∨ k = j := by
              have := List.all_eq_true.1 h1 k hk
              simpa using this
            rcases hk' with rfl | rfl
            · refine wpOp_step ho fun K hK => ?_
              have h5 := ha K (fun v w1 hS1 hf => hK _ _ ⟨fun _ _ => un _ hS1, ?_⟩)
              · rw [dstIs_spec hi ho]; exact h5
              · obtain ⟨hS2, a', hr, hgo⟩ := hF _ _ _ hf
                have hS1' := un _ hS1
                obtain ⟨a1, hr1, ha1⟩ := Runs.unput hfar (hr _ hS1)
                have hall : ∀ w', S w' → Runs P ops is (a.put (some N) v) w' a1 := fun w' hw' => by
                  obtain ⟨a2, hr2, ha2⟩ := Runs.unput hfar (hr w' (.inr hw'))
                  have : a2 = a1 := hr2.still hr1 (fun k hk => by
                    have := List.all_eq_true.1 hfar k hk
                    simp only [Bool.and_eq_true] at this
                    exact this.1)
                  exact this ▸ hr2
                rw [show l.toArray.setIfInBounds k true = (l.set k true).toArray by simp]
                refine pure_batch hT hQ hl' ((put_size _ _ _).trans hn) hS1' hall (fun hn1 => ?_)
                have hc2 : readyB .any ops l'.toArray l2.toArray j = true := one_of hT (by simp only [Bool.and_eq_true, beq_iff_eq]; exact ⟨hr', hset⟩)
                refine one_ (N := some M) _ hq (dstIs_spec hj hq) hc2 (by simpa using hdj) (fun K2 hK2 => ?_)
                refine value_ (hrq a1 w1).1 (dstIs_spec hj hq) (hrq a1 w1).2 (hK2 _ _ (un _ hS2) fun _ => ?_)
                rw [ha1]
                exact plan_sound hT hQ hp (by rw [← ha1]; exact (put_size _ _ _).trans hn1) (fun _ => un _ hS2) hgo
            · refine wpOp_step hq fun K hK => ?_
              refine value_ (N := q.dst) (hrq a w).1 rfl (hrq a w).2 (hK _ _ ⟨fun _ _ => un _ hSO, ?_⟩)
              rw [dstIs_spec hj hq, show l.toArray.setIfInBounds k true = (l.set k true).toArray by simp]
              have hc2 : readyB .any ops (l.set k true).toArray ((l.set i true).set k true).toArray i = true := one_of hT (by simp only [Bool.and_eq_true]; exact ⟨h3, by simp [hsw]⟩)
              rw [show is.length + (lenOf r + fuel + 1) = (is.length + (lenOf r + fuel)) + 1 by omega]
              refine one_ (N := some N) _ ho (dstIs_spec hi ho) hc2 (by simpa using hdi) (fun K2 hK2 => hb K2 (fun v w2 hf => ?_))
              obtain ⟨hS2, a', hr, hgo⟩ := hF _ _ _ hf
              refine hK2 _ _ (un _ hS2) (fun _ => ?_)
              rw [hcomm]
              exact pure_batch hT hQ hl2 ((put_size _ _ _).trans ((put_size _ _ _).trans hn)) (un _ hS2) (fun w' hw' => hr w' (.inr hw')) (fun hn' => plan_sound hT hQ hp hn' (fun _ => un _ hS2) hgo)
  | .last i N :: r, b, l, a, w, fuel, hp, hn, hS, h => by
    simp only [planOk, Bool.and_eq_true] at hp
    obtain ⟨⟨⟨h1, h2⟩, hd⟩, hp⟩ := hp
    rw [show lenOf (.last i N :: r) + fuel = (lenOf r + fuel) + 1 by simp [lenOf]; omega]
    unfold wpPlan at h
    cases ho : ops[i]? with
    | none => rw [ho] at h; exact h.elim
    | some o =>
      rw [ho] at h
      simp only at h
      have hc : readyB .any ops l.toArray (l.set i true).toArray i = true := one_of hT (by simp only [Bool.and_eq_true]; exact ⟨h1, by simp⟩)
      refine last_ (N := N) _ ho (dstIs_spec hd ho) hc (by simpa using h2) (fun K hK => h K (fun v w' hW => ?_))
      refine hK _ _ (plan_sound (b := true) hT hQ hp ((put_size _ _ _).trans hn) (fun e => by cases e) ?_)
      have : (fun w => true = true ∨ S w) = fun _ : World => True := funext fun w => by simp
      rw [this]
      exact hW

theorem wpPlan_mono {S' : World → Prop} (hs : ∀ w, S w ↔ S' w) {p : List Stp} {a : Act} {w : World} (h : wpPlan P ops Q S p a w) : wpPlan P ops Q S' p a w := by
  have : S = S' := funext fun w => propext (hs w)
  exact this ▸ h

/-- A REGION THAT DRAWS ITS ORDER, BY A PLAN. -/
theorem region_plan {id n : Nat} {a : Act} {w : World} (S : World → Prop) (p : List Stp) (hm : P.follows .mixedOrders = true) (hn : a.tmps.size = n) (hp : planIs ops n p = true)
    (hQ : ∀ c (a : Act) t w, Q (.panic c) { a with tmps := t } w → Q (.panic c) a w) (hS : S w.drew) (h : wpPlan P ops Q S p a w.drew) : (Code.region id ops true).wp P Q a w := by
  simp only [planIs, Bool.and_eq_true, beq_iff_eq] at hp
  obtain ⟨h1, h2⟩ := hp
  refine start_ (S := S) (ds := lastsOf p) (n := ops.size) _ hm rfl rfl hS (fun _ => ?_)
  have h3 := plan_sound (S := S) (fuel := 0) rfl hQ h1 hn (fun _ => hS) (wpPlan_mono (fun w => by simp) h)
  rw [h2] at h3
  simpa using h3
theorem plan_pure {is : List (Nat × Nat)} {r : List Stp} {a a' : Act} {w : World} (hr : ∀ w', S w' → Runs P ops is a w' a') (h : wpPlan P ops Q S r a' w) : wpPlan P ops Q S (.pure is :: r) a w := ⟨a', hr, h⟩
theorem plan_eff {i : Nat} {N : Option Tmp} {r : List Stp} {a : Act} {w : World} {o : Oper} (ho : ops[i]? = some o)
    (h : ∀ K : Act → World → Prop, Shut (∀ v w', S w' → (S w' → wpPlan P ops Q S r (a.put N v) w') → K (a.put N v) w') → if Region.wanted o (yielded ops a.tmps) = true then Oper.wp P o a w K Q else K (a.put N undef) w) : wpPlan P ops Q S (.eff i N :: r) a w := by
  unfold wpPlan
  rw [ho]
  exact h
theorem plan_last {i : Nat} {N : Option Tmp} {r : List Stp} {a : Act} {w : World} {o : Oper} (ho : ops[i]? = some o)
    (h : ∀ K : Act → World → Prop, Shut (∀ v w', wpPlan P ops Q (fun _ => True) r (a.put N v) w' → K (a.put N v) w') → if Region.wanted o (yielded ops a.tmps) = true then Oper.wp P o a w K Q else K (a.put N undef) w) : wpPlan P ops Q S (.last i N :: r) a w := by
  unfold wpPlan
  rw [ho]
  exact h
theorem plan_nil {a : Act} {w : World} (h : Q .normal a w) : wpPlan P ops Q S [] a w := h
theorem plan_act {p : List Stp} {a a' : Act} {w : World} (ha : a = a') (h : wpPlan P ops Q S p a' w) : wpPlan P ops Q S p a w := ha ▸ h
/-- A call of a Go function by its contract, in a plan. -/
theorem plan_call {i : Nat} {N : Option Tmp} {r : List Stp} {a : Act} {w : World} {o : Oper} {f : FuncId} {fn : Func} {as : Array Operand} {ts : Array TypeId} (args : Array Value)
    (ho : ops[i]? = some o) (hN : o.dst = N) (hw : Region.wanted o (yielded ops a.tmps) = true) (hop : o.op = .call { callee := .value (.func f), args := as, argTypes := ts }) (hargs : as.map a.eval = args)
    (hf : P.funcs[f]? = some fn) (hname : (fn.name == "runtime.NumGoroutine") = false) (hb : fn.body.isSome = true)
    (h : Calls P f args w fun e w' => ∃ v, e = .returned v ∧ S w' ∧ wpPlan P ops Q S r (a.put N v) w') : wpPlan P ops Q S (.eff i N :: r) a w := by
  refine plan_eff ho fun K hK => ?_
  refine goes_ hf hname hb args hw hN hop hargs ?_
  refine h.mono fun e w' ⟨v, he, hS, hp⟩ => ⟨v, he, hK _ _ hS fun _ => hp⟩
/-- The same, the function a value (nothing captured). -/
theorem plan_callv {i t : Nat} {N : Option Tmp} {r : List Stp} {a : Act} {w : World} {o : Oper} {f : FuncId} {fn : Func} {as : Array Operand} {ts : Array TypeId} (args : Array Value)
    (ho : ops[i]? = some o) (hN : o.dst = N) (hw : Region.wanted o (yielded ops a.tmps) = true) (hop : o.op = .call { callee := .value (.tmp t), args := as, argTypes := ts }) (hv : a.eval (.tmp t) = .func (.func f) #[] #[]) (hargs : as.map a.eval = args)
    (hf : P.funcs[f]? = some fn) (hname : (fn.name == "runtime.NumGoroutine") = false) (hb : fn.body.isSome = true)
    (h : Calls P f args w fun e w' => ∃ v, e = .returned v ∧ S w' ∧ wpPlan P ops Q S r (a.put N v) w') : wpPlan P ops Q S (.eff i N :: r) a w := by
  refine plan_eff ho fun K hK => ?_
  refine call_ f args hw hN ?_ (h.mono fun e w' ⟨v, he, hS, hp⟩ => ⟨v, he, hK _ _ hS fun _ => hp⟩)
  have he := enters_ hf hname hb args w
  unfold execOp
  simp [hop, resolve, Deferred.ofValue, invoke, hv, hargs, he]
/-- An operation that yields a value, and may make memory. -/
theorem plan_val {i : Nat} {N : Option Tmp} {r : List Stp} {a : Act} {w w1 : World} {o : Oper} {v : Value} (ho : ops[i]? = some o) (hw : Region.wanted o (yielded ops a.tmps) = true) (hd : o.dst = N)
    (hrun : (execOp a.eval o).run P w = .ok (.value v) w1) (hS : S w1) (h : wpPlan P ops Q S r (a.put N v) w1) : wpPlan P ops Q S (.eff i N :: r) a w :=
  plan_eff ho fun _ hK => value_ hw hd hrun (hK _ _ hS fun _ => h)
/-- A store. -/
theorem plan_store {i : Nat} {r : List Stp} {a : Act} {w w1 : World} {o : Oper} (ho : ops[i]? = some o) (hw : Region.wanted o (yielded ops a.tmps) = true) (hd : o.dst = none)
    (hrun : (execOp a.eval o).run P w = .ok .skip w1) (hS : S w1) (h : wpPlan P ops Q S r a w1) : wpPlan P ops Q S (.eff i none :: r) a w :=
  plan_eff ho fun _ hK => skip_ hw hd hrun (hK undef _ hS fun _ => h)
theorem plan_store_last {i : Nat} {r : List Stp} {a : Act} {w w1 : World} {o : Oper} (ho : ops[i]? = some o) (hw : Region.wanted o (yielded ops a.tmps) = true) (hd : o.dst = none)
    (hrun : (execOp a.eval o).run P w = .ok .skip w1) (h : wpPlan P ops Q (fun _ => True) r a w1) : wpPlan P ops Q S (.last i none :: r) a w :=
  plan_last ho fun _ hK => skip_ hw hd hrun (hK undef _ h)
/-- A call and a new box, in either order; then what takes the call's results apart. -/
theorem plan_par {i N j M : Nat} {is : List (Nat × Nat)} {r : List Stp} {a : Act} {w : World} {o q : Oper} {f : FuncId} {fn : Func} {as : Array Operand} {ts : Array TypeId} (args : Array Value) (O : Obj) (F : Value → Value → World → Prop)
    (ho : ops[i]? = some o) (hN : o.dst = some N) (hw : ∀ a : Act, Region.wanted o (yielded ops a.tmps) = true) (hop : o.op = .call { callee := .value (.func f), args := as, argTypes := ts })
    (hargs : as.map a.eval = args) (hargs' : ∀ p, as.map (a.put (some M) p).eval = args)
    (hf : P.funcs[f]? = some fn) (hname : (fn.name == "runtime.NumGoroutine") = false) (hb : fn.body.isSome = true)
    (hq : ops[j]? = some q) (hwq : ∀ a : Act, Region.wanted q (yielded ops a.tmps) = true)
    (hrq : ∀ (a : Act) w, (execOp a.eval q).run P w = .ok (.value (.pointer (some ⟨w.heap.size, 0, none⟩))) (w.alloc O)) (hSa : S (w.alloc O))
    (h1 : Calls P f args w fun e w' => ∃ v, e = .returned v ∧ S w' ∧ F v (.pointer (some ⟨w'.heap.size, 0, none⟩)) (w'.alloc O))
    (h2 : Calls P f args (w.alloc O) fun e w' => ∃ v, e = .returned v ∧ F v (.pointer (some ⟨w.heap.size, 0, none⟩)) w')
    (hgo : ∀ v p w', F v p w' → S w' ∧ ∃ a', (∀ w'', S w'' → Runs P ops is ((a.put (some N) v).put (some M) p) w'' a') ∧ wpPlan P ops Q S r a' w') : wpPlan P ops Q S (.par i N j M is :: r) a w := by
  unfold wpPlan
  rw [ho, hq]
  refine ⟨O, F, fun a w => ⟨hwq a, hrq a w⟩, hSa, hgo, fun K hK => ?_, fun K hK => ?_⟩
  · exact goes_ hf hname hb args (hw _) hN hop hargs (h1.mono fun e w' ⟨v, he, hS', hF⟩ => ⟨v, he, hK _ _ hS' hF⟩)
  · exact goes_ hf hname hb args (hw _) hN hop (hargs' _) (h2.mono fun e w' ⟨v, he, hF⟩ => ⟨v, he, hK _ _ hF⟩)
end
end
end Go.Proofs.YtgjedgfncopjlaaDoor.Reg
