/- Own words: a region of open order in which several effects may come up first: shown along each order of theirs. -/
import Derived.Test.YtbaohngnpgappaaM0
set_option linter.unusedVariables false
set_option linter.unusedSimpArgs false
namespace Go.Proofs.Ytbaohngnpgappaa
open Go.RowKit
/-- op: one operation comes next; alt: this effect may come next, or one of those behind it. -/
inductive Plan where
  | nil
  | op (i : Nat) (r : Plan)
  | alt (i : Nat) (r m : Plan)
def Plan.heads : Plan → List Nat
  | .nil => []
  | .op _ _ => []
  | .alt i _ m => i :: m.heads
section
variable {P : Program} {ops : Array Oper} {Q : Exit → Act → World → Prop} {S : World → Prop} {ds : List Nat}
def wpPl (P : Program) (ops : Array Oper) (Q : Exit → Act → World → Prop) (S : World → Prop) (eff lds ds : List Nat) : Plan → Bool → Act → World → Prop
  | .nil, b, a, w => if b then True else Q .normal a w
  | .op i r, _, a, w => if eff.contains i then wpOp P ops Q i (fun a' w' => (i ∉ ds → S w') ∧ wpPl P ops Q S eff lds ds r false a' w') a w
    else ∃ oi v, ops[i]? = some oi ∧ (if lds.contains i then YieldsIf P ops S oi v a ∧ S w else Yields P ops oi v a) ∧ wpPl P ops Q S eff lds ds r false (a.put oi.dst v) w
  | .alt i r m, _, a, w => wpOp P ops Q i (fun a' w' => (i ∉ ds → S w') ∧ wpPl P ops Q S eff lds ds r false a' w') a w ∧ wpPl P ops Q S eff lds ds m true a w
def planB (ops : Array Oper) (eff lds ds : List Nat) : Plan → Bool → Array Bool → Nat → Bool
  | .nil, b, l, n => b || (n == 0 && (Region.ready .any ops l).isEmpty)
  | .op i r, b, l, n => !b && (match n with
    | 0 => false
    | n + 1 => (if eff.contains i then Region.ready .any ops l == [i] else Region.free .any ops l i && (Region.ready .any ops l).contains i && (!lds.contains i || ds.all (fun d => l.getD d true || directB ops d i))) && planB ops eff lds ds r false (l.setIfInBounds i true) n)
  | .alt i r m, b, l, n => (b || Region.ready .any ops l == i :: m.heads) && (match n with
    | 0 => false
    | k + 1 => planB ops eff lds ds r false (l.setIfInBounds i true) k) && planB ops eff lds ds m true l n
theorem pl_sound (hs : Region.noSelect ops = true) (hQ : ∀ c (a : Act) (d : Tmp) (v : Value) w, Q (.panic c) (a.put (some d) v) w → Q (.panic c) a w) {eff lds : List Nat} : ∀ (p : Plan) (b : Bool) (n : Nat) (l : Array Bool) (a : Act) (w : World), planB ops eff lds ds p b l n = true → wpPl P ops Q S eff lds ds p b a w →
    (if b then ∀ j ∈ p.heads, ∃ k, n = k + 1 ∧ wpOp P ops Q j (fun a' w' => (j ∉ ds → S w → S w') ∧ wpAnyD P ops Q S ds k (l.setIfInBounds j true) a' w') a w else wpAnyD P ops Q S ds n l a w) := by
  intro p
  induction p with
  | nil =>
    intro b n l a w hb h
    cases b
    · simp only [planB, Bool.false_or, Bool.and_eq_true, beq_iff_eq] at hb
      obtain ⟨rfl, hb⟩ := hb
      rw [if_neg (by decide)]
      exact ⟨by simpa using hb, by simpa [wpPl] using h⟩
    · rw [if_pos rfl]
      intro j hj
      cases hj
  | op i r ih =>
    intro b n l a w hb h
    cases b
    case true => simp [planB] at hb
    rw [if_neg (by decide)]
    cases n with
    | zero => simp [planB] at hb
    | succ n =>
    simp only [planB, Bool.not_false, Bool.true_and, Bool.and_eq_true] at hb
    obtain ⟨hb1, hb2⟩ := hb
    simp only [wpPl] at h
    have ih := fun a w h => ih false n (l.setIfInBounds i true) a w hb2 h
    simp only [Bool.false_eq_true, if_false] at ih
    by_cases he : eff.contains i = true
    · rw [if_pos he] at h hb1
      have hr : Region.ready .any ops l = [i] := by simpa using hb1
      refine ⟨fun h0 => (by rw [hr] at h0; cases h0), fun j hj => ?_⟩
      rw [hr] at hj
      obtain rfl := List.mem_singleton.1 hj
      exact wpOp_mono (fun a' w' h' => ⟨fun hn _ => h'.1 hn, ih a' w' h'.2⟩) h
    · rw [if_neg he] at h hb1
      obtain ⟨oi, v, hi, hy, hrest⟩ := h
      simp only [Bool.and_eq_true] at hb1
      obtain ⟨⟨hf, hr⟩, hd⟩ := hb1
      have hfree := Region.free_spec hi hf
      have hr' : i ∈ Region.ready .any ops l := by simpa using hr
      by_cases hl : lds.contains i = true
      · rw [if_pos hl] at hy
        rw [hl, Bool.not_true, Bool.false_or] at hd
        refine D_take false (T := S) (fun w w' h => h) hi (Region.noSelect_spec hs) (fun c a w h => by cases hdst : oi.dst with | none => rw [hdst] at h; exact h | some d => rw [hdst] at h; exact hQ c a d _ w h) _ l a w hfree (fun _ j hj hun oj hoj => ?_) hr' hy.1 hy.2 (ih _ w hrest)
        have h1 := List.all_eq_true.1 hd j hj
        rw [hun, Bool.false_or] at h1
        simp only [directB, hoj, Option.map_some, Option.getD_some] at h1
        obtain ⟨e, he, h2⟩ := Array.any_eq_true'.1 h1
        simp only [Bool.and_eq_true, beq_iff_eq] at h2
        exact ⟨e, he, h2⟩
      · rw [if_neg hl] at hy
        exact D_take true (T := fun _ => True) (fun _ => trivial) hi (Region.noSelect_spec hs) (fun c a w h => by cases hdst : oi.dst with | none => rw [hdst] at h; exact h | some d => rw [hdst] at h; exact hQ c a d _ w h) _ l a w hfree (fun h => by cases h) hr' (YieldsIf.true_ hy) trivial (ih _ w hrest)
  | alt i r m ihr ihm =>
    intro b n l a w hb h
    simp only [planB, Bool.and_eq_true] at hb
    obtain ⟨⟨hb0, hb1⟩, hb2⟩ := hb
    cases n with
    | zero => cases hb1
    | succ k =>
    obtain ⟨h1, h2⟩ := h
    have hm := ihm true (k + 1) l a w hb2 h2
    rw [if_pos rfl] at hm
    have hall : ∀ j ∈ (Plan.alt i r m).heads, ∃ k', k + 1 = k' + 1 ∧ wpOp P ops Q j (fun a' w' => (j ∉ ds → S w → S w') ∧ wpAnyD P ops Q S ds k' (l.setIfInBounds j true) a' w') a w := by
      intro j hj
      rcases List.mem_cons.1 hj with rfl | hj
      · refine ⟨k, rfl, wpOp_mono (fun a' w' h' => ⟨fun hn _ => h'.1 hn, ?_⟩) h1⟩
        have := ihr false k _ a' w' hb1 h'.2
        simpa using this
      · exact hm j hj
    cases b
    · rw [if_neg (by decide)]
      have hr : Region.ready .any ops l = i :: m.heads := by simpa using hb0
      refine ⟨fun h0 => (by rw [hr] at h0; cases h0), fun j hj => ?_⟩
      rw [hr] at hj
      obtain ⟨k', hk, h3⟩ := hall j hj
      obtain rfl : k = k' := by omega
      exact h3
    · rw [if_pos rfl]
      exact hall
/-- A REGION OF OPEN ORDER, by a plan. -/
theorem wp_pl_region {id : Nat} {a : Act} {w : World} (S : World → Prop) (eff lds ds : List Nat) (p : Plan) (hm : P.follows .mixedOrders = true) (hs : Region.noSelect ops = true)
    (hb : planB ops eff lds ds p false (Array.replicate ops.size false) ops.size = true) (hQ : ∀ c (a : Act) (d : Tmp) (v : Value) w, Q (.panic c) (a.put (some d) v) w → Q (.panic c) a w)
    (h : wpPl P ops Q S eff lds ds p false a w.drew) : (Code.region id ops true).wp P Q a w :=
  wp_region_any hm (by
    have h1 := pl_sound (S := S) (ds := ds) hs hQ p false _ _ a w.drew hb h
    rw [if_neg (by decide)] at h1
    exact wpAny_of_D _ _ _ _ h1)

/-! the steps -/
variable {eff lds : List Nat} {i : Nat} {r m : Plan} {b : Bool} {oi : Oper} {a a' : Act} {w : World} {v : Value}
theorem pl_done (h : Q .normal a w) : wpPl P ops Q S eff lds ds .nil false a w := by simpa [wpPl] using h
theorem pl_end : wpPl P ops Q S eff lds ds .nil true a w := by simp [wpPl]
theorem pl_alt (he : eff.contains i = true) (h1 : wpPl P ops Q S eff lds ds (.op i r) false a w) (h2 : wpPl P ops Q S eff lds ds m true a w) : wpPl P ops Q S eff lds ds (.alt i r m) b a w := by
  simp only [wpPl, he, if_true] at h1
  exact ⟨h1, h2⟩
theorem pl_any (hi0 : ops.toList[i]? = some oi) (he : eff.contains i = false) (hl : lds.contains i = false) (hw : Region.wanted oi (yielded ops a.tmps) = true) (hrun : ∀ W, (execOp a.eval oi).run P W = .ok (.value v) W) (ha : a.put oi.dst v = a') (h : wpPl P ops Q S eff lds ds r false a' w) : wpPl P ops Q S eff lds ds (.op i r) false a w := by
  have hi : ops[i]? = some oi := by rw [← Array.getElem?_toList]; exact hi0
  subst ha
  simp only [wpPl, he, hl]
  exact ⟨oi, v, hi, .inl ⟨hw, hrun⟩, h⟩
theorem pl_load (hi0 : ops.toList[i]? = some oi) (he : eff.contains i = false) (hl : lds.contains i = true) (hw : Region.wanted oi (yielded ops a.tmps) = true) (hrun : ∀ W, S W → (execOp a.eval oi).run P W = .ok (.value v) W) (hS : S w) (ha : a.put oi.dst v = a') (h : wpPl P ops Q S eff lds ds r false a' w) : wpPl P ops Q S eff lds ds (.op i r) false a w := by
  have hi : ops[i]? = some oi := by rw [← Array.getElem?_toList]; exact hi0
  subst ha
  simp only [wpPl, he, hl, if_true]
  exact ⟨oi, v, hi, ⟨.inl ⟨hw, hrun⟩, hS⟩, h⟩
theorem pl_off (hi0 : ops.toList[i]? = some oi) (he : eff.contains i = false) (hw : Region.wanted oi (yielded ops a.tmps) = false) (hS : lds.contains i = true → S w) (ha : a.put oi.dst undef = a') (h : wpPl P ops Q S eff lds ds r false a' w) : wpPl P ops Q S eff lds ds (.op i r) false a w := by
  have hi : ops[i]? = some oi := by rw [← Array.getElem?_toList]; exact hi0
  subst ha
  simp only [wpPl, he]
  refine ⟨oi, undef, hi, ?_, h⟩
  split
  · rename_i hl; exact ⟨.inr ⟨hw, rfl⟩, hS hl⟩
  · exact .inr ⟨hw, rfl⟩
theorem pl_eff (hi0 : ops.toList[i]? = some oi) (he : eff.contains i = true) (hw : Region.wanted oi (yielded ops a.tmps) = true)
    (h : ∀ K : Act → World → Prop, Hid (∀ a' w', (i ∉ ds → S w') → wpPl P ops Q S eff lds ds r false a' w' → K a' w') → oi.wp P a w K Q) : wpPl P ops Q S eff lds ds (.op i r) false a w := by
  have hi : ops[i]? = some oi := by rw [← Array.getElem?_toList]; exact hi0
  simp only [wpPl, he, if_true, wpOp, hi, hw]
  exact .inl (h _ (fun a' w' h1 h2 => ⟨h1, h2⟩))
theorem pl_value {w1 : World} (hi0 : ops.toList[i]? = some oi) (he : eff.contains i = true) (hw : Region.wanted oi (yielded ops a.tmps) = true) (hrun : (execOp a.eval oi).run P w = .ok (.value v) w1)
    (hS : i ∉ ds → S w1) (ha : a.put oi.dst v = a') (h : wpPl P ops Q S eff lds ds r false a' w1) : wpPl P ops Q S eff lds ds (.op i r) false a w := by
  have hi : ops[i]? = some oi := by rw [← Array.getElem?_toList]; exact hi0
  subst ha
  refine pl_eff hi0 he hw fun K hK => ?_
  unfold Oper.wp
  rw [hrun]
  exact hK.out _ _ hS h
theorem pl_store {w1 : World} (hi0 : ops.toList[i]? = some oi) (he : eff.contains i = true) (hw : Region.wanted oi (yielded ops a.tmps) = true) (hd : oi.dst = none) (hrun : (execOp a.eval oi).run P w = .ok .skip w1)
    (hS : i ∉ ds → S w1) (h : wpPl P ops Q S eff lds ds r false a w1) : wpPl P ops Q S eff lds ds (.op i r) false a w := by
  have hi : ops[i]? = some oi := by rw [← Array.getElem?_toList]; exact hi0
  refine pl_eff hi0 he hw fun K hK => ?_
  unfold Oper.wp
  rw [hrun]
  show K (a.put oi.dst undef) w1
  rw [hd]
  exact hK.out _ _ hS h
theorem pl_call (hi0 : ops.toList[i]? = some oi) (he : eff.contains i = true) (hw : Region.wanted oi (yielded ops a.tmps) = true) {f : FuncId} {fn : Func} {as : Array Operand} {ts : Array TypeId} (hop : oi.op = .call { callee := .value (.func f), args := as, argTypes := ts })
    (hf : P.funcs[f]? = some fn) (hname : (fn.name == "runtime.NumGoroutine") = false) (hb : fn.body.isSome = true) (args : List Value) (hargs : as.toList.map a.eval = args)
    (h : Calls P f args.toArray w fun e w' => ∃ v, e = .returned v ∧ (i ∉ ds → S w') ∧ wpPl P ops Q S eff lds ds r false (a.put oi.dst v) w') : wpPl P ops Q S eff lds ds (.op i r) false a w := by
  refine pl_eff hi0 he hw fun K hK => ?_
  have hargs' : as.map a.eval = args.toArray := by rw [← hargs, ← Array.toList_map]
  have hrun : (execOp a.eval oi).run P w = .ok (.enter f args.toArray) w := by
    unfold execOp
    simp [hop, resolve, Deferred.ofValue, invoke, Act.eval, hargs', enters hf hname hb args.toArray w]
  unfold Oper.wp
  rw [hrun, Oper.upon_enter]
  refine h.mono fun e w'' hh => ?_
  obtain ⟨v, rfl, hS, hk⟩ := hh
  exact hK.out _ _ hS hk
end
end Go.Proofs.Ytbaohngnpgappaa
