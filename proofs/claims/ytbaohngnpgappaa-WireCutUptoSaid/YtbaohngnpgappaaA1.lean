/- Own words, second part: a region of open order is shown along one order of its operations. What only reads is shown to yield the same in every world that meets S; what makes or writes memory comes up alone; S is shown behind each of those but the listed last ones. -/
import Derived.Test.YtbaohngnpgappaaA0
import Derived.OrdersHeld
set_option linter.unusedVariables false
set_option linter.unusedSimpArgs false
namespace Go.Proofs.Ytbaohngnpgappaa
open Go.RowKit

section
variable {P : Program} {ops : Array Oper} {Q : Exit → Act → World → Prop} {S : World → Prop} {ds : List Nat}
/-- Whatever comes up: behind each operation that is none of ds S holds if it held. -/
def wpAnyD (P : Program) (ops : Array Oper) (Q : Exit → Act → World → Prop) (S : World → Prop) (ds : List Nat) : Nat → Array Bool → Act → World → Prop
  | 0, l, a, w => Region.ready .any ops l = [] ∧ Q .normal a w
  | n + 1, l, a, w => (Region.ready .any ops l = [] → Q .normal a w) ∧ ∀ i ∈ Region.ready .any ops l, wpOp P ops Q i (fun a' w' => (i ∉ ds → S w → S w') ∧ wpAnyD P ops Q S ds n (l.setIfInBounds i true) a' w') a w
theorem wpAny_of_D : ∀ (n : Nat) (l : Array Bool) (a : Act) (w : World), wpAnyD P ops Q S ds n l a w → wpAny P .any ops Q n l a w
  | 0, _, _, _, h => h
  | n + 1, _, _, _, h => ⟨h.1, fun i hi => wpOp_mono (fun _ _ h' => wpAny_of_D n _ _ _ h'.2) (h.2 i hi)⟩
theorem YieldsIf.true_ {o : Oper} {v : Value} {a : Act} (h : Yields P ops o v a) : YieldsIf P ops (fun _ => True) o v a := h.yieldsIf
/-- Number i is taken first. T: what its value asks of the world: nothing, or S, and then each of ds waits for it. -/
theorem D_take {T : World → Prop} (b : Bool) (hTS : if b then ∀ w, T w else ∀ w w' : World, (S w → S w') → T w → T w') {i : Nat} {oi : Oper} {v : Value} (hi : ops[i]? = some oi) (hsel : ∀ (j : Nat) (o : Oper) cs b, ops[j]? = some o → o.op ≠ .select cs b)
    (hQ : ∀ c a w, Q (.panic c) (a.put oi.dst v) w → Q (.panic c) a w) :
    ∀ (n : Nat) (l : Array Bool) (a : Act) (w : World),
      (∀ j oj, ops[j]? = some oj → j ≠ i → l.getD j true = false → (∀ e ∈ oj.after, Region.binds .any e = true → e.on ≠ i) → oi.apart ops oj = true) →
      (b = false → ∀ j ∈ ds, l.getD j true = false → ∀ oj, ops[j]? = some oj → ∃ e ∈ oj.after, Region.binds .any e = true ∧ e.on = i) →
      i ∈ Region.ready .any ops l → YieldsIf P ops T oi v a → T w → wpAnyD P ops Q S ds n (l.setIfInBounds i true) (a.put oi.dst v) w → wpAnyD P ops Q S ds (n + 1) l a w := by
  intro n
  induction n with
  | zero =>
    intro l a w _ _ hr hy hT H
    refine ⟨fun h => (by rw [h] at hr; cases hr), fun j hj => ?_⟩
    by_cases hji : j = i
    · subst hji; exact hy.wpOp hi hT ⟨fun _ h => h, H⟩
    · have := ready_mono hj hji
      rw [H.1] at this
      cases this
  | succ n ih =>
    intro l a w hfree hds hr hy hT H
    refine ⟨fun h => (by rw [h] at hr; cases hr), fun j hj => ?_⟩
    by_cases hji : j = i
    · subst hji; exact hy.wpOp hi hT ⟨fun _ h => h, H⟩
    · have h1 := H.2 j (ready_mono hj hji)
      obtain ⟨hjun, oj, hoj, hall⟩ := mem_ready.1 hj
      have hnot : ∀ e ∈ oj.after, Region.binds .any e = true → e.on ≠ i := fun e he hb heq => by
        have h1 := hall e he hb
        have h0 := (mem_ready.1 hr).1
        rw [heq] at h1
        rcases Nat.lt_or_ge i l.size with h' | h'
        · simp [h'] at h0 h1; rw [h0] at h1; cases h1
        · simp [Array.getElem?_eq_none h'] at h1
      have hjd : b = false → j ∉ ds := fun hb0 hm => by
        obtain ⟨e, he, hb, hon⟩ := hds hb0 j hm hjun oj hoj
        exact hnot e he hb hon
      have h2 := wpOp_putIf hoj (hfree j oj hoj hji hjun hnot) (fun cs b => hsel i oi cs b hi) (fun cs b => hsel j oj cs b hoj) hQ hy h1
      have hun : ∀ k, (l.setIfInBounds j true).getD k true = false → l.getD k true = false := fun k hk => by
        by_cases hjk : j = k
        · subst hjk; exact hjun
        · rw [getD_set_ne true hjk] at hk; exact hk
      refine wpOp_mono (fun a' w' h3 => ⟨h3.2.1, ih (l.setIfInBounds j true) a' w' (fun k ok hk hki hu hno => hfree k ok hk hki (hun k hu) hno) (fun hb0 k hk hu => hds hb0 k hk (hun k hu)) (ready_mono hr (Ne.symm hji)) h3.1 (by cases b; exact hTS w w' (h3.2.1 (hjd rfl)) hT; exact hTS w') ?_⟩) h2
      rw [Array.setIfInBounds_comm _ _ hji]
      exact h3.2.2

/-- The operations one by one: what is no effect yields; an effect is run, S is shown behind it if it is none of ds. -/
def wpSeq (P : Program) (ops : Array Oper) (Q : Exit → Act → World → Prop) (S : World → Prop) (eff lds ds : List Nat) : List Nat → Act → World → Prop
  | [], a, w => Q .normal a w
  | i :: r, a, w => if eff.contains i then wpOp P ops Q i (fun a' w' => (i ∉ ds → S w') ∧ wpSeq P ops Q S eff lds ds r a' w') a w
    else ∃ oi v, ops[i]? = some oi ∧ (if lds.contains i then YieldsIf P ops S oi v a ∧ S w else Yields P ops oi v a) ∧ wpSeq P ops Q S eff lds ds r (a.put oi.dst v) w
def directB (ops : Array Oper) (d i : Nat) : Bool := ((ops[d]?).map fun o => o.after.any fun e => Region.binds .any e && e.on == i).getD true
def seqB (ops : Array Oper) (eff lds ds : List Nat) : List Nat → Array Bool → Bool
  | [], l => (Region.ready .any ops l).isEmpty
  | i :: r, l => (if eff.contains i then Region.ready .any ops l == [i] else Region.free .any ops l i && (Region.ready .any ops l).contains i && (!lds.contains i || ds.all (fun d => l.getD d true || directB ops d i))) && seqB ops eff lds ds r (l.setIfInBounds i true)
theorem seq_sound (hs : Region.noSelect ops = true) (hQ : ∀ c (a : Act) (d : Tmp) (v : Value) w, Q (.panic c) (a.put (some d) v) w → Q (.panic c) a w) {eff lds : List Nat} : ∀ (order : List Nat) (l : Array Bool) (a : Act) (w : World), seqB ops eff lds ds order l = true → wpSeq P ops Q S eff lds ds order a w → wpAnyD P ops Q S ds order.length l a w := by
  intro order
  induction order with
  | nil =>
    intro l a w hb h
    exact ⟨by simpa [seqB] using hb, h⟩
  | cons i r ih =>
    intro l a w hb h
    simp only [seqB, Bool.and_eq_true] at hb
    obtain ⟨hb1, hb2⟩ := hb
    simp only [wpSeq] at h
    by_cases he : eff.contains i = true
    · rw [if_pos he] at h hb1
      have hr : Region.ready .any ops l = [i] := by simpa using hb1
      refine ⟨fun h0 => (by rw [hr] at h0; cases h0), fun j hj => ?_⟩
      rw [hr] at hj
      obtain rfl := List.mem_singleton.1 hj
      exact wpOp_mono (fun a' w' h' => ⟨fun hn _ => h'.1 hn, ih _ a' w' hb2 h'.2⟩) h
    · rw [if_neg he] at h hb1
      obtain ⟨oi, v, hi, hy, hrest⟩ := h
      simp only [Bool.and_eq_true] at hb1
      obtain ⟨⟨hf, hr⟩, hd⟩ := hb1
      have hfree := Region.free_spec hi hf
      have hr' : i ∈ Region.ready .any ops l := by simpa using hr
      by_cases hl : lds.contains i = true
      · rw [if_pos hl] at hy
        rw [hl, Bool.not_true, Bool.false_or] at hd
        refine D_take false (T := S) (fun w w' h => h) hi (Region.noSelect_spec hs) (fun c a w h => by cases hdst : oi.dst with | none => rw [hdst] at h; exact h | some d => rw [hdst] at h; exact hQ c a d _ w h) _ l a w hfree (fun _ j hj hun oj hoj => ?_) hr' hy.1 hy.2 (ih _ _ w hb2 hrest)
        have h1 := List.all_eq_true.1 hd j hj
        rw [hun, Bool.false_or] at h1
        simp only [directB, hoj, Option.map_some, Option.getD_some] at h1
        obtain ⟨e, he, h2⟩ := Array.any_eq_true'.1 h1
        simp only [Bool.and_eq_true, beq_iff_eq] at h2
        exact ⟨e, he, h2⟩
      · rw [if_neg hl] at hy
        exact D_take true (T := fun _ => True) (fun _ => trivial) hi (Region.noSelect_spec hs) (fun c a w h => by cases hdst : oi.dst with | none => rw [hdst] at h; exact h | some d => rw [hdst] at h; exact hQ c a d _ w h) _ l a w hfree (fun h => by cases h) hr' (YieldsIf.true_ hy) trivial (ih _ _ w hb2 hrest)
/-- A REGION OF OPEN ORDER. -/
theorem wp_seq_region {id : Nat} {a : Act} {w : World} (S : World → Prop) (eff lds ds order : List Nat) (hm : P.follows .mixedOrders = true) (hs : Region.noSelect ops = true)
    (hlen : order.length = ops.size) (hb : seqB ops eff lds ds order (Array.replicate ops.size false) = true) (hQ : ∀ c (a : Act) (d : Tmp) (v : Value) w, Q (.panic c) (a.put (some d) v) w → Q (.panic c) a w)
    (h : wpSeq P ops Q S eff lds ds order a w.drew) : (Code.region id ops true).wp P Q a w :=
  wp_region_any hm (by have := wpAny_of_D _ _ _ _ (seq_sound (S := S) (ds := ds) hs hQ order _ a w.drew hb h); rw [hlen] at this; exact this)

/-! the steps -/
variable {eff lds : List Nat} {i : Nat} {r : List Nat} {oi : Oper} {a a' : Act} {w : World} {v : Value}
theorem sq_done (h : Q .normal a w) : wpSeq P ops Q S eff lds ds [] a w := h
theorem sq_any (hi0 : ops.toList[i]? = some oi) (he : eff.contains i = false) (hl : lds.contains i = false) (hw : Region.wanted oi (yielded ops a.tmps) = true) (hrun : ∀ W, (execOp a.eval oi).run P W = .ok (.value v) W) (ha : a.put oi.dst v = a') (h : wpSeq P ops Q S eff lds ds r a' w) : wpSeq P ops Q S eff lds ds (i :: r) a w := by
  have hi : ops[i]? = some oi := by rw [← Array.getElem?_toList]; exact hi0
  subst ha
  simp only [wpSeq, he, hl]
  exact ⟨oi, v, hi, .inl ⟨hw, hrun⟩, h⟩
theorem sq_load (hi0 : ops.toList[i]? = some oi) (he : eff.contains i = false) (hl : lds.contains i = true) (hw : Region.wanted oi (yielded ops a.tmps) = true) (hrun : ∀ W, S W → (execOp a.eval oi).run P W = .ok (.value v) W) (hS : S w) (ha : a.put oi.dst v = a') (h : wpSeq P ops Q S eff lds ds r a' w) : wpSeq P ops Q S eff lds ds (i :: r) a w := by
  have hi : ops[i]? = some oi := by rw [← Array.getElem?_toList]; exact hi0
  subst ha
  simp only [wpSeq, he, hl, if_true]
  exact ⟨oi, v, hi, ⟨.inl ⟨hw, hrun⟩, hS⟩, h⟩
theorem sq_off (hi0 : ops.toList[i]? = some oi) (he : eff.contains i = false) (hw : Region.wanted oi (yielded ops a.tmps) = false) (hS : lds.contains i = true → S w) (ha : a.put oi.dst undef = a') (h : wpSeq P ops Q S eff lds ds r a' w) : wpSeq P ops Q S eff lds ds (i :: r) a w := by
  have hi : ops[i]? = some oi := by rw [← Array.getElem?_toList]; exact hi0
  subst ha
  simp only [wpSeq, he]
  refine ⟨oi, undef, hi, ?_, h⟩
  split
  · rename_i hl; exact ⟨.inr ⟨hw, rfl⟩, hS hl⟩
  · exact .inr ⟨hw, rfl⟩
/-- An effect: its step is shown (S behind it, if it is none of ds). -/
theorem sq_eff (hi0 : ops.toList[i]? = some oi) (he : eff.contains i = true) (hw : Region.wanted oi (yielded ops a.tmps) = true)
    (h : ∀ K : Act → World → Prop, Hid (∀ a' w', (i ∉ ds → S w') → wpSeq P ops Q S eff lds ds r a' w' → K a' w') → oi.wp P a w K Q) : wpSeq P ops Q S eff lds ds (i :: r) a w := by
  have hi : ops[i]? = some oi := by rw [← Array.getElem?_toList]; exact hi0
  simp only [wpSeq, he, if_true, wpOp, hi, hw]
  exact .inl (h _ (fun a' w' h1 h2 => ⟨h1, h2⟩))
theorem sq_eff_off (hi0 : ops.toList[i]? = some oi) (he : eff.contains i = true) (hw : Region.wanted oi (yielded ops a.tmps) = false) (hS : i ∉ ds → S w) (ha : a.put oi.dst undef = a') (h : wpSeq P ops Q S eff lds ds r a' w) : wpSeq P ops Q S eff lds ds (i :: r) a w := by
  have hi : ops[i]? = some oi := by rw [← Array.getElem?_toList]; exact hi0
  subst ha
  simp only [wpSeq, he, if_true, wpOp, hi, hw]
  exact ⟨hS, h⟩
/-- An effect that yields a value (and may make memory). -/
theorem sq_value {w1 : World} (hi0 : ops.toList[i]? = some oi) (he : eff.contains i = true) (hw : Region.wanted oi (yielded ops a.tmps) = true) (hrun : (execOp a.eval oi).run P w = .ok (.value v) w1)
    (hS : i ∉ ds → S w1) (ha : a.put oi.dst v = a') (h : wpSeq P ops Q S eff lds ds r a' w1) : wpSeq P ops Q S eff lds ds (i :: r) a w := by
  have hi : ops[i]? = some oi := by rw [← Array.getElem?_toList]; exact hi0
  subst ha
  refine sq_eff hi0 he hw fun K hK => ?_
  unfold Oper.wp
  rw [hrun]
  exact hK.out _ _ hS h
/-- A store. -/
theorem sq_store {w1 : World} (hi0 : ops.toList[i]? = some oi) (he : eff.contains i = true) (hw : Region.wanted oi (yielded ops a.tmps) = true) (hd : oi.dst = none) (hrun : (execOp a.eval oi).run P w = .ok .skip w1)
    (hS : i ∉ ds → S w1) (h : wpSeq P ops Q S eff lds ds r a w1) : wpSeq P ops Q S eff lds ds (i :: r) a w := by
  have hi : ops[i]? = some oi := by rw [← Array.getElem?_toList]; exact hi0
  refine sq_eff hi0 he hw fun K hK => ?_
  unfold Oper.wp
  rw [hrun]
  show K (a.put oi.dst undef) w1
  rw [hd]
  exact hK.out _ _ hS h
theorem enters {f : FuncId} {fn : Func} (hf : P.funcs[f]? = some fn) (hname : (fn.name == "runtime.NumGoroutine") = false) (hb : fn.body.isSome = true) (args : Array Value) (w : World) : (callFunc f args).run P w = .ok (.enter f args) w := by
  have h1 : fn.name ≠ "runtime.NumGoroutine" := by simpa using hname
  obtain ⟨c, hc⟩ := Option.isSome_iff_exists.1 hb
  simp [callFunc, hf, h1, hc]
/-- A call of a function by its number. -/
theorem sq_call (hi0 : ops.toList[i]? = some oi) (he : eff.contains i = true) (hw : Region.wanted oi (yielded ops a.tmps) = true) {f : FuncId} {fn : Func} {as : Array Operand} {ts : Array TypeId} (hop : oi.op = .call { callee := .value (.func f), args := as, argTypes := ts })
    (hf : P.funcs[f]? = some fn) (hname : (fn.name == "runtime.NumGoroutine") = false) (hb : fn.body.isSome = true) (args : List Value) (hargs : as.toList.map a.eval = args)
    (h : Calls P f args.toArray w fun e w' => ∃ v, e = .returned v ∧ (i ∉ ds → S w') ∧ wpSeq P ops Q S eff lds ds r (a.put oi.dst v) w') : wpSeq P ops Q S eff lds ds (i :: r) a w := by
  refine sq_eff hi0 he hw fun K hK => ?_
  have hargs' : as.map a.eval = args.toArray := by rw [← hargs, ← Array.toList_map]
  have hrun : (execOp a.eval oi).run P w = .ok (.enter f args.toArray) w := by
    unfold execOp
    simp [hop, resolve, Deferred.ofValue, invoke, Act.eval, hargs', enters hf hname hb args.toArray w]
  unfold Oper.wp
  rw [hrun, Oper.upon_enter]
  refine h.mono fun e w'' hh => ?_
  obtain ⟨v, rfl, hS, hk⟩ := hh
  exact hK.out _ _ hS hk
/-- The same in a plain region. -/
theorem wpList_call {rest : List Oper} {o : Oper} (hg : o.guard = none) {f : FuncId} {fn : Func} {as : Array Operand} {ts : Array TypeId} (hop : o.op = .call { callee := .value (.func f), args := as, argTypes := ts })
    (hf : P.funcs[f]? = some fn) (hname : (fn.name == "runtime.NumGoroutine") = false) (hb : fn.body.isSome = true) (args : List Value) (hargs : as.toList.map a.eval = args)
    (h : Calls P f args.toArray w fun e w' => ∃ v, e = .returned v ∧ wpList P ops Q rest (a.put o.dst v) w') : wpList P ops Q (o :: rest) a w := by
  refine wpList_plain hg fun K hK => ?_
  have hargs' : as.map a.eval = args.toArray := by rw [← hargs, ← Array.toList_map]
  have hrun : (execOp a.eval o).run P w = .ok (.enter f args.toArray) w := by
    unfold execOp
    simp [hop, resolve, Deferred.ofValue, invoke, Act.eval, hargs', enters hf hname hb args.toArray w]
  unfold Oper.wp
  rw [hrun, Oper.upon_enter]
  refine h.mono fun e w'' hh => ?_
  obtain ⟨v, rfl, hk⟩ := hh
  exact hK _ _ hk
/-- append. -/
theorem sq_app {O : Nat → Prop} (hi0 : ops.toList[i]? = some oi) (he : eff.contains i = true) (hw : Region.wanted oi (yielded ops a.tmps) = true) (s x : Operand) (t e : TypeId)
    (ho : oi.op = .call { callee := .builtin .append, args := #[s, x], argTypes := #[t, t] })
    (z : Value) (sz bytes : Nat) (ht : P.underlying t = some (.slice e)) (hinfo : (P.info? e).map (fun i => (i.zero, i.size, i.bytes)) = some (some z, sz, bytes))
    (hz : z.cells.size = sz) (hs0 : 0 < sz) (hb0 : 0 < bytes) (v : Value) (n : Nat) (xs : List Value) (hs : a.eval s = v) (A : Option Addr) (m c : Nat) (hx : a.eval x = .slice A m c) (HO : Ow w O e sz v n xs) (news : List Value) (hl : news.length = m * sz)
    (hnews : ∀ j u, news[j]? = some u → ∃ ad, A = some ad ∧ w.cell? (ad.add j) = some u) (h1 : ∀ u ∈ news, u.oneCell' = true) (hb : (n + m) * bytes ≤ 140737488355328)
    (h : ∀ v1 w1, Ow w1 (fun k => v.ownBlock = some k ∨ k = w.heap.size) e sz v1 (n + m) (xs ++ news) → Fr (fun k => v.ownBlock = some k) w w1 → (i ∉ ds → S w1) ∧ wpSeq P ops Q S eff lds ds r (a.put oi.dst v1) w1) : wpSeq P ops Q S eff lds ds (i :: r) a w :=
  sq_eff hi0 he hw fun K hK => wp_app s x t e ho z sz bytes ht hinfo hz hs0 hb0 v n xs hs A m c hx HO news hl hnews h1 hb fun v1 w1 h2 h3 => hK.out _ _ (h v1 w1 h2 h3).1 (h v1 w1 h2 h3).2
/-- copy. -/
theorem sq_cpy {O : Nat → Prop} (hi0 : ops.toList[i]? = some oi) (he : eff.contains i = true) (hw : Region.wanted oi (yielded ops a.tmps) = true) (d s : Operand) (t t' e : TypeId) (ho : oi.op = .call { callee := .builtin .copy, args := #[d, s], argTypes := #[t, t'] })
    (ht : P.underlying t = some (.slice e)) (hsz : (P.info? e).map (·.size) = some 1)
    (dp : Option Addr) (dLen dCap : Nat) (hde : a.eval d = .slice dp dLen dCap) (sp : Option Addr) (sLen sCap : Nat) (hse : a.eval s = .slice sp sLen sCap)
    (v : Value) (n : Nat) (xs : List Value) (HO : Ow w O e 1 v n xs) (off : Nat) (hoff : off ≤ n) (hdl : off + dLen ≤ n) (hd : 0 < dLen → ∀ g c, v = .slice (some ⟨g, 0, none⟩) n c → dp = some ⟨g, off, none⟩)
    (cs : List Value) (hn : cs.length = min sLen dLen) (hsrc : ∀ j u, cs[j]? = some u → ∃ ad, sp = some ad ∧ w.cell? (ad.add j) = some u) (h1 : ∀ u ∈ cs, u.oneCell' = true)
    (h : ∀ w1, Ow w1 (fun k => v.ownBlock = some k) e 1 v n (splice xs off cs) → Fr (fun k => v.ownBlock = some k) w w1 → (i ∉ ds → S w1) ∧ wpSeq P ops Q S eff lds ds r (a.put oi.dst (goInt cs.length)) w1) : wpSeq P ops Q S eff lds ds (i :: r) a w :=
  sq_eff hi0 he hw fun K hK => wp_cpy d s t t' e ho ht hsz dp dLen dCap hde sp sLen sCap hse v n xs HO off hoff hdl hd cs hn hsrc h1 fun w1 h2 h3 => hK.out _ _ (h w1 h2 h3).1 (h w1 h2 h3).2
theorem wpList_wanted {rest : List Oper} {o : Oper} (hw : Region.wanted o (yielded ops a.tmps) = true) (h : ∀ K : Act → World → Prop, (∀ a w, wpList P ops Q rest a w → K a w) → o.wp P a w K Q) : wpList P ops Q (o :: rest) a w :=
  wpList_step fun K hK => by rw [if_pos hw]; exact h K hK
/-- A call in a plain region, guarded or not. -/
theorem wpListG_call {rest : List Oper} {o : Oper} (hw : Region.wanted o (yielded ops a.tmps) = true) {f : FuncId} {fn : Func} {as : Array Operand} {ts : Array TypeId} (hop : o.op = .call { callee := .value (.func f), args := as, argTypes := ts })
    (hf : P.funcs[f]? = some fn) (hname : (fn.name == "runtime.NumGoroutine") = false) (hb : fn.body.isSome = true) (args : List Value) (hargs : as.toList.map a.eval = args)
    (h : Calls P f args.toArray w fun e w' => ∃ v, e = .returned v ∧ wpList P ops Q rest (a.put o.dst v) w') : wpList P ops Q (o :: rest) a w := by
  refine wpList_wanted hw fun K hK => ?_
  have hargs' : as.map a.eval = args.toArray := by rw [← hargs, ← Array.toList_map]
  have hrun : (execOp a.eval o).run P w = .ok (.enter f args.toArray) w := by
    unfold execOp
    simp [hop, resolve, Deferred.ofValue, invoke, Act.eval, hargs', enters hf hname hb args.toArray w]
  unfold Oper.wp
  rw [hrun, Oper.upon_enter]
  refine h.mono fun e w'' hh => ?_
  obtain ⟨v, rfl, hk⟩ := hh
  exact hK _ _ hk
theorem wpListG_run {rest : List Oper} {o : Oper} (hw : Region.wanted o (yielded ops a.tmps) = true) {w' : World} (hrun : (execOp a.eval o).run P w = .ok (.value v) w') (h : wpList P ops Q rest (a.put o.dst v) w') : wpList P ops Q (o :: rest) a w := by
  refine wpList_wanted hw fun K hK => ?_
  unfold Oper.wp
  rw [hrun]
  exact hK _ _ h
/-- string(b) in a plain region. -/
theorem wpListG_str {rest : List Oper} {o : Oper} (hw : Region.wanted o (yielded ops a.tmps) = true) {F : Nat → Prop} {l : List UInt8} {src dst e : TypeId} {x : Operand} (ho : o.op = .convert src dst x) (hs : P.underlying src = some (.slice e)) (he : P.underlying e = some (.int .u8)) (hd : P.underlying dst = some .string)
    (hb : Rb w F (a.eval x) l) (h : wpList P ops Q rest (a.put o.dst (.string ⟨l.toArray⟩)) w) : wpList P ops Q (o :: rest) a w := by
  refine wpListG_run hw ?_ h
  unfold execOp
  simp [ho, conv_str hs he hd hb]
/-- The walk stands still here. -/
def Stop (p : Prop) : Prop := p
theorem Stop.go {p : Prop} (h : p) : Stop p := h
theorem halt_dst {rest : List Oper} {o : Oper} (N : Nat) (h : o.dst = some N) (k : Stop (wpList P ops Q (o :: rest) a w)) : wpList P ops Q (o :: rest) a w := k
end
end Go.Proofs.Ytbaohngnpgappaa
