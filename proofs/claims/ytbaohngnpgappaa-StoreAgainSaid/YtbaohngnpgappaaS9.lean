/- store's Next: what is saved behind a change. -/
import Derived.Test.YtbaohngnpgappaaS8
set_option linter.unusedVariables false
set_option linter.unusedSimpArgs false
namespace Go.Proofs.Ytbaohngnpgappaa
open Go.RowKit
def Sv.zero : Sv := ⟨0, 0, 0, 0, [], []⟩
/-- Whether what stands behind a snapshot stays. -/
def keepS (s : Sv) (c : Ch) : Bool := (decide (c.at_ = s.base) && decide (c.term = s.bterm)) || (decide (s.base < c.at_) && decide (c.at_ ≤ s.base + s.l.length) && decide ((s.l[(c.at_ - s.base - 1).toNat]?).map (·.1) = some c.term))
/-- What is saved behind a change. -/
def nextS (s : Sv) (c : Ch) : Option Sv :=
  if c.kind = 1 then (if c.term < s.term ∨ c.vote < 0 then none else some { s with term := c.term, vote := c.vote })
  else if c.kind = 2 then (if c.at_ < s.base + 1 ∨ s.base + s.l.length + 1 < c.at_ then none else some { s with l := s.l.take (c.at_ - s.base - 1).toNat ++ c.l })
  else if c.kind = 3 then (if c.at_ < s.base ∨ 1099511627776 < c.at_ then none else some { s with snap := c.b, base := c.at_, bterm := c.term, l := if keepS s c then s.l.drop (c.at_ - s.base).toNat else [] })
  else none
def SNextPost (G : Nat → Prop) (w : World) (r : Option Sv) (e : Ending) (w' : World) : Prop :=
  ∃ v, e = .returned (.tuple #[v, .int .i64 (if r.isSome then 0 else 1)]) ∧ KV SvK w' G v (r.getD Sv.zero) ∧ Fr No w w'
theorem kv_zero (w : World) (G : Nat → Prop) : KV SvK w G (.agg #[.int .i64 0, .int .i64 0, .int .i64 0, .int .i64 0, .slice none 0 0, .slice none 0 0]) Sv.zero :=
  ⟨_, rfl, ⟨_, _, rfl, Rds.nil _ _ _ _ _ (Nat.zero_le _), Row.nil _ _ _ _ _ (Nat.zero_le _), by unfold I64 Sv.zero; simp, by unfold I64 Sv.zero; simp, by unfold I64 Sv.zero; simp, by unfold I64 Sv.zero; simp⟩⟩
/-- Small enough to be changed. -/
def Ch.lim (c : Ch) : Prop := c.l.length ≤ 1048576 ∧ (∀ x ∈ c.l, x.2.length ≤ 140737488355328) ∧ c.b.length ≤ 140737488355328
def Sv.ok (s : Sv) : Prop := s.lim ∧ 0 ≤ s.base ∧ s.base ≤ 1099511627776
/-- A change as six cells of a block. -/
def CIs (w : World) (b : Nat) (k t v a : Int) (vl vb : Value) : Prop := w.heap[b]? = some (.cells #[.int .i64 k, .int .i64 t, .int .i64 v, .int .i64 a, vl, vb] 62 (0, 0))
theorem c_cells {w : World} {b : Nat} {k t v a : Int} {vl vb : Value} (h : CIs w b k t v a vl vb) : w.cell? ⟨b, 0, none⟩ = some (.int .i64 k) ∧ w.cell? ⟨b, 1, none⟩ = some (.int .i64 t) ∧ w.cell? ⟨b, 2, none⟩ = some (.int .i64 v) ∧ w.cell? ⟨b, 3, none⟩ = some (.int .i64 a) ∧ w.cell? ⟨b, 4, none⟩ = some vl ∧ w.cell? ⟨b, 5, none⟩ = some vb :=
  ⟨blk_cell h 0, blk_cell h 1, blk_cell h 2, blk_cell h 3, blk_cell h 4, blk_cell h 5⟩
theorem kvc_sh {w : World} {F : Nat → Prop} {v : Value} {s : Ch} (h : KV ChK w F v s) : ∃ (k t vo a : Int) (A : Option Addr) (n c : Nat) (A' : Option Addr) (n' c' : Nat), v = .agg #[.int .i64 k, .int .i64 t, .int .i64 vo, .int .i64 a, .slice A n c, .slice A' n' c'] := by
  obtain ⟨cs, rfl, ⟨vl, vb, rfl, hl, hb, _⟩⟩ := h
  obtain ⟨A, c, rfl, _⟩ := hb.shape
  obtain ⟨A', c', rfl, _⟩ := hl.shape
  exact ⟨_, _, _, _, _, _, _, _, _, _, rfl⟩
theorem s_set {w : World} {b : Nat} {t v ba bt : Int} {vs vl : Value} (h : SIs w b t v ba bt vs vl) :
    (∀ z : Int, SIs (w.setCell ⟨b, 0, none⟩ (.int .i64 z)) b z v ba bt vs vl) ∧ (∀ z : Int, SIs (w.setCell ⟨b, 1, none⟩ (.int .i64 z)) b t z ba bt vs vl) ∧ (∀ z : Int, SIs (w.setCell ⟨b, 2, none⟩ (.int .i64 z)) b t v z bt vs vl) ∧ (∀ z : Int, SIs (w.setCell ⟨b, 3, none⟩ (.int .i64 z)) b t v ba z vs vl) :=
  ⟨fun z => blk_set h 0 _, fun z => blk_set h 1 _, fun z => blk_set h 2 _, fun z => blk_set h 3 _⟩
/-- What stands behind the clone, as the walks need it. -/
structure Cloned (w w3 : World) (xs : Nat) (st sv sb sbt : Int) (sn : List UInt8) (sl : List En) (vs vl : Value) (ck ct cv ca : Int) (cll : List En) (cbb : List UInt8) (vcl vcb : Value) (F : Nat → Prop) : Prop where
  s : SIs w3 xs st sv sb sbt vs vl
  c : CIs w3 (xs + 1) ck ct cv ca vcl vcb
  r : SIs w3 (xs + 2) 0 0 0 0 (.slice none 0 0) (.slice none 0 0)
  snap : Rb w3 (fun k => xs + 2 < k) vs sn
  ents : Row EnK w3 (fun k => xs + 2 < k) vl sl
  cl : Row EnK w3 (fun k => F k ∧ k < xs) vcl cll
  cb : Rb w3 (fun k => F k ∧ k < xs) vcb cbb
  fr : Fr No w w3
  at_ : xs = w.heap.size
  i64 : I64 st ∧ I64 sv ∧ I64 sb ∧ I64 sbt ∧ I64 ck ∧ I64 ct ∧ I64 cv ∧ I64 ca
theorem next1_some {s : Sv} {c : Ch} (hk : c.kind = 1) (h1 : s.term ≤ c.term) (h2 : 0 ≤ c.vote) : nextS s c = some { s with term := c.term, vote := c.vote } := by
  unfold nextS; rw [if_pos hk, if_neg (by omega)]
theorem next1_none {s : Sv} {c : Ch} (hk : c.kind = 1) (h1 : c.term < s.term ∨ c.vote < 0) : nextS s c = none := by
  unfold nextS; rw [if_pos hk, if_pos h1]
theorem next2_some {s : Sv} {c : Ch} (hk : c.kind = 2) (h1 : s.base + 1 ≤ c.at_) (h2 : c.at_ ≤ s.base + s.l.length + 1) : nextS s c = some { s with l := s.l.take (c.at_ - s.base - 1).toNat ++ c.l } := by
  unfold nextS; rw [if_neg (by omega), if_pos hk, if_neg (by omega)]
theorem next2_none {s : Sv} {c : Ch} (hk : c.kind = 2) (h1 : c.at_ < s.base + 1 ∨ s.base + s.l.length + 1 < c.at_) : nextS s c = none := by
  unfold nextS; rw [if_neg (by omega), if_pos hk, if_pos h1]
theorem next3_some {s : Sv} {c : Ch} (hk : c.kind = 3) (h1 : s.base ≤ c.at_) (h2 : c.at_ ≤ 1099511627776) : nextS s c = some { s with snap := c.b, base := c.at_, bterm := c.term, l := if keepS s c then s.l.drop (c.at_ - s.base).toNat else [] } := by
  unfold nextS; rw [if_neg (by omega), if_neg (by omega), if_pos hk, if_neg (by omega)]
theorem next3_none {s : Sv} {c : Ch} (hk : c.kind = 3) (h1 : c.at_ < s.base ∨ 1099511627776 < c.at_) : nextS s c = none := by
  unfold nextS; rw [if_neg (by omega), if_neg (by omega), if_pos hk, if_pos h1]
theorem next0_none {s : Sv} {c : Ch} (hk : c.kind ≠ 1 ∧ c.kind ≠ 2 ∧ c.kind ≠ 3) : nextS s c = none := by
  unfold nextS; rw [if_neg hk.1, if_neg hk.2.1, if_neg hk.2.2]
theorem Cloned.drew {w w3 : World} {xs : Nat} {st sv sb sbt : Int} {sn : List UInt8} {sl : List En} {vs vl : Value} {ck ct cv ca : Int} {cll : List En} {cbb : List UInt8} {vcl vcb : Value} {F : Nat → Prop} (h : Cloned w w3 xs st sv sb sbt sn sl vs vl ck ct cv ca cll cbb vcl vcb F) : Cloned w w3.drew xs st sv sb sbt sn sl vs vl ck ct cv ca cll cbb vcl vcb F :=
  ⟨h.s, h.c, h.r, h.snap, h.ents, h.cl, h.cb, h.fr.drew, h.at_, h.i64⟩
/-! ### append of rows -/
section
variable {P : Program}
theorem cat_R {α : Type} {K : Kind α} {W : World} {G : Nat → Prop} {xs ys : List α} {olds news : List Value} (hlo : olds.length = xs.length * K.sz)
    (h1 : ∀ j x, xs[j]? = some x → ∃ cs, K.R W G x cs ∧ ∀ i u, cs[i]? = some u → olds[j * K.sz + i]? = some u) (h2 : ∀ j x, ys[j]? = some x → ∃ cs, K.R W G x cs ∧ ∀ i u, cs[i]? = some u → news[j * K.sz + i]? = some u) :
    ∀ j x, (xs ++ ys)[j]? = some x → ∃ cs, K.R W G x cs ∧ ∀ i u, cs[i]? = some u → (olds ++ news)[j * K.sz + i]? = some u := by
  intro j x hj
  rcases Nat.lt_or_ge j xs.length with h | h
  · rw [List.getElem?_append_left h] at hj
    obtain ⟨cs, hr, hc⟩ := h1 j x hj
    refine ⟨cs, hr, fun i u hu => ?_⟩
    have h5 := hc i u hu
    rw [List.getElem?_append_left (List.getElem?_eq_some_iff.1 h5).1]
    exact h5
  · rw [List.getElem?_append_right h] at hj
    obtain ⟨cs, hr, hc⟩ := h2 _ x hj
    refine ⟨cs, hr, fun i u hu => ?_⟩
    have h6 : xs.length * K.sz ≤ j * K.sz := Nat.mul_le_mul_right _ h
    rw [List.getElem?_append_right (by omega), hlo, show j * K.sz + i - xs.length * K.sz = (j - xs.length) * K.sz + i from by rw [Nat.sub_mul]; omega]
    exact hc i u hu
/-- Behind a row that is full. -/
theorem app_full {α : Type} {K : Kind α} {W : World} {G : Nat → Prop} (t ty e : TypeId) (z : Value) (bytes : Nat) (ht : P.underlying t = some (.slice e)) (hinfo : (P.info? e).map (fun i => (i.zero, i.size, i.bytes)) = some (some z, K.sz, bytes))
    (hz : z.cells.size = K.sz) (hs0 : 0 < K.sz) (hb0 : 0 < bytes) (A : Option Addr) (n : Nat) (xs : List α) (hx : Row K W G (.slice A n n) xs) (A' : Option Addr) (m c : Nat) (ys : List α) (hy : Row K W G (.slice A' m c) ys) (hb : (n + m) * bytes ≤ 140737488355328) :
    ∃ v1 w1, (Builtin.append_ #[t, t] ty #[.slice A n n, .slice A' m c]).run P W = .ok v1 w1 ∧ Fr No W w1 ∧ Row K w1 (fun k => G k ∨ W.heap.size ≤ k) v1 (xs ++ ys) := by
  obtain ⟨_, _, olds, he, hcn, hcm, o1, o2, o3, o4⟩ := hx.news
  obtain ⟨_, _, news, he', hcn', hcm', n1, n2, n3, n4⟩ := hy.news
  injection he with h1 h2 h3
  subst h1; subst h2; subst h3
  injection he' with h1 h2 h3
  subst h1; subst h2; subst h3
  have hlen : xs.length + ys.length ≤ 140737488355328 := Nat.le_trans (Nat.le_mul_of_pos_right _ hb0) hb
  have fin : ∀ v1 w1 O, (∀ k, O k → W.heap.size ≤ k) → Ow w1 O e K.sz v1 (xs.length + ys.length) (olds ++ news) → Fr No W w1 → Row K w1 (fun k => G k ∨ W.heap.size ≤ k) v1 (xs ++ ys) := by
    intro v1 w1 O hO hown hfr
    have h5 : OwK K e w1 O G v1 (xs ++ ys) := by
      refine ⟨olds ++ news, by rw [List.length_append]; exact hown, fun j x hj => ?_⟩
      obtain ⟨cs, hr, hc⟩ := cat_R o1 o4 n4 j x hj
      exact ⟨cs, K.mono (fun k hk => hk.1) (K.move (fun k hk hl => hfr.block k hl (fun h => h)) (K.bound hr)), hc⟩
    exact h5.reads.mono (fun k hk => by rcases hk with h | h; exact .inr (hO k h); exact .inl h)
  cases A with
  | none =>
    have hx0 : xs = [] := by
      cases xs with
      | nil => rfl
      | cons x r =>
        obtain ⟨b, o, _, _, he, _⟩ := hx.at_ 0 (by simp)
        cases he
    subst hx0
    obtain rfl : olds = [] := List.eq_nil_of_length_eq_zero (by simpa using o1)
    obtain ⟨v1, w1, hr, hown, hfr⟩ := run_app (P := P) (W := W) (O := No) t ty e z K.sz bytes ht hinfo hz hs0 hb0 (.slice none 0 0) 0 [] (Ow.nil _ _ _ _) A' ys.length c news n1 n3 n2 (by simpa using hb)
    have hfr' : Fr No W w1 := hfr.mono (fun k _ h => by cases h)
    refine ⟨v1, w1, hr, hfr', fin v1 w1 _ (fun k hk => ?_) hown hfr'⟩
    rcases hk with h | h
    · cases h
    · exact Nat.le_of_eq h.symm
  | some ad =>
    obtain ⟨i0, hi, hzz⟩ := Option.map_eq_some_iff.1 hinfo
    simp only [Prod.mk.injEq] at hzz
    obtain ⟨hz0, hz1, hz2⟩ := hzz
    rcases Nat.eq_zero_or_pos ys.length with hm | hm
    · obtain rfl : ys = [] := List.eq_nil_of_length_eq_zero hm
      obtain rfl : news = [] := List.eq_nil_of_length_eq_zero (by simpa using n1)
      refine ⟨.slice (some ad) xs.length xs.length, W, ?_, Fr.refl _ _, ?_⟩
      · cases A' <;> simp [Builtin.append_, run_underlying ht, sizeOf, typeInfo, hi, Builtin.lenOf, Builtin.firstCells, storeCells, loadCells, loadCellsFrom]
      · rw [List.append_nil]
        exact hx.mono (fun k hk => .inl hk)
    · have hnl : 0 < news.length := by rw [n1]; exact Nat.mul_pos hm hs0
      obtain ⟨ad', rfl, _⟩ := n3 0 _ (List.getElem?_eq_getElem hnl)
      obtain ⟨v1, w1, hr, h2, h3⟩ := run_append_arg_grows (P := P) W t ty e i0 z K.sz bytes ht hi hz0 hz1 hz2 hz hs0 ad xs.length xs.length olds o1 (fun j u hj => by obtain ⟨_, he, hc⟩ := o3 j u hj; cases he; exact hc)
        ad' ys.length c news n1 (fun j u hj => by obtain ⟨_, he, hc⟩ := n3 j u hj; cases he; exact hc) (by omega) (by simp only [maxLen]; omega) hb
      have hfr' : Fr No W w1 := (Fr.grown (S := No) h3 (fun k hk => by cases hk))
      refine ⟨v1, w1, hr, hfr', fin v1 w1 (fun k => W.heap.size ≤ k) (fun k hk => hk) ?_ hfr'⟩
      obtain ⟨hl, h4⟩ := h2
      rcases h4 with ⟨rfl, h0⟩ | ⟨g, cap, cur, rfl, hg, hh, r⟩
      · omega
      · exact ⟨⟨hl, .inr ⟨g, cap, cur, rfl, Nat.zero_le _, hh, r⟩⟩, fun k hk => by cases hk; exact hg⟩
theorem wp_full {α : Type} {K : Kind α} {W : World} {G : Nat → Prop} {o : Oper} {a : Act} {KK : Act → World → Prop} {Q : Exit → Act → World → Prop} (s x : Operand) (t e : TypeId)
    (ho : o.op = .call { callee := .builtin .append, args := #[s, x], argTypes := #[t, t] })
    (z : Value) (bytes : Nat) (ht : P.underlying t = some (.slice e)) (hinfo : (P.info? e).map (fun i => (i.zero, i.size, i.bytes)) = some (some z, K.sz, bytes))
    (hz : z.cells.size = K.sz) (hs0 : 0 < K.sz) (hb0 : 0 < bytes) (A : Option Addr) (n : Nat) (xs : List α) (hs : a.eval s = .slice A n n) (hx : Row K W G (.slice A n n) xs) (A' : Option Addr) (m c : Nat) (ys : List α) (hs' : a.eval x = .slice A' m c) (hy : Row K W G (.slice A' m c) ys) (hb : (n + m) * bytes ≤ 140737488355328)
    (h : ∀ v1 w1, Fr No W w1 → Row K w1 (fun k => G k ∨ W.heap.size ≤ k) v1 (xs ++ ys) → KK (a.put o.dst v1) w1) : o.wp P a W KK Q := by
  obtain ⟨v1, w1, hr, h2, h3⟩ := app_full (P := P) t o.type e z bytes ht hinfo hz hs0 hb0 A n xs hx A' m c ys hy hb
  unfold Oper.wp execOp
  simp only [ho, resolve, invoke, builtin, Sem.run_bind, Sem.run_pure, Result.andThen_ok, List.map_toArray, List.map_cons, List.map_nil, hs, hs', hr]
  exact h v1 w1 h2 h3
theorem sq_full {α : Type} {K : Kind α} {ops : Array Oper} {Q : Exit → Act → World → Prop} {S : World → Prop} {ds eff lds : List Nat} {i : Nat} {r : List Nat} {oi : Oper} {a : Act} {w : World} {G : Nat → Prop} (hi0 : ops.toList[i]? = some oi) (he : eff.contains i = true) (hw : Region.wanted oi (yielded ops a.tmps) = true) (s x : Operand) (t e : TypeId)
    (ho : oi.op = .call { callee := .builtin .append, args := #[s, x], argTypes := #[t, t] })
    (z : Value) (bytes : Nat) (ht : P.underlying t = some (.slice e)) (hinfo : (P.info? e).map (fun i => (i.zero, i.size, i.bytes)) = some (some z, K.sz, bytes))
    (hz : z.cells.size = K.sz) (hs0 : 0 < K.sz) (hb0 : 0 < bytes) (A : Option Addr) (n : Nat) (xs : List α) (hs : a.eval s = .slice A n n) (hx : Row K w G (.slice A n n) xs) (A' : Option Addr) (m c : Nat) (ys : List α) (hs' : a.eval x = .slice A' m c) (hy : Row K w G (.slice A' m c) ys) (hb : (n + m) * bytes ≤ 140737488355328)
    (h : ∀ v1 w1, Fr No w w1 → Row K w1 (fun k => G k ∨ w.heap.size ≤ k) v1 (xs ++ ys) → (i ∉ ds → S w1) ∧ wpSeq P ops Q S eff lds ds r (a.put oi.dst v1) w1) : wpSeq P ops Q S eff lds ds (i :: r) a w :=
  sq_eff hi0 he hw fun KK hK => wp_full s x t e ho z bytes ht hinfo hz hs0 hb0 A n xs hs hx A' m c ys hs' hy hb fun v1 w1 h2 h3 => hK.out _ _ (h v1 w1 h2 h3).1 (h v1 w1 h2 h3).2
theorem row_take {α : Type} {K : Kind α} {W : World} {G : Nat → Prop} {A : Option Addr} {n c : Nat} {xs : List α} (h : Row K W G (.slice A n c) xs) (m : Nat) (hm : m ≤ n) : Row K W G (.slice A m m) (xs.take m) := by
  obtain ⟨A', c', he, h1, h2, h3⟩ := h
  injection he with e1 e2 e3
  subst e1; subst e2; subst e3
  refine ⟨A, m, by rw [List.length_take, Nat.min_eq_left hm], by rw [List.length_take]; omega, by omega, fun j x hj => h3 j x ?_⟩
  rw [List.getElem?_take] at hj
  split at hj
  · exact hj
  · cases hj
theorem row_cut {α : Type} {K : Kind α} (t e : TypeId) (ht : P.underlying t = some (.slice e)) (hsz : (P.info? e).map (·.size) = some K.sz) (A : Option Addr) (n c k : Nat) (hk : k ≤ n) :
    ∃ A' : Option Addr, (∀ W : World, (Instr.slice t (.slice A n c) (some (.int .i64 (k : Int))) none none).run P W = .ok (.slice A' (n - k) (c - k)) W) ∧ ∀ (W : World) (G : Nat → Prop) (xs : List α), Row K W G (.slice A n c) xs → Row K W G (.slice A' (n - k) (c - k)) (xs.drop k) := by
  obtain ⟨i, hi, hs⟩ := Option.map_eq_some_iff.1 hsz
  refine ⟨if c = k then A else Option.map (fun x => x.add (k * K.sz)) A, fun W => ?_, fun W G xs h => ?_⟩
  · have hel : P.elem t = e := by simp [Program.elem, ht]
    have hu : P.underlying t = some (.slice (P.elem t)) := by rw [hel]; exact ht
    rw [run_slice_l W t A n c hu .i64 (k : Int) (Int.natCast_nonneg _) (by omega), hel]
    simp [sizeOf, typeInfo, hi, hs, sliced, Result.andThen]
  · obtain ⟨A', c', he, h1, h2, h3⟩ := h
    injection he with e1 e2 e3
    subst e1; subst e2; subst e3
    refine ⟨_, _, by rw [List.length_drop], by rw [List.length_drop]; omega, by omega, fun j x hj => ?_⟩
    rw [List.getElem?_drop] at hj
    have hlt : k + j < xs.length := (List.getElem?_eq_some_iff.1 hj).1
    obtain ⟨b, o, cs, e0, hb, hr, hc⟩ := h3 _ x hj
    rw [if_neg (by omega), e0]
    refine ⟨b, o + k * K.sz, cs, by simp [add_none], hb, hr, fun i u hu => ?_⟩
    have h5 := hc i u hu
    rw [Nat.add_mul] at h5
    rw [show o + k * K.sz + j * K.sz + i = o + (k * K.sz + j * K.sz) + i from by omega]
    exact h5
end
theorem keep_iff (s : Sv) (c : Ch) : keepS s c = true ↔ (c.at_ = s.base ∧ c.term = s.bterm) ∨ (s.base < c.at_ ∧ c.at_ ≤ s.base + s.l.length ∧ (s.l[(c.at_ - s.base - 1).toNat]?).map (·.1) = some c.term) := by
  unfold keepS
  simp only [Bool.or_eq_true, Bool.and_eq_true, decide_eq_true_eq, and_assoc]
theorem next3_drop {s : Sv} {c : Ch} {k : Nat} (hk : c.kind = 3) (h1 : s.base ≤ c.at_) (h2 : c.at_ ≤ 1099511627776) (hd : (keepS s c = true ∧ k = (c.at_ - s.base).toNat) ∨ (¬ keepS s c = true ∧ k = s.l.length)) : nextS s c = some { s with snap := c.b, base := c.at_, bterm := c.term, l := s.l.drop k } := by
  rw [next3_some hk h1 h2]
  rcases hd with ⟨h, rfl⟩ | ⟨h, rfl⟩
  · rw [if_pos h]
  · rw [if_neg h, List.drop_length]
set_option maxRecDepth 100000 in
set_option maxHeartbeats 4000000 in
theorem next0 {w : World} {F F' : Nat → Prop} {vs vc : Value} {s : Sv} {c : Ch} (hs : KV SvK w F vs s) (hc : KV ChK w F' vc c) (hok : s.ok) (hlim : c.lim) (hk : c.kind ≠ 1 ∧ c.kind ≠ 2 ∧ c.kind ≠ 3) : Calls Try.prog 60 #[vs, vc] w (SNextPost (New w) w (nextS s c)) := by
  obtain ⟨st, sv, sb, sbt, sn, sl⟩ := s
  obtain ⟨ck, ct, cv, ca, cl_, cb_⟩ := c
  have HKV := Lib.hid hs
  obtain ⟨cs0, rfl, ⟨vs, vl, rfl, hbs, hrow, i1, i2, i3, i4⟩⟩ := hs
  obtain ⟨cc0, rfl, ⟨vcl, vcb, rfl, hcl, hcb, j1, j2, j3, j4⟩⟩ := hc
  obtain ⟨As, cs, rfl, hsc1, hsc2⟩ := hbs.shape
  obtain ⟨Al, cl, rfl, hlc1, hlc2⟩ := hrow.shape
  obtain ⟨Ac, cc, rfl, hcc1, hcc2⟩ := hcl.shape
  obtain ⟨Ad, cd, rfl, hdc1, hdc2⟩ := hcb.shape
  simp only at hbs hrow i1 i2 i3 i4 hcl hcb j1 j2 j3 j4 hsc1 hlc1 hcc1 hdc1 ⊢
  simp only at hk
  skip
  obtain ⟨hok1, hsb0, hsb1⟩ := hok
  simp only at hsb0 hsb1
  have hnl' : sl.length ≤ 1048576 := hok1.1
  have HI : Hid (I64 st ∧ I64 sv ∧ I64 sb ∧ I64 sbt ∧ I64 ck ∧ I64 ct ∧ I64 cv ∧ I64 ca) := (show _ ∧ _ from ⟨i1, i2, i3, i4, j1, j2, j3, j4⟩)
  have HOK := Lib.hid hok1
  have HLIM : Hid (cl_.length ≤ 1048576 ∧ (∀ x ∈ cl_, x.2.length ≤ 140737488355328) ∧ cb_.length ≤ 140737488355328) := (show _ ∧ _ from hlim)
  have HCL : Hid (Row EnK w (fun k => F' k ∧ k < w.heap.size) (.slice Ac cl_.length cc) cl_) := (show Row _ _ _ _ _ from hcl.bound (by decide))
  have HCB : Hid (Rb w (fun k => F' k ∧ k < w.heap.size) (.slice Ad cb_.length cd) cb_) := (show Rb _ _ _ _ from hcb.bound)
  unfold I64 at i1 i2 i3 i4 j1 j2 j3 j4
  obtain ⟨ns, hns⟩ : ∃ n, n = sn.length := ⟨_, rfl⟩
  obtain ⟨nl, hnl⟩ : ∃ n, n = sl.length := ⟨_, rfl⟩
  obtain ⟨nc, hnc⟩ : ∃ n, n = cl_.length := ⟨_, rfl⟩
  obtain ⟨nd, hnd⟩ : ∃ n, n = cb_.length := ⟨_, rfl⟩
  rw [← hns, ← hnl] at HKV
  rw [← hnc] at HCL
  rw [← hnd] at HCB
  rw [← hnl] at hnl'
  rw [← hns, ← hnl, ← hnc, ← hnd]
  have HNS := Lib.hid hns
  have HNL := Lib.hid hnl
  have HNC := Lib.hid hnc
  have HND := Lib.hid hnd
  obtain ⟨xs, hxs⟩ : ∃ b, b = w.heap.size := ⟨_, rfl⟩
  rw [← hxs] at HCL HCB
  obtain ⟨w1, hw1⟩ : ∃ w1, Hid (w1 = ((w.alloc (.cells #[.int .i64 st, .int .i64 sv, .int .i64 sb, .int .i64 sbt, .slice As ns cs, .slice Al nl cl] 68 (0, 0))).alloc (.cells #[.int .i64 ck, .int .i64 ct, .int .i64 cv, .int .i64 ca, .slice Ac nc cc, .slice Ad nd cd] 62 (0, 0))).alloc (.cells #[.int .i64 0, .int .i64 0, .int .i64 0, .int .i64 0, .slice none 0 0, .slice none 0 0] 68 (0, 0))) := ⟨_, show _ = _ from rfl⟩
  have hf1 : Fr No w w1 := by rw [hw1.out]; exact (((Fr.refl _ _).alloc _).alloc _).alloc _
  have hx1 : SIs w1 xs st sv sb sbt (.slice As ns cs) (.slice Al nl cl) := by
    rw [hw1.out, hxs]
    refine Fr.heap (S := No) ((Fr.refl _ _).alloc _) ?_ (fun h => h)
    exact Fr.heap (S := No) ((Fr.refl _ _).alloc _) (blk_new _ _) (fun h => h)
  have hy1 : CIs w1 (xs + 1) ck ct cv ca (.slice Ac nc cc) (.slice Ad nd cd) := by
    rw [hw1.out, hxs]
    exact Fr.heap (S := No) ((Fr.refl _ _).alloc _) (blk_new' (by simp)) (fun h => h)
  have hr1 : SIs w1 (xs + 2) 0 0 0 0 (.slice none 0 0) (.slice none 0 0) := by rw [hw1.out, hxs]; exact blk_new' (by simp)
  have hs1 : w1.heap.size = xs + 3 := by rw [hw1.out, hxs]; simp
  obtain ⟨b0, b1, b2, b3, b4, b5⟩ := s_cells hx1
  have HF1 := Lib.hid hf1
  have HX1 := Lib.hid hx1
  have HY1 := Lib.hid hy1
  have HR1 := Lib.hid hr1
  have HS1 := Lib.hid hs1
  have HXS := Lib.hid hxs
  clear hbs hrow hcl hcb hok1 hlim hns hnl hnc hnd hsc1 hsc2 hlc1 hlc2 hcc1 hcc2 hdc1 hdc2 hf1 hx1 hy1 hr1 hs1 hxs
  go_enter Try.func60, Try.ntmps60
  go_wp2_with fail
  rw [← HXS.out, ← hw1.out]
  go_wp2_with fail
  refine (sclone_any (w := w1) (HKV.out.fr HF1.out (fun _ _ _ h => h)) HOK.out).mono ?_
  rintro e w2 ⟨v2, rfl, ⟨cs2, rfl, ⟨vs2, vl2, rfl, hb2, hl2, _⟩⟩, hf2⟩
  obtain ⟨As2, cs2, rfl, _, _⟩ := hb2.shape
  obtain ⟨Al2, cl2, rfl, _, _⟩ := hl2.shape
  simp only at hb2 hl2 ⊢
  rw [← HNS.out] at hb2 ⊢
  rw [← HNL.out] at hl2 ⊢
  have hx2 : SIs w2 xs st sv sb sbt (.slice As ns cs) (.slice Al nl cl) := hf2.heap HX1.out (fun h => h)
  clear b0 b1 b2 b3 b4 b5
  obtain ⟨b0, b1, b2, b3, b4, b5⟩ := s_cells hx2
  have z0 := s_free hx2 0
  have z1 := s_free hx2 1
  have z2 := s_free hx2 2
  have z3 := s_free hx2 3
  have z4 := s_free hx2 4
  have z5 := s_free hx2 5
  have HB2 := Lib.hid hb2
  have HL2 := Lib.hid hl2
  have HF2 : Hid (Fr No w1 w2) := (show Fr No w1 w2 from hf2)
  have HX2 := Lib.hid hx2
  clear hb2 hl2 hf2 hx2
  go_upto_region 3 with fail
  obtain ⟨w3, hw3⟩ : ∃ w3, Hid (w3 = back6 w2 xs st sv sb sbt (.slice As2 ns cs2) (.slice Al2 nl cl2)) := ⟨_, show _ = _ from rfl⟩
  unfold back6 at hw3
  rw [← hw3.out]
  have HC : Hid (Cloned w w3 xs st sv sb sbt sn sl (.slice As2 ns cs2) (.slice Al2 nl cl2) ck ct cv ca cl_ cb_ (.slice Ac nc cc) (.slice Ad nd cd) F') := (show Cloned _ _ _ _ _ _ _ _ _ _ _ _ _ _ _ _ _ _ _ _ from by
    have hf3 : Fr (fun q => q = xs) w2 w3 := by rw [hw3.out]; exact back6_fr w2 xs st sv sb sbt (.slice As2 ns cs2) (.slice Al2 nl cl2)
    have hsz := HS1.out
    have hf13 : Fr (fun q => q = xs) w1 w3 := HF2.out.trans hf3 (fun _ _ h => h.elim) (fun _ _ h => h)
    exact {
      s := by rw [hw3.out]; exact back6_s HX2.out
      c := hf13.heap HY1.out (fun h => by have h' : xs + 1 = xs := h; omega)
      r := hf13.heap HR1.out (fun h => by have h' : xs + 2 = xs := h; omega)
      snap := (HB2.out.fr hf3 (fun k _ hk h => by have h' : k = xs := h; have hk' : w1.heap.size ≤ k := hk; omega)).mono (fun k hk => by have hk' : w1.heap.size ≤ k := hk; show xs + 2 < k; omega)
      ents := (HL2.out.fr (by decide) hf3 (fun k _ hk h => by have h' : k = xs := h; have hk' : w1.heap.size ≤ k := hk; omega)).mono (fun k hk => by have hk' : w1.heap.size ≤ k := hk; show xs + 2 < k; omega)
      cl := HCL.out.fr (by decide) (HF1.out.trans hf13 (U := fun q => q = xs) (fun _ _ h => h.elim) (fun _ _ h => h)) (fun k _ hk h => by have h' : k = xs := h; have := hk.2; omega)
      cb := HCB.out.fr (HF1.out.trans hf13 (U := fun q => q = xs) (fun _ _ h => h.elim) (fun _ _ h => h)) (fun k _ hk h => by have h' : k = xs := h; have := hk.2; omega)
      fr := HF1.out.trans hf13 (fun _ _ h => h) (fun q hq h => by have h' : q = xs := h; have := HXS.out; omega)
      at_ := HXS.out
      i64 := HI.out })
  obtain ⟨b0', b1', b2', b3', b4', b5'⟩ := s_cells HC.out.s
  obtain ⟨d0, d1, d2, d3, d4, d5⟩ := c_cells HC.out.c
  obtain ⟨r0, r1, r2, r3, r4, r5⟩ := s_cells HC.out.r
  have y0 := s_free HC.out.s 0
  have y1 := s_free HC.out.s 1
  have y2 := s_free HC.out.s 2
  have y3 := s_free HC.out.s 3
  have y4 := s_free HC.out.s 4
  have y5 := s_free HC.out.s 5
  have q0 := s_free HC.out.r 0
  have q1 := s_free HC.out.r 1
  have q2 := s_free HC.out.r 2
  have q3 := s_free HC.out.r 3
  have q4 := s_free HC.out.r 4
  have q5 := s_free HC.out.r 5
  clear b0 b1 b2 b3 b4 b5 z0 z1 z2 z3 z4 z5 HB2 HL2 HF2 HX2 HX1 HY1 HR1 HF1 HCL HCB HKV hw3
  obtain ⟨hk1, hk2, hk3⟩ := hk
  have HNONE : Hid (nextS ⟨st, sv, sb, sbt, sn, sl⟩ ⟨ck, ct, cv, ca, cl_, cb_⟩ = none) := (show _ = _ from next0_none ⟨hk1, hk2, hk3⟩)
  go_wp2_with fail
  obtain ⟨w9, hw9⟩ : ∃ w9, Hid (w9 = (((((w3.setCell ⟨xs + 2, 0, none⟩ (.int .i64 0)).setCell ⟨xs + 2, 1, none⟩ (.int .i64 0)).setCell ⟨xs + 2, 2, none⟩ (.int .i64 0)).setCell ⟨xs + 2, 3, none⟩ (.int .i64 0)).setCell ⟨xs + 2, 4, none⟩ (.slice none 0 0)).setCell ⟨xs + 2, 5, none⟩ (.slice none 0 0)) := ⟨_, show _ = _ from rfl⟩
  rw [← hw9.out]
  have HX9 : Hid (SIs w9 (xs + 2) 0 0 0 0 (.slice none 0 0) (.slice none 0 0)) := (show SIs _ _ _ _ _ _ _ _ from by rw [hw9.out]; exact back6_s HC.out.r)
  have HF9 : Hid (Fr (fun q => q = xs + 2) w3 w9) := (show Fr _ _ _ from by rw [hw9.out]; exact back6_fr w3 (xs + 2) 0 0 0 0 (.slice none 0 0) (.slice none 0 0))
  clear b0' b1' b2' b3' b4' b5' d0 d1 d2 d3 d4 d5 r0 r1 r2 r3 r4 r5 y0 y1 y2 y3 y4 y5 q0 q1 q2 q3 q4 q5
  obtain ⟨y0, y1, y2, y3, y4, y5⟩ := s_cells HX9.out
  (try simp only [Exit.inBlock, Exit.then])
  refine bodyPost_ret (by simp [results, Try.results60, go_sem, y0, y1, y2, y3, y4, y5]; try rfl) rfl ?_
  rw [HNONE.out]
  exact (show SNextPost _ _ _ _ _ from ⟨_, rfl, kv_zero _ _, HC.out.fr.trans HF9.out (fun _ _ h => h) (fun q hq h => by have h' : q = xs + 2 := h; have := HXS.out; omega)⟩)
set_option maxRecDepth 100000 in
set_option maxHeartbeats 4000000 in
theorem next1 {w : World} {F F' : Nat → Prop} {vs vc : Value} {s : Sv} {c : Ch} (hs : KV SvK w F vs s) (hc : KV ChK w F' vc c) (hok : s.ok) (hlim : c.lim) (hk : c.kind = 1) : Calls Try.prog 60 #[vs, vc] w (SNextPost (New w) w (nextS s c)) := by
  obtain ⟨st, sv, sb, sbt, sn, sl⟩ := s
  obtain ⟨ck, ct, cv, ca, cl_, cb_⟩ := c
  have HKV := Lib.hid hs
  obtain ⟨cs0, rfl, ⟨vs, vl, rfl, hbs, hrow, i1, i2, i3, i4⟩⟩ := hs
  obtain ⟨cc0, rfl, ⟨vcl, vcb, rfl, hcl, hcb, j1, j2, j3, j4⟩⟩ := hc
  obtain ⟨As, cs, rfl, hsc1, hsc2⟩ := hbs.shape
  obtain ⟨Al, cl, rfl, hlc1, hlc2⟩ := hrow.shape
  obtain ⟨Ac, cc, rfl, hcc1, hcc2⟩ := hcl.shape
  obtain ⟨Ad, cd, rfl, hdc1, hdc2⟩ := hcb.shape
  simp only at hbs hrow i1 i2 i3 i4 hcl hcb j1 j2 j3 j4 hsc1 hlc1 hcc1 hdc1 ⊢
  simp only at hk
  subst hk
  obtain ⟨hok1, hsb0, hsb1⟩ := hok
  simp only at hsb0 hsb1
  have hnl' : sl.length ≤ 1048576 := hok1.1
  have HI : Hid (I64 st ∧ I64 sv ∧ I64 sb ∧ I64 sbt ∧ I64 1 ∧ I64 ct ∧ I64 cv ∧ I64 ca) := (show _ ∧ _ from ⟨i1, i2, i3, i4, j1, j2, j3, j4⟩)
  have HOK := Lib.hid hok1
  have HLIM : Hid (cl_.length ≤ 1048576 ∧ (∀ x ∈ cl_, x.2.length ≤ 140737488355328) ∧ cb_.length ≤ 140737488355328) := (show _ ∧ _ from hlim)
  have HCL : Hid (Row EnK w (fun k => F' k ∧ k < w.heap.size) (.slice Ac cl_.length cc) cl_) := (show Row _ _ _ _ _ from hcl.bound (by decide))
  have HCB : Hid (Rb w (fun k => F' k ∧ k < w.heap.size) (.slice Ad cb_.length cd) cb_) := (show Rb _ _ _ _ from hcb.bound)
  unfold I64 at i1 i2 i3 i4 j1 j2 j3 j4
  obtain ⟨ns, hns⟩ : ∃ n, n = sn.length := ⟨_, rfl⟩
  obtain ⟨nl, hnl⟩ : ∃ n, n = sl.length := ⟨_, rfl⟩
  obtain ⟨nc, hnc⟩ : ∃ n, n = cl_.length := ⟨_, rfl⟩
  obtain ⟨nd, hnd⟩ : ∃ n, n = cb_.length := ⟨_, rfl⟩
  rw [← hns, ← hnl] at HKV
  rw [← hnc] at HCL
  rw [← hnd] at HCB
  rw [← hnl] at hnl'
  rw [← hns, ← hnl, ← hnc, ← hnd]
  have HNS := Lib.hid hns
  have HNL := Lib.hid hnl
  have HNC := Lib.hid hnc
  have HND := Lib.hid hnd
  obtain ⟨xs, hxs⟩ : ∃ b, b = w.heap.size := ⟨_, rfl⟩
  rw [← hxs] at HCL HCB
  obtain ⟨w1, hw1⟩ : ∃ w1, Hid (w1 = ((w.alloc (.cells #[.int .i64 st, .int .i64 sv, .int .i64 sb, .int .i64 sbt, .slice As ns cs, .slice Al nl cl] 68 (0, 0))).alloc (.cells #[.int .i64 1, .int .i64 ct, .int .i64 cv, .int .i64 ca, .slice Ac nc cc, .slice Ad nd cd] 62 (0, 0))).alloc (.cells #[.int .i64 0, .int .i64 0, .int .i64 0, .int .i64 0, .slice none 0 0, .slice none 0 0] 68 (0, 0))) := ⟨_, show _ = _ from rfl⟩
  have hf1 : Fr No w w1 := by rw [hw1.out]; exact (((Fr.refl _ _).alloc _).alloc _).alloc _
  have hx1 : SIs w1 xs st sv sb sbt (.slice As ns cs) (.slice Al nl cl) := by
    rw [hw1.out, hxs]
    refine Fr.heap (S := No) ((Fr.refl _ _).alloc _) ?_ (fun h => h)
    exact Fr.heap (S := No) ((Fr.refl _ _).alloc _) (blk_new _ _) (fun h => h)
  have hy1 : CIs w1 (xs + 1) 1 ct cv ca (.slice Ac nc cc) (.slice Ad nd cd) := by
    rw [hw1.out, hxs]
    exact Fr.heap (S := No) ((Fr.refl _ _).alloc _) (blk_new' (by simp)) (fun h => h)
  have hr1 : SIs w1 (xs + 2) 0 0 0 0 (.slice none 0 0) (.slice none 0 0) := by rw [hw1.out, hxs]; exact blk_new' (by simp)
  have hs1 : w1.heap.size = xs + 3 := by rw [hw1.out, hxs]; simp
  obtain ⟨b0, b1, b2, b3, b4, b5⟩ := s_cells hx1
  have HF1 := Lib.hid hf1
  have HX1 := Lib.hid hx1
  have HY1 := Lib.hid hy1
  have HR1 := Lib.hid hr1
  have HS1 := Lib.hid hs1
  have HXS := Lib.hid hxs
  clear hbs hrow hcl hcb hok1 hlim hns hnl hnc hnd hsc1 hsc2 hlc1 hlc2 hcc1 hcc2 hdc1 hdc2 hf1 hx1 hy1 hr1 hs1 hxs
  go_enter Try.func60, Try.ntmps60
  go_wp2_with fail
  rw [← HXS.out, ← hw1.out]
  go_wp2_with fail
  refine (sclone_any (w := w1) (HKV.out.fr HF1.out (fun _ _ _ h => h)) HOK.out).mono ?_
  rintro e w2 ⟨v2, rfl, ⟨cs2, rfl, ⟨vs2, vl2, rfl, hb2, hl2, _⟩⟩, hf2⟩
  obtain ⟨As2, cs2, rfl, _, _⟩ := hb2.shape
  obtain ⟨Al2, cl2, rfl, _, _⟩ := hl2.shape
  simp only at hb2 hl2 ⊢
  rw [← HNS.out] at hb2 ⊢
  rw [← HNL.out] at hl2 ⊢
  have hx2 : SIs w2 xs st sv sb sbt (.slice As ns cs) (.slice Al nl cl) := hf2.heap HX1.out (fun h => h)
  clear b0 b1 b2 b3 b4 b5
  obtain ⟨b0, b1, b2, b3, b4, b5⟩ := s_cells hx2
  have z0 := s_free hx2 0
  have z1 := s_free hx2 1
  have z2 := s_free hx2 2
  have z3 := s_free hx2 3
  have z4 := s_free hx2 4
  have z5 := s_free hx2 5
  have HB2 := Lib.hid hb2
  have HL2 := Lib.hid hl2
  have HF2 : Hid (Fr No w1 w2) := (show Fr No w1 w2 from hf2)
  have HX2 := Lib.hid hx2
  clear hb2 hl2 hf2 hx2
  go_upto_region 3 with fail
  obtain ⟨w3, hw3⟩ : ∃ w3, Hid (w3 = back6 w2 xs st sv sb sbt (.slice As2 ns cs2) (.slice Al2 nl cl2)) := ⟨_, show _ = _ from rfl⟩
  unfold back6 at hw3
  rw [← hw3.out]
  have HC : Hid (Cloned w w3 xs st sv sb sbt sn sl (.slice As2 ns cs2) (.slice Al2 nl cl2) 1 ct cv ca cl_ cb_ (.slice Ac nc cc) (.slice Ad nd cd) F') := (show Cloned _ _ _ _ _ _ _ _ _ _ _ _ _ _ _ _ _ _ _ _ from by
    have hf3 : Fr (fun q => q = xs) w2 w3 := by rw [hw3.out]; exact back6_fr w2 xs st sv sb sbt (.slice As2 ns cs2) (.slice Al2 nl cl2)
    have hsz := HS1.out
    have hf13 : Fr (fun q => q = xs) w1 w3 := HF2.out.trans hf3 (fun _ _ h => h.elim) (fun _ _ h => h)
    exact {
      s := by rw [hw3.out]; exact back6_s HX2.out
      c := hf13.heap HY1.out (fun h => by have h' : xs + 1 = xs := h; omega)
      r := hf13.heap HR1.out (fun h => by have h' : xs + 2 = xs := h; omega)
      snap := (HB2.out.fr hf3 (fun k _ hk h => by have h' : k = xs := h; have hk' : w1.heap.size ≤ k := hk; omega)).mono (fun k hk => by have hk' : w1.heap.size ≤ k := hk; show xs + 2 < k; omega)
      ents := (HL2.out.fr (by decide) hf3 (fun k _ hk h => by have h' : k = xs := h; have hk' : w1.heap.size ≤ k := hk; omega)).mono (fun k hk => by have hk' : w1.heap.size ≤ k := hk; show xs + 2 < k; omega)
      cl := HCL.out.fr (by decide) (HF1.out.trans hf13 (U := fun q => q = xs) (fun _ _ h => h.elim) (fun _ _ h => h)) (fun k _ hk h => by have h' : k = xs := h; have := hk.2; omega)
      cb := HCB.out.fr (HF1.out.trans hf13 (U := fun q => q = xs) (fun _ _ h => h.elim) (fun _ _ h => h)) (fun k _ hk h => by have h' : k = xs := h; have := hk.2; omega)
      fr := HF1.out.trans hf13 (fun _ _ h => h) (fun q hq h => by have h' : q = xs := h; have := HXS.out; omega)
      at_ := HXS.out
      i64 := HI.out })
  obtain ⟨b0', b1', b2', b3', b4', b5'⟩ := s_cells HC.out.s
  obtain ⟨d0, d1, d2, d3, d4, d5⟩ := c_cells HC.out.c
  obtain ⟨r0, r1, r2, r3, r4, r5⟩ := s_cells HC.out.r
  have y0 := s_free HC.out.s 0
  have y1 := s_free HC.out.s 1
  have y2 := s_free HC.out.s 2
  have y3 := s_free HC.out.s 3
  have y4 := s_free HC.out.s 4
  have y5 := s_free HC.out.s 5
  have q0 := s_free HC.out.r 0
  have q1 := s_free HC.out.r 1
  have q2 := s_free HC.out.r 2
  have q3 := s_free HC.out.r 3
  have q4 := s_free HC.out.r 4
  have q5 := s_free HC.out.r 5
  clear b0 b1 b2 b3 b4 b5 z0 z1 z2 z3 z4 z5 HB2 HL2 HF2 HX2 HX1 HY1 HR1 HF1 HCL HCB HKV hw3
  by_cases h1 : st ≤ ct
  · by_cases h2 : 0 ≤ cv
    · have HSOME : Hid (nextS ⟨st, sv, sb, sbt, sn, sl⟩ ⟨1, ct, cv, ca, cl_, cb_⟩ = some ⟨ct, cv, sb, sbt, sn, sl⟩) := (show _ = _ from next1_some rfl h1 h2)
      go_upto_region 6 with fail
      refine wp_seq_region (fun W => W.cell? ⟨xs + 1, 1, none⟩ = some (.int .i64 ct) ∧ W.cell? ⟨xs + 1, 2, none⟩ = some (.int .i64 cv)) [5, 7] [1, 3] [7] [0, 1, 2, 3, 4, 5, 6, 7] (by kernel_rfl) (by kernel_rfl) rfl (by kernel_rfl) (fun _ _ _ _ _ h => h) ?_
      have HS : Hid (w3.drew.cell? ⟨xs + 1, 1, none⟩ = some (.int .i64 ct) ∧ w3.drew.cell? ⟨xs + 1, 2, none⟩ = some (.int .i64 cv)) := (show _ ∧ _ from ⟨d1, d2⟩)
      repeat (first
        | (refine sq_off (a' := ?_) rfl rfl (by rfl) (fun _ => (HS).out) ?ha ?_; (case ha => simp only [Act.put, List.setIfInBounds_toArray, List.set_cons_zero, List.set_cons_succ]; rfl))
        | (refine sq_any (v := ?_) (a' := ?_) rfl rfl rfl (by rfl) (fun W => ?hr) ?ha ?_; (case hr => go_simp; first | done | rfl); (case ha => simp only [Act.put, List.setIfInBounds_toArray, List.set_cons_zero, List.set_cons_succ]; rfl))
        | (refine sq_load (v := ?_) (a' := ?_) rfl rfl rfl (by rfl) (fun W hSW => ?hr) (HS).out ?ha ?_; (case hr => (try dsimp only at hSW); go_simp; first | done | rfl); (case ha => simp only [Act.put, List.setIfInBounds_toArray, List.set_cons_zero, List.set_cons_succ]; rfl)))
      obtain ⟨w4, hw4⟩ : ∃ w4, Hid (w4 = w3.drew.setCell ⟨xs, 0, none⟩ (.int .i64 ct)) := ⟨_, show _ = _ from rfl⟩
      have hf34 : Fr (fun q => q = xs) w3 w4 := by rw [hw4.out]; exact (Fr.refl _ _).drew.then (Fr.one _ _)
      have HS4 : Hid (w4.cell? ⟨xs + 1, 1, none⟩ = some (.int .i64 ct) ∧ w4.cell? ⟨xs + 1, 2, none⟩ = some (.int .i64 cv)) := (show _ ∧ _ from ⟨hf34.cell d1 (fun h => by have h' : xs + 1 = xs := h; omega), hf34.cell d2 (fun h => by have h' : xs + 1 = xs := h; omega)⟩)
      clear hf34
      refine sq_store (w1 := w4) rfl rfl (by rfl) rfl ?hr (fun _ => HS4.out) ?_
      case hr => rw [hw4.out]; go_simp; first | done | rfl | (constructor <;> rfl)
      have hx4 : SIs w4 xs ct sv sb sbt (.slice As2 ns cs2) (.slice Al2 nl cl2) := by rw [hw4.out]; exact (s_set HC.out.drew.s).1 ct
      have hf4 : Fr (fun q => q = xs) w3 w4 := by rw [hw4.out]; exact (Fr.refl _ _).drew.then (Fr.one _ _)
      obtain ⟨_, u1, _⟩ := s_cells hx4
      have z1 := s_free hx4 1
      repeat (first
        | (refine sq_off (a' := ?_) rfl rfl (by rfl) (fun _ => (HS4).out) ?ha ?_; (case ha => simp only [Act.put, List.setIfInBounds_toArray, List.set_cons_zero, List.set_cons_succ]; rfl))
        | (refine sq_any (v := ?_) (a' := ?_) rfl rfl rfl (by rfl) (fun W => ?hr) ?ha ?_; (case hr => go_simp; first | done | rfl); (case ha => simp only [Act.put, List.setIfInBounds_toArray, List.set_cons_zero, List.set_cons_succ]; rfl))
        | (refine sq_load (v := ?_) (a' := ?_) rfl rfl rfl (by rfl) (fun W hSW => ?hr) (HS4).out ?ha ?_; (case hr => (try dsimp only at hSW); go_simp; first | done | rfl); (case ha => simp only [Act.put, List.setIfInBounds_toArray, List.set_cons_zero, List.set_cons_succ]; rfl)))
      obtain ⟨w5, hw5⟩ : ∃ w5, Hid (w5 = w4.setCell ⟨xs, 1, none⟩ (.int .i64 cv)) := ⟨_, show _ = _ from rfl⟩
      refine sq_store (w1 := w5) rfl rfl (by rfl) rfl ?hr (fun h => absurd (by decide) h) ?_
      case hr => rw [hw5.out]; go_simp; first | done | rfl | (constructor <;> rfl)
      refine sq_done ?_
      have hx5 : SIs w5 xs ct cv sb sbt (.slice As2 ns cs2) (.slice Al2 nl cl2) := by rw [hw5.out]; exact (s_set hx4).2.1 cv
      have HF5 : Hid (Fr (fun q => q = xs) w3 w5) := (show Fr _ _ _ from by rw [hw5.out]; exact hf4.then (Fr.one _ _))
      have HR5 : Hid (SIs w5 (xs + 2) 0 0 0 0 (.slice none 0 0) (.slice none 0 0)) := (show SIs _ _ _ _ _ _ _ _ from HF5.out.heap HC.out.r (fun h => by have h' : xs + 2 = xs := h; omega))
      clear b0' b1' b2' b3' b4' b5' d0 d1 d2 d3 d4 d5 r0 r1 r2 r3 r4 r5 y0 y1 y2 y3 y4 y5 q0 q1 q2 q3 q4 q5 u1 z1 hf4 hx4
      obtain ⟨b0', b1', b2', b3', b4', b5'⟩ := s_cells hx5
      obtain ⟨r0, r1, r2, r3, r4, r5⟩ := s_cells HR5.out
      have q0 := s_free HR5.out 0
      have q1 := s_free HR5.out 1
      have q2 := s_free HR5.out 2
      have q3 := s_free HR5.out 3
      have q4 := s_free HR5.out 4
      have q5 := s_free HR5.out 5
      clear hx5
      go_wp2_with fail
      obtain ⟨w9, hw9⟩ : ∃ w9, Hid (w9 = (((((w5.setCell ⟨xs + 2, 0, none⟩ (.int .i64 ct)).setCell ⟨xs + 2, 1, none⟩ (.int .i64 cv)).setCell ⟨xs + 2, 2, none⟩ (.int .i64 sb)).setCell ⟨xs + 2, 3, none⟩ (.int .i64 sbt)).setCell ⟨xs + 2, 4, none⟩ (.slice As2 ns cs2)).setCell ⟨xs + 2, 5, none⟩ (.slice Al2 nl cl2)) := ⟨_, show _ = _ from rfl⟩
      rw [← hw9.out]
      have HX9 : Hid (SIs w9 (xs + 2) ct cv sb sbt (.slice As2 ns cs2) (.slice Al2 nl cl2)) := (show SIs _ _ _ _ _ _ _ _ from by rw [hw9.out]; exact back6_s HR5.out)
      have HF9 : Hid (Fr (fun q => q = xs + 2) w5 w9) := (show Fr _ _ _ from by rw [hw9.out]; exact back6_fr w5 (xs + 2) ct cv sb sbt (.slice As2 ns cs2) (.slice Al2 nl cl2))
      clear b0' b1' b2' b3' b4' b5' r0 r1 r2 r3 r4 r5 q0 q1 q2 q3 q4 q5
      obtain ⟨y0, y1, y2, y3, y4, y5⟩ := s_cells HX9.out
      (try simp only [Exit.inBlock, Exit.then])
      refine bodyPost_ret (by simp [results, Try.results60, go_sem, y0, y1, y2, y3, y4, y5]; try rfl) rfl ?_
      have HF39 : Hid (Fr (fun q => q = xs ∨ q = xs + 2) w3 w9) := (show Fr _ _ _ from (HF5.out).trans HF9.out (fun _ _ h => .inl h) (fun _ _ h => .inr h))
      rw [HSOME.out]
      refine (show SNextPost _ _ _ _ _ from ⟨_, rfl, ⟨_, rfl, ⟨_, _, rfl, ?_, ?_, HC.out.i64.2.2.2.2.2.1, HC.out.i64.2.2.2.2.2.2.1, HC.out.i64.2.2.1, HC.out.i64.2.2.2.1⟩⟩, HC.out.fr.trans HF39.out (fun _ _ h => h) (fun q hq h => by have := HXS.out; rcases h with h | h <;> omega)⟩)
      · refine (HC.out.snap.fr HF39.out (fun k _ hk h => by have hk' : xs + 2 < k := hk; rcases h with h | h <;> omega)).mono (fun k hk => by have hk' : xs + 2 < k := hk; have := HXS.out; show w.heap.size ≤ k; omega)
      · refine (HC.out.ents.fr (by decide) HF39.out (fun k _ hk h => by have hk' : xs + 2 < k := hk; rcases h with h | h <;> omega)).mono (fun k hk => by have hk' : xs + 2 < k := hk; have := HXS.out; show w.heap.size ≤ k; omega)
    · have HNONE : Hid (nextS ⟨st, sv, sb, sbt, sn, sl⟩ ⟨1, ct, cv, ca, cl_, cb_⟩ = none) := (show _ = _ from next1_none rfl (.inr (Int.not_le.1 h2)))
      go_wp2_with fail
      obtain ⟨w9, hw9⟩ : ∃ w9, Hid (w9 = (((((w3.setCell ⟨xs + 2, 0, none⟩ (.int .i64 0)).setCell ⟨xs + 2, 1, none⟩ (.int .i64 0)).setCell ⟨xs + 2, 2, none⟩ (.int .i64 0)).setCell ⟨xs + 2, 3, none⟩ (.int .i64 0)).setCell ⟨xs + 2, 4, none⟩ (.slice none 0 0)).setCell ⟨xs + 2, 5, none⟩ (.slice none 0 0)) := ⟨_, show _ = _ from rfl⟩
      rw [← hw9.out]
      have HX9 : Hid (SIs w9 (xs + 2) 0 0 0 0 (.slice none 0 0) (.slice none 0 0)) := (show SIs _ _ _ _ _ _ _ _ from by rw [hw9.out]; exact back6_s HC.out.r)
      have HF9 : Hid (Fr (fun q => q = xs + 2) w3 w9) := (show Fr _ _ _ from by rw [hw9.out]; exact back6_fr w3 (xs + 2) 0 0 0 0 (.slice none 0 0) (.slice none 0 0))
      clear b0' b1' b2' b3' b4' b5' d0 d1 d2 d3 d4 d5 r0 r1 r2 r3 r4 r5 y0 y1 y2 y3 y4 y5 q0 q1 q2 q3 q4 q5
      obtain ⟨y0, y1, y2, y3, y4, y5⟩ := s_cells HX9.out
      (try simp only [Exit.inBlock, Exit.then])
      refine bodyPost_ret (by simp [results, Try.results60, go_sem, y0, y1, y2, y3, y4, y5]; try rfl) rfl ?_
      rw [HNONE.out]
      exact (show SNextPost _ _ _ _ _ from ⟨_, rfl, kv_zero _ _, HC.out.fr.trans HF9.out (fun _ _ h => h) (fun q hq h => by have h' : q = xs + 2 := h; have := HXS.out; omega)⟩)
  · have HNONE : Hid (nextS ⟨st, sv, sb, sbt, sn, sl⟩ ⟨1, ct, cv, ca, cl_, cb_⟩ = none) := (show _ = _ from next1_none rfl (.inl (Int.not_le.1 h1)))
    go_wp2_with fail
    obtain ⟨w9, hw9⟩ : ∃ w9, Hid (w9 = (((((w3.setCell ⟨xs + 2, 0, none⟩ (.int .i64 0)).setCell ⟨xs + 2, 1, none⟩ (.int .i64 0)).setCell ⟨xs + 2, 2, none⟩ (.int .i64 0)).setCell ⟨xs + 2, 3, none⟩ (.int .i64 0)).setCell ⟨xs + 2, 4, none⟩ (.slice none 0 0)).setCell ⟨xs + 2, 5, none⟩ (.slice none 0 0)) := ⟨_, show _ = _ from rfl⟩
    rw [← hw9.out]
    have HX9 : Hid (SIs w9 (xs + 2) 0 0 0 0 (.slice none 0 0) (.slice none 0 0)) := (show SIs _ _ _ _ _ _ _ _ from by rw [hw9.out]; exact back6_s HC.out.r)
    have HF9 : Hid (Fr (fun q => q = xs + 2) w3 w9) := (show Fr _ _ _ from by rw [hw9.out]; exact back6_fr w3 (xs + 2) 0 0 0 0 (.slice none 0 0) (.slice none 0 0))
    clear b0' b1' b2' b3' b4' b5' d0 d1 d2 d3 d4 d5 r0 r1 r2 r3 r4 r5 y0 y1 y2 y3 y4 y5 q0 q1 q2 q3 q4 q5
    obtain ⟨y0, y1, y2, y3, y4, y5⟩ := s_cells HX9.out
    (try simp only [Exit.inBlock, Exit.then])
    refine bodyPost_ret (by simp [results, Try.results60, go_sem, y0, y1, y2, y3, y4, y5]; try rfl) rfl ?_
    rw [HNONE.out]
    exact (show SNextPost _ _ _ _ _ from ⟨_, rfl, kv_zero _ _, HC.out.fr.trans HF9.out (fun _ _ h => h) (fun q hq h => by have h' : q = xs + 2 := h; have := HXS.out; omega)⟩)
set_option maxRecDepth 100000 in
set_option maxHeartbeats 4000000 in
theorem next2 {w : World} {F F' : Nat → Prop} {vs vc : Value} {s : Sv} {c : Ch} (hs : KV SvK w F vs s) (hc : KV ChK w F' vc c) (hok : s.ok) (hlim : c.lim) (hk : c.kind = 2) : Calls Try.prog 60 #[vs, vc] w (SNextPost (New w) w (nextS s c)) := by
  obtain ⟨st, sv, sb, sbt, sn, sl⟩ := s
  obtain ⟨ck, ct, cv, ca, cl_, cb_⟩ := c
  have HKV := Lib.hid hs
  obtain ⟨cs0, rfl, ⟨vs, vl, rfl, hbs, hrow, i1, i2, i3, i4⟩⟩ := hs
  obtain ⟨cc0, rfl, ⟨vcl, vcb, rfl, hcl, hcb, j1, j2, j3, j4⟩⟩ := hc
  obtain ⟨As, cs, rfl, hsc1, hsc2⟩ := hbs.shape
  obtain ⟨Al, cl, rfl, hlc1, hlc2⟩ := hrow.shape
  obtain ⟨Ac, cc, rfl, hcc1, hcc2⟩ := hcl.shape
  obtain ⟨Ad, cd, rfl, hdc1, hdc2⟩ := hcb.shape
  simp only at hbs hrow i1 i2 i3 i4 hcl hcb j1 j2 j3 j4 hsc1 hlc1 hcc1 hdc1 ⊢
  simp only at hk
  subst hk
  obtain ⟨hok1, hsb0, hsb1⟩ := hok
  simp only at hsb0 hsb1
  have hnl' : sl.length ≤ 1048576 := hok1.1
  have HI : Hid (I64 st ∧ I64 sv ∧ I64 sb ∧ I64 sbt ∧ I64 2 ∧ I64 ct ∧ I64 cv ∧ I64 ca) := (show _ ∧ _ from ⟨i1, i2, i3, i4, j1, j2, j3, j4⟩)
  have HOK := Lib.hid hok1
  have HLIM : Hid (cl_.length ≤ 1048576 ∧ (∀ x ∈ cl_, x.2.length ≤ 140737488355328) ∧ cb_.length ≤ 140737488355328) := (show _ ∧ _ from hlim)
  have HCL : Hid (Row EnK w (fun k => F' k ∧ k < w.heap.size) (.slice Ac cl_.length cc) cl_) := (show Row _ _ _ _ _ from hcl.bound (by decide))
  have HCB : Hid (Rb w (fun k => F' k ∧ k < w.heap.size) (.slice Ad cb_.length cd) cb_) := (show Rb _ _ _ _ from hcb.bound)
  unfold I64 at i1 i2 i3 i4 j1 j2 j3 j4
  obtain ⟨ns, hns⟩ : ∃ n, n = sn.length := ⟨_, rfl⟩
  obtain ⟨nl, hnl⟩ : ∃ n, n = sl.length := ⟨_, rfl⟩
  obtain ⟨nc, hnc⟩ : ∃ n, n = cl_.length := ⟨_, rfl⟩
  obtain ⟨nd, hnd⟩ : ∃ n, n = cb_.length := ⟨_, rfl⟩
  rw [← hns, ← hnl] at HKV
  rw [← hnc] at HCL
  rw [← hnd] at HCB
  rw [← hnl] at hnl'
  rw [← hns, ← hnl, ← hnc, ← hnd]
  have HNS := Lib.hid hns
  have HNL := Lib.hid hnl
  have HNC := Lib.hid hnc
  have HND := Lib.hid hnd
  obtain ⟨xs, hxs⟩ : ∃ b, b = w.heap.size := ⟨_, rfl⟩
  rw [← hxs] at HCL HCB
  obtain ⟨w1, hw1⟩ : ∃ w1, Hid (w1 = ((w.alloc (.cells #[.int .i64 st, .int .i64 sv, .int .i64 sb, .int .i64 sbt, .slice As ns cs, .slice Al nl cl] 68 (0, 0))).alloc (.cells #[.int .i64 2, .int .i64 ct, .int .i64 cv, .int .i64 ca, .slice Ac nc cc, .slice Ad nd cd] 62 (0, 0))).alloc (.cells #[.int .i64 0, .int .i64 0, .int .i64 0, .int .i64 0, .slice none 0 0, .slice none 0 0] 68 (0, 0))) := ⟨_, show _ = _ from rfl⟩
  have hf1 : Fr No w w1 := by rw [hw1.out]; exact (((Fr.refl _ _).alloc _).alloc _).alloc _
  have hx1 : SIs w1 xs st sv sb sbt (.slice As ns cs) (.slice Al nl cl) := by
    rw [hw1.out, hxs]
    refine Fr.heap (S := No) ((Fr.refl _ _).alloc _) ?_ (fun h => h)
    exact Fr.heap (S := No) ((Fr.refl _ _).alloc _) (blk_new _ _) (fun h => h)
  have hy1 : CIs w1 (xs + 1) 2 ct cv ca (.slice Ac nc cc) (.slice Ad nd cd) := by
    rw [hw1.out, hxs]
    exact Fr.heap (S := No) ((Fr.refl _ _).alloc _) (blk_new' (by simp)) (fun h => h)
  have hr1 : SIs w1 (xs + 2) 0 0 0 0 (.slice none 0 0) (.slice none 0 0) := by rw [hw1.out, hxs]; exact blk_new' (by simp)
  have hs1 : w1.heap.size = xs + 3 := by rw [hw1.out, hxs]; simp
  obtain ⟨b0, b1, b2, b3, b4, b5⟩ := s_cells hx1
  have HF1 := Lib.hid hf1
  have HX1 := Lib.hid hx1
  have HY1 := Lib.hid hy1
  have HR1 := Lib.hid hr1
  have HS1 := Lib.hid hs1
  have HXS := Lib.hid hxs
  clear hbs hrow hcl hcb hok1 hlim hns hnl hnc hnd hsc1 hsc2 hlc1 hlc2 hcc1 hcc2 hdc1 hdc2 hf1 hx1 hy1 hr1 hs1 hxs
  go_enter Try.func60, Try.ntmps60
  go_wp2_with fail
  rw [← HXS.out, ← hw1.out]
  go_wp2_with fail
  refine (sclone_any (w := w1) (HKV.out.fr HF1.out (fun _ _ _ h => h)) HOK.out).mono ?_
  rintro e w2 ⟨v2, rfl, ⟨cs2, rfl, ⟨vs2, vl2, rfl, hb2, hl2, _⟩⟩, hf2⟩
  obtain ⟨As2, cs2, rfl, _, _⟩ := hb2.shape
  obtain ⟨Al2, cl2, rfl, _, _⟩ := hl2.shape
  simp only at hb2 hl2 ⊢
  rw [← HNS.out] at hb2 ⊢
  rw [← HNL.out] at hl2 ⊢
  have hx2 : SIs w2 xs st sv sb sbt (.slice As ns cs) (.slice Al nl cl) := hf2.heap HX1.out (fun h => h)
  clear b0 b1 b2 b3 b4 b5
  obtain ⟨b0, b1, b2, b3, b4, b5⟩ := s_cells hx2
  have z0 := s_free hx2 0
  have z1 := s_free hx2 1
  have z2 := s_free hx2 2
  have z3 := s_free hx2 3
  have z4 := s_free hx2 4
  have z5 := s_free hx2 5
  have HB2 := Lib.hid hb2
  have HL2 := Lib.hid hl2
  have HF2 : Hid (Fr No w1 w2) := (show Fr No w1 w2 from hf2)
  have HX2 := Lib.hid hx2
  clear hb2 hl2 hf2 hx2
  go_upto_region 3 with fail
  obtain ⟨w3, hw3⟩ : ∃ w3, Hid (w3 = back6 w2 xs st sv sb sbt (.slice As2 ns cs2) (.slice Al2 nl cl2)) := ⟨_, show _ = _ from rfl⟩
  unfold back6 at hw3
  rw [← hw3.out]
  have HC : Hid (Cloned w w3 xs st sv sb sbt sn sl (.slice As2 ns cs2) (.slice Al2 nl cl2) 2 ct cv ca cl_ cb_ (.slice Ac nc cc) (.slice Ad nd cd) F') := (show Cloned _ _ _ _ _ _ _ _ _ _ _ _ _ _ _ _ _ _ _ _ from by
    have hf3 : Fr (fun q => q = xs) w2 w3 := by rw [hw3.out]; exact back6_fr w2 xs st sv sb sbt (.slice As2 ns cs2) (.slice Al2 nl cl2)
    have hsz := HS1.out
    have hf13 : Fr (fun q => q = xs) w1 w3 := HF2.out.trans hf3 (fun _ _ h => h.elim) (fun _ _ h => h)
    exact {
      s := by rw [hw3.out]; exact back6_s HX2.out
      c := hf13.heap HY1.out (fun h => by have h' : xs + 1 = xs := h; omega)
      r := hf13.heap HR1.out (fun h => by have h' : xs + 2 = xs := h; omega)
      snap := (HB2.out.fr hf3 (fun k _ hk h => by have h' : k = xs := h; have hk' : w1.heap.size ≤ k := hk; omega)).mono (fun k hk => by have hk' : w1.heap.size ≤ k := hk; show xs + 2 < k; omega)
      ents := (HL2.out.fr (by decide) hf3 (fun k _ hk h => by have h' : k = xs := h; have hk' : w1.heap.size ≤ k := hk; omega)).mono (fun k hk => by have hk' : w1.heap.size ≤ k := hk; show xs + 2 < k; omega)
      cl := HCL.out.fr (by decide) (HF1.out.trans hf13 (U := fun q => q = xs) (fun _ _ h => h.elim) (fun _ _ h => h)) (fun k _ hk h => by have h' : k = xs := h; have := hk.2; omega)
      cb := HCB.out.fr (HF1.out.trans hf13 (U := fun q => q = xs) (fun _ _ h => h.elim) (fun _ _ h => h)) (fun k _ hk h => by have h' : k = xs := h; have := hk.2; omega)
      fr := HF1.out.trans hf13 (fun _ _ h => h) (fun q hq h => by have h' : q = xs := h; have := HXS.out; omega)
      at_ := HXS.out
      i64 := HI.out })
  obtain ⟨b0', b1', b2', b3', b4', b5'⟩ := s_cells HC.out.s
  obtain ⟨d0, d1, d2, d3, d4, d5⟩ := c_cells HC.out.c
  obtain ⟨r0, r1, r2, r3, r4, r5⟩ := s_cells HC.out.r
  have y0 := s_free HC.out.s 0
  have y1 := s_free HC.out.s 1
  have y2 := s_free HC.out.s 2
  have y3 := s_free HC.out.s 3
  have y4 := s_free HC.out.s 4
  have y5 := s_free HC.out.s 5
  have q0 := s_free HC.out.r 0
  have q1 := s_free HC.out.r 1
  have q2 := s_free HC.out.r 2
  have q3 := s_free HC.out.r 3
  have q4 := s_free HC.out.r 4
  have q5 := s_free HC.out.r 5
  clear b0 b1 b2 b3 b4 b5 z0 z1 z2 z3 z4 z5 HB2 HL2 HF2 HX2 HX1 HY1 HR1 HF1 HCL HCB HKV hw3
  by_cases h1 : sb < ca
  · by_cases h2 : ca ≤ sb + (nl : Int) + 1
    · obtain ⟨m, hm⟩ : ∃ m : Nat, ca - sb - 1 = (m : Int) := ⟨(ca - sb - 1).toNat, by omega⟩
      have hmn : m ≤ nl := by omega
      have HM : Hid (ca - sb - 1 = (m : Int) ∧ (ca - sb - 1).toNat = m) := (show _ ∧ _ from ⟨hm, by omega⟩)
      have HSOME : Hid (nextS ⟨st, sv, sb, sbt, sn, sl⟩ ⟨2, ct, cv, ca, cl_, cb_⟩ = some ⟨st, sv, sb, sbt, sn, sl.take m ++ cl_⟩) := (show _ = _ from by
        rw [← HM.out.2]
        exact next2_some rfl (by simp only; omega) (by simp only; rw [← HNL.out]; omega))
      clear hm
      go_wp2_with (with_reducible refine halt_dst 58 rfl ?_)
      refine wpListG_run (v := .int .i64 (m : Int)) (w' := w3) (by rfl) ?hr ?_
      case hr => rw [← HM.out.1]; go_simp; first | done | rfl | (rw [IntKind.wrap_i64]; omega)
      go_upto_region 11 with fail
      have hcap : nl ≤ cl2 := by
        obtain ⟨A9, c9, he9, h9, _⟩ := HC.out.ents.shape
        injection he9 with _ he9 he9'
        rw [HNL.out, he9']
        exact h9
      have HCAP := Lib.hid hcap
      refine wp_seq_region (fun W => W.cell? ⟨xs, 5, none⟩ = some (.slice Al2 nl cl2) ∧ W.cell? ⟨xs + 1, 4, none⟩ = some (.slice Ac nc cc)) [7, 8, 10] [1, 6] [10] [0, 1, 2, 3, 4, 5, 6, 7, 8, 9, 10] (by kernel_rfl) (by kernel_rfl) rfl (by kernel_rfl) (fun _ _ _ _ _ h => h) ?_
      have HS : Hid (w3.drew.cell? ⟨xs, 5, none⟩ = some (.slice Al2 nl cl2) ∧ w3.drew.cell? ⟨xs + 1, 4, none⟩ = some (.slice Ac nc cc)) := (show _ ∧ _ from ⟨b5', d4⟩)
      have hm1 : (0 : Int) ≤ (m : Int) := by omega
      have hm2 : (m : Int) ≤ (cl2 : Int) := by omega
      have hm3 : m ≤ cl2 := by omega
      repeat (first
        | (refine sq_off (a' := ?_) rfl rfl (by rfl) (fun _ => (HS).out) ?ha ?_; (case ha => simp only [Act.put, List.setIfInBounds_toArray, List.set_cons_zero, List.set_cons_succ]; rfl))
        | (refine sq_any (v := ?_) (a' := ?_) rfl rfl rfl (by rfl) (fun W => ?hr) ?ha ?_; (case hr => go_simp; first | done | rfl); (case ha => simp only [Act.put, List.setIfInBounds_toArray, List.set_cons_zero, List.set_cons_succ]; rfl))
        | (refine sq_load (v := ?_) (a' := ?_) rfl rfl rfl (by rfl) (fun W hSW => ?hr) (HS).out ?ha ?_; (case hr => (try dsimp only at hSW); go_simp; first | done | rfl); (case ha => simp only [Act.put, List.setIfInBounds_toArray, List.set_cons_zero, List.set_cons_succ]; rfl)))
      refine sq_call rfl rfl (by rfl) rfl Try.func91 rfl rfl [.slice Ac nc cc] rfl ?_
      refine (own_any (w := w3.drew) HC.out.drew.cl HLIM.out.1 HLIM.out.2.1).mono ?_
      rintro e w4 ⟨v4, rfl, hown4, hf4⟩
      obtain ⟨A4, c4, rfl, _, _⟩ := hown4.shape
      rw [← HNC.out] at hown4 ⊢
      have HF4 : Hid (Fr No w3 w4) := (show Fr No w3 w4 from (Fr.refl _ _).drew.then hf4)
      have HW4 : Hid (w3.heap.size ≤ w4.heap.size ∧ xs + 2 < w3.heap.size) := (show _ ∧ _ from ⟨HF4.out.size, heap_lt HC.out.r⟩)
      have HY4 : Hid (Row EnK w4 (fun k => xs + 2 < k) (.slice A4 nc c4) cl_) := (show Row _ _ _ _ _ from hown4.reads.mono (fun k hk => by
        have h9 : w3.heap.size ≤ k := by { rcases hk with h | h; exact h; exact h.1 }
        have := HW4.out.2
        show xs + 2 < k
        omega))
      have HS4 : Hid (w4.cell? ⟨xs, 5, none⟩ = some (.slice Al2 nl cl2) ∧ w4.cell? ⟨xs + 1, 4, none⟩ = some (.slice Ac nc cc)) := (show _ ∧ _ from ⟨hf4.cell HS.out.1 (fun h => h), hf4.cell HS.out.2 (fun h => h)⟩)
      refine ⟨_, rfl, fun _ => HS4.out, ?_⟩
      simp only [Act.put, List.setIfInBounds_toArray, List.set_cons_zero, List.set_cons_succ]
      clear hown4 hf4
      have HX4 : Hid (Row EnK w4 (fun k => xs + 2 < k) (.slice Al2 m m) (sl.take m)) := (show Row _ _ _ _ _ from row_take (HC.out.ents.fr (by decide) HF4.out (fun _ _ _ h => h)) m hmn)
      refine sq_full (K := EnK) (G := fun k => xs + 2 < k) rfl rfl (by rfl) (.tmp 63) (.tmp 66) 60 64 rfl _ 32 Try.underlying60 info64 rfl (by decide) (by omega) Al2 m (sl.take m) rfl HX4.out A4 nc c4 cl_ rfl HY4.out (by have := HLIM.out.1; have := HNC.out; omega) ?_
      intro v5 w5 hf5 hrow5
      have HF5 : Hid (Fr No w3 w5) := (show Fr No w3 w5 from HF4.out.then hf5)
      have HS5 : Hid (w5.cell? ⟨xs, 5, none⟩ = some (.slice Al2 nl cl2) ∧ w5.cell? ⟨xs + 1, 4, none⟩ = some (.slice Ac nc cc)) := (show _ ∧ _ from ⟨hf5.cell HS4.out.1 (fun h => h), hf5.cell HS4.out.2 (fun h => h)⟩)
      have HR5 : Hid (Row EnK w5 (fun k => xs + 2 < k) v5 (sl.take m ++ cl_)) := (show Row _ _ _ _ _ from hrow5.mono (fun k hk => by rcases hk with h | h; exact h; (have := HW4.out; show xs + 2 < k; omega)))
      obtain ⟨A5, c5, rfl, _, _⟩ := hrow5.shape
      obtain ⟨n5, hn5⟩ : ∃ n, n = (sl.take m ++ cl_).length := ⟨_, rfl⟩
      rw [← hn5] at HR5 ⊢
      refine ⟨fun _ => HS5.out, ?_⟩
      simp only [Act.put, List.setIfInBounds_toArray, List.set_cons_zero, List.set_cons_succ]
      clear hf5 hrow5 hn5
      repeat (first
        | (refine sq_off (a' := ?_) rfl rfl (by rfl) (fun _ => (HS5).out) ?ha ?_; (case ha => simp only [Act.put, List.setIfInBounds_toArray, List.set_cons_zero, List.set_cons_succ]; rfl))
        | (refine sq_any (v := ?_) (a' := ?_) rfl rfl rfl (by rfl) (fun W => ?hr) ?ha ?_; (case hr => go_simp; first | done | rfl); (case ha => simp only [Act.put, List.setIfInBounds_toArray, List.set_cons_zero, List.set_cons_succ]; rfl))
        | (refine sq_load (v := ?_) (a' := ?_) rfl rfl rfl (by rfl) (fun W hSW => ?hr) (HS5).out ?ha ?_; (case hr => (try dsimp only at hSW); go_simp; first | done | rfl); (case ha => simp only [Act.put, List.setIfInBounds_toArray, List.set_cons_zero, List.set_cons_succ]; rfl)))
      have hx5 : SIs w5 xs st sv sb sbt (.slice As2 ns cs2) (.slice Al2 nl cl2) := HF5.out.heap HC.out.s (fun h => h)
      obtain ⟨_, _, _, _, _, u5⟩ := s_cells hx5
      have z5 := s_free hx5 5
      obtain ⟨w6, hw6⟩ : ∃ w6, Hid (w6 = w5.setCell ⟨xs, 5, none⟩ (.slice A5 n5 c5)) := ⟨_, show _ = _ from rfl⟩
      refine sq_store (w1 := w6) rfl rfl (by rfl) rfl ?hr (fun h => absurd (by decide) h) ?_
      case hr => rw [hw6.out]; go_simp; first | done | rfl | (constructor <;> rfl)
      refine sq_done ?_
      have hx6 : SIs w6 xs st sv sb sbt (.slice As2 ns cs2) (.slice A5 n5 c5) := by rw [hw6.out]; exact s_vl hx5 _
      have hf56 : Fr (fun q => q = xs) w5 w6 := by rw [hw6.out]; exact Fr.one _ _
      have HF6 : Hid (Fr (fun q => q = xs) w3 w6) := (show Fr _ _ _ from HF5.out.trans hf56 (fun _ _ h => h.elim) (fun _ _ h => h))
      have HROW6 : Hid (Row EnK w6 (fun k => xs + 2 < k) (.slice A5 n5 c5) (sl.take m ++ cl_)) := (show Row _ _ _ _ _ from HR5.out.fr (by decide) hf56 (fun k _ hk h => by have h' : k = xs := h; have hk' : xs + 2 < k := hk; omega))
      have HR6 : Hid (SIs w6 (xs + 2) 0 0 0 0 (.slice none 0 0) (.slice none 0 0)) := (show SIs _ _ _ _ _ _ _ _ from HF6.out.heap HC.out.r (fun h => by have h' : xs + 2 = xs := h; omega))
      clear b0' b1' b2' b3' b4' b5' d0 d1 d2 d3 d4 d5 r0 r1 r2 r3 r4 r5 y0 y1 y2 y3 y4 y5 q0 q1 q2 q3 q4 q5 u5 z5 hx5 hf56
      obtain ⟨b0', b1', b2', b3', b4', b5'⟩ := s_cells hx6
      obtain ⟨r0, r1, r2, r3, r4, r5⟩ := s_cells HR6.out
      have q0 := s_free HR6.out 0
      have q1 := s_free HR6.out 1
      have q2 := s_free HR6.out 2
      have q3 := s_free HR6.out 3
      have q4 := s_free HR6.out 4
      have q5 := s_free HR6.out 5
      clear hx6
      go_wp2_with fail
      obtain ⟨w9, hw9⟩ : ∃ w9, Hid (w9 = (((((w6.setCell ⟨xs + 2, 0, none⟩ (.int .i64 st)).setCell ⟨xs + 2, 1, none⟩ (.int .i64 sv)).setCell ⟨xs + 2, 2, none⟩ (.int .i64 sb)).setCell ⟨xs + 2, 3, none⟩ (.int .i64 sbt)).setCell ⟨xs + 2, 4, none⟩ (.slice As2 ns cs2)).setCell ⟨xs + 2, 5, none⟩ (.slice A5 n5 c5)) := ⟨_, show _ = _ from rfl⟩
      rw [← hw9.out]
      have HX9 : Hid (SIs w9 (xs + 2) st sv sb sbt (.slice As2 ns cs2) (.slice A5 n5 c5)) := (show SIs _ _ _ _ _ _ _ _ from by rw [hw9.out]; exact back6_s HR6.out)
      have HF9 : Hid (Fr (fun q => q = xs + 2) w6 w9) := (show Fr _ _ _ from by rw [hw9.out]; exact back6_fr w6 (xs + 2) st sv sb sbt (.slice As2 ns cs2) (.slice A5 n5 c5))
      clear b0' b1' b2' b3' b4' b5' r0 r1 r2 r3 r4 r5 q0 q1 q2 q3 q4 q5
      obtain ⟨y0, y1, y2, y3, y4, y5⟩ := s_cells HX9.out
      (try simp only [Exit.inBlock, Exit.then])
      refine bodyPost_ret (by simp [results, Try.results60, go_sem, y0, y1, y2, y3, y4, y5]; try rfl) rfl ?_
      have HF39 : Hid (Fr (fun q => q = xs ∨ q = xs + 2) w3 w9) := (show Fr _ _ _ from (HF6.out).trans HF9.out (fun _ _ h => .inl h) (fun _ _ h => .inr h))
      rw [HSOME.out]
      refine (show SNextPost _ _ _ _ _ from ⟨_, rfl, ⟨_, rfl, ⟨_, _, rfl, ?_, ?_, HC.out.i64.1, HC.out.i64.2.1, HC.out.i64.2.2.1, HC.out.i64.2.2.2.1⟩⟩, HC.out.fr.trans HF39.out (fun _ _ h => h) (fun q hq h => by have := HXS.out; rcases h with h | h <;> omega)⟩)
      · refine (HC.out.snap.fr HF39.out (fun k _ hk h => by have hk' : xs + 2 < k := hk; rcases h with h | h <;> omega)).mono (fun k hk => by have hk' : xs + 2 < k := hk; have := HXS.out; show w.heap.size ≤ k; omega)
      · refine (HROW6.out.fr (by decide) HF9.out (fun k _ hk h => by have hk' : xs + 2 < k := hk; have h' : k = xs + 2 := h; omega)).mono (fun k hk => by have hk' : xs + 2 < k := hk; have := HXS.out; show w.heap.size ≤ k; omega)
    · have HNONE : Hid (nextS ⟨st, sv, sb, sbt, sn, sl⟩ ⟨2, ct, cv, ca, cl_, cb_⟩ = none) := (show _ = _ from next2_none rfl (.inr (by simp only; rw [← HNL.out]; omega)))
      go_wp2_with fail
      obtain ⟨w9, hw9⟩ : ∃ w9, Hid (w9 = (((((w3.setCell ⟨xs + 2, 0, none⟩ (.int .i64 0)).setCell ⟨xs + 2, 1, none⟩ (.int .i64 0)).setCell ⟨xs + 2, 2, none⟩ (.int .i64 0)).setCell ⟨xs + 2, 3, none⟩ (.int .i64 0)).setCell ⟨xs + 2, 4, none⟩ (.slice none 0 0)).setCell ⟨xs + 2, 5, none⟩ (.slice none 0 0)) := ⟨_, show _ = _ from rfl⟩
      rw [← hw9.out]
      have HX9 : Hid (SIs w9 (xs + 2) 0 0 0 0 (.slice none 0 0) (.slice none 0 0)) := (show SIs _ _ _ _ _ _ _ _ from by rw [hw9.out]; exact back6_s HC.out.r)
      have HF9 : Hid (Fr (fun q => q = xs + 2) w3 w9) := (show Fr _ _ _ from by rw [hw9.out]; exact back6_fr w3 (xs + 2) 0 0 0 0 (.slice none 0 0) (.slice none 0 0))
      clear b0' b1' b2' b3' b4' b5' d0 d1 d2 d3 d4 d5 r0 r1 r2 r3 r4 r5 y0 y1 y2 y3 y4 y5 q0 q1 q2 q3 q4 q5
      obtain ⟨y0, y1, y2, y3, y4, y5⟩ := s_cells HX9.out
      (try simp only [Exit.inBlock, Exit.then])
      refine bodyPost_ret (by simp [results, Try.results60, go_sem, y0, y1, y2, y3, y4, y5]; try rfl) rfl ?_
      rw [HNONE.out]
      exact (show SNextPost _ _ _ _ _ from ⟨_, rfl, kv_zero _ _, HC.out.fr.trans HF9.out (fun _ _ h => h) (fun q hq h => by have h' : q = xs + 2 := h; have := HXS.out; omega)⟩)
  · have HNONE : Hid (nextS ⟨st, sv, sb, sbt, sn, sl⟩ ⟨2, ct, cv, ca, cl_, cb_⟩ = none) := (show _ = _ from next2_none rfl (.inl (by simp only; omega)))
    go_wp2_with fail
    obtain ⟨w9, hw9⟩ : ∃ w9, Hid (w9 = (((((w3.setCell ⟨xs + 2, 0, none⟩ (.int .i64 0)).setCell ⟨xs + 2, 1, none⟩ (.int .i64 0)).setCell ⟨xs + 2, 2, none⟩ (.int .i64 0)).setCell ⟨xs + 2, 3, none⟩ (.int .i64 0)).setCell ⟨xs + 2, 4, none⟩ (.slice none 0 0)).setCell ⟨xs + 2, 5, none⟩ (.slice none 0 0)) := ⟨_, show _ = _ from rfl⟩
    rw [← hw9.out]
    have HX9 : Hid (SIs w9 (xs + 2) 0 0 0 0 (.slice none 0 0) (.slice none 0 0)) := (show SIs _ _ _ _ _ _ _ _ from by rw [hw9.out]; exact back6_s HC.out.r)
    have HF9 : Hid (Fr (fun q => q = xs + 2) w3 w9) := (show Fr _ _ _ from by rw [hw9.out]; exact back6_fr w3 (xs + 2) 0 0 0 0 (.slice none 0 0) (.slice none 0 0))
    clear b0' b1' b2' b3' b4' b5' d0 d1 d2 d3 d4 d5 r0 r1 r2 r3 r4 r5 y0 y1 y2 y3 y4 y5 q0 q1 q2 q3 q4 q5
    obtain ⟨y0, y1, y2, y3, y4, y5⟩ := s_cells HX9.out
    (try simp only [Exit.inBlock, Exit.then])
    refine bodyPost_ret (by simp [results, Try.results60, go_sem, y0, y1, y2, y3, y4, y5]; try rfl) rfl ?_
    rw [HNONE.out]
    exact (show SNextPost _ _ _ _ _ from ⟨_, rfl, kv_zero _ _, HC.out.fr.trans HF9.out (fun _ _ h => h) (fun q hq h => by have h' : q = xs + 2 := h; have := HXS.out; omega)⟩)
end Go.Proofs.Ytbaohngnpgappaa
