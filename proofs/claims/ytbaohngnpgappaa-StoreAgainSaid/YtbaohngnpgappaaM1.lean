/- Joined texts: D0, D1, D2, D3, D4. -/
import Derived.Test.YtbaohngnpgappaaChecked
import Derived.Test.YtbaohngnpgappaaM0
import Derived.WalkSpells
set_option linter.unusedVariables false
set_option linter.unusedSimpArgs false
namespace Go.Proofs.Ytbaohngnpgappaa
open Go.RowKit
theorem info5 : (Try.prog.info? 5).map (fun i => (i.zero, i.size, i.bytes)) = some (some (.int .u8 0), 1, 1) := by kernel_rfl
theorem info100 : (Try.prog.info? 100).map (fun i => (i.zero, i.size, i.bytes)) = some (some (.agg #[.int .i64 0, .slice none 0 0]), 2, 32) := by kernel_rfl
theorem sz5 : (Try.prog.info? 5).map (·.size) = some 1 := by kernel_rfl
def New (w : World) : Nat → Prop := fun k => w.heap.size ≤ k

section
variable {P : Program} {ops : Array Oper} {rest : List Oper} {o : Oper} {a : Act} {Q : Exit → Act → World → Prop} {w : World}
theorem at_dst (N : Nat) (h : o.dst = some N) (k : wpList P ops Q (o :: rest) a w) : wpList P ops Q (o :: rest) a w := k
theorem wpList_run (hgd : o.guard = none) {v : Value} {w' : World} (hrun : (execOp a.eval o).run P w = .ok (.value v) w') (h : wpList P ops Q rest (a.put o.dst v) w') : wpList P ops Q (o :: rest) a w := by
  refine wpList_plain hgd fun K hK => ?_
  unfold Oper.wp
  rw [hrun]
  exact hK _ _ h
theorem wpList_max (hgd : o.guard = none) (x y : Operand) (ts : Array TypeId) (ho : o.op = .call { callee := .builtin .max, args := #[x, y], argTypes := ts }) (p q : Int) (hx : a.eval x = .int .i64 p) (hy : a.eval y = .int .i64 q)
    (h : wpList P ops Q rest (a.put o.dst (.int .i64 (max p q))) w) : wpList P ops Q (o :: rest) a w := by
  refine wpList_run hgd ?_ h
  have e : (if q > p then q else p) = max p q := by split <;> omega
  unfold execOp
  simp [ho, resolve, invoke, builtin, hx, hy, Builtin.max_, Builtin.max2, e]
theorem wpList_min (hgd : o.guard = none) (x y : Operand) (ts : Array TypeId) (ho : o.op = .call { callee := .builtin .min, args := #[x, y], argTypes := ts }) (p q : Int) (hx : a.eval x = .int .i64 p) (hy : a.eval y = .int .i64 q)
    (h : wpList P ops Q rest (a.put o.dst (.int .i64 (min p q))) w) : wpList P ops Q (o :: rest) a w := by
  refine wpList_run hgd ?_ h
  have e : (if q < p then q else p) = min p q := by split <;> omega
  unfold execOp
  simp [ho, resolve, invoke, builtin, hx, hy, Builtin.min_, Builtin.min2, e]
end

/-! ### slices.Clone -/
theorem clone8 {w : World} {F : Nat → Prop} {v : Value} {l : List UInt8} (h : Rb w F v l) (hl : l.length ≤ 140737488355328) :
    Calls Try.prog 64 #[v] w fun e w' => ∃ v', e = .returned v' ∧ Ow w' (New w) 5 1 v' l.length (l.map enc8) ∧ Fr No w w' := by
  obtain ⟨A, c, rfl, h1, h2, h3⟩ := h.news
  cases A with
  | none =>
    obtain rfl : l = [] := by
      cases l with
      | nil => rfl
      | cons x xs => obtain ⟨ad, h, _⟩ := h3 0 _ rfl; cases h
    clear h h1 h2 h3 hl
    have hq := fun (W : World) => Lib.run_eql_slice_nil (P := Try.prog) W 22 5 none 0 c 0 0 Try.underlying22
    simp only [List.length_nil]
    go_enter Try.func64, Try.ntmps64
    go_wp2
    go_ret
    exact ⟨_, rfl, Ow.nil _ _ _ _, Fr.refl _ _⟩
  | some ad =>
    have hq := fun (W : World) => Lib.run_eql_slice_nil (P := Try.prog) W 22 5 (some ad) l.length c 0 0 Try.underlying22
    have HN := Lib.hid h3
    clear h h3 h1 h2
    go_enter Try.func64, Try.ntmps64
    go_wp2_with (at_builtin; refine wpList_app (O := fun k => k = w.heap.size) rfl (.tmp 5) (.tmp 6) 22 5 rfl _ 1 1 Try.underlying22 info5 rfl (by omega) (by omega) (.slice (some ⟨w.heap.size, 0, none⟩) 0 0) 0 [] rfl (some ad) l.length c rfl ?c1 (l.map enc8) (by simp) ?c2 (by simp [enc8, Value.oneCell']) (by omega) ?_; (case c1 => exact ⟨⟨rfl, .inr ⟨_, 0, #[], rfl, Nat.zero_le _, blk_new w _, Nat.le_refl _, Nat.zero_le _, rfl, rfl⟩⟩, fun k hk => (Option.some.inj hk).symm⟩); (case c2 => exact fun j u hj => by obtain ⟨ad', he, hc⟩ := HN.out j u hj; exact ⟨ad', he, (World.cell?_of_block (Below.heap_alloc _ _ _ (World.block_lt_of_cell? w _ hc))).trans hc⟩); intro v1 w1 hown hfr)
    go_ret
    refine ⟨_, rfl, ?_, ?_⟩
    · have e1 : 0 + l.length = l.length := Nat.zero_add _
      rw [List.nil_append, e1] at hown
      refine hown.mono fun k hk => ?_
      rcases hk with hk | hk
      · exact Nat.le_of_eq (Option.some.inj hk)
      · rw [hk]; simp [New]
    · exact ((Fr.refl _ w).alloc _).trans (S := No) hfr (fun _ _ h => h) (fun i hi h => absurd (Option.some.inj h) (by show w.heap.size ≠ i; omega))

/-! ### a disk -/
structure Dk where
  safe : List UInt8
  now : List UInt8
  waits : List (Nat × List UInt8)
def WaitsAre (w : World) (R : Nat → Prop) (ws : List (Nat × List UInt8)) (cells : List Value) : Prop :=
  ∀ j a b, ws[j]? = some (a, b) → ∃ vb, cells[2 * j]? = some (.int .i64 (a : Int)) ∧ cells[2 * j + 1]? = some vb ∧ Rb w R vb b
/-- The disk's own fields at block bp. -/
structure DiskAt (w : World) (O R : Nat → Prop) (bp : Nat) (vs vn vw : Value) (cells : List Value) (d : Dk) : Prop where
  top : O bp
  hp : w.heap[bp]? = some (.cells #[vs, vn, vw] 98 (0, 0))
  hs : Ow w (fun k => O k ∧ k ≠ bp) 5 1 vs d.safe.length (d.safe.map enc8)
  hn : Ow w (fun k => O k ∧ k ≠ bp ∧ vs.ownBlock ≠ some k) 5 1 vn d.now.length (d.now.map enc8)
  hw : Ow w (fun k => O k ∧ k ≠ bp ∧ vs.ownBlock ≠ some k ∧ vn.ownBlock ≠ some k) 100 2 vw d.waits.length cells
  ha : WaitsAre w R d.waits cells
  hd : ∀ k, O k → ¬ R k
  hb : ∀ k, O k ∨ R k → k < w.heap.size
  hl : d.safe.length = d.now.length
  hm : d.now.length ≤ 1048576
  hv : ∀ x ∈ d.waits, x.1 + x.2.length ≤ d.now.length
def DiskIs (w : World) (O R : Nat → Prop) (p : Value) (d : Dk) : Prop := ∃ bp vs vn vw cells, p = .pointer (some ⟨bp, 0, none⟩) ∧ DiskAt w O R bp vs vn vw cells d
theorem WaitsAre.move {w w' : World} {R R' : Nat → Prop} {ws : List (Nat × List UInt8)} {cells : List Value} (h : WaitsAre w R ws cells) (hm : ∀ k, R k → k < w.heap.size → w'.heap[k]? = w.heap[k]?) (hR : ∀ k, R k → R' k) : WaitsAre w' R' ws cells := fun j a b hj => by
  obtain ⟨vb, h1, h2, h3⟩ := h j a b hj
  exact ⟨vb, h1, h2, (h3.move hm).mono hR⟩
theorem DiskAt.move {w w' : World} {O R : Nat → Prop} {bp : Nat} {vs vn vw : Value} {cells : List Value} {d : Dk} (h : DiskAt w O R bp vs vn vw cells d) (hsz : w.heap.size ≤ w'.heap.size) (hm : ∀ k, O k ∨ R k → w'.heap[k]? = w.heap[k]?) : DiskAt w' O R bp vs vn vw cells d :=
  ⟨h.top, (hm bp (.inl h.top)).trans h.hp, h.hs.move fun k hk _ => hm k (.inl hk.1), h.hn.move fun k hk _ => hm k (.inl hk.1), h.hw.move fun k hk _ => hm k (.inl hk.1), h.ha.move (fun k hk _ => hm k (.inr hk)) (fun _ h => h), h.hd, fun k hk => Nat.lt_of_lt_of_le (h.hb k hk) hsz, h.hl, h.hm, h.hv⟩
/-- What turns other blocks leaves the disk as it is. -/
theorem DiskIs.fr {w w' : World} {O R S : Nat → Prop} {p : Value} {d : Dk} (h : DiskIs w O R p d) (hf : Fr S w w') (hs : ∀ k, k < w.heap.size → O k ∨ R k → ¬ S k) : DiskIs w' O R p d := by
  obtain ⟨bp, vs, vn, vw, cells, rfl, h⟩ := h
  exact ⟨bp, vs, vn, vw, cells, rfl, h.move hf.size fun k hk => hf.block k (h.hb k hk) (hs k (h.hb k hk) hk)⟩
theorem DiskIs.lt {w : World} {O R : Nat → Prop} {p : Value} {d : Dk} (h : DiskIs w O R p d) : ∀ k, O k ∨ R k → k < w.heap.size := by
  obtain ⟨bp, vs, vn, vw, cells, rfl, h⟩ := h
  exact h.hb
theorem DiskIs.apart {w : World} {O R : Nat → Prop} {p : Value} {d : Dk} (h : DiskIs w O R p d) : ∀ k, O k → ¬ R k := by
  obtain ⟨bp, vs, vn, vw, cells, rfl, h⟩ := h
  exact h.hd

theorem ow_zeros (W : World) {m g : Nat} (hn : m ≤ 1048576) (h : W.heap[g]? = some (.cells (madeCells #[.int .u8 0] m) 5 (0, 0))) : Ow W (fun k => k = g) 5 1 (.slice (some ⟨g, 0, none⟩) m m) m ((List.replicate m (0 : UInt8)).map enc8) := by
  refine ⟨⟨by simp, .inr ⟨_, m, _, rfl, Nat.zero_le _, h, Nat.le_refl _, by simp only [maxLen]; omega, by simp [madeCells], ?_⟩⟩, fun k hk => (Option.some.inj hk).symm⟩
  apply List.ext_getElem
  · simp [madeCells]
  · intro i h1 h2
    simp [madeCells, Nat.mod_one, enc8]
theorem disk_made {w : World} {m a b c : Nat} (hn : m ≤ 1048576) (ha : w.heap[a]? = some (.cells (madeCells #[.int .u8 0] m) 5 (0, 0))) (hb : w.heap[b]? = some (.cells (madeCells #[.int .u8 0] m) 5 (0, 0)))
    (hc : w.heap[c]? = some (.cells #[.slice (some ⟨a, 0, none⟩) m m, .slice (some ⟨b, 0, none⟩) m m, .slice none 0 0] 98 (0, 0))) (hab : a ≠ b) (hac : a ≠ c) (hbc : b ≠ c) :
    DiskIs w (fun k => k = a ∨ k = b ∨ k = c) No (.pointer (some ⟨c, 0, none⟩)) ⟨List.replicate m 0, List.replicate m 0, []⟩ := by
  refine ⟨c, _, _, _, [], rfl, ⟨.inr (.inr rfl), hc, ?_, ?_, Ow.nil _ _ _ _, fun j a b h => by simp at h, fun _ _ h => h, ?_, rfl, by simpa using hn, fun x hx => by simp at hx⟩⟩
  · rw [List.length_replicate]; exact (ow_zeros w hn ha).mono fun k hk => ⟨.inl hk, fun e => hac (hk ▸ e)⟩
  · rw [List.length_replicate]; exact (ow_zeros w hn hb).mono fun k hk => ⟨.inr (.inl hk), fun e => hbc (hk ▸ e), fun e => hab ((Option.some.inj e).trans hk)⟩
  · rintro k ((rfl | rfl | rfl) | hk)
    · exact heap_lt ha
    · exact heap_lt hb
    · exact heap_lt hc
    · exact hk.elim
def clampI (n : Int) : Nat := (min (max n 0) 1048576).toNat
theorem new_any (n : Int) (w : World) :
    Calls Try.prog 21 #[.int .i64 n] w fun e w' => ∃ p O, e = .returned p ∧ DiskIs w' O No p ⟨List.replicate (clampI n) 0, List.replicate (clampI n) 0, []⟩ ∧ (∀ k, O k → w.heap.size ≤ k) ∧ Fr No w w' := by
  obtain ⟨m, hm⟩ : ∃ m : Nat, m = clampI n := ⟨_, rfl⟩
  have hm2 : m ≤ 1048576 := by rw [hm]; unfold clampI; omega
  have hmm : Hid ((min (max n 0) 1048576 : Int) = (m : Int)) := by rw [hm]; unfold clampI; show _ = _; omega
  have H := Lib.hid hm
  clear hm
  have hmk := fun (W : World) => run_make_row' (P := Try.prog) 22 5 (.int .u8 0) 1 Try.underlying22 info5 rfl .i64 .i64 m (by omega) (by omega) W
  go_enter Try.func21, Try.ntmps21
  go_wp2_with (first | ((with_reducible refine at_dst 4 rfl ?_); refine wpList_max rfl (.tmp 3) (.const (.int .i64 0)) _ rfl _ _ rfl rfl ?_) | ((with_reducible refine at_dst 5 rfl ?_); refine wpList_min rfl (.tmp 4) (.const (.int .i64 1048576)) _ rfl _ _ rfl rfl ?_; rw [hmm.out]))
  go_region
  all_goals go_wp2
  all_goals go_ret
  all_goals rw [← H.out]
  · refine ⟨_, _, rfl, disk_made (a := w.heap.size) (b := w.heap.size + 1) (c := w.heap.size + 1 + 1) hm2 (blk_drew (blk_alloc (blk_alloc (blk_new _ _) _) _)) (blk_drew (blk_alloc (blk_new' (by simp)) _)) (blk_drew (blk_new' (by simp))) (by omega) (by omega) (by omega), ?_, (((Fr.refl _ w).alloc _).alloc _).alloc _ |>.drew⟩
    rintro k (rfl | rfl | rfl) <;> omega
  · refine ⟨_, _, rfl, disk_made (a := w.heap.size + 1) (b := w.heap.size) (c := w.heap.size + 1 + 1) hm2 (blk_drew (blk_alloc (blk_new' (by simp)) _)) (blk_drew (blk_alloc (blk_alloc (blk_new _ _) _) _)) (blk_drew (blk_new' (by simp))) (by omega) (by omega) (by omega), ?_, (((Fr.refl _ w).alloc _).alloc _).alloc _ |>.drew⟩
    rintro k (rfl | rfl | rfl) <;> omega

theorem size_any {w : World} {O R : Nat → Prop} {p : Value} {d : Dk} (h : DiskIs w O R p d) : Calls Try.prog 27 #[p] w fun e w' => e = .returned (.int .i64 (d.now.length : Int)) ∧ w = w' := by
  obtain ⟨bp, vs, vn, vw, cells, rfl, h⟩ := h
  obtain ⟨A, c, rfl, _, _⟩ := h.hn.shape
  have h1 := blk_cell h.hp 1
  simp only [List.getElem?_toArray, List.getElem?_cons_succ, List.getElem?_cons_zero] at h1
  clear h
  go_enter Try.func27, Try.ntmps27
  go_wp2
  go_ret
  exact ⟨rfl, rfl⟩
theorem waiting_any {w : World} {O R : Nat → Prop} {p : Value} {d : Dk} (h : DiskIs w O R p d) : Calls Try.prog 23 #[p] w fun e w' => e = .returned (.int .i64 (d.waits.length : Int)) ∧ w = w' := by
  obtain ⟨bp, vs, vn, vw, cells, rfl, h⟩ := h
  obtain ⟨A, c, rfl, _, _⟩ := h.hw.shape
  have h1 := blk_cell h.hp 2
  simp only [List.getElem?_toArray, List.getElem?_cons_succ, List.getElem?_cons_zero] at h1
  clear h
  go_enter Try.func23, Try.ntmps23
  go_wp2
  go_ret
  exact ⟨rfl, rfl⟩
theorem write_no {w : World} {O R F : Nat → Prop} {p vb : Value} {d : Dk} {at_ : Int} {b : List UInt8} (h : DiskIs w O R p d) (hb : Rb w F vb b) (hno : at_ < 0 ∨ at_ > (d.now.length : Int) - b.length) :
    Calls Try.prog 22 #[p, .int .i64 at_, vb] w fun e w' => e = .returned (.int .i64 210) ∧ w = w' := by
  obtain ⟨bp, vs, vn, vw, cells, rfl, h⟩ := h
  obtain ⟨A, c, hv, _, _⟩ := h.hn.shape
  have h1 := blk_cell h.hp 1
  simp only [List.getElem?_toArray, List.getElem?_cons_succ, List.getElem?_cons_zero] at h1
  have hm := h.hm
  subst hv
  obtain ⟨A', c', rfl, h4, h5⟩ := hb.shape
  obtain ⟨n, hn⟩ : ∃ n, n = d.now.length := ⟨_, rfl⟩
  obtain ⟨m, hm'⟩ : ∃ m, m = b.length := ⟨_, rfl⟩
  rw [← hn] at h1 hno hm
  rw [← hm'] at hno h4 ⊢
  have h6 : (m : Int) ≤ 9223372036854775807 := by simp only [maxLen] at h5; omega
  clear h hb hm' hn h4 h5
  by_cases h0 : at_ < 0
  · clear hno
    go_enter Try.func22, Try.ntmps22
    go_wp2
    go_ret
    exact ⟨rfl, rfl⟩
  · have h0' : 0 ≤ at_ := by omega
    have h7 : (n : Int) - m < at_ := by omega
    clear hno h0
    go_enter Try.func22, Try.ntmps22
    go_wp2
    go_ret
    exact ⟨rfl, rfl⟩
/-- A call that answers v and leaves the disk as d'. -/
def DiskPost (w : World) (O R : Nat → Prop) (p v : Value) (d' : Dk) (e : Ending) (w' : World) : Prop :=
  ∃ O' R', e = .returned v ∧ DiskIs w' O' R' p d' ∧ (∀ k, O' k → O k ∨ w.heap.size ≤ k) ∧ (∀ k, R' k → R k ∨ w.heap.size ≤ k) ∧ Fr O w w'
set_option maxHeartbeats 1000000 in
theorem write_yes {w : World} {O R F : Nat → Prop} {p vb : Value} {d : Dk} {a : Nat} {b : List UInt8} (h : DiskIs w O R p d) (hb : Rb w F vb b) (hF : ∀ k, F k → ¬ O k) (hyes : a + b.length ≤ d.now.length) (hws : d.waits.length ≤ 1000000) :
    Calls Try.prog 22 #[p, .int .i64 a, vb] w (DiskPost w O R p (.int .i64 0) ⟨d.safe, splice d.now a b, d.waits ++ [(a, b)]⟩) := by
  obtain ⟨bp, vs, vn, vw, cells, rfl, h⟩ := h
  obtain ⟨A, c, hv, hc1, hc2⟩ := h.hn.shape
  obtain ⟨Aw, cw, hvw, hcw1, hcw2⟩ := h.hw.shape
  obtain ⟨A', c', hvb, h4, h5⟩ := hb.shape
  subst hvb hv hvw
  have hf2 := blk_free h.hp 2
  have h1 := blk_cell h.hp 1
  have h2 := blk_cell h.hp 2
  simp only [List.getElem?_toArray, List.getElem?_cons_succ, List.getElem?_cons_zero] at h1 h2
  have hn20 : d.now.length ≤ 1048576 := h.hm
  have hs0 : (0 : Int) ≤ (a : Int) := by omega
  have hs1 : (a : Int) ≤ (d.now.length : Int) - (b.length : Int) := by omega
  have hs2 : (a : Int) ≤ (d.now.length : Int) := by omega
  have H := Lib.hid h
  have HB := Lib.hid hb
  clear h hb hyes hcw1 hcw2 h5 hc2
  go_enter Try.func22, Try.ntmps22
  go_wp2_with fail
  refine wp_seq_region (fun W => W.cell? ⟨bp, 2, none⟩ = some (Value.slice Aw d.waits.length cw)) [7, 9, 10, 13] [4] [13] [0, 1, 2, 3, 4, 5, 6, 7, 8, 9, 10, 11, 12, 13] (by kernel_rfl) (by kernel_rfl) rfl (by kernel_rfl) (fun _ _ _ _ _ h => h) ?_
  have hS : w.drew.cell? ⟨bp, 2, none⟩ = some (Value.slice Aw d.waits.length cw) := h2
  repeat (first
    | (refine sq_any (v := ?_) (a' := ?_) rfl rfl rfl (by rfl) (fun W => ?hr) ?ha ?_; (case hr => go_simp; first | done | rfl); (case ha => simp only [Act.put, List.setIfInBounds_toArray, List.set_cons_zero, List.set_cons_succ]; rfl))
    | (refine sq_load (v := ?_) (a' := ?_) rfl rfl rfl (by rfl) (fun W hSW => ?hr) hS ?ha ?_; (case hr => (try dsimp only at hSW); go_simp; first | done | rfl); (case ha => simp only [Act.put, List.setIfInBounds_toArray, List.set_cons_zero, List.set_cons_succ]; rfl)))
  refine sq_call rfl rfl (by rfl) rfl Try.func64 rfl rfl [.slice A' b.length c'] rfl ?_
  refine (clone8 (w := w.drew) (HB.out.fr (S := No) (Fr.refl _ _).drew (fun _ _ _ h => h)) (by omega)).mono ?_
  rintro e w1 ⟨v', rfl, hown, hfr⟩
  obtain ⟨A2, c2, rfl, _, _⟩ := hown.shape
  have hfr1 : Fr No w w1 := ((Fr.refl _ w).drew).then hfr
  have HO := Lib.hid hown
  have hn1 : w1.cell? ⟨bp, 2, none⟩ = some (Value.slice Aw d.waits.length cw) := hfr1.cell h2 (fun h => h)
  have HF := Lib.hid hfr1
  clear hown hfr hfr1 hS
  refine ⟨_, rfl, fun _ => hn1, ?_⟩
  simp only [Act.put, List.setIfInBounds_toArray, List.set_cons_zero, List.set_cons_succ]
  repeat (first
    | (refine sq_any (v := ?_) (a' := ?_) rfl rfl rfl (by rfl) (fun W => ?hr) ?ha ?_; (case hr => go_simp; first | done | rfl); (case ha => simp only [Act.put, List.setIfInBounds_toArray, List.set_cons_zero, List.set_cons_succ]; rfl)))
  refine sq_value (v := ?_) (w1 := ?_) (a' := ?_) rfl rfl (by rfl) ?hr ?hS ?ha ?_
  case hr => go_simp; first | done | rfl | (constructor <;> rfl)
  case ha => simp only [Act.put, List.setIfInBounds_toArray, List.set_cons_zero, List.set_cons_succ]; rfl
  case hS => exact fun _ => cell_alloc hn1 _
  refine sq_app (O := fun k => O k ∧ k ≠ bp ∧ vs.ownBlock ≠ some k ∧ (Value.slice A d.now.length c).ownBlock ≠ some k) rfl rfl (by rfl) (.tmp 25) (.tmp 30) 96 100 rfl _ 2 32 Try.underlying96 info100 rfl (by omega) (by omega) (.slice Aw d.waits.length cw) d.waits.length cells rfl (some ⟨w1.heap.size, 0, none⟩) 1 1 rfl ?HO [.int .i64 a, .slice A2 b.length c2] rfl ?hnews ?h1 (by omega) ?_
  case HO => exact (H.out.hw.fr HF.out (fun _ _ _ h => h)).fr ((Fr.refl No w1).alloc _) (fun _ _ _ h => h)
  case hnews =>
    intro j u hj
    exact ⟨_, rfl, by rw [add_none, blk_cell (blk_new w1 _)]; simpa using hj⟩
  case h1 => intro u hu; simp at hu; rcases hu with rfl | rfl <;> rfl
  intro v1 w2 hown2 hfr2
  obtain ⟨A3, c3, rfl, _, _⟩ := hown2.shape
  have hfa : Fr No w (w1.alloc (.cells #[.int .i64 a, .slice A2 b.length c2] 100)) := HF.out.alloc _
  have hbw : ¬ (Value.slice Aw d.waits.length cw).ownBlock = some bp := fun e => (H.out.hw.2 bp e).2.1 rfl
  have hn2 : w2.heap[bp]? = some (.cells #[vs, .slice A d.now.length c, .slice Aw d.waits.length cw] 98 (0, 0)) := hfr2.heap (hfa.heap H.out.hp (fun h => h)) hbw
  have hc2 : w2.cell? ⟨bp, 2, none⟩ = some (Value.slice Aw d.waits.length cw) := by rw [blk_cell hn2]; rfl
  have hz2 := blk_free hn2 2
  refine ⟨fun _ => hc2, ?_⟩
  simp only [Act.put, List.setIfInBounds_toArray, List.set_cons_zero, List.set_cons_succ]
  have HN2 := Lib.hid hn2
  have HO2 := Lib.hid hown2
  have HF2 := Lib.hid hfr2
  have HFA := Lib.hid hfa
  clear hn2 hown2 hfr2 hfa hbw
  repeat (first
    | (refine sq_any (v := ?_) (a' := ?_) rfl rfl rfl (by rfl) (fun W => ?hr) ?ha ?_; (case hr => go_simp; first | done | rfl); (case ha => simp only [Act.put, List.setIfInBounds_toArray, List.set_cons_zero, List.set_cons_succ]; rfl)))
  refine sq_store (w1 := ?_) rfl rfl (by rfl) rfl ?hr (fun h => absurd (by decide) h) ?_
  case hr => go_simp; first | done | rfl | (constructor <;> rfl)
  refine sq_done ?_
  obtain ⟨w3, hw3⟩ : ∃ w3, Hid (w3 = w2.setCell ⟨bp, 2, none⟩ (.slice A3 (d.waits.length + 1) c3)) := ⟨_, rfl⟩
  rw [← hw3.out]
  have hfr3 : Fr (fun k => k = bp) w2 w3 := by rw [hw3.out]; exact (Fr.refl _ _).setCell _ _ (fun _ => rfl)
  have hn3 : w3.heap[bp]? = some (.cells #[vs, .slice A d.now.length c, .slice A3 (d.waits.length + 1) c3] 98 (0, 0)) := by rw [hw3.out, blk_set HN2.out]; rfl
  have hc3 : w3.cell? ⟨bp, 1, none⟩ = some (Value.slice A d.now.length c) := by rw [blk_cell hn3]; rfl
  have HN3 := Lib.hid hn3
  have HF3 := Lib.hid hfr3
  clear hn3 hfr3 hn1 hc2 hz2
  have hw1s : w.heap.size ≤ w1.heap.size := HF.out.size
  have hlw : ∀ k, (Value.slice Aw d.waits.length cw).ownBlock = some k → O k ∧ k ≠ bp ∧ vs.ownBlock ≠ some k ∧ (Value.slice A d.now.length c).ownBlock ≠ some k := fun k hk => H.out.hw.2 k hk
  have hf13 : Fr (fun k => O k ∧ k ≠ bp ∧ vs.ownBlock ≠ some k ∧ (Value.slice A d.now.length c).ownBlock ≠ some k ∨ k = bp) w w3 :=
    (HFA.out.trans (U := fun k => O k ∧ k ≠ bp ∧ vs.ownBlock ≠ some k ∧ (Value.slice A d.now.length c).ownBlock ≠ some k ∨ k = bp) HF2.out (fun _ _ h => h.elim) (fun k _ hk => .inl (hlw k hk))).trans HF3.out (fun _ _ h => h) (fun _ _ h => .inr h)
  have hcO : Ow w3 (fun k => (Value.slice A d.now.length c).ownBlock = some k) 5 1 (.slice A d.now.length c) d.now.length (d.now.map enc8) := by
    refine H.out.hn.just.fr hf13 (fun k _ hk hS => ?_)
    rcases hS with ⟨_, _, _, h4⟩ | h4
    · exact h4 hk
    · exact (H.out.hn.2 k hk).2.1 h4
  have hB3 : Rb w3 F (.slice A' b.length c') b := by
    refine HB.out.fr hf13 (fun k _ hk hS => ?_)
    rcases hS with ⟨h1, _⟩ | h1
    · exact hF k hk h1
    · exact hF k hk (h1 ▸ H.out.top)
  obtain ⟨A0, c0, he0, _, _, hnews⟩ := hB3.news
  cases he0
  have HF13 := Lib.hid hf13
  have HLW := Lib.hid hlw
  have HCO := Lib.hid hcO
  have HNEWS := Lib.hid hnews
  clear hf13 hlw hcO hB3 hnews
  obtain ⟨A4, hcut, hA4⟩ := cut_run (P := Try.prog) 22 5 Try.underlying22 sz5 A d.now.length c a (by omega)
  have HA4 := Lib.hid hA4
  clear hA4
  go_wp2_with ((with_reducible refine at_dst 41 rfl ?_); refine wpList_cpy rfl (.tmp 39) (.tmp 40) 22 22 5 rfl Try.underlying22 sz5 _ _ _ rfl _ _ _ rfl (.slice A d.now.length c) d.now.length (d.now.map enc8) HCO.out a (by omega) (by omega) (by rw [HA4.out]; exact cut_at hc1) (b.map enc8) (by rw [List.length_map]; omega) HNEWS.out (by simp [enc8, Value.oneCell']) ?_; intro w4 hown4 hfr4; have HO4 := Lib.hid hown4; have HF4 := Lib.hid hfr4; clear hown4 hfr4)
  go_ret
  have hD := H.out
  have hf13 := HF13.out
  have hf4 := HF4.out
  have hlw := HLW.out
  have hvn := hD.hn.2
  have hvs := hD.hs.2
  have hsz1 : (w1.alloc (.cells #[.int .i64 a, .slice A2 b.length c2] 100)).heap.size = w1.heap.size + 1 := by simp
  have hsz2 : w1.heap.size + 1 ≤ w2.heap.size := by rw [← hsz1]; exact HF2.out.size
  have hsz4 : w2.heap.size ≤ w4.heap.size := Nat.le_trans HF3.out.size hf4.size
  have f14 : Fr (fun k => O k ∧ k ≠ bp ∧ vs.ownBlock ≠ some k ∨ k = bp) w w4 := hf13.trans hf4 (fun k _ h => h.imp (fun h => ⟨h.1, h.2.1, h.2.2.1⟩) id) (fun k _ h => .inl (hvn k h))
  refine ⟨fun k => O k ∨ (k = w1.heap.size + 1 ∧ k < w2.heap.size), fun k => R k ∨ (w.heap.size ≤ k ∧ k < w1.heap.size), rfl, ⟨bp, vs, .slice A d.now.length c, .slice A3 (d.waits.length + 1) c3, cells ++ [.int .i64 a, .slice A2 b.length c2], rfl, ?_⟩, fun k h => h.imp id (fun h => by have := h.1; omega), fun k h => h.imp id (fun h => h.1), f14.mono fun k _ h => ?_⟩
  · refine ⟨.inl hD.top, hf4.heap HN3.out (fun h => (hvn bp h).2.1 rfl), ?_, ?_, ?_, ?_, ?_, ?_, ?_, ?_, ?_⟩
    · exact (hD.hs.just.fr f14 (fun k _ h1 h2 => by
        rcases h2 with h2 | h2
        · exact h2.2.2 h1
        · exact (hvs k h1).2 h2)).mono (fun k hk => ⟨.inl (hvs k hk).1, (hvs k hk).2⟩)
    · have h := HO4.out
      rw [splice_map] at h
      have hl : (splice d.now a b).length = d.now.length := length_splice _ _ _ (by omega)
      rw [hl]
      exact h.mono (fun k hk => ⟨.inl (hvn k hk).1, (hvn k hk).2⟩)
    · have hlen : (d.waits ++ [(a, b)]).length = d.waits.length + 1 := by simp
      rw [hlen]
      have hk2 : ∀ k, (Value.slice A3 (d.waits.length + 1) c3).ownBlock = some k → (O k ∨ (k = w1.heap.size + 1 ∧ k < w2.heap.size)) ∧ k ≠ bp ∧ vs.ownBlock ≠ some k ∧ (Value.slice A d.now.length c).ownBlock ≠ some k := by
        intro k hk
        rcases HO2.out.2 k hk with h | h
        · exact ⟨.inl (hlw k h).1, (hlw k h).2⟩
        · rw [hsz1] at h
          have hbp := hD.hb bp (.inl hD.top)
          exact ⟨.inr ⟨h, (HO2.out.bound.2 k hk).2⟩, by omega, fun e => by have := hD.hb k (.inl (hvs k e).1); omega, fun e => by have := hD.hb k (.inl (hvn k e).1); omega⟩
      exact (((HO2.out.just.fr HF3.out (fun k _ h1 h2 => (hk2 k h1).2.1 h2)).fr hf4 (fun k _ h1 h2 => (hk2 k h1).2.2.2 h2)).mono hk2)
    · have hmv : ∀ k, R k → k < w.heap.size → w4.heap[k]? = w.heap[k]? := fun k hk hl => f14.block k hl (fun h2 => by
        rcases h2 with h2 | h2
        · exact hD.hd k h2.1 hk
        · exact hD.hd k (h2 ▸ hD.top) hk)
      have hold := hD.ha.move (R' := fun k => R k ∨ (w.heap.size ≤ k ∧ k < w1.heap.size)) hmv (fun _ h => .inl h)
      have hcl : cells.length = d.waits.length * 2 := hD.hw.len
      intro j a0 b0 hj
      rcases Nat.lt_or_ge j d.waits.length with hlt | hge
      · rw [List.getElem?_append_left hlt] at hj
        obtain ⟨vb, e1, e2, e3⟩ := hold j a0 b0 hj
        exact ⟨vb, by rw [List.getElem?_append_left (by omega)]; exact e1, by rw [List.getElem?_append_left (by omega)]; exact e2, e3⟩
      · rw [List.getElem?_append_right hge] at hj
        have hj0 : j = d.waits.length := by
          rcases Nat.lt_or_ge j (d.waits.length + 1) with h | h
          · omega
          · rw [List.getElem?_eq_none (by simp; omega)] at hj; cases hj
        subst hj0
        simp at hj
        obtain ⟨rfl, rfl⟩ := hj
        refine ⟨.slice A2 b.length c2, ?_, ?_, ?_⟩
        · rw [List.getElem?_append_right (by omega), show 2 * d.waits.length - cells.length = 0 from by omega]; rfl
        · rw [List.getElem?_append_right (by omega), show 2 * d.waits.length + 1 - cells.length = 1 from by omega]; rfl
        · have h1 : Rb w1 (fun k => New w.drew k ∧ k < w1.heap.size) (.slice A2 b.length c2) b := HO.out.bound.reads
          refine (h1.move (w' := w4) (fun k hk hl => ?_)).mono (fun k hk => .inr ⟨hk.1, hk.2⟩)
          have hnk : ¬ (Value.slice Aw d.waits.length cw).ownBlock = some k := fun e => by have h8 := hD.hb k (.inl (hlw k e).1); have h9 : w.heap.size ≤ k := hk.1; omega
          have hnk2 : ¬ (Value.slice A d.now.length c).ownBlock = some k := fun e => by have h8 := hD.hb k (.inl (hvn k e).1); have h9 : w.heap.size ≤ k := hk.1; omega
          have hnk3 : k ≠ bp := fun e => by have h8 := hD.hb bp (.inl hD.top); have h9 : w.heap.size ≤ k := hk.1; omega
          rw [hf4.block k (by have := HF3.out.size; omega) hnk2, HF3.out.block k (by omega) hnk3, HF2.out.block k (by rw [hsz1]; omega) hnk, Below.heap_alloc _ _ _ hl]
    · rintro k (h | h) (h' | h')
      · exact hD.hd k h h'
      · have := hD.hb k (.inl h); omega
      · have := hD.hb k (.inr h'); omega
      · omega
    · rintro k ((h | h) | (h | h))
      · have := hD.hb k (.inl h); omega
      · omega
      · have := hD.hb k (.inr h); omega
      · have h9 : k < w1.heap.size := h.2; omega
    · rw [hD.hl]; exact (length_splice _ _ _ (by omega)).symm
    · have hl : (splice d.now a b).length = d.now.length := length_splice _ _ _ (by omega)
      simp only [hl]; exact hn20
    · have hl : (splice d.now a b).length = d.now.length := length_splice _ _ _ (by omega)
      intro x hx
      rcases List.mem_append.1 hx with hx | hx
      · simp only [hl]; exact hD.hv x hx
      · rw [List.mem_singleton.1 hx]; simp only [hl]; omega
  · rcases h with h | h
    · exact h.1
    · exact h ▸ hD.top
/-- The bytes from at on, n of them. -/
def readB (l : List UInt8) (at_ n : Int) : List UInt8 := if n < 1 then [] else (l.take (at_ + n).toNat).drop at_.toNat
/-- Bytes told in new memory. -/
def TellsB (w : World) (l : List UInt8) (e : Ending) (w' : World) : Prop := ∃ v', e = .returned v' ∧ Ow w' (New w) 5 1 v' l.length (l.map enc8) ∧ Fr No w w'
theorem read_any {w : World} {O R : Nat → Prop} {p : Value} {d : Dk} {at_ n : Int} (h : DiskIs w O R p d) (h0 : -9223372036854775808 ≤ at_) (h1 : at_ ≤ 9223372036854775807) (h2 : n ≤ 9223372036854775807) :
    Calls Try.prog 24 #[p, .int .i64 at_, .int .i64 n] w (TellsB w (readB d.now at_ n)) := by
  obtain ⟨bp, vs, vn, vw, cells, rfl, h⟩ := h
  obtain ⟨A, c, hv, hc1, hc2⟩ := h.hn.shape
  subst hv
  have g1 := blk_cell h.hp 1
  simp only [List.getElem?_toArray, List.getElem?_cons_succ, List.getElem?_cons_zero] at g1
  have hm := h.hm
  have H := Lib.hid h
  have hnil : ∀ W, readB d.now at_ n = [] → TellsB W (readB d.now at_ n) (.returned (.slice none 0 0)) W := fun W h => ⟨_, rfl, by rw [h]; exact Ow.nil _ _ _ _, Fr.refl _ _⟩
  have HNIL := Lib.hid hnil
  clear h hnil hc2
  -- the piece that is told
  have tell : ∀ (W : World) (lo hi : Int), W = w → 0 ≤ lo → lo ≤ hi → hi ≤ d.now.length → ∀ A', A' = (if c = lo.toNat then A else Option.map (fun a => a.add lo.toNat) A) → readB d.now at_ n = (d.now.take hi.toNat).drop lo.toNat →
      Calls Try.prog 64 #[.slice A' (hi.toNat - lo.toNat) (c - lo.toNat)] W (TellsB w (readB d.now at_ n)) := by
    rintro W lo hi rfl hlo hlh hh A' rfl he
    have hr : Rb W O (.slice A d.now.length c) d.now := (H.out.hn.reads).mono (fun k hk => hk.1)
    have hcut := hr.cut lo.toNat hi.toNat (by omega) (by omega)
    rw [he]
    have hl : ((d.now.take hi.toNat).drop lo.toNat).length ≤ 140737488355328 := by rw [List.length_drop, List.length_take]; omega
    exact (clone8 hcut hl).mono fun e w' ⟨v', h1, h2, h3⟩ => ⟨v', h1, h2, h3⟩
  have TELL := Lib.hid tell
  clear tell
  by_cases c1 : n < 1
  · have e : readB d.now at_ n = [] := by unfold readB; rw [if_pos c1]
    have E := Lib.hid e
    clear e
    go_enter Try.func24, Try.ntmps24
    go_wp2
    go_ret
    exact HNIL.out _ E.out
  by_cases c2 : (d.now.length : Int) ≤ at_
  · have e : readB d.now at_ n = [] := by
      unfold readB; rw [if_neg c1]
      exact List.drop_eq_nil_of_le (by rw [List.length_take]; omega)
    have E := Lib.hid e
    have c1' : 1 ≤ n := by omega
    clear e c1
    go_enter Try.func24, Try.ntmps24
    go_wp2
    go_ret
    exact HNIL.out _ E.out
  have c1' : 1 ≤ n := by omega
  have c2' : at_ < d.now.length := by omega
  clear c1 c2
  by_cases c3 : at_ < 0
  · obtain ⟨hi, hhi⟩ : ∃ hi, Hid (hi = min (d.now.length : Int) (at_ + n)) := ⟨_, rfl⟩
    have hmax : Hid (max at_ 0 = 0) := by show _ = _; omega
    by_cases c4 : hi ≤ 0
    · have e : readB d.now at_ n = [] := by
        have := hhi.out
        unfold readB; rw [if_neg (by omega)]
        refine List.drop_eq_nil_of_le ?_
        rw [List.length_take]
        omega
      have E := Lib.hid e
      clear e
      go_enter Try.func24, Try.ntmps24
      go_wp2_with (first | ((with_reducible refine at_dst 32 rfl ?_); refine wpList_min rfl (.tmp 28) (.tmp 31) _ rfl _ _ rfl rfl ?_; rw [← hhi.out]) | ((with_reducible refine at_dst 43 rfl ?_); refine wpList_max rfl (.tmp 42) (.const (.int .i64 0)) _ rfl _ _ rfl rfl ?_; rw [hmax.out]))
      go_ret
      exact HNIL.out _ E.out
    · have c4' : 0 < hi := by omega
      have hhl : hi ≤ d.now.length := by have := hhi.out; omega
      have e : readB d.now at_ n = (d.now.take hi.toNat).drop (0 : Int).toNat := by
        have := hhi.out
        unfold readB
        rw [if_neg (by omega), show at_.toNat = 0 from by omega]
        simp only [Int.toNat_zero, List.drop_zero]
        rcases Int.le_total (d.now.length : Int) (at_ + n) with h | h
        · rw [List.take_of_length_le (l := d.now) (i := (at_ + n).toNat) (by omega), List.take_of_length_le (l := d.now) (i := hi.toNat) (by omega)]
        · rw [show hi = at_ + n from by omega]
      obtain ⟨A', hcut, hA'⟩ := cut2_run (P := Try.prog) 22 5 Try.underlying22 sz5 A d.now.length c 0 hi (by omega) (by omega) (by omega)
      have E := Lib.hid e
      have HA := Lib.hid hA'
      clear e c4 hA'
      go_enter Try.func24, Try.ntmps24
      go_wp2_with (first | ((with_reducible refine at_dst 32 rfl ?_); refine wpList_min rfl (.tmp 28) (.tmp 31) _ rfl _ _ rfl rfl ?_; rw [← hhi.out]) | ((with_reducible refine at_dst 43 rfl ?_); refine wpList_max rfl (.tmp 42) (.const (.int .i64 0)) _ rfl _ _ rfl rfl ?_; rw [hmax.out]) | ((with_reducible refine at_dst 54 rfl ?_); refine wpList_call rfl rfl Try.func64 rfl rfl [.slice A' (hi.toNat - (0 : Int).toNat) (c - (0 : Int).toNat)] rfl ?_; refine (TELL.out _ 0 hi rfl (by omega) (by omega) hhl A' HA.out E.out).mono ?_; rintro e w1 ⟨v1, rfl, ho, hf⟩; refine ⟨v1, rfl, ?_⟩; have HO1 := Lib.hid ho; have HF1 := Lib.hid hf; clear ho hf))
      go_ret
      exact ⟨_, rfl, HO1.out, HF1.out⟩
  · have c3' : 0 ≤ at_ := by omega
    have hmax : Hid (max at_ 0 = at_) := by show _ = _; omega
    by_cases c5 : n < d.now.length - at_
    · have e : readB d.now at_ n = (d.now.take (at_ + n).toNat).drop at_.toNat := by unfold readB; rw [if_neg (by omega)]
      obtain ⟨A', hcut, hA'⟩ := cut2_run (P := Try.prog) 22 5 Try.underlying22 sz5 A d.now.length c at_ (at_ + n) (by omega) (by omega) (by omega)
      have E := Lib.hid e
      have HA := Lib.hid hA'
      have c6 : at_ < at_ + n := by omega
      clear e hA'
      go_enter Try.func24, Try.ntmps24
      go_wp2_with (first | ((with_reducible refine at_dst 43 rfl ?_); refine wpList_max rfl (.tmp 42) (.const (.int .i64 0)) _ rfl _ _ rfl rfl ?_; rw [hmax.out]) | ((with_reducible refine at_dst 54 rfl ?_); refine wpList_call rfl rfl Try.func64 rfl rfl [.slice A' ((at_ + n).toNat - at_.toNat) (c - at_.toNat)] rfl ?_; refine (TELL.out _ at_ (at_ + n) rfl (by omega) (by omega) (by omega) A' HA.out E.out).mono ?_; rintro e w1 ⟨v1, rfl, ho, hf⟩; refine ⟨v1, rfl, ?_⟩; have HO1 := Lib.hid ho; have HF1 := Lib.hid hf; clear ho hf))
      go_ret
      exact ⟨_, rfl, HO1.out, HF1.out⟩
    · have c5' : (d.now.length : Int) - at_ ≤ n := by omega
      have e : readB d.now at_ n = (d.now.take (d.now.length : Int).toNat).drop at_.toNat := by
        unfold readB
        rw [if_neg (by omega), List.take_of_length_le (l := d.now) (i := (at_ + n).toNat) (by omega), List.take_of_length_le (l := d.now) (i := (d.now.length : Int).toNat) (by omega)]
      obtain ⟨A', hcut, hA'⟩ := cut2_run (P := Try.prog) 22 5 Try.underlying22 sz5 A d.now.length c at_ (d.now.length : Int) (by omega) (by omega) (by omega)
      have E := Lib.hid e
      have HA := Lib.hid hA'
      clear e hA' c5
      go_enter Try.func24, Try.ntmps24
      go_wp2_with (first | ((with_reducible refine at_dst 43 rfl ?_); refine wpList_max rfl (.tmp 42) (.const (.int .i64 0)) _ rfl _ _ rfl rfl ?_; rw [hmax.out]) | ((with_reducible refine at_dst 54 rfl ?_); refine wpList_call rfl rfl Try.func64 rfl rfl [.slice A' ((d.now.length : Int).toNat - at_.toNat) (c - at_.toNat)] rfl ?_; refine (TELL.out _ at_ (d.now.length : Int) rfl (by omega) (by omega) (by omega) A' HA.out E.out).mono ?_; rintro e w1 ⟨v1, rfl, ho, hf⟩; refine ⟨v1, rfl, ?_⟩; have HO1 := Lib.hid ho; have HF1 := Lib.hid hf; clear ho hf))
      go_ret
      exact ⟨_, rfl, HO1.out, HF1.out⟩
end Go.Proofs.Ytbaohngnpgappaa
namespace Go.Proofs.Ytbaohngnpgappaa
open Go.RowKit
/-- Writes done in order. -/
def applyW (s : List UInt8) (ws : List (Nat × List UInt8)) : List UInt8 := ws.foldl (fun s x => splice s x.1 x.2) s
theorem applyW_length (ws : List (Nat × List UInt8)) : ∀ (s : List UInt8), (∀ x ∈ ws, x.1 + x.2.length ≤ s.length) → (applyW s ws).length = s.length := by
  induction ws with
  | nil => intro s _; rfl
  | cons x r ih =>
    intro s h
    have h1 := length_splice s x.1 x.2 (h x List.mem_cons_self)
    show (applyW (splice s x.1 x.2) r).length = _
    rw [ih _ (fun y hy => by rw [h1]; exact h y (List.mem_cons_of_mem _ hy)), h1]
theorem applyW_snoc (ws : List (Nat × List UInt8)) (s : List UInt8) (k : Nat) (x : Nat × List UInt8) (h : ws[k]? = some x) : applyW s (ws.take (k + 1)) = splice (applyW s (ws.take k)) x.1 x.2 := by
  rw [List.take_add_one, h]
  simp [applyW]
theorem DiskAt.settle {w w' : World} {O R : Nat → Prop} {bp : Nat} {vs vn vw : Value} {cells : List Value} {d : Dk} (h : DiskAt w O R bp vs vn vw cells d) {s n : List UInt8}
    (hf : Fr (fun k => vs.ownBlock = some k ∨ vn.ownBlock = some k ∨ k = bp) w w') (hp : w'.heap[bp]? = some (.cells #[vs, vn, .slice none 0 0] 98 (0, 0))) (hs : s.length = d.safe.length) (hn : n.length = d.now.length)
    (h1 : Ow w' (fun k => vs.ownBlock = some k) 5 1 vs d.safe.length (s.map enc8)) (h2 : Ow w' (fun k => vn.ownBlock = some k) 5 1 vn d.now.length (n.map enc8)) :
    DiskPost w O R (.pointer (some ⟨bp, 0, none⟩)) (.tuple #[]) ⟨s, n, []⟩ (.returned (.tuple #[])) w' := by
  refine ⟨O, R, rfl, ⟨bp, vs, vn, .slice none 0 0, [], rfl, ⟨h.top, hp, ?_, ?_, Ow.nil _ _ _ _, fun j a b hj => by simp at hj, h.hd, fun k hk => Nat.lt_of_lt_of_le (h.hb k hk) hf.size, ?_, ?_, fun x hx => by simp at hx⟩⟩, fun k hk => .inl hk, fun k hk => .inl hk, hf.mono fun k _ hk => ?_⟩
  · simp only [hs]; exact h1.mono h.hs.2
  · simp only [hn]; exact h2.mono h.hn.2
  · simp only [hs, hn]; exact h.hl
  · simp only [hn]; exact h.hm
  · rcases hk with hk | hk | hk
    · exact (h.hs.2 k hk).1
    · exact (h.hn.2 k hk).1
    · exact hk ▸ h.top
/-- What a sync has come to behind k of the writes. -/
def SyncRel (w : World) (vs : Value) (d : Dk) (k : Nat) (wr : World) : Prop :=
  Fr (fun k => vs.ownBlock = some k) w wr ∧ Ow wr (fun k => vs.ownBlock = some k) 5 1 vs d.safe.length ((applyW d.safe (d.waits.take k)).map enc8)
set_option maxHeartbeats 1000000 in
theorem sync_any {w : World} {O R : Nat → Prop} {p : Value} {d : Dk} (h : DiskIs w O R p d) (hws : d.waits.length ≤ 1000000) :
    Calls Try.prog 30 #[p] w (DiskPost w O R p (.tuple #[]) ⟨applyW d.safe d.waits, d.now, []⟩) := by
  obtain ⟨bp, vs, vn, vw, cells, rfl, h⟩ := h
  obtain ⟨As, cs, hvs, hc1, hc2⟩ := h.hs.shape
  obtain ⟨Aw, cw, hvw, hcw1, hcw2⟩ := h.hw.shape
  subst hvs hvw
  have h0 := blk_cell h.hp 0
  have h2 := blk_cell h.hp 2
  simp only [List.getElem?_toArray, List.getElem?_cons_succ, List.getElem?_cons_zero] at h0 h2
  have hm : d.safe.length ≤ 1048576 := by rw [h.hl]; exact h.hm
  have H := Lib.hid h
  clear h hcw1 hcw2 hc2
  go_enter Try.func30, Try.ntmps30
  go_wp2
  go_loopw [9] (fun i wr => ∃ k : Nat, k ≤ d.waits.length ∧ i = .int .i64 k ∧ Hid (SyncRel w (.slice As d.safe.length cs) d k wr)) (fun i _ => d.waits.length - (intOf i).toNat)
  case atStart => exact ⟨0, Nat.zero_le _, rfl, show SyncRel _ _ _ _ _ from ⟨Fr.refl _ _, H.out.hs.just⟩⟩
  case round =>
    obtain ⟨k, hk, rfl, HR⟩ := hrel
    by_cases hlt : k < d.waits.length
    · obtain ⟨⟨wa, wb⟩, hwk⟩ : ∃ x, d.waits[k]? = some x := ⟨_, List.getElem?_eq_getElem hlt⟩
      obtain ⟨vb, hk1, hk2, hrb⟩ := H.out.ha k wa wb hwk
      obtain ⟨A1, c1, he1, _, _, hcell⟩ := H.out.hw.cells
      cases he1
      obtain ⟨g, rfl, ⟨hg1, hg2, hg3, hg4⟩, hca, _⟩ := hcell _ _ hk1
      obtain ⟨g', hg', _, hcb, _⟩ := hcell _ _ hk2
      cases hg'
      obtain ⟨Ab, cb, rfl, hb1, hb2⟩ := hrb.shape
      have hR := HR.out
      have e1 : wr.cell? ⟨g, k * 2, none⟩ = some (.int .i64 (wa : Int)) := by rw [Nat.mul_comm]; exact hR.1.cell hca (fun e => hg3 e)
      have e2 : wr.cell? ⟨g, k * 2 + 1, none⟩ = some (.slice Ab wb.length cb) := by rw [Nat.mul_comm]; exact hR.1.cell hcb (fun e => hg3 e)
      have e0 : wr.cell? ⟨bp, 0, none⟩ = some (.slice As d.safe.length cs) := hR.1.cell h0 (fun e => (H.out.hs.2 bp e).2 rfl)
      have hv : wa + wb.length ≤ d.safe.length := by have := H.out.hv _ (List.mem_of_getElem? hwk); have := H.out.hl; simp at *; omega
      have HRB := Lib.hid hrb
      have HWK := Lib.hid hwk
      clear hcell hk1 hk2 hca hcb hrb hwk hR h0 h2 hb2
      go_wp2_with fail
      refine wp_seq_region (fun W => W.cell? ⟨bp, 0, none⟩ = some (.slice As d.safe.length cs) ∧ W.cell? ⟨wr.heap.size, 0, none⟩ = some (.int .i64 (wa : Int)) ∧ W.cell? ⟨wr.heap.size, 1, none⟩ = some (.slice Ab wb.length cb)) [9] [3, 5, 8] [] [0, 1, 2, 3, 4, 5, 6, 7, 8, 9] (by kernel_rfl) (by kernel_rfl) rfl (by kernel_rfl) (fun _ _ _ _ _ h => h) ?_
      have hS : ((wr.alloc (.cells #[.int .i64 (wa : Int), .slice Ab wb.length cb] 100)).drew.cell? ⟨bp, 0, none⟩ = some (.slice As d.safe.length cs) ∧ (wr.alloc (.cells #[.int .i64 (wa : Int), .slice Ab wb.length cb] 100)).drew.cell? ⟨wr.heap.size, 0, none⟩ = some (.int .i64 (wa : Int)) ∧ (wr.alloc (.cells #[.int .i64 (wa : Int), .slice Ab wb.length cb] 100)).drew.cell? ⟨wr.heap.size, 1, none⟩ = some (.slice Ab wb.length cb)) :=
        ⟨cell_alloc e0 _, blk_cell (blk_new wr _) 0, blk_cell (blk_new wr _) 1⟩
      obtain ⟨A4, hcut, hA4⟩ := cut_run (P := Try.prog) 22 5 Try.underlying22 sz5 As d.safe.length cs wa (by omega)
      have HA4 := Lib.hid hA4
      have HS := Lib.hid hS
      clear hA4 hS
      repeat (first
        | (refine sq_any (v := ?_) (a' := ?_) rfl rfl rfl (by rfl) (fun W => ?hr) ?ha ?_; (case hr => go_simp; first | done | rfl); (case ha => simp only [Act.put, List.setIfInBounds_toArray, List.set_cons_zero, List.set_cons_succ]; rfl))
        | (refine sq_load (v := ?_) (a' := ?_) rfl rfl rfl (by rfl) (fun W hSW => ?hr) HS.out ?ha ?_; (case hr => (try dsimp only at hSW); go_simp; first | done | rfl); (case ha => simp only [Act.put, List.setIfInBounds_toArray, List.set_cons_zero, List.set_cons_succ]; rfl)))
      have hfa : Fr (fun k => (Value.slice As d.safe.length cs).ownBlock = some k) w (wr.alloc (.cells #[.int .i64 (wa : Int), .slice Ab wb.length cb] 100)).drew := (HR.out.1.alloc _).drew
      have hrb2 : Rb (wr.alloc (.cells #[.int .i64 (wa : Int), .slice Ab wb.length cb] 100)).drew R (.slice Ab wb.length cb) wb := HRB.out.fr hfa (fun k _ h1 h2 => H.out.hd k (H.out.hs.2 k h2).1 h1)
      obtain ⟨_, _, he5, _, _, hnews⟩ := hrb2.news
      cases he5
      have hlen : (applyW d.safe (d.waits.take k)).length = d.safe.length := applyW_length _ _ (fun x hx => by rw [H.out.hl]; exact H.out.hv x (List.mem_of_mem_take hx))
      refine sq_cpy (O := fun k => (Value.slice As d.safe.length cs).ownBlock = some k) rfl rfl (by rfl) (.tmp 19) (.tmp 21) 22 22 5 rfl Try.underlying22 sz5 _ _ _ rfl _ _ _ rfl (.slice As d.safe.length cs) d.safe.length ((applyW d.safe (d.waits.take k)).map enc8) ?cO wa (by omega) (by omega) (by rw [HA4.out]; exact cut_at hc1) (wb.map enc8) (by rw [List.length_map]; omega) hnews (by simp [enc8, Value.oneCell']) ?_
      case cO => exact HR.out.2.fr ((Fr.refl No wr).alloc _ |>.drew) (fun _ _ _ h => h)
      intro w4 hown4 hfr4
      have hnl : ¬ (Value.slice As d.safe.length cs).ownBlock = some wr.heap.size := fun e => by
        have := H.out.hb _ (.inl (H.out.hs.2 _ e).1)
        have := HR.out.1.size
        omega
      refine ⟨fun _ => ?_, ?_⟩
      · exact ⟨hfr4.cell (cell_alloc e0 _) (fun e => (H.out.hs.2 bp e).2 rfl), hfr4.cell (blk_cell (blk_new wr _) 0) hnl, hfr4.cell (blk_cell (blk_new wr _) 1) hnl⟩
      simp only [Act.put, List.setIfInBounds_toArray, List.set_cons_zero, List.set_cons_succ]
      refine sq_done ?_
      have HR4 : Hid (SyncRel w (.slice As d.safe.length cs) d (k + 1) w4) := by
        refine (show SyncRel _ _ _ _ _ from ⟨hfa.then hfr4, ?_⟩)
        rw [applyW_snoc _ _ _ _ HWK.out, ← splice_map]
        exact hown4
      clear hown4 hfr4 hnews hrb2 hfa
      go_wp2_with fail
      go_roundw
      case rel => exact ⟨k + 1, by omega, by go_num, HR4⟩
      case measure => simp [intOf]; omega
    · have hkl : k = d.waits.length := by omega
      subst hkl
      have hR := HR.out
      have e2 : wr.cell? ⟨bp, 2, none⟩ = some (Value.slice Aw d.waits.length cw) := hR.1.cell h2 (fun e => (H.out.hs.2 bp e).2 rfl)
      have hp := hR.1.heap H.out.hp (fun e => (H.out.hs.2 bp e).2 rfl)
      have ez := blk_free hp 2
      have HP := Lib.hid hp
      clear hR hp h2
      go_wp2_with fail
      go_end0
      have hD := H.out
      have hR := HR.out
      have hown := hR.2
      rw [show d.waits.take d.waits.length = d.waits from List.take_of_length_le (Nat.le_refl _)] at hown
      have hf : Fr (fun k => (Value.slice As d.safe.length cs).ownBlock = some k ∨ vn.ownBlock = some k ∨ k = bp) w (wr.setCell ⟨bp, 2, none⟩ (.slice none 0 0)) := (hR.1.mono (fun k _ h => .inl h)).setCell _ _ (fun _ => .inr (.inr rfl))
      have hset : Fr (fun k => k = bp) wr (wr.setCell ⟨bp, 2, none⟩ (.slice none 0 0)) := (Fr.refl _ _).setCell _ _ (fun _ => rfl)
      have hn1 := hD.hn.just.fr hR.1 (fun k _ h1 h2 => (hD.hn.2 k h1).2.2 h2)
      exact hD.settle hf (by rw [blk_set HP.out]; rfl) (applyW_length _ _ (fun x hx => by rw [hD.hl]; exact hD.hv x hx)) rfl (hown.fr hset (fun k _ h1 h2 => (hD.hs.2 k h1).2 h2)) (hn1.fr hset (fun k _ h1 h2 => (hD.hn.2 k h1).2.1 h2))
theorem cloneW {w : World} {A : Option Addr} {m c : Nat} {cells : List Value} (hlen : cells.length = m * 2) (hc : ∀ j u, cells[j]? = some u → ∃ ad, A = some ad ∧ w.cell? (ad.add j) = some u) (h1 : ∀ u ∈ cells, u.oneCell' = true) (hm : m ≤ 1000000) :
    Calls Try.prog 71 #[.slice A m c] w fun e w' => ∃ v', e = .returned v' ∧ Ow w' (New w) 100 2 v' m cells ∧ Fr No w w' := by
  cases A with
  | none =>
    obtain rfl : cells = [] := by
      cases cells with
      | nil => rfl
      | cons x xs => obtain ⟨ad, h, _⟩ := hc 0 _ rfl; cases h
    obtain rfl : m = 0 := by simp at hlen; omega
    clear hc h1 hm hlen
    have hq := fun (W : World) => Lib.run_eql_slice_nil (P := Try.prog) W 96 100 none 0 c 0 0 Try.underlying96
    go_enter Try.func71, Try.ntmps71
    go_wp2
    go_ret
    exact ⟨_, rfl, Ow.nil _ _ _ _, Fr.refl _ _⟩
  | some ad =>
    have hq := fun (W : World) => Lib.run_eql_slice_nil (P := Try.prog) W 96 100 (some ad) m c 0 0 Try.underlying96
    have HN := Lib.hid hc
    have HL := Lib.hid hlen
    have H1 := Lib.hid h1
    clear hc hlen h1
    go_enter Try.func71, Try.ntmps71
    go_wp2_with (at_builtin; refine wpList_app (O := fun k => k = w.heap.size) rfl (.tmp 5) (.tmp 6) 96 100 rfl _ 2 32 Try.underlying96 info100 rfl (by omega) (by omega) (.slice (some ⟨w.heap.size, 0, none⟩) 0 0) 0 [] rfl (some ad) m c rfl ?c1 cells HL.out ?c2 H1.out (by omega) ?_; (case c1 => exact ⟨⟨rfl, .inr ⟨_, 0, #[], rfl, Nat.zero_le _, blk_new w _, Nat.le_refl _, Nat.zero_le _, rfl, rfl⟩⟩, fun k hk => (Option.some.inj hk).symm⟩); (case c2 => exact fun j u hj => by obtain ⟨ad', he, hc⟩ := HN.out j u hj; exact ⟨ad', he, cell_alloc hc _⟩); intro v1 w1 hown hfr)
    go_ret
    refine ⟨_, rfl, ?_, ?_⟩
    · rw [List.nil_append, Nat.zero_add] at hown
      refine hown.mono fun k hk => ?_
      rcases hk with hk | hk
      · exact Nat.le_of_eq (Option.some.inj hk)
      · rw [hk]; simp [New]
    · exact ((Fr.refl _ w).alloc _).trans (S := No) hfr (fun _ _ h => h) (fun i hi h => absurd (Option.some.inj h) (by show w.heap.size ≠ i; omega))
theorem waits_one {w : World} {R : Nat → Prop} {ws : List (Nat × List UInt8)} {cells : List Value} (h : WaitsAre w R ws cells) (hl : cells.length = ws.length * 2) : ∀ u ∈ cells, u.oneCell' = true := by
  intro u hu
  obtain ⟨j, hj, rfl⟩ := List.mem_iff_getElem.1 hu
  obtain ⟨vb, h1, h2, h3⟩ := h (j / 2) _ _ (List.getElem?_eq_getElem (by omega : j / 2 < ws.length))
  obtain ⟨A, c, rfl, _⟩ := h3.shape
  rcases Nat.mod_two_eq_zero_or_one j with he | he
  · rw [show 2 * (j / 2) = j from by omega, List.getElem?_eq_getElem hj] at h1
    rw [Option.some.inj h1]; rfl
  · rw [show 2 * (j / 2) + 1 = j from by omega, List.getElem?_eq_getElem hj] at h2
    rw [Option.some.inj h2]; rfl
def CopyPost (w : World) (R : Nat → Prop) (d : Dk) (e : Ending) (w' : World) : Prop :=
  ∃ p', e = .returned p' ∧ DiskIs w' (fun k => w.heap.size ≤ k ∧ k < w'.heap.size) R p' d ∧ Fr No w w'
set_option maxHeartbeats 1000000 in
theorem copy_any {w : World} {O R : Nat → Prop} {p : Value} {d : Dk} (h : DiskIs w O R p d) (hws : d.waits.length ≤ 1000000) : Calls Try.prog 31 #[p] w (CopyPost w R d) := by
  obtain ⟨bp, vs, vn, vw, cells, rfl, h⟩ := h
  obtain ⟨As, cs, hvs, hc1, hc2⟩ := h.hs.shape
  obtain ⟨An, cn, hvn, _, _⟩ := h.hn.shape
  obtain ⟨Aw, cw, hvw, hcw1, hcw2⟩ := h.hw.shape
  subst hvs hvw hvn
  have h0 := blk_cell h.hp 0
  have h1 := blk_cell h.hp 1
  have h2 := blk_cell h.hp 2
  simp only [List.getElem?_toArray, List.getElem?_cons_succ, List.getElem?_cons_zero] at h0 h1 h2
  have hm : d.now.length ≤ 1048576 := h.hm
  have hm' : d.safe.length ≤ 1048576 := by rw [h.hl]; exact hm
  have H := Lib.hid h
  clear h hcw1 hcw2 hc2 hc1
  go_enter Try.func31, Try.ntmps31
  go_wp2_with fail
  refine wp_seq_region (fun W => W.cell? ⟨bp, 0, none⟩ = some (.slice As d.safe.length cs) ∧ W.cell? ⟨bp, 1, none⟩ = some (.slice An d.now.length cn) ∧ W.cell? ⟨bp, 2, none⟩ = some (.slice Aw d.waits.length cw)) [4, 9, 14, 16] [3, 8, 13] [] [0, 1, 2, 3, 5, 6, 7, 8, 10, 11, 12, 13, 4, 9, 14, 15, 16, 17] (by kernel_rfl) (by kernel_rfl) rfl (by kernel_rfl) (fun _ _ _ _ _ h => h) ?_
  have hS : w.drew.cell? ⟨bp, 0, none⟩ = some (.slice As d.safe.length cs) ∧ w.drew.cell? ⟨bp, 1, none⟩ = some (.slice An d.now.length cn) ∧ w.drew.cell? ⟨bp, 2, none⟩ = some (.slice Aw d.waits.length cw) := ⟨h0, h1, h2⟩
  have HS := Lib.hid hS
  clear hS
  repeat (first
    | (refine sq_any (v := ?_) (a' := ?_) rfl rfl rfl (by rfl) (fun W => ?hr) ?ha ?_; (case hr => go_simp; first | done | rfl); (case ha => simp only [Act.put, List.setIfInBounds_toArray, List.set_cons_zero, List.set_cons_succ]; rfl))
    | (refine sq_load (v := ?_) (a' := ?_) rfl rfl rfl (by rfl) (fun W hSW => ?hr) HS.out ?ha ?_; (case hr => (try dsimp only at hSW); go_simp; first | done | rfl); (case ha => simp only [Act.put, List.setIfInBounds_toArray, List.set_cons_zero, List.set_cons_succ]; rfl)))
  have hd : Fr No w w.drew := (Fr.refl _ _).drew
  refine sq_call rfl rfl (by rfl) rfl Try.func64 rfl rfl [.slice As d.safe.length cs] rfl ?_
  refine (clone8 (w := w.drew) (F := O) ((H.out.hs.reads.fr hd (fun _ _ _ h => h)).mono (fun k hk => hk.1)) (by omega)).mono ?_
  rintro e w1 ⟨v1, rfl, hown1, hfr1⟩
  have f1 : Fr No w w1 := hd.then hfr1
  obtain ⟨A1, c1, rfl, _, _⟩ := hown1.shape
  refine ⟨_, rfl, fun _ => ⟨f1.cell h0 (fun h => h), f1.cell h1 (fun h => h), f1.cell h2 (fun h => h)⟩, ?_⟩
  simp only [Act.put, List.setIfInBounds_toArray, List.set_cons_zero, List.set_cons_succ]
  have HO1 := Lib.hid hown1
  have F1 := Lib.hid f1
  clear hown1 hfr1 f1 hd
  refine sq_call rfl rfl (by rfl) rfl Try.func64 rfl rfl [.slice An d.now.length cn] rfl ?_
  refine (clone8 (w := w1) (F := O) ((H.out.hn.reads.fr F1.out (fun _ _ _ h => h)).mono (fun k hk => hk.1)) (by omega)).mono ?_
  rintro e w2 ⟨v2, rfl, hown2, hfr2⟩
  have f2 : Fr No w w2 := F1.out.then hfr2
  obtain ⟨A2, c2, rfl, _, _⟩ := hown2.shape
  refine ⟨_, rfl, fun _ => ⟨f2.cell h0 (fun h => h), f2.cell h1 (fun h => h), f2.cell h2 (fun h => h)⟩, ?_⟩
  simp only [Act.put, List.setIfInBounds_toArray, List.set_cons_zero, List.set_cons_succ]
  have HO2 := Lib.hid hown2
  have F2 := Lib.hid f2
  have F12 := Lib.hid hfr2
  clear hown2 hfr2 f2
  refine sq_call rfl rfl (by rfl) rfl Try.func71 rfl rfl [.slice Aw d.waits.length cw] rfl ?_
  refine (cloneW (w := w2) (cells := cells) H.out.hw.len ?_ (waits_one H.out.ha H.out.hw.len) (by omega)).mono ?_
  · intro j u hj
    obtain ⟨_, _, he, _, _, hcl⟩ := H.out.hw.cells
    cases he
    obtain ⟨g, rfl, _, hcell, _⟩ := hcl j u hj
    exact ⟨_, rfl, by rw [add_none, Nat.zero_add]; exact F2.out.cell hcell (fun h => h)⟩
  rintro e w3 ⟨v3, rfl, hown3, hfr3⟩
  have f3 : Fr No w w3 := F2.out.then hfr3
  obtain ⟨A3, c3, rfl, _, _⟩ := hown3.shape
  refine ⟨_, rfl, fun _ => ⟨f3.cell h0 (fun h => h), f3.cell h1 (fun h => h), f3.cell h2 (fun h => h)⟩, ?_⟩
  simp only [Act.put, List.setIfInBounds_toArray, List.set_cons_zero, List.set_cons_succ]
  have HO3 := Lib.hid hown3
  have F3 := Lib.hid f3
  have F23 := Lib.hid hfr3
  have g0 := F3.out.cell h0 (fun h => h)
  have g1 := F3.out.cell h1 (fun h => h)
  have g2 := F3.out.cell h2 (fun h => h)
  clear hown3 hfr3 f3 h0 h1 h2
  repeat (first
    | (refine sq_any (v := ?_) (a' := ?_) rfl rfl rfl (by rfl) (fun W => ?hr) ?ha ?_; (case hr => go_simp; first | done | rfl); (case ha => simp only [Act.put, List.setIfInBounds_toArray, List.set_cons_zero, List.set_cons_succ]; rfl)))
  refine sq_value (v := ?_) (w1 := ?_) (a' := ?_) rfl rfl (by rfl) ?hr ?hS ?ha ?_
  case hr => go_simp; first | done | rfl | (constructor <;> rfl)
  case ha => simp only [Act.put, List.setIfInBounds_toArray, List.set_cons_zero, List.set_cons_succ]; rfl
  case hS => exact fun _ => ⟨cell_alloc g0 _, cell_alloc g1 _, cell_alloc g2 _⟩
  clear g0 g1 g2
  repeat (first
    | (refine sq_any (v := ?_) (a' := ?_) rfl rfl rfl (by rfl) (fun W => ?hr) ?ha ?_; (case hr => go_simp; first | done | rfl); (case ha => simp only [Act.put, List.setIfInBounds_toArray, List.set_cons_zero, List.set_cons_succ]; rfl)))
  refine sq_done ?_
  go_wp2_with fail
  go_ret
  have hD := H.out
  have s1 : w.heap.size ≤ w1.heap.size := F1.out.size
  have s2 : w1.heap.size ≤ w2.heap.size := F12.out.size
  have s3 : w2.heap.size ≤ w3.heap.size := F23.out.size
  have b1 := HO1.out.bound.2
  have b2 := HO2.out.bound.2
  have b3 := HO3.out.bound.2
  have n1 : ∀ k, New w.drew k → w.heap.size ≤ k := fun k h => h
  have n2 : ∀ k, New w1 k → w1.heap.size ≤ k := fun k h => h
  have n3 : ∀ k, New w2 k → w2.heap.size ≤ k := fun k h => h
  obtain ⟨w4, hw4⟩ : ∃ w4, w4 = w3.alloc (.cells #[.slice A1 d.safe.length c1, .slice A2 d.now.length c2, .slice A3 d.waits.length c3] 98) := ⟨_, rfl⟩
  rw [← hw4]
  have f34 : Fr No w3 w4 := by rw [hw4]; exact (Fr.refl _ _).alloc _
  have s4 : w4.heap.size = w3.heap.size + 1 := by rw [hw4]; simp
  have hp : w4.heap[w3.heap.size]? = some (.cells #[.slice A1 d.safe.length c1, .slice A2 d.now.length c2, .slice A3 d.waits.length c3] 98 (0, 0)) := by rw [hw4]; exact blk_new _ _
  refine ⟨_, rfl, ⟨w3.heap.size, _, _, _, cells, rfl, ⟨⟨by omega, by omega⟩, hp, ?_, ?_, ?_, ?_, ?_, ?_, hD.hl, hD.hm, hD.hv⟩⟩, F3.out.then f34⟩
  · exact (((HO1.out.just.fr F12.out (fun _ _ _ h => h)).fr F23.out (fun _ _ _ h => h)).fr f34 (fun _ _ _ h => h)).mono (fun k hk => by have h1 := b1 k hk; have h2 := n1 k h1.1; have h3 := h1.2; exact ⟨⟨by omega, by omega⟩, by omega⟩)
  · exact ((HO2.out.just.fr F23.out (fun _ _ _ h => h)).fr f34 (fun _ _ _ h => h)).mono (fun k hk => by have h1 := b2 k hk; have h2 := n2 k h1.1; have h3 := h1.2; exact ⟨⟨by omega, by omega⟩, by omega, fun e => by have h4 := (b1 k e).2; omega⟩)
  · exact (HO3.out.just.fr f34 (fun _ _ _ h => h)).mono (fun k hk => by have h1 := b3 k hk; have h2 := n3 k h1.1; have h3 := h1.2; exact ⟨⟨by omega, by omega⟩, by omega, fun e => by have h4 := (b1 k e).2; omega, fun e => by have h4 := (b2 k e).2; omega⟩)
  · exact hD.ha.move (fun k hk hl => (F3.out.then f34).block k hl (fun h => h)) (fun _ h => h)
  · rintro k ⟨h1, h2⟩ h3
    have := hD.hb k (.inr h3); omega
  · rintro k (h | h)
    · exact h.2
    · have := hD.hb k (.inr h); omega
end Go.Proofs.Ytbaohngnpgappaa
namespace Go.Proofs.Ytbaohngnpgappaa
open Go.RowKit
/-- Is the bit set? -/
def bset (keep k : Nat) : Bool := !(bits BinOp.and IntKind.u64 (keep : Int) (IntKind.u64.wrap (2 ^ k)) == 0)
/-- The writes among the first k that are kept. -/
def keptW (ws : List (Nat × List UInt8)) (keep : Nat) : Nat → List (Nat × List UInt8)
  | 0 => []
  | k + 1 => keptW ws keep k ++ (match ws[k]? with | some x => if k < 64 ∧ bset keep k = true then [x] else [] | none => [])
def tearB (tear : Int) (b : List UInt8) : List UInt8 := if 0 ≤ tear ∧ tear < b.length then b.take tear.toNat else b
def crashS (s : List UInt8) (l : List (Nat × List UInt8)) (tear : Int) : List UInt8 :=
  match l.getLast? with
  | none => s
  | some x => splice (applyW s l.dropLast) x.1 (tearB tear x.2)
theorem keptW_mem {ws : List (Nat × List UInt8)} {keep : Nat} : ∀ {k : Nat} {x : Nat × List UInt8}, x ∈ keptW ws keep k → x ∈ ws := by
  intro k
  induction k with
  | zero => intro x h; simp [keptW] at h
  | succ k ih =>
    intro x h
    rcases List.mem_append.1 h with h | h
    · exact ih h
    · split at h
      · rename_i y hy
        split at h
        · rw [List.mem_singleton.1 h]; exact List.mem_of_getElem? hy
        · simp at h
      · simp at h
theorem applyW_append (s : List UInt8) (l : List (Nat × List UInt8)) (x : Nat × List UInt8) : applyW s (l ++ [x]) = splice (applyW s l) x.1 x.2 := by simp [applyW]
/-- What a crash has come to behind k of the writes: l points to the last one that is kept. -/
def CrashRel (w : World) (vs vw : Value) (d : Dk) (keep k : Nat) (l : Value) (wr : World) : Prop :=
  Fr (fun k => vs.ownBlock = some k) w wr ∧ Ow wr (fun k => vs.ownBlock = some k) 5 1 vs d.safe.length ((applyW d.safe (keptW d.waits keep k).dropLast).map enc8) ∧
    ((keptW d.waits keep k = [] ∧ l = .pointer none) ∨ ∃ g j x, d.waits[j]? = some x ∧ (keptW d.waits keep k).getLast? = some x ∧ vw.ownBlock = some g ∧ l = .pointer (some ⟨g, j * 2, none⟩))
theorem CrashRel.skip {w : World} {vs vw : Value} {d : Dk} {keep k : Nat} {l : Value} {wr : World} (h : CrashRel w vs vw d keep k l wr) (hn : ¬ (k < 64 ∧ bset keep k = true)) : CrashRel w vs vw d keep (k + 1) l wr := by
  have e : keptW d.waits keep (k + 1) = keptW d.waits keep k := by
    simp only [keptW]
    cases d.waits[k]? with
    | none => simp
    | some x => simp [hn]
  unfold CrashRel at h ⊢
  rw [e]
  exact h
theorem keptW_take {ws : List (Nat × List UInt8)} {keep k : Nat} {x : Nat × List UInt8} (hx : ws[k]? = some x) (h : k < 64 ∧ bset keep k = true) : keptW ws keep (k + 1) = keptW ws keep k ++ [x] := by
  simp only [keptW, hx]
  rw [if_pos h]
theorem splice_all {α : Type} (L b : List α) (h : b.length = L.length) : splice L 0 b = b := by
  simp [splice, h]
/-- What stands when the safe bytes are as they will be: what is left is to let all that waits go, and to copy the safe bytes. -/
structure CrashEnd (w : World) (bp : Nat) (vs vn : Value) (d : Dk) (s : List UInt8) (wr : World) : Prop where
  fr : Fr (fun k => vs.ownBlock = some k) w wr
  hs : Ow wr (fun k => vs.ownBlock = some k) 5 1 vs d.safe.length (s.map enc8)
  len : s.length = d.safe.length
theorem CrashEnd.done {w : World} {O R : Nat → Prop} {bp : Nat} {vs vn vw : Value} {cells : List Value} {d : Dk} {s : List UInt8} {wr w5 w6 : World} (hD : DiskAt w O R bp vs vn vw cells d) (h : CrashEnd w bp vs vn d s wr)
    (hw5 : w5 = wr.setCell ⟨bp, 2, none⟩ (.slice none 0 0)) (hfr : Fr (fun k => vn.ownBlock = some k) w5 w6) (hn : Ow w6 (fun k => vn.ownBlock = some k) 5 1 vn d.now.length (s.map enc8)) :
    DiskPost w O R (.pointer (some ⟨bp, 0, none⟩)) (.tuple #[]) ⟨s, s, []⟩ (.returned (.tuple #[])) w6 := by
  have f5 : Fr (fun k => k = bp) wr w5 := by rw [hw5]; exact (Fr.refl _ _).setCell _ _ (fun _ => rfl)
  have hbp : ¬ vs.ownBlock = some bp := fun e => (hD.hs.2 bp e).2 rfl
  have hbn : ¬ vn.ownBlock = some bp := fun e => (hD.hn.2 bp e).2.1 rfl
  refine hD.settle ?_ ?_ h.len (h.len.trans hD.hl) ?_ hn
  · exact ((h.fr.mono (T := fun k => vs.ownBlock = some k ∨ vn.ownBlock = some k ∨ k = bp) (fun k _ h => .inl h)).trans f5 (fun _ _ h => h) (fun _ _ h => .inr (.inr h))).trans hfr (fun _ _ h => h) (fun _ _ h => .inr (.inl h))
  · exact hfr.heap (by rw [hw5, blk_set (h.fr.heap hD.hp hbp)]; rfl) hbn
  · exact (h.hs.fr f5 (fun k _ h1 h2 => (hD.hs.2 k h1).2 h2)).fr hfr (fun k _ h1 h2 => (hD.hn.2 k h2).2.2 h1)
set_option maxHeartbeats 1000000 in
theorem crash_any {w : World} {O R : Nat → Prop} {p : Value} {d : Dk} (h : DiskIs w O R p d) (hws : d.waits.length ≤ 1000000) (keep : Nat) (tear : Int) (hkeep : keep < 18446744073709551616) :
    Calls Try.prog 32 #[p, .int .u64 (keep : Int), .int .i64 tear] w (DiskPost w O R p (.tuple #[]) ⟨crashS d.safe (keptW d.waits keep d.waits.length) tear, crashS d.safe (keptW d.waits keep d.waits.length) tear, []⟩) := by
  obtain ⟨bp, vs, vn, vw, cells, rfl, h⟩ := h
  obtain ⟨As, cs, hvs, hc1, hc2⟩ := h.hs.shape
  obtain ⟨An, cn, hvn, hcn, _⟩ := h.hn.shape
  obtain ⟨Aw, cw, hvw, hcw1, hcw2⟩ := h.hw.shape
  subst hvs hvw hvn
  have h0 := blk_cell h.hp 0
  have h2 := blk_cell h.hp 2
  simp only [List.getElem?_toArray, List.getElem?_cons_succ, List.getElem?_cons_zero] at h0 h2
  have hm : d.safe.length ≤ 1048576 := by rw [h.hl]; exact h.hm
  have H := Lib.hid h
  have HK := Lib.hid hkeep
  clear h hcw1 hcw2 hc2 hkeep
  go_enter Try.func32, Try.ntmps32
  go_wp2
  go_loopw [6, 14] (fun l i wr => ∃ k : Nat, k ≤ d.waits.length ∧ i = .int .i64 k ∧ Hid (CrashRel w (.slice As d.safe.length cs) (.slice Aw d.waits.length cw) d keep k l wr)) (fun _ i _ => d.waits.length - (intOf i).toNat)
  case atStart => exact ⟨0, Nat.zero_le _, rfl, show CrashRel _ _ _ _ _ _ _ _ from ⟨Fr.refl _ _, H.out.hs.just, .inl ⟨rfl, rfl⟩⟩⟩
  case round =>
    obtain ⟨k, hk, rfl, HR⟩ := hrel
    by_cases hlt : k < d.waits.length
    · by_cases h64 : 64 ≤ (k : Int)
      · have HR4 : Hid (CrashRel w (.slice As d.safe.length cs) (.slice Aw d.waits.length cw) d keep (k + 1) u6 wr) := (HR.out).skip (by omega)
        clear h0 h2
        go_wp2_with fail
        go_roundw
        case rel => exact ⟨k + 1, by omega, by go_num, HR4⟩
        case measure => simp [intOf]; omega
      · by_cases hbit : (bits BinOp.and IntKind.u64 (keep : Int) (IntKind.u64.wrap (2 ^ k)) == 0) = true
        · have HR4 : Hid (CrashRel w (.slice As d.safe.length cs) (.slice Aw d.waits.length cw) d keep (k + 1) u6 wr) := (HR.out).skip (by unfold bset; rw [hbit]; simp)
          clear h0 h2
          go_wp2_with fail
          go_roundw
          case rel => exact ⟨k + 1, by omega, by go_num, HR4⟩
          case measure => simp [intOf]; omega
        · have hbit' : (bits BinOp.and IntKind.u64 (keep : Int) (IntKind.u64.wrap (2 ^ k)) == 0) = false := by simpa using hbit
          have hset : k < 64 ∧ bset keep k = true := ⟨by omega, by unfold bset; rw [hbit']; rfl⟩
          have HB := Lib.hid hset
          clear hbit hset
          obtain ⟨⟨wa, wb⟩, hwk⟩ : ∃ x, d.waits[k]? = some x := ⟨_, List.getElem?_eq_getElem hlt⟩
          obtain ⟨g, cwa, cur, he, hOg, _⟩ := H.out.hw.form (by omega)
          cases he
          have hR := HR.out
          have hbp : ¬ (Value.slice As d.safe.length cs).ownBlock = some bp := fun e => (H.out.hs.2 bp e).2 rfl
          have e2 : wr.cell? ⟨bp, 2, none⟩ = some (Value.slice (some ⟨g, 0, none⟩) d.waits.length cw) := hR.1.cell h2 hbp
          have e0 : wr.cell? ⟨bp, 0, none⟩ = some (Value.slice As d.safe.length cs) := hR.1.cell h0 hbp
          have hlenk : ∀ l, (∀ x ∈ l, x ∈ d.waits) → (applyW d.safe l).length = d.safe.length := fun l hl => applyW_length _ _ (fun x hx => by rw [H.out.hl]; exact H.out.hv x (hl x hx))
          have HLEN := Lib.hid hlenk
          have HWK := Lib.hid hwk
          clear h2 h0 hbp hlenk hwk
          rcases hR with ⟨r1, r2, ⟨r3, rfl⟩ | ⟨g', j, x, r4, r5, r6, rfl⟩⟩
          · have HR4 : Hid (CrashRel w (.slice As d.safe.length cs) (.slice (some ⟨g, 0, none⟩) d.waits.length cw) d keep (k + 1) (.pointer (some ⟨g, k * 2, none⟩)) wr) := by
              refine (show CrashRel _ _ _ _ _ _ _ _ from ⟨r1, ?_, .inr ⟨g, k, _, HWK.out, ?_, rfl, rfl⟩⟩)
              · rw [keptW_take HWK.out HB.out, List.dropLast_concat, r3]
                rw [r3] at r2
                exact r2
              · rw [keptW_take HWK.out HB.out]; simp
            clear r1 r2 r3
            go_wp2_with fail
            go_roundw
            case rel => exact ⟨k + 1, by omega, by go_num, HR4⟩
            case measure => simp [intOf]; omega
          · obtain rfl : g = g' := by simpa [Value.ownBlock] using r6
            obtain ⟨xa, xb⟩ := x
            obtain ⟨vb, hk1, hk2, hrb⟩ := H.out.ha j xa xb r4
            obtain ⟨A1, c1, he1, _, _, hcell⟩ := H.out.hw.cells
            cases he1
            obtain ⟨_, he2, ⟨hg1, hg2, hg3, hg4⟩, hca, _⟩ := hcell _ _ hk1
            cases he2
            obtain ⟨_, he3, _, hcb, _⟩ := hcell _ _ hk2
            cases he3
            obtain ⟨Ab, cb, rfl, hb1, _⟩ := hrb.shape
            have e3 : wr.cell? ⟨g, j * 2, none⟩ = some (.int .i64 (xa : Int)) := by rw [Nat.mul_comm]; exact r1.cell hca (fun e => hg3 e)
            have e4 : wr.cell? ⟨g, j * 2 + 1, none⟩ = some (.slice Ab xb.length cb) := by rw [Nat.mul_comm]; exact r1.cell hcb (fun e => hg3 e)
            have hv : xa + xb.length ≤ d.safe.length := by have h1 := H.out.hv _ (List.mem_of_getElem? r4); have h2 := H.out.hl; simp only at h1; omega
            have R1 := Lib.hid r1
            have R2 := Lib.hid r2
            have R5 := Lib.hid r5
            have HRB := Lib.hid hrb
            have HG3 := Lib.hid hg3
            clear r1 r2 r4 r5 r6 hk1 hk2 hcell hca hcb hrb hg1 hg2 hg3 hg4 hOg
            go_wp2_with fail
            refine wp_seq_region (fun W => W.cell? ⟨bp, 0, none⟩ = some (.slice As d.safe.length cs) ∧ W.cell? ⟨g, j * 2, none⟩ = some (.int .i64 (xa : Int)) ∧ W.cell? ⟨g, j * 2 + 1, none⟩ = some (.slice Ab xb.length cb)) [13] [3, 7, 12] [] [0, 1, 2, 3, 4, 5, 6, 7, 8, 9, 10, 11, 12, 13] (by kernel_rfl) (by kernel_rfl) rfl (by kernel_rfl) (fun _ _ _ _ _ h => h) ?_
            have hS : wr.drew.cell? ⟨bp, 0, none⟩ = some (.slice As d.safe.length cs) ∧ wr.drew.cell? ⟨g, j * 2, none⟩ = some (.int .i64 (xa : Int)) ∧ wr.drew.cell? ⟨g, j * 2 + 1, none⟩ = some (.slice Ab xb.length cb) := ⟨e0, e3, e4⟩
            obtain ⟨A4, hcut, hA4⟩ := cut_run (P := Try.prog) 22 5 Try.underlying22 sz5 As d.safe.length cs xa (by omega)
            have HA4 := Lib.hid hA4
            have HS := Lib.hid hS
            clear hA4 hS
            repeat (first
              | (refine sq_any (v := ?_) (a' := ?_) rfl rfl rfl (by rfl) (fun W => ?hr) ?ha ?_; (case hr => go_simp; first | done | rfl); (case ha => simp only [Act.put, List.setIfInBounds_toArray, List.set_cons_zero, List.set_cons_succ]; rfl))
              | (refine sq_load (v := ?_) (a' := ?_) rfl rfl rfl (by rfl) (fun W hSW => ?hr) HS.out ?ha ?_; (case hr => (try dsimp only at hSW); go_simp; first | done | rfl); (case ha => simp only [Act.put, List.setIfInBounds_toArray, List.set_cons_zero, List.set_cons_succ]; rfl)))
            have hrb2 : Rb wr.drew R (.slice Ab xb.length cb) xb := HRB.out.fr (R1.out.drew) (fun k _ h1 h2 => H.out.hd k (H.out.hs.2 k h2).1 h1)
            obtain ⟨_, _, he5, _, _, hnews⟩ := hrb2.news
            cases he5
            have hlen := HLEN.out _ (fun x hx => keptW_mem (List.dropLast_subset (keptW d.waits keep k) hx))
            refine sq_cpy (O := fun k => (Value.slice As d.safe.length cs).ownBlock = some k) rfl rfl (by rfl) (.tmp 36) (.tmp 40) 22 22 5 rfl Try.underlying22 sz5 _ _ _ rfl _ _ _ rfl (.slice As d.safe.length cs) d.safe.length ((applyW d.safe (keptW d.waits keep k).dropLast).map enc8) ?cO xa (by omega) (by omega) (by rw [HA4.out]; exact cut_at hc1) (xb.map enc8) (by rw [List.length_map]; omega) hnews (by simp [enc8, Value.oneCell']) ?_
            case cO => exact R2.out.fr ((Fr.refl No wr).drew) (fun _ _ _ h => h)
            intro w4 hown4 hfr4
            have hbp : ¬ (Value.slice As d.safe.length cs).ownBlock = some bp := fun e => (H.out.hs.2 bp e).2 rfl
            have f0 : w4.cell? ⟨bp, 0, none⟩ = some (.slice As d.safe.length cs) := hfr4.cell (w := wr.drew) e0 hbp
            have f2 : w4.cell? ⟨bp, 2, none⟩ = some (Value.slice (some ⟨g, 0, none⟩) d.waits.length cw) := hfr4.cell (w := wr.drew) e2 hbp
            refine ⟨fun _ => ⟨f0, hfr4.cell (w := wr.drew) e3 (fun e => HG3.out e), hfr4.cell (w := wr.drew) e4 (fun e => HG3.out e)⟩, ?_⟩
            simp only [Act.put, List.setIfInBounds_toArray, List.set_cons_zero, List.set_cons_succ]
            refine sq_done ?_
            have HR4 : Hid (CrashRel w (.slice As d.safe.length cs) (.slice (some ⟨g, 0, none⟩) d.waits.length cw) d keep (k + 1) (.pointer (some ⟨g, k * 2, none⟩)) w4) := by
              refine (show CrashRel _ _ _ _ _ _ _ _ from ⟨R1.out.drew.then hfr4, ?_, .inr ⟨g, k, _, HWK.out, ?_, rfl, rfl⟩⟩)
              · rw [keptW_take HWK.out HB.out, List.dropLast_concat]
                have e : keptW d.waits keep k = (keptW d.waits keep k).dropLast ++ [(xa, xb)] := by
                  obtain ⟨ys, hys⟩ := List.getLast?_eq_some_iff.1 R5.out
                  rw [hys]; simp
                rw [e, applyW_append, ← splice_map]
                exact hown4
              · rw [keptW_take HWK.out HB.out]; simp
            clear hown4 hfr4 hnews hrb2 e0 e2 e3 e4 f0 hbp
            go_wp2_with fail
            go_roundw
            case rel => exact ⟨k + 1, by omega, by go_num, HR4⟩
            case measure => simp [intOf]; omega
    · have hkl : k = d.waits.length := by omega
      subst hkl
      have hR := HR.out
      have hlenk : ∀ l, (∀ x ∈ l, x ∈ d.waits) → (applyW d.safe l).length = d.safe.length := fun l hl => applyW_length _ _ (fun x hx => by rw [H.out.hl]; exact H.out.hv x (hl x hx))
      rcases hR with ⟨r1, r2, ⟨r3, rfl⟩ | ⟨g, j, ⟨xa, xb⟩, r4, r5, r6, rfl⟩⟩
      · have HT : Hid (CrashEnd w bp (.slice As d.safe.length cs) (.slice An d.now.length cn) d d.safe wr) := by
          rw [r3] at r2
          exact (show CrashEnd _ _ _ _ _ _ _ from ⟨r1, r2, rfl⟩)
        have HC : Hid (crashS d.safe (keptW d.waits keep d.waits.length) tear = d.safe) := by rw [r3]; rfl
        clear r1 r2 r3 h0 h2 hlenk
        have hbp : ¬ (Value.slice As d.safe.length cs).ownBlock = some bp := fun e => (H.out.hs.2 bp e).2 rfl
        have hp := HT.out.fr.heap H.out.hp hbp
        have e0 : wr.cell? ⟨bp, 0, none⟩ = some (Value.slice As d.safe.length cs) := by rw [blk_cell hp]; rfl
        have e2 : wr.cell? ⟨bp, 2, none⟩ = some (Value.slice Aw d.waits.length cw) := by rw [blk_cell hp]; rfl
        have ez := blk_free hp 2
        have HP := Lib.hid hp
        clear hp hbp
        go_wp2_with fail
        refine wp_seq_region (fun W => W.cell? ⟨bp, 0, none⟩ = some (.slice As d.safe.length cs) ∧ W.cell? ⟨bp, 1, none⟩ = some (.slice An d.now.length cn)) [8] [3, 7] [] [0, 1, 2, 3, 4, 5, 6, 7, 8] (by kernel_rfl) (by kernel_rfl) rfl (by kernel_rfl) (fun _ _ _ _ _ h => h) ?_
        obtain ⟨w5, hw5⟩ : ∃ w5, Hid (w5 = wr.setCell ⟨bp, 2, none⟩ (.slice none 0 0)) := ⟨_, rfl⟩
        rw [← hw5.out]
        have hp5 : w5.heap[bp]? = some (.cells #[.slice As d.safe.length cs, .slice An d.now.length cn, .slice none 0 0] 98 (0, 0)) := by rw [hw5.out, blk_set HP.out]; rfl
        have HS : Hid (w5.drew.cell? ⟨bp, 0, none⟩ = some (.slice As d.safe.length cs) ∧ w5.drew.cell? ⟨bp, 1, none⟩ = some (.slice An d.now.length cn)) := (show _ ∧ _ from ⟨blk_cell (w := w5.drew) hp5 0, blk_cell (w := w5.drew) hp5 1⟩)
        have HP5 := Lib.hid hp5
        clear hp5 e0 e2 ez
        repeat (first
          | (refine sq_any (v := ?_) (a' := ?_) rfl rfl rfl (by rfl) (fun W => ?hr) ?ha ?_; (case hr => go_simp; first | done | rfl); (case ha => simp only [Act.put, List.setIfInBounds_toArray, List.set_cons_zero, List.set_cons_succ]; rfl))
          | (refine sq_load (v := ?_) (a' := ?_) rfl rfl rfl (by rfl) (fun W hSW => ?hr) HS.out ?ha ?_; (case hr => (try dsimp only at hSW); go_simp; first | done | rfl); (case ha => simp only [Act.put, List.setIfInBounds_toArray, List.set_cons_zero, List.set_cons_succ]; rfl)))
        have hfs : Fr (fun k => k = bp) wr w5 := by rw [hw5.out]; exact (Fr.refl _ _).setCell _ _ (fun _ => rfl)
        have hsr : Rds enc8 w5.drew (fun k => (Value.slice As d.safe.length cs).ownBlock = some k) (.slice As d.safe.length cs) _ := Ow.reads (w := w5.drew) (e := 5) (O := fun k => (Value.slice As d.safe.length cs).ownBlock = some k) (by rw [HT.out.len]; exact HT.out.hs.fr hfs.drew (fun k _ h1 h2 => (H.out.hs.2 k h1).2 h2))
        obtain ⟨_, _, he5, _, _, hnews⟩ := hsr.news
        rw [HT.out.len] at he5
        cases he5
        have hln : d.safe.length = d.now.length := H.out.hl
        have hls := HT.out.len
        refine sq_cpy (O := fun k => (Value.slice An d.now.length cn).ownBlock = some k) rfl rfl (by rfl) (.tmp 83) (.tmp 87) 22 22 5 rfl Try.underlying22 sz5 _ _ _ rfl _ _ _ rfl (.slice An d.now.length cn) d.now.length (d.now.map enc8) ?cO 0 (by omega) (by omega) (fun _ g c' h => by cases h; rfl) _ (by rw [List.length_map]; omega) hnews (by simp [enc8, Value.oneCell']) ?_
        case cO => exact (((H.out.hn.just.fr HT.out.fr (fun k _ h1 h2 => (H.out.hn.2 k h1).2.2 h2)).fr hfs (fun k _ h1 h2 => (H.out.hn.2 k h1).2.1 h2)).fr ((Fr.refl No w5).drew) (fun _ _ _ h => h))
        intro w6 hown6 hfr6
        rw [splice_map, splice_all _ _ (by rw [hls, hln])] at hown6
        have hbn : ¬ (Value.slice An d.now.length cn).ownBlock = some bp := fun e => (H.out.hn.2 bp e).2.1 rfl
        refine ⟨fun _ => ⟨hfr6.cell HS.out.1 hbn, hfr6.cell HS.out.2 hbn⟩, ?_⟩
        simp only [Act.put, List.setIfInBounds_toArray, List.set_cons_zero, List.set_cons_succ]
        refine sq_done ?_
        have HQ := Lib.hid (HT.out.done H.out hw5.out ((Fr.refl _ w5).drew.then hfr6) hown6)
        clear hown6 hfr6 hnews hsr hfs hbn
        go_wp2_with fail
        go_end0
        rw [HC.out]
        exact HQ.out
      · obtain ⟨A1, c1, he1, _, _, hcell⟩ := H.out.hw.cells
        cases he1
        obtain ⟨vb, hk1, hk2, hrb⟩ := H.out.ha j xa xb r4
        obtain ⟨g1, rfl, ⟨hg1, hg2, hg3, hg4⟩, hca, _⟩ := hcell _ _ hk1
        obtain ⟨_, he3, _, hcb, _⟩ := hcell _ _ hk2
        cases he3
        obtain rfl : g1 = g := by simpa [Value.ownBlock] using r6
        obtain ⟨Ab, cb, rfl, hb1, hb2⟩ := hrb.shape
        have e3 : wr.cell? ⟨g1, j * 2, none⟩ = some (.int .i64 (xa : Int)) := by rw [Nat.mul_comm]; exact r1.cell hca (fun e => hg3 e)
        have e4 : wr.cell? ⟨g1, j * 2 + 1, none⟩ = some (.slice Ab xb.length cb) := by rw [Nat.mul_comm]; exact r1.cell hcb (fun e => hg3 e)
        have e0 : wr.cell? ⟨bp, 0, none⟩ = some (Value.slice As d.safe.length cs) := r1.cell h0 (fun e => (H.out.hs.2 bp e).2 rfl)
        have hv : xa + xb.length ≤ d.safe.length := by have h1 := H.out.hv _ (List.mem_of_getElem? r4); have h2 := H.out.hl; simp only at h1; omega
        have hlen := hlenk _ (fun x hx => keptW_mem (List.dropLast_subset (keptW d.waits keep d.waits.length) hx))
        have hrb2 : Rb wr.drew R (.slice Ab xb.length cb) xb := hrb.fr (r1.drew) (fun k _ h1 h2 => H.out.hd k (H.out.hs.2 k h2).1 h1)
        obtain ⟨A4, hcut, hA4⟩ := cut_run (P := Try.prog) 22 5 Try.underlying22 sz5 As d.safe.length cs xa (by omega)
        have HA4 := Lib.hid hA4
        have HLEN := Lib.hid hlen
        have R1 := Lib.hid r1
        have R2 := Lib.hid r2
        have R5 := Lib.hid r5
        have HG3 := Lib.hid hg3
        have HTL : Hid ((tearB tear xb).length ≤ xb.length) := by
          show _ ≤ _
          unfold tearB
          split
          · rw [List.length_take]; omega
          · omega
        obtain ⟨_, _, he5, _, _, hnews0⟩ := hrb2.news
        cases he5
        have hnews : ∀ j u, ((tearB tear xb).map enc8)[j]? = some u → ∃ ad, Ab = some ad ∧ wr.drew.cell? (ad.add j) = some u := by
          intro j u hj
          refine hnews0 j u ?_
          unfold tearB at hj
          split at hj
          · rw [List.map_take, List.getElem?_take] at hj
            split at hj
            · exact hj
            · cases hj
          · exact hj
        have HNEWS := Lib.hid hnews
        clear hA4 hlen r1 r2 r5 r4 r6 hg1 hg2 hg3 hg4 hk1 hk2 hcell hca hcb hrb hrb2 hnews0 hnews hlenk hb2
        by_cases ht : 0 ≤ tear
        · by_cases ht2 : tear < xb.length
          · have htl : Hid ((tearB tear xb).length = tear.toNat) := by
              show _ = _
              unfold tearB
              rw [if_pos ⟨ht, ht2⟩, List.length_take]; omega
            have hcut2 := cut0_run (P := Try.prog) 22 5 Try.underlying22 sz5 Ab xb.length cb tear ht (by omega)
            clear h0 h2
            go_wp2_with fail
            refine wp_seq_region (fun W => W.cell? ⟨bp, 0, none⟩ = some (.slice As d.safe.length cs) ∧ W.cell? ⟨g1, j * 2, none⟩ = some (.int .i64 (xa : Int))) [10] [3, 7] [] [0, 1, 2, 3, 4, 5, 6, 7, 8, 9, 10] (by kernel_rfl) (by kernel_rfl) rfl (by kernel_rfl) (fun _ _ _ _ _ h => h) ?_
            have HS : Hid (wr.drew.cell? ⟨bp, 0, none⟩ = some (.slice As d.safe.length cs) ∧ wr.drew.cell? ⟨g1, j * 2, none⟩ = some (.int .i64 (xa : Int))) := (show _ ∧ _ from ⟨e0, e3⟩)
            repeat (first
              | (refine sq_any (v := ?_) (a' := ?_) rfl rfl rfl (by rfl) (fun W => ?hr) ?ha ?_; (case hr => go_simp; first | done | rfl); (case ha => simp only [Act.put, List.setIfInBounds_toArray, List.set_cons_zero, List.set_cons_succ]; rfl))
              | (refine sq_load (v := ?_) (a' := ?_) rfl rfl rfl (by rfl) (fun W hSW => ?hr) HS.out ?ha ?_; (case hr => (try dsimp only at hSW); go_simp; first | done | rfl); (case ha => simp only [Act.put, List.setIfInBounds_toArray, List.set_cons_zero, List.set_cons_succ]; rfl)))
            refine sq_cpy (O := fun k => (Value.slice As d.safe.length cs).ownBlock = some k) rfl rfl (by rfl) (.tmp 74) (.tmp 75) 22 22 5 rfl Try.underlying22 sz5 _ _ _ rfl _ _ _ rfl (.slice As d.safe.length cs) d.safe.length ((applyW d.safe (keptW d.waits keep d.waits.length).dropLast).map enc8) ?cO xa (by omega) (by omega) (by rw [HA4.out]; exact cut_at hc1) ((tearB tear xb).map enc8) (by rw [List.length_map, htl.out]; omega) HNEWS.out (by simp [enc8, Value.oneCell']) ?_
            case cO => exact R2.out.fr ((Fr.refl No wr).drew) (fun _ _ _ h => h)
            intro w4 hown4 hfr4
            have hbs : ¬ (Value.slice As d.safe.length cs).ownBlock = some bp := fun e => (H.out.hs.2 bp e).2 rfl
            refine ⟨fun _ => ⟨hfr4.cell (w := wr.drew) e0 hbs, hfr4.cell (w := wr.drew) e3 (fun e => HG3.out e)⟩, ?_⟩
            simp only [Act.put, List.setIfInBounds_toArray, List.set_cons_zero, List.set_cons_succ]
            refine sq_done ?_
            have HT : Hid (CrashEnd w bp (.slice As d.safe.length cs) (.slice An d.now.length cn) d (splice (applyW d.safe (keptW d.waits keep d.waits.length).dropLast) xa (tearB tear xb)) w4) := by
              rw [splice_map] at hown4
              refine (show CrashEnd _ _ _ _ _ _ _ from ⟨R1.out.drew.then hfr4, hown4, ?_⟩)
              rw [length_splice _ _ _ (by rw [HLEN.out]; have := HTL.out; omega), HLEN.out]
            have HC : Hid (crashS d.safe (keptW d.waits keep d.waits.length) tear = splice (applyW d.safe (keptW d.waits keep d.waits.length).dropLast) xa (tearB tear xb)) := by
              show _ = _
              unfold crashS
              rw [R5.out]
            clear hown4 hfr4 hbs e0 e3 e4 HS
            have hbp : ¬ (Value.slice As d.safe.length cs).ownBlock = some bp := fun e => (H.out.hs.2 bp e).2 rfl
            have hp := HT.out.fr.heap H.out.hp hbp
            have e0 : w4.cell? ⟨bp, 0, none⟩ = some (Value.slice As d.safe.length cs) := by rw [blk_cell hp]; rfl
            have e2 : w4.cell? ⟨bp, 2, none⟩ = some (Value.slice (some ⟨g1, 0, none⟩) d.waits.length cw) := by rw [blk_cell hp]; rfl
            have ez := blk_free hp 2
            have HP := Lib.hid hp
            clear hp hbp
            go_wp2_with fail
            refine wp_seq_region (fun W => W.cell? ⟨bp, 0, none⟩ = some (.slice As d.safe.length cs) ∧ W.cell? ⟨bp, 1, none⟩ = some (.slice An d.now.length cn)) [8] [3, 7] [] [0, 1, 2, 3, 4, 5, 6, 7, 8] (by kernel_rfl) (by kernel_rfl) rfl (by kernel_rfl) (fun _ _ _ _ _ h => h) ?_
            obtain ⟨w5, hw5⟩ : ∃ w5, Hid (w5 = w4.setCell ⟨bp, 2, none⟩ (.slice none 0 0)) := ⟨_, rfl⟩
            rw [← hw5.out]
            have hp5 : w5.heap[bp]? = some (.cells #[.slice As d.safe.length cs, .slice An d.now.length cn, .slice none 0 0] 98 (0, 0)) := by rw [hw5.out, blk_set HP.out]; rfl
            have HS : Hid (w5.drew.cell? ⟨bp, 0, none⟩ = some (.slice As d.safe.length cs) ∧ w5.drew.cell? ⟨bp, 1, none⟩ = some (.slice An d.now.length cn)) := (show _ ∧ _ from ⟨blk_cell (w := w5.drew) hp5 0, blk_cell (w := w5.drew) hp5 1⟩)
            have HP5 := Lib.hid hp5
            clear hp5 e0 e2 ez
            repeat (first
              | (refine sq_any (v := ?_) (a' := ?_) rfl rfl rfl (by rfl) (fun W => ?hr) ?ha ?_; (case hr => go_simp; first | done | rfl); (case ha => simp only [Act.put, List.setIfInBounds_toArray, List.set_cons_zero, List.set_cons_succ]; rfl))
              | (refine sq_load (v := ?_) (a' := ?_) rfl rfl rfl (by rfl) (fun W hSW => ?hr) HS.out ?ha ?_; (case hr => (try dsimp only at hSW); go_simp; first | done | rfl); (case ha => simp only [Act.put, List.setIfInBounds_toArray, List.set_cons_zero, List.set_cons_succ]; rfl)))
            have hfs : Fr (fun k => k = bp) w4 w5 := by rw [hw5.out]; exact (Fr.refl _ _).setCell _ _ (fun _ => rfl)
            have hsr : Rds enc8 w5.drew (fun k => (Value.slice As d.safe.length cs).ownBlock = some k) (.slice As d.safe.length cs) _ := Ow.reads (w := w5.drew) (e := 5) (O := fun k => (Value.slice As d.safe.length cs).ownBlock = some k) (by rw [HT.out.len]; exact HT.out.hs.fr hfs.drew (fun k _ h1 h2 => (H.out.hs.2 k h1).2 h2))
            obtain ⟨_, _, he5, _, _, hnews⟩ := hsr.news
            rw [HT.out.len] at he5
            cases he5
            have hln : d.safe.length = d.now.length := H.out.hl
            have hls := HT.out.len
            refine sq_cpy (O := fun k => (Value.slice An d.now.length cn).ownBlock = some k) rfl rfl (by rfl) (.tmp 83) (.tmp 87) 22 22 5 rfl Try.underlying22 sz5 _ _ _ rfl _ _ _ rfl (.slice An d.now.length cn) d.now.length (d.now.map enc8) ?cO 0 (by omega) (by omega) (fun _ g c' h => by cases h; rfl) _ (by rw [List.length_map]; omega) hnews (by simp [enc8, Value.oneCell']) ?_
            case cO => exact (((H.out.hn.just.fr HT.out.fr (fun k _ h1 h2 => (H.out.hn.2 k h1).2.2 h2)).fr hfs (fun k _ h1 h2 => (H.out.hn.2 k h1).2.1 h2)).fr ((Fr.refl No w5).drew) (fun _ _ _ h => h))
            intro w6 hown6 hfr6
            rw [splice_map, splice_all _ _ (by rw [hls, hln])] at hown6
            have hbn : ¬ (Value.slice An d.now.length cn).ownBlock = some bp := fun e => (H.out.hn.2 bp e).2.1 rfl
            refine ⟨fun _ => ⟨hfr6.cell HS.out.1 hbn, hfr6.cell HS.out.2 hbn⟩, ?_⟩
            simp only [Act.put, List.setIfInBounds_toArray, List.set_cons_zero, List.set_cons_succ]
            refine sq_done ?_
            have HQ := Lib.hid (HT.out.done H.out hw5.out ((Fr.refl _ w5).drew.then hfr6) hown6)
            clear hown6 hfr6 hnews hsr hfs hbn
            go_wp2_with fail
            go_end0
            rw [HC.out]
            exact HQ.out
          · have ht2' : (xb.length : Int) ≤ tear := by omega
            have htl : Hid ((tearB tear xb).length = xb.length) := by
              show _ = _
              unfold tearB
              rw [if_neg (by omega)]
            clear ht2
            clear h0 h2
            go_wp2_with fail
            refine wp_seq_region (fun W => W.cell? ⟨bp, 0, none⟩ = some (.slice As d.safe.length cs) ∧ W.cell? ⟨g1, j * 2, none⟩ = some (.int .i64 (xa : Int))) [10] [3, 7] [] [0, 1, 2, 3, 4, 5, 6, 7, 8, 9, 10] (by kernel_rfl) (by kernel_rfl) rfl (by kernel_rfl) (fun _ _ _ _ _ h => h) ?_
            have HS : Hid (wr.drew.cell? ⟨bp, 0, none⟩ = some (.slice As d.safe.length cs) ∧ wr.drew.cell? ⟨g1, j * 2, none⟩ = some (.int .i64 (xa : Int))) := (show _ ∧ _ from ⟨e0, e3⟩)
            repeat (first
              | (refine sq_any (v := ?_) (a' := ?_) rfl rfl rfl (by rfl) (fun W => ?hr) ?ha ?_; (case hr => go_simp; first | done | rfl); (case ha => simp only [Act.put, List.setIfInBounds_toArray, List.set_cons_zero, List.set_cons_succ]; rfl))
              | (refine sq_load (v := ?_) (a' := ?_) rfl rfl rfl (by rfl) (fun W hSW => ?hr) HS.out ?ha ?_; (case hr => (try dsimp only at hSW); go_simp; first | done | rfl); (case ha => simp only [Act.put, List.setIfInBounds_toArray, List.set_cons_zero, List.set_cons_succ]; rfl)))
            refine sq_cpy (O := fun k => (Value.slice As d.safe.length cs).ownBlock = some k) rfl rfl (by rfl) (.tmp 74) (.tmp 75) 22 22 5 rfl Try.underlying22 sz5 _ _ _ rfl _ _ _ rfl (.slice As d.safe.length cs) d.safe.length ((applyW d.safe (keptW d.waits keep d.waits.length).dropLast).map enc8) ?cO xa (by omega) (by omega) (by rw [HA4.out]; exact cut_at hc1) ((tearB tear xb).map enc8) (by rw [List.length_map, htl.out]; omega) HNEWS.out (by simp [enc8, Value.oneCell']) ?_
            case cO => exact R2.out.fr ((Fr.refl No wr).drew) (fun _ _ _ h => h)
            intro w4 hown4 hfr4
            have hbs : ¬ (Value.slice As d.safe.length cs).ownBlock = some bp := fun e => (H.out.hs.2 bp e).2 rfl
            refine ⟨fun _ => ⟨hfr4.cell (w := wr.drew) e0 hbs, hfr4.cell (w := wr.drew) e3 (fun e => HG3.out e)⟩, ?_⟩
            simp only [Act.put, List.setIfInBounds_toArray, List.set_cons_zero, List.set_cons_succ]
            refine sq_done ?_
            have HT : Hid (CrashEnd w bp (.slice As d.safe.length cs) (.slice An d.now.length cn) d (splice (applyW d.safe (keptW d.waits keep d.waits.length).dropLast) xa (tearB tear xb)) w4) := by
              rw [splice_map] at hown4
              refine (show CrashEnd _ _ _ _ _ _ _ from ⟨R1.out.drew.then hfr4, hown4, ?_⟩)
              rw [length_splice _ _ _ (by rw [HLEN.out]; have := HTL.out; omega), HLEN.out]
            have HC : Hid (crashS d.safe (keptW d.waits keep d.waits.length) tear = splice (applyW d.safe (keptW d.waits keep d.waits.length).dropLast) xa (tearB tear xb)) := by
              show _ = _
              unfold crashS
              rw [R5.out]
            clear hown4 hfr4 hbs e0 e3 e4 HS
            have hbp : ¬ (Value.slice As d.safe.length cs).ownBlock = some bp := fun e => (H.out.hs.2 bp e).2 rfl
            have hp := HT.out.fr.heap H.out.hp hbp
            have e0 : w4.cell? ⟨bp, 0, none⟩ = some (Value.slice As d.safe.length cs) := by rw [blk_cell hp]; rfl
            have e2 : w4.cell? ⟨bp, 2, none⟩ = some (Value.slice (some ⟨g1, 0, none⟩) d.waits.length cw) := by rw [blk_cell hp]; rfl
            have ez := blk_free hp 2
            have HP := Lib.hid hp
            clear hp hbp
            go_wp2_with fail
            refine wp_seq_region (fun W => W.cell? ⟨bp, 0, none⟩ = some (.slice As d.safe.length cs) ∧ W.cell? ⟨bp, 1, none⟩ = some (.slice An d.now.length cn)) [8] [3, 7] [] [0, 1, 2, 3, 4, 5, 6, 7, 8] (by kernel_rfl) (by kernel_rfl) rfl (by kernel_rfl) (fun _ _ _ _ _ h => h) ?_
            obtain ⟨w5, hw5⟩ : ∃ w5, Hid (w5 = w4.setCell ⟨bp, 2, none⟩ (.slice none 0 0)) := ⟨_, rfl⟩
            rw [← hw5.out]
            have hp5 : w5.heap[bp]? = some (.cells #[.slice As d.safe.length cs, .slice An d.now.length cn, .slice none 0 0] 98 (0, 0)) := by rw [hw5.out, blk_set HP.out]; rfl
            have HS : Hid (w5.drew.cell? ⟨bp, 0, none⟩ = some (.slice As d.safe.length cs) ∧ w5.drew.cell? ⟨bp, 1, none⟩ = some (.slice An d.now.length cn)) := (show _ ∧ _ from ⟨blk_cell (w := w5.drew) hp5 0, blk_cell (w := w5.drew) hp5 1⟩)
            have HP5 := Lib.hid hp5
            clear hp5 e0 e2 ez
            repeat (first
              | (refine sq_any (v := ?_) (a' := ?_) rfl rfl rfl (by rfl) (fun W => ?hr) ?ha ?_; (case hr => go_simp; first | done | rfl); (case ha => simp only [Act.put, List.setIfInBounds_toArray, List.set_cons_zero, List.set_cons_succ]; rfl))
              | (refine sq_load (v := ?_) (a' := ?_) rfl rfl rfl (by rfl) (fun W hSW => ?hr) HS.out ?ha ?_; (case hr => (try dsimp only at hSW); go_simp; first | done | rfl); (case ha => simp only [Act.put, List.setIfInBounds_toArray, List.set_cons_zero, List.set_cons_succ]; rfl)))
            have hfs : Fr (fun k => k = bp) w4 w5 := by rw [hw5.out]; exact (Fr.refl _ _).setCell _ _ (fun _ => rfl)
            have hsr : Rds enc8 w5.drew (fun k => (Value.slice As d.safe.length cs).ownBlock = some k) (.slice As d.safe.length cs) _ := Ow.reads (w := w5.drew) (e := 5) (O := fun k => (Value.slice As d.safe.length cs).ownBlock = some k) (by rw [HT.out.len]; exact HT.out.hs.fr hfs.drew (fun k _ h1 h2 => (H.out.hs.2 k h1).2 h2))
            obtain ⟨_, _, he5, _, _, hnews⟩ := hsr.news
            rw [HT.out.len] at he5
            cases he5
            have hln : d.safe.length = d.now.length := H.out.hl
            have hls := HT.out.len
            refine sq_cpy (O := fun k => (Value.slice An d.now.length cn).ownBlock = some k) rfl rfl (by rfl) (.tmp 83) (.tmp 87) 22 22 5 rfl Try.underlying22 sz5 _ _ _ rfl _ _ _ rfl (.slice An d.now.length cn) d.now.length (d.now.map enc8) ?cO 0 (by omega) (by omega) (fun _ g c' h => by cases h; rfl) _ (by rw [List.length_map]; omega) hnews (by simp [enc8, Value.oneCell']) ?_
            case cO => exact (((H.out.hn.just.fr HT.out.fr (fun k _ h1 h2 => (H.out.hn.2 k h1).2.2 h2)).fr hfs (fun k _ h1 h2 => (H.out.hn.2 k h1).2.1 h2)).fr ((Fr.refl No w5).drew) (fun _ _ _ h => h))
            intro w6 hown6 hfr6
            rw [splice_map, splice_all _ _ (by rw [hls, hln])] at hown6
            have hbn : ¬ (Value.slice An d.now.length cn).ownBlock = some bp := fun e => (H.out.hn.2 bp e).2.1 rfl
            refine ⟨fun _ => ⟨hfr6.cell HS.out.1 hbn, hfr6.cell HS.out.2 hbn⟩, ?_⟩
            simp only [Act.put, List.setIfInBounds_toArray, List.set_cons_zero, List.set_cons_succ]
            refine sq_done ?_
            have HQ := Lib.hid (HT.out.done H.out hw5.out ((Fr.refl _ w5).drew.then hfr6) hown6)
            clear hown6 hfr6 hnews hsr hfs hbn
            go_wp2_with fail
            go_end0
            rw [HC.out]
            exact HQ.out
        · have ht' : tear < 0 := by omega
          have htl : Hid ((tearB tear xb).length = xb.length) := by
            show _ = _
            unfold tearB
            rw [if_neg (by omega)]
          clear ht
          clear h0 h2
          go_wp2_with fail
          refine wp_seq_region (fun W => W.cell? ⟨bp, 0, none⟩ = some (.slice As d.safe.length cs) ∧ W.cell? ⟨g1, j * 2, none⟩ = some (.int .i64 (xa : Int))) [10] [3, 7] [] [0, 1, 2, 3, 4, 5, 6, 7, 8, 9, 10] (by kernel_rfl) (by kernel_rfl) rfl (by kernel_rfl) (fun _ _ _ _ _ h => h) ?_
          have HS : Hid (wr.drew.cell? ⟨bp, 0, none⟩ = some (.slice As d.safe.length cs) ∧ wr.drew.cell? ⟨g1, j * 2, none⟩ = some (.int .i64 (xa : Int))) := (show _ ∧ _ from ⟨e0, e3⟩)
          repeat (first
            | (refine sq_any (v := ?_) (a' := ?_) rfl rfl rfl (by rfl) (fun W => ?hr) ?ha ?_; (case hr => go_simp; first | done | rfl); (case ha => simp only [Act.put, List.setIfInBounds_toArray, List.set_cons_zero, List.set_cons_succ]; rfl))
            | (refine sq_load (v := ?_) (a' := ?_) rfl rfl rfl (by rfl) (fun W hSW => ?hr) HS.out ?ha ?_; (case hr => (try dsimp only at hSW); go_simp; first | done | rfl); (case ha => simp only [Act.put, List.setIfInBounds_toArray, List.set_cons_zero, List.set_cons_succ]; rfl)))
          refine sq_cpy (O := fun k => (Value.slice As d.safe.length cs).ownBlock = some k) rfl rfl (by rfl) (.tmp 74) (.tmp 75) 22 22 5 rfl Try.underlying22 sz5 _ _ _ rfl _ _ _ rfl (.slice As d.safe.length cs) d.safe.length ((applyW d.safe (keptW d.waits keep d.waits.length).dropLast).map enc8) ?cO xa (by omega) (by omega) (by rw [HA4.out]; exact cut_at hc1) ((tearB tear xb).map enc8) (by rw [List.length_map, htl.out]; omega) HNEWS.out (by simp [enc8, Value.oneCell']) ?_
          case cO => exact R2.out.fr ((Fr.refl No wr).drew) (fun _ _ _ h => h)
          intro w4 hown4 hfr4
          have hbs : ¬ (Value.slice As d.safe.length cs).ownBlock = some bp := fun e => (H.out.hs.2 bp e).2 rfl
          refine ⟨fun _ => ⟨hfr4.cell (w := wr.drew) e0 hbs, hfr4.cell (w := wr.drew) e3 (fun e => HG3.out e)⟩, ?_⟩
          simp only [Act.put, List.setIfInBounds_toArray, List.set_cons_zero, List.set_cons_succ]
          refine sq_done ?_
          have HT : Hid (CrashEnd w bp (.slice As d.safe.length cs) (.slice An d.now.length cn) d (splice (applyW d.safe (keptW d.waits keep d.waits.length).dropLast) xa (tearB tear xb)) w4) := by
            rw [splice_map] at hown4
            refine (show CrashEnd _ _ _ _ _ _ _ from ⟨R1.out.drew.then hfr4, hown4, ?_⟩)
            rw [length_splice _ _ _ (by rw [HLEN.out]; have := HTL.out; omega), HLEN.out]
          have HC : Hid (crashS d.safe (keptW d.waits keep d.waits.length) tear = splice (applyW d.safe (keptW d.waits keep d.waits.length).dropLast) xa (tearB tear xb)) := by
            show _ = _
            unfold crashS
            rw [R5.out]
          clear hown4 hfr4 hbs e0 e3 e4 HS
          have hbp : ¬ (Value.slice As d.safe.length cs).ownBlock = some bp := fun e => (H.out.hs.2 bp e).2 rfl
          have hp := HT.out.fr.heap H.out.hp hbp
          have e0 : w4.cell? ⟨bp, 0, none⟩ = some (Value.slice As d.safe.length cs) := by rw [blk_cell hp]; rfl
          have e2 : w4.cell? ⟨bp, 2, none⟩ = some (Value.slice (some ⟨g1, 0, none⟩) d.waits.length cw) := by rw [blk_cell hp]; rfl
          have ez := blk_free hp 2
          have HP := Lib.hid hp
          clear hp hbp
          go_wp2_with fail
          refine wp_seq_region (fun W => W.cell? ⟨bp, 0, none⟩ = some (.slice As d.safe.length cs) ∧ W.cell? ⟨bp, 1, none⟩ = some (.slice An d.now.length cn)) [8] [3, 7] [] [0, 1, 2, 3, 4, 5, 6, 7, 8] (by kernel_rfl) (by kernel_rfl) rfl (by kernel_rfl) (fun _ _ _ _ _ h => h) ?_
          obtain ⟨w5, hw5⟩ : ∃ w5, Hid (w5 = w4.setCell ⟨bp, 2, none⟩ (.slice none 0 0)) := ⟨_, rfl⟩
          rw [← hw5.out]
          have hp5 : w5.heap[bp]? = some (.cells #[.slice As d.safe.length cs, .slice An d.now.length cn, .slice none 0 0] 98 (0, 0)) := by rw [hw5.out, blk_set HP.out]; rfl
          have HS : Hid (w5.drew.cell? ⟨bp, 0, none⟩ = some (.slice As d.safe.length cs) ∧ w5.drew.cell? ⟨bp, 1, none⟩ = some (.slice An d.now.length cn)) := (show _ ∧ _ from ⟨blk_cell (w := w5.drew) hp5 0, blk_cell (w := w5.drew) hp5 1⟩)
          have HP5 := Lib.hid hp5
          clear hp5 e0 e2 ez
          repeat (first
            | (refine sq_any (v := ?_) (a' := ?_) rfl rfl rfl (by rfl) (fun W => ?hr) ?ha ?_; (case hr => go_simp; first | done | rfl); (case ha => simp only [Act.put, List.setIfInBounds_toArray, List.set_cons_zero, List.set_cons_succ]; rfl))
            | (refine sq_load (v := ?_) (a' := ?_) rfl rfl rfl (by rfl) (fun W hSW => ?hr) HS.out ?ha ?_; (case hr => (try dsimp only at hSW); go_simp; first | done | rfl); (case ha => simp only [Act.put, List.setIfInBounds_toArray, List.set_cons_zero, List.set_cons_succ]; rfl)))
          have hfs : Fr (fun k => k = bp) w4 w5 := by rw [hw5.out]; exact (Fr.refl _ _).setCell _ _ (fun _ => rfl)
          have hsr : Rds enc8 w5.drew (fun k => (Value.slice As d.safe.length cs).ownBlock = some k) (.slice As d.safe.length cs) _ := Ow.reads (w := w5.drew) (e := 5) (O := fun k => (Value.slice As d.safe.length cs).ownBlock = some k) (by rw [HT.out.len]; exact HT.out.hs.fr hfs.drew (fun k _ h1 h2 => (H.out.hs.2 k h1).2 h2))
          obtain ⟨_, _, he5, _, _, hnews⟩ := hsr.news
          rw [HT.out.len] at he5
          cases he5
          have hln : d.safe.length = d.now.length := H.out.hl
          have hls := HT.out.len
          refine sq_cpy (O := fun k => (Value.slice An d.now.length cn).ownBlock = some k) rfl rfl (by rfl) (.tmp 83) (.tmp 87) 22 22 5 rfl Try.underlying22 sz5 _ _ _ rfl _ _ _ rfl (.slice An d.now.length cn) d.now.length (d.now.map enc8) ?cO 0 (by omega) (by omega) (fun _ g c' h => by cases h; rfl) _ (by rw [List.length_map]; omega) hnews (by simp [enc8, Value.oneCell']) ?_
          case cO => exact (((H.out.hn.just.fr HT.out.fr (fun k _ h1 h2 => (H.out.hn.2 k h1).2.2 h2)).fr hfs (fun k _ h1 h2 => (H.out.hn.2 k h1).2.1 h2)).fr ((Fr.refl No w5).drew) (fun _ _ _ h => h))
          intro w6 hown6 hfr6
          rw [splice_map, splice_all _ _ (by rw [hls, hln])] at hown6
          have hbn : ¬ (Value.slice An d.now.length cn).ownBlock = some bp := fun e => (H.out.hn.2 bp e).2.1 rfl
          refine ⟨fun _ => ⟨hfr6.cell HS.out.1 hbn, hfr6.cell HS.out.2 hbn⟩, ?_⟩
          simp only [Act.put, List.setIfInBounds_toArray, List.set_cons_zero, List.set_cons_succ]
          refine sq_done ?_
          have HQ := Lib.hid (HT.out.done H.out hw5.out ((Fr.refl _ w5).drew.then hfr6) hown6)
          clear hown6 hfr6 hnews hsr hfs hbn
          go_wp2_with fail
          go_end0
          rw [HC.out]
          exact HQ.out
end Go.Proofs.Ytbaohngnpgappaa
namespace Go.Proofs.Ytbaohngnpgappaa
open Go.RowKit
theorem samebytes {w : World} {F1 F2 : Nat → Prop} {v1 v2 : Value} {l1 l2 : List UInt8} (h1 : Rb w F1 v1 l1) (h2 : Rb w F2 v2 l2) :
    Calls Try.prog 25 #[v1, v2] w fun e w' => e = .returned (.bool (l1 == l2)) ∧ w = w' := by
  have H1 := Lib.hid h1
  have H2 := Lib.hid h2
  clear h1 h2
  go_enter Try.func25, Try.ntmps25
  go_wp2_with (first | ((with_reducible refine at_dst 6 rfl ?_); refine wpListG_str (by rfl) rfl Try.underlying22 Try.underlying5 Try.underlying9 (by exact H1.out) ?_) | ((with_reducible refine at_dst 8 rfl ?_); refine wpListG_str (by rfl) rfl Try.underlying22 Try.underlying5 Try.underlying9 (by exact H2.out) ?_))
  go_ret
  exact ⟨rfl, rfl⟩
theorem samebytes_yes {w : World} {F1 F2 : Nat → Prop} {v1 v2 : Value} {l1 l2 : List UInt8} (h1 : Rb w F1 v1 l1) (h2 : Rb w F2 v2 l2) (h : l1 = l2) :
    Calls Try.prog 25 #[v1, v2] w fun e w' => e = .returned (.bool true) ∧ w = w' := by
  subst h
  have := samebytes h1 h2
  rw [beq_self_eq_true] at this
  exact this
/-- A literal of bytes in a block of its own. -/
theorem rb_lit {w : World} {g : Nat} {l : List UInt8} (h : w.heap[g]? = some (.cells (l.map enc8).toArray 5 (0, 0))) (hl : l.length ≤ 1000) : Rb w (fun k => k = g) (.slice (some ⟨g, 0, none⟩) l.length l.length) l := by
  refine ⟨_, _, rfl, Nat.le_refl _, by simp only [maxLen]; omega, fun j x hj => ⟨g, 0, rfl, rfl, ?_⟩⟩
  rw [Nat.zero_add, blk_cell h]
  simp [hj]
def Told (v : Value) (w : World) (e : Ending) (w' : World) : Prop := e = .returned v ∧ Fr No w w'
theorem DiskIs.no {w w' : World} {O R : Nat → Prop} {p : Value} {d : Dk} (h : DiskIs w O R p d) (hf : Fr No w w') : DiskIs w' O R p d := h.fr hf (fun _ _ _ h => h)
theorem DiskIs.ptr {w : World} {O R : Nat → Prop} {p : Value} {d : Dk} (h : DiskIs w O R p d) : ∃ bp, p = .pointer (some ⟨bp, 0, none⟩) := by
  obtain ⟨bp, _, _, _, _, rfl, _⟩ := h
  exact ⟨bp, rfl⟩
/-- New since w0. -/
theorem Fr.news {S : Nat → Prop} {w0 w w' : World} (h : Fr No w0 w) (k : Fr S w w') (hs : ∀ i, S i → w0.heap.size ≤ i) : Fr No w0 w' := h.trans k (fun _ _ h => h) (fun i hi h => by have := hs i h; omega)
set_option maxHeartbeats 4000000 in
theorem live_any (w : World) : Calls Try.prog 20 #[] w (Told (.bool true) w) := by
  go_enter Try.func20, Try.ntmps20
  go_wp2_with fail
  refine (new_any 4 _).mono ?_
  rintro e w1 ⟨p, O, rfl, hD, hO, hF⟩
  obtain ⟨bp, rfl⟩ := hD.ptr
  have HD := Lib.hid hD
  have HO := Lib.hid hO
  have HF := Lib.hid hF
  clear hD hO hF
  go_wp2_with fail
  refine (size_any HD.out).mono ?_
  rintro e w' ⟨rfl, rfl⟩
  rw [show ((⟨List.replicate (clampI 4) 0, List.replicate (clampI 4) 0, []⟩ : Dk).now.length : Int) = 4 from rfl]
  go_wp2_with fail
  have F1 : Fr No w1 (w1.alloc (.cells #[.int .u8 7, .int .u8 8] 5)) := (Fr.refl _ _).alloc _
  have hlit : Rb (w1.alloc (.cells #[.int .u8 7, .int .u8 8] 5)) (fun k => k = w1.heap.size) (.slice (some ⟨w1.heap.size, 0, none⟩) 2 2) [7, 8] := rb_lit (l := [7, 8]) (blk_new w1 _) (by decide)
  refine (write_yes (a := 2) (HD.out.no F1) hlit (fun k hk hO => by have := HD.out.lt k (.inl hO); omega) (by decide) (by decide)).mono ?_
  rintro e w2 ⟨O2, R2, rfl, hD2, hO2, hR2, hF2⟩
  have HD2 := Lib.hid hD2
  have HO2 : Hid (∀ k, O2 k → w.heap.size ≤ k) := (show ∀ k, O2 k → w.heap.size ≤ k from fun k hk => by
    rcases hO2 k hk with h | h
    · exact HO.out k h
    · have h1 := HF.out.size; have h2 := F1.size; omega)
  have HF2 : Hid (Fr No w w2) := (show Fr No w w2 from (HF.out.then F1).news hF2 HO.out)
  clear hD2 hO2 hR2 hF2 F1 hlit
  go_wp2_with fail
  refine (copy_any HD2.out (by decide)).mono ?_
  rintro e w3 ⟨p', rfl, hD3, hF3⟩
  obtain ⟨bp', rfl⟩ := hD3.ptr
  have HD3 := Lib.hid hD3
  have HD2' := Lib.hid (HD2.out.no hF3)
  have HF3 : Hid (Fr No w w3) := (show Fr No w w3 from HF2.out.then hF3)
  have HS3 := hF3.size
  clear hD3 hF3
  go_wp2_with fail
  refine (read_any HD2'.out (by decide) (by decide) (by decide)).mono ?_
  rintro e w4 ⟨v4, rfl, hv4, hF4⟩
  obtain ⟨A4, c4, rfl, _, _⟩ := hv4.shape
  have HV4 := Lib.hid hv4
  have HD3' := Lib.hid (HD3.out.no hF4)
  have HD4 := Lib.hid (HD2'.out.no hF4)
  have HF34 := Lib.hid hF4
  clear hv4 hF4
  go_wp2_with fail
  refine (crash_any HD4.out (by decide) 0 (-1) (by decide)).mono ?_
  rintro e w5 ⟨O5, R5, rfl, hD5, hO5, hR5, hF5⟩
  have HD5 := Lib.hid hD5
  have GO5 := Lib.hid hO5
  have GR5 := Lib.hid hR5
  have HS34 := HF34.out.size
  have HO5 : Hid (∀ k, O5 k → w.heap.size ≤ k) := (show ∀ k, O5 k → w.heap.size ≤ k from fun k hk => by
    rcases hO5 k hk with h | h
    · exact HO2.out k h
    · have h1 := HF3.out.size; omega)
  have HF5 : Hid (Fr No w w5) := (show Fr No w w5 from (HF3.out.then HF34.out).news hF5 HO2.out)
  have HE5 : Hid (DiskIs w5 (fun k => w2.heap.size ≤ k ∧ k < w3.heap.size) R2 (.pointer (some ⟨bp', 0, none⟩)) _) := (show DiskIs _ _ _ _ _ from HD3'.out.fr hF5 (fun k _ hk hO => by
    have h1 := HD2.out.lt k (.inl hO)
    rcases hk with hk | hk
    · omega
    · exact HD2.out.apart k hO hk))
  have HV5 := Lib.hid (HV4.out.fr hF5 (fun k _ hk hO => by have h1 := HD2.out.lt k (.inl hO); have h2 : w3.heap.size ≤ k := hk; omega))
  have HS5 := hF5.size
  clear hD5 hO5 hR5 hF5
  go_wp2_with fail
  refine (crash_any HE5.out (by decide) 1 1 (by decide)).mono ?_
  rintro e w6 ⟨O6, R6, rfl, hD6, hO6, hR6, hF6⟩
  have HD6 := Lib.hid hD6
  have HSw := HF2.out.size
  have HF6 : Hid (Fr No w w6) := (show Fr No w w6 from HF5.out.news hF6 (fun k hk => by have := hk.1; omega))
  have hS3 := HF3.out.size
  have HE6 : Hid (DiskIs w6 O5 R5 (.pointer (some ⟨bp, 0, none⟩)) _) := (show DiskIs _ _ _ _ _ from HD5.out.fr hF6 (fun k hk hk2 hO => by
    rcases hk2 with h | h
    · rcases GO5.out k h with h | h
      · have h1 := HD2.out.lt k (.inl h); omega
      · have h2 := hO.2; omega
    · rcases GR5.out k h with h | h
      · have h1 := HD2.out.lt k (.inr h); omega
      · have h2 := hO.2; omega))
  have HV6 := Lib.hid (HV5.out.fr hF6 (fun k _ hk hO => by have h2 : w3.heap.size ≤ k := hk; have h3 := hO.2; omega))
  clear hD6 hO6 hR6 hF6
  go_wp2_with fail
  refine (samebytes_yes (HV6.out.reads.fr ((Fr.refl No w6).alloc _) (fun _ _ _ h => h)) (rb_lit (l := [0, 0, 7, 8]) (blk_new w6 _) (by decide)) (by decide)).mono ?_
  rintro e w7 ⟨rfl, rfl⟩
  go_wp2_with fail
  refine (read_any (HE6.out.no ((Fr.refl No w6).alloc _)) (by decide) (by decide) (by decide)).mono ?_
  rintro e w7 ⟨v7, rfl, hv7, hF7⟩
  obtain ⟨A7, c7, rfl, _, _⟩ := hv7.shape
  have HV7 := Lib.hid hv7
  have HF7 : Hid (Fr No w6 w7) := (show Fr No w6 w7 from ((Fr.refl No w6).alloc _).then hF7)
  clear hv7 hF7
  go_wp2_with fail
  refine (samebytes_yes (HV7.out.reads.fr ((Fr.refl No w7).alloc _) (fun _ _ _ h => h)) (rb_lit (l := [0, 0, 0, 0]) (blk_new w7 _) (by decide)) (by decide)).mono ?_
  rintro e w8 ⟨rfl, rfl⟩
  go_wp2_with fail
  refine (read_any (HD6.out.no (HF7.out.alloc _)) (by decide) (by decide) (by decide)).mono ?_
  rintro e w9 ⟨v9, rfl, hv9, hF9⟩
  obtain ⟨A9, c9, rfl, _, _⟩ := hv9.shape
  have HV9 := Lib.hid hv9
  have HF9 : Hid (Fr No w6 w9) := (show Fr No w6 w9 from (HF7.out.alloc _).then hF9)
  clear hv9 hF9
  go_wp2_with fail
  refine (samebytes_yes (HV9.out.reads.fr ((Fr.refl No w9).alloc _) (fun _ _ _ h => h)) (rb_lit (l := [0, 0, 7, 0]) (blk_new w9 _) (by decide)) (by decide)).mono ?_
  rintro e w10 ⟨rfl, rfl⟩
  go_wp2_with fail
  go_ret
  exact ⟨rfl, HF6.out.then (HF9.out.alloc _)⟩
end Go.Proofs.Ytbaohngnpgappaa
namespace Go.Proofs.Ytbaohngnpgappaa
open Go.RowKit
theorem readB_nat (l : List UInt8) (a m : Nat) (hm : 1 ≤ m) : readB l (a : Int) (m : Int) = (l.take (a + m)).drop a := by
  unfold readB
  rw [if_neg (by omega), Int.toNat_natCast, show ((a : Int) + (m : Int)).toNat = a + m from by omega]
theorem readB_zero (l : List UInt8) (a : Int) : readB l a 0 = [] := by unfold readB; rw [if_pos (by omega)]
theorem splice_get {l b : List UInt8} {a : Nat} (h : a + b.length ≤ l.length) (j : Nat) : (splice l a b)[j]? = if j < a then l[j]? else if j < a + b.length then b[j - a]? else l[j]? := by
  unfold splice
  have e1 : (l.take a).length = a := by rw [List.length_take]; omega
  rw [List.getElem?_append, e1]
  split
  · rw [List.getElem?_take, if_pos (by omega)]
  · rw [List.getElem?_append]
    split
    · rw [if_pos (by omega)]
    · rw [if_neg (by omega), List.getElem?_drop]; congr 1; omega
theorem readB_get (l : List UInt8) (a m j : Nat) (hm : 1 ≤ m) : (readB l (a : Int) (m : Int))[j]? = if j < m then l[a + j]? else none := by
  rw [readB_nat _ _ _ hm, List.getElem?_drop, List.getElem?_take]
  split
  · rw [if_pos (by omega)]
  · rw [if_neg (by omega)]
/-- What was written last is read first. -/
theorem read_head {l b : List UInt8} {a m : Nat} (h : a + b.length ≤ l.length) (hm : b.length ≤ m) : b.length ≤ (readB (splice l a b) (a : Int) (m : Int)).length ∧ (readB (splice l a b) (a : Int) (m : Int)).take b.length = b := by
  rcases Nat.eq_zero_or_pos m with rfl | hp
  · have hb : b = [] := List.eq_nil_of_length_eq_zero (by omega)
    subst hb
    simp
  · constructor
    · rw [readB_nat _ _ _ hp, List.length_drop, List.length_take, length_splice _ _ _ h]; omega
    · apply List.ext_getElem?
      intro j
      rw [List.getElem?_take, readB_get _ _ _ _ hp, splice_get h]
      rcases Nat.lt_or_ge j b.length with hj | hj
      · rw [if_pos hj, if_pos (by omega), if_neg (by omega), if_pos (by omega), Nat.add_sub_cancel_left]
      · rw [if_neg (by omega), List.getElem?_eq_none hj]
theorem read_two {l p b : List UInt8} {a : Nat} (h1 : a + p.length ≤ l.length) (h2 : a + b.length ≤ l.length) : readB (splice (splice l a p) a b) (a : Int) (max (p.length : Int) (b.length : Int)) = b ++ p.drop b.length := by
  rw [show (max (p.length : Int) (b.length : Int)) = ((max p.length b.length : Nat) : Int) from by omega]
  have hl := length_splice l a p h1
  rcases Nat.eq_zero_or_pos (max p.length b.length) with h0 | hp
  · have hb : b = [] := List.eq_nil_of_length_eq_zero (by omega)
    have hpp : p = [] := List.eq_nil_of_length_eq_zero (by omega)
    subst hb hpp
    rw [h0]; exact readB_zero _ _
  · apply List.ext_getElem?
    intro j
    rw [readB_get _ _ _ _ hp, splice_get (by rw [hl]; exact h2), splice_get h1, List.getElem?_append, List.getElem?_drop]
    rcases Nat.lt_or_ge j b.length with hj | hj
    · rw [if_pos (by omega), if_neg (by omega), if_pos (by omega), if_pos hj, Nat.add_sub_cancel_left]
    · rw [if_neg (by omega : ¬ j < b.length)]
      rcases Nat.lt_or_ge j p.length with hj2 | hj2
      · rw [if_pos (by omega), if_neg (by omega), if_neg (by omega), if_neg (by omega), if_pos (by omega), Nat.add_sub_cancel_left]; congr 1; omega
      · rw [if_neg (by omega), List.getElem?_eq_none (by omega)]
theorem news_cut {w : World} {F : Nat → Prop} {A A' : Option Addr} {c m : Nat} {l : List UInt8} (hA : A' = if c = m then A else Option.map (fun x => x.add m) A) (h : Rb w F (.slice A l.length c) l) (hm : m ≤ l.length) :
    ∀ j u, ((l.drop m).map enc8)[j]? = some u → ∃ ad, A' = some ad ∧ w.cell? (ad.add j) = some u := by
  obtain ⟨A1, c1, he, _, _, hd⟩ := h.drop_ m hm
  cases he
  obtain ⟨A2, c2, he2, _, _, hn⟩ := hd.news
  have e : A2 = if c = m then A else Option.map (fun x => x.add m) A := by injection he2 with e1 e2 e3; exact e1.symm
  rw [hA, ← e]
  exact hn
set_option maxHeartbeats 4000000 in
theorem disklast {w : World} {size at_ : Int} {va vb : Value} {a b : List UInt8} (ha : Rb w (fun k => k < w.heap.size) va a) (hb : Rb w (fun k => k < w.heap.size) vb b) (h0 : -9223372036854775808 ≤ at_) (h1 : at_ ≤ 9223372036854775807) :
    Calls Try.prog 3 #[.int .i64 size, .int .i64 at_, va, vb] w (Told (.bool true) w) := by
  obtain ⟨Aa, ca, rfl, hca, hca2⟩ := ha.shape
  obtain ⟨Ab, cb, rfl, hcb, hcb2⟩ := hb.shape
  have HA := Lib.hid ha
  have HB := Lib.hid hb
  clear ha hb hca2 hcb2
  by_cases hbig : size > 400 ∨ a.length > 300 ∨ b.length > 300
  · have up : ∀ W, Fr No w W → Told (.bool true) w (.returned (.bool true)) W := fun W h => ⟨rfl, h⟩
    have UP := Lib.hid up
    clear up
    by_cases c1 : 400 < size
    · clear hbig
      go_enter Try.func3, Try.ntmps3
      go_wp2_with fail
      refine (live_any _).mono ?_
      rintro e w1 ⟨rfl, hF1⟩
      have HF1 := Lib.hid hF1
      clear hF1
      go_wp2_with fail
      go_ret
      exact UP.out _ HF1.out
    · have c1' : size ≤ 400 := by omega
      by_cases c2 : (300 : Int) < a.length
      · clear hbig c1
        go_enter Try.func3, Try.ntmps3
        go_wp2_with fail
        refine (live_any _).mono ?_
        rintro e w1 ⟨rfl, hF1⟩
        have HF1 := Lib.hid hF1
        clear hF1
        go_wp2_with fail
        go_ret
        exact UP.out _ HF1.out
      · have c2' : (a.length : Int) ≤ 300 := by omega
        have c3 : (300 : Int) < b.length := by omega
        clear hbig c1 c2
        go_enter Try.func3, Try.ntmps3
        go_wp2_with fail
        refine (live_any _).mono ?_
        rintro e w1 ⟨rfl, hF1⟩
        have HF1 := Lib.hid hF1
        clear hF1
        go_wp2_with fail
        go_ret
        exact UP.out _ HF1.out
  · have hs : size ≤ 400 := by omega
    have hla : a.length ≤ 300 := by omega
    have hlb : b.length ≤ 300 := by omega
    clear hbig
    obtain ⟨n, hn⟩ : ∃ n, n = clampI size := ⟨_, rfl⟩
    have hn4 : n ≤ 400 := by rw [hn]; unfold clampI; omega
    have HN := Lib.hid hn
    clear hn
    go_enter Try.func3, Try.ntmps3
    go_wp2_with fail
    refine (live_any _).mono ?_
    rintro e w1 ⟨rfl, hF1⟩
    have HF1 := Lib.hid hF1
    clear hF1
    go_wp2_with fail
    refine (new_any size _).mono ?_
    rintro e w2 ⟨p, O, rfl, hD, hO, hF⟩
    obtain ⟨bp, rfl⟩ := hD.ptr
    rw [← HN.out] at hD
    have HD := Lib.hid hD
    have HF2 : Hid (Fr No w w2) := (show Fr No w w2 from HF1.out.then hF)
    have HO : Hid (∀ k, O k → w.heap.size ≤ k) := (show ∀ k, O k → w.heap.size ≤ k from fun k hk => Nat.le_trans HF1.out.size (hO k hk))
    clear hD hO hF
    go_wp2_with fail
    have hA2 : Rb w2 (fun k => k < w.heap.size) (.slice Aa a.length ca) a := HA.out.fr HF2.out (fun _ _ _ h => h)
    have hB2 : Rb w2 (fun k => k < w.heap.size) (.slice Ab b.length cb) b := HB.out.fr HF2.out (fun _ _ _ h => h)
    have hz : (List.replicate n (0 : UInt8)).length = n := List.length_replicate
    by_cases hea : 0 ≤ at_ ∧ at_ + a.length ≤ n
    · obtain ⟨t, rfl⟩ : ∃ t : Nat, at_ = t := ⟨at_.toNat, by omega⟩
      refine (write_yes HD.out hA2 (fun k hk hk2 => by have := HO.out k hk2; omega) (by simp only [List.length_replicate]; omega) (by simp)).mono ?_
      rintro e w3 ⟨O3, R3, rfl, hD3, hO3, hR3, hF3⟩
      have HD3 := Lib.hid hD3
      have HF3 : Hid (Fr No w w3) := (show Fr No w w3 from HF2.out.news hF3 HO.out)
      have HO3 : Hid (∀ k, O3 k → w.heap.size ≤ k) := (show ∀ k, O3 k → w.heap.size ≤ k from fun k hk => by
        rcases hO3 k hk with h | h
        · exact HO.out k h
        · exact Nat.le_trans HF2.out.size h)
      have hls := length_splice (List.replicate n (0 : UInt8)) t a (by omega)
      have HLS := Lib.hid hls
      clear hD3 hO3 hR3 hF3 hA2 hB2 hls
      go_wp2_with fail
      have hB3 : Rb w3 (fun k => k < w.heap.size) (.slice Ab b.length cb) b := HB.out.fr HF3.out (fun _ _ _ h => h)
      by_cases heb : 0 ≤ (t : Int) ∧ (t : Int) + b.length ≤ n
      · refine (write_yes HD3.out hB3 (fun k hk hk2 => by have := HO3.out k hk2; omega) (by simp only [HLS.out, hz]; omega) (by simp)).mono ?_
        rintro e w4 ⟨O4, R4, rfl, hD4, hO4, hR4, hF4⟩
        have HD4 := Lib.hid hD4
        have HF4 : Hid (Fr No w w4) := (show Fr No w w4 from HF3.out.news hF4 HO3.out)
        obtain ⟨L, HL⟩ : ∃ L, Hid (L = b ++ a.drop b.length) := ⟨_, rfl⟩
        have HRD : Hid (readB (splice (splice (List.replicate n (0 : UInt8)) t a) t b) (t : Int) (max (a.length : Int) (b.length : Int)) = L) := (show _ = _ from (read_two (by omega) (by omega)).trans HL.out.symm)
        clear hD4 hO4 hR4 hF4 hB3
        go_wp2_with ((with_reducible refine at_dst 57 rfl ?_); refine wpList_max rfl (.tmp 54) (.tmp 56) _ rfl _ _ rfl rfl ?_)
        refine (read_any HD4.out (by omega) (by omega) (by omega)).mono ?_
        rintro e w5 ⟨v5, rfl, hv5, hF5⟩
        simp only [HRD.out] at hv5
        obtain ⟨A5, c5, rfl, hc5, hc52⟩ := hv5.shape
        have HV5 := Lib.hid hv5
        have HF5 : Hid (Fr No w w5) := (show Fr No w w5 from HF4.out.then hF5)
        clear hv5 hF5 hc52
        have hB5 : Rb w5 (fun k => k < w.heap.size) (.slice Ab b.length cb) b := HB.out.fr HF5.out (fun _ _ _ h => h)
        have hA5 : Rb w5 (fun k => k < w.heap.size) (.slice Aa a.length ca) a := HA.out.fr HF5.out (fun _ _ _ h => h)
        obtain ⟨_, _, he, _, _, hnb⟩ := hB5.news
        cases he
        have HNB := Lib.hid hnb
        have HB5 := Lib.hid hB5
        have HA5 := Lib.hid hA5
        clear hnb hB5 hA5
        have happ : (L.length : Int) = max (a.length : Int) (b.length : Int) := by rw [HL.out, List.length_append, List.length_drop]; omega
        have hap2 : (b.length : Int) ≤ (L.length : Int) := by omega
        have hcut := cut0_run (P := Try.prog) 22 5 Try.underlying22 sz5 A5 L.length c5 (b.length : Int) (by omega) (by omega)
        have HAP := Lib.hid happ
        clear happ
        by_cases hlt : (b.length : Int) < a.length
        · obtain ⟨A6, hcut6, hA6⟩ := cut_run (P := Try.prog) 22 5 Try.underlying22 sz5 Aa a.length ca b.length (by omega)
          have HA6 := Lib.hid hA6
          clear hA6
          go_wp2_with (with_reducible refine halt_dst 60 rfl ?_)
          refine wpList_app (O := No) rfl (.const (.slice none 0 0)) (.tmp 59) 22 5 rfl _ 1 1 Try.underlying22 info5 rfl (by omega) (by omega) (.slice none 0 0) 0 [] rfl _ b.length _ rfl (Ow.nil _ _ _ _) (b.map enc8) (by simp) HNB.out (by simp [enc8, Value.oneCell']) (by omega) ?_
          intro v6 w6 hown6 hfr6
          rw [List.nil_append, Nat.zero_add] at hown6
          have hf6 : Fr No w5 w6 := hfr6.mono (fun k _ h => by simp [Value.ownBlock] at h)
          obtain ⟨A7, c7, rfl, _, hc72⟩ := hown6.shape
          have HO6 := Lib.hid hown6
          have HF6 := Lib.hid hf6
          clear hown6 hfr6 hc72 hf6
          have HNA := Lib.hid (news_cut HA6.out (HA5.out.fr HF6.out (fun k _ _ h => h)) (by omega))
          go_wp2_with (with_reducible refine halt_dst 75 rfl ?_)
          refine wpList_app (O := fun k => k = w5.heap.size) rfl (.tmp 70) (.tmp 74) 22 5 rfl _ 1 1 Try.underlying22 info5 rfl (by omega) (by omega) (.slice A7 b.length c7) b.length (b.map enc8) rfl A6 (a.length - b.length) (ca - b.length) rfl (HO6.out.mono fun k hk => by rcases hk with hk | hk; (simp [Value.ownBlock] at hk); exact hk) ((a.drop b.length).map enc8) (by simp) HNA.out (one8 _) (by omega) ?_
          intro v8 w7 hown7 hfr7
          rw [← List.map_append, ← HL.out, show b.length + (a.length - b.length) = L.length from by have := HAP.out; omega] at hown7
          have hf7 : Fr No w5 w7 := HF6.out.trans hfr7 (fun _ _ h => h) (fun k hk h => by have h2 := HO6.out.2 k h; rcases h2 with h2 | h2; (simp [Value.ownBlock] at h2); omega)
          obtain ⟨A8, c8, rfl, _, hc82⟩ := hown7.shape
          have HO7 := Lib.hid hown7
          have HF7 := Lib.hid hf7
          clear hown7 hfr7 hc82 hf7
          have hgot : Rb w7 (New w4) (.slice A5 L.length c5) (L) := HV5.out.reads.fr HF7.out (fun _ _ _ h => h)
          obtain ⟨_, _, he9, _, _, htk⟩ := hgot.take_ b.length (by omega)
          cases he9
          go_wp2_with fail
          refine (samebytes_yes htk (HB5.out.fr HF7.out (fun _ _ _ h => h)) (by rw [HL.out]; simp)).mono ?_
          rintro e w' ⟨rfl, rfl⟩
          go_wp2_with fail
          refine (samebytes_yes hgot HO7.out.reads rfl).mono ?_
          rintro e w' ⟨rfl, rfl⟩
          go_wp2_with fail
          go_ret
          exact ⟨rfl, HF5.out.then HF7.out⟩
        · have hge : (a.length : Int) ≤ b.length := by omega
          have hLb : Hid (L = b) := by
            have h1 : a.drop b.length = [] := List.drop_eq_nil_of_le (by omega)
            exact (show L = b from by rw [HL.out, h1, List.append_nil])
          clear hlt
          go_wp2_with (with_reducible refine halt_dst 60 rfl ?_)
          refine wpList_app (O := No) rfl (.const (.slice none 0 0)) (.tmp 59) 22 5 rfl _ 1 1 Try.underlying22 info5 rfl (by omega) (by omega) (.slice none 0 0) 0 [] rfl _ b.length _ rfl (Ow.nil _ _ _ _) (b.map enc8) (by simp) HNB.out (by simp [enc8, Value.oneCell']) (by omega) ?_
          intro v6 w6 hown6 hfr6
          rw [List.nil_append, Nat.zero_add] at hown6
          have hf6 : Fr No w5 w6 := hfr6.mono (fun k _ h => by simp [Value.ownBlock] at h)
          obtain ⟨A7, c7, rfl, _, hc72⟩ := hown6.shape
          have HO6 := Lib.hid hown6
          have HF6 := Lib.hid hf6
          clear hown6 hfr6 hc72 hf6
          have hgot : Rb w6 (New w4) (.slice A5 L.length c5) (L) := HV5.out.reads.fr HF6.out (fun _ _ _ h => h)
          obtain ⟨_, _, he9, _, _, htk⟩ := hgot.take_ b.length (by omega)
          cases he9
          go_wp2_with fail
          refine (samebytes_yes htk (HB5.out.fr HF6.out (fun _ _ _ h => h)) (by rw [HL.out]; simp)).mono ?_
          rintro e w' ⟨rfl, rfl⟩
          go_wp2_with fail
          refine (samebytes_yes hgot HO6.out.reads (by rw [hLb.out])).mono ?_
          rintro e w' ⟨rfl, rfl⟩
          go_wp2_with fail
          go_ret
          exact ⟨rfl, HF5.out.then HF6.out⟩
      · refine (write_no HD3.out hB3 (by simp only [HLS.out, hz]; omega)).mono ?_
        rintro e w' ⟨rfl, rfl⟩
        go_wp2_with fail
        refine (waiting_any HD3.out).mono ?_
        rintro e w' ⟨rfl, rfl⟩
        rw [show (((⟨List.replicate n 0, splice (List.replicate n 0) t a, [] ++ [(t, a)]⟩ : Dk).waits.length : Nat) : Int) = 1 from rfl]
        go_wp2_with fail
        go_ret
        exact ⟨rfl, HF3.out⟩
    · refine (write_no HD.out hA2 (by simp only [hz]; omega)).mono ?_
      rintro e w' ⟨rfl, rfl⟩
      go_wp2_with fail
      by_cases heb : 0 ≤ at_ ∧ at_ + b.length ≤ n
      · obtain ⟨t, rfl⟩ : ∃ t : Nat, at_ = t := ⟨at_.toNat, by omega⟩
        refine (write_yes HD.out hB2 (fun k hk hk2 => by have := HO.out k hk2; omega) (by simp only [hz]; omega) (by simp)).mono ?_
        rintro e w4 ⟨O4, R4, rfl, hD4, hO4, hR4, hF4⟩
        have HD4 := Lib.hid hD4
        have HF4 : Hid (Fr No w w4) := (show Fr No w w4 from HF2.out.news hF4 HO.out)
        obtain ⟨L, HL⟩ : ∃ L, Hid (L = readB (splice (List.replicate n (0 : UInt8)) t b) (t : Int) (max (a.length : Int) (b.length : Int))) := ⟨_, rfl⟩
        have hrh := read_head (l := List.replicate n (0 : UInt8)) (b := b) (a := t) (m := max a.length b.length) (by omega) (by omega)
        rw [show (((max a.length b.length : Nat) : Int)) = max (a.length : Int) (b.length : Int) from by omega, ← HL.out] at hrh
        have hap2 : (b.length : Int) ≤ (L.length : Int) := by omega
        have HT := Lib.hid hrh.2
        clear hD4 hO4 hR4 hF4 hA2 hB2 hrh hz
        go_wp2_with ((with_reducible refine at_dst 57 rfl ?_); refine wpList_max rfl (.tmp 54) (.tmp 56) _ rfl _ _ rfl rfl ?_)
        refine (read_any HD4.out (by omega) (by omega) (by omega)).mono ?_
        rintro e w5 ⟨v5, rfl, hv5, hF5⟩
        simp only [← HL.out] at hv5
        obtain ⟨A5, c5, rfl, hc5, hc52⟩ := hv5.shape
        have HV5 := Lib.hid hv5
        have HF5 : Hid (Fr No w w5) := (show Fr No w w5 from HF4.out.then hF5)
        clear hv5 hF5 hc52
        have hB5 : Rb w5 (fun k => k < w.heap.size) (.slice Ab b.length cb) b := HB.out.fr HF5.out (fun _ _ _ h => h)
        obtain ⟨_, _, he, _, _, hnb⟩ := hB5.news
        cases he
        have HNB := Lib.hid hnb
        have HB5 := Lib.hid hB5
        clear hnb hB5
        have hcut := cut0_run (P := Try.prog) 22 5 Try.underlying22 sz5 A5 L.length c5 (b.length : Int) (by omega) (by omega)
        go_wp2_with (with_reducible refine halt_dst 60 rfl ?_)
        refine wpList_app (O := No) rfl (.const (.slice none 0 0)) (.tmp 59) 22 5 rfl _ 1 1 Try.underlying22 info5 rfl (by omega) (by omega) (.slice none 0 0) 0 [] rfl _ b.length _ rfl (Ow.nil _ _ _ _) (b.map enc8) (by simp) HNB.out (by simp [enc8, Value.oneCell']) (by omega) ?_
        intro v6 w6 hown6 hfr6
        rw [List.nil_append, Nat.zero_add] at hown6
        have hf6 : Fr No w5 w6 := hfr6.mono (fun k _ h => by simp [Value.ownBlock] at h)
        obtain ⟨A7, c7, rfl, _, hc72⟩ := hown6.shape
        have HO6 := Lib.hid hown6
        have HF6 := Lib.hid hf6
        clear hown6 hfr6 hc72 hf6
        have hgot : Rb w6 (New w4) (.slice A5 L.length c5) L := HV5.out.reads.fr HF6.out (fun _ _ _ h => h)
        obtain ⟨_, _, he9, _, _, htk⟩ := hgot.take_ b.length (by omega)
        cases he9
        go_wp2_with fail
        refine (samebytes_yes htk (HB5.out.fr HF6.out (fun _ _ _ h => h)) HT.out).mono ?_
        rintro e w' ⟨rfl, rfl⟩
        go_wp2_with fail
        go_ret
        exact ⟨rfl, HF5.out.then HF6.out⟩
      · refine (write_no HD.out hB2 (by simp only [hz]; omega)).mono ?_
        rintro e w' ⟨rfl, rfl⟩
        go_wp2_with fail
        refine (waiting_any HD.out).mono ?_
        rintro e w' ⟨rfl, rfl⟩
        rw [show (((⟨List.replicate n 0, List.replicate n 0, []⟩ : Dk).waits.length : Nat) : Int) = 0 from rfl]
        go_wp2_with fail
        go_ret
        exact ⟨rfl, HF2.out⟩
end Go.Proofs.Ytbaohngnpgappaa
