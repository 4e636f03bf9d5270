/- The disk's functions New, Size, Waiting, Write, Read and slices.Clone: what each comes to over a disk that is told as its safe bytes, its present bytes and the writes that wait. -/
import Derived.Test.YtbaohngnpgappaaChecked
import Derived.Test.YtbaohngnpgappaaA1
import Derived.WalkSpells
set_option linter.unusedVariables false
set_option linter.unusedSimpArgs false
namespace Go.Proofs.Ytbaohngnpgappaa
open Go.RowKit
theorem info5 : (Try.prog.info? 5).map (fun i => (i.zero, i.size, i.bytes)) = some (some (.int .u8 0), 1, 1) := by kernel_rfl
theorem info100 : (Try.prog.info? 100).map (fun i => (i.zero, i.size, i.bytes)) = some (some (.agg #[.int .i64 0, .slice none 0 0]), 2, 32) := by kernel_rfl
theorem sz5 : (Try.prog.info? 5).map (·.size) = some 1 := by kernel_rfl
def New (w : World) : Nat → Prop := fun k => w.heap.size ≤ k

section
variable {P : Program} {ops : Array Oper} {rest : List Oper} {o : Oper} {a : Act} {Q : Exit → Act → World → Prop} {w : World}
theorem at_dst (N : Nat) (h : o.dst = some N) (k : wpList P ops Q (o :: rest) a w) : wpList P ops Q (o :: rest) a w := k
theorem wpList_run (hgd : o.guard = none) {v : Value} {w' : World} (hrun : (execOp a.eval o).run P w = .ok (.value v) w') (h : wpList P ops Q rest (a.put o.dst v) w') : wpList P ops Q (o :: rest) a w := by
  refine wpList_plain hgd fun K hK => ?_
  unfold Oper.wp
  rw [hrun]
  exact hK _ _ h
theorem wpList_max (hgd : o.guard = none) (x y : Operand) (ts : Array TypeId) (ho : o.op = .call { callee := .builtin .max, args := #[x, y], argTypes := ts }) (p q : Int) (hx : a.eval x = .int .i64 p) (hy : a.eval y = .int .i64 q)
    (h : wpList P ops Q rest (a.put o.dst (.int .i64 (max p q))) w) : wpList P ops Q (o :: rest) a w := by
  refine wpList_run hgd ?_ h
  have e : (if q > p then q else p) = max p q := by split <;> omega
  unfold execOp
  simp [ho, resolve, invoke, builtin, hx, hy, Builtin.max_, Builtin.max2, e]
theorem wpList_min (hgd : o.guard = none) (x y : Operand) (ts : Array TypeId) (ho : o.op = .call { callee := .builtin .min, args := #[x, y], argTypes := ts }) (p q : Int) (hx : a.eval x = .int .i64 p) (hy : a.eval y = .int .i64 q)
    (h : wpList P ops Q rest (a.put o.dst (.int .i64 (min p q))) w) : wpList P ops Q (o :: rest) a w := by
  refine wpList_run hgd ?_ h
  have e : (if q < p then q else p) = min p q := by split <;> omega
  unfold execOp
  simp [ho, resolve, invoke, builtin, hx, hy, Builtin.min_, Builtin.min2, e]
end

/-! ### slices.Clone -/
theorem clone8 {w : World} {F : Nat → Prop} {v : Value} {l : List UInt8} (h : Rb w F v l) (hl : l.length ≤ 140737488355328) :
    Calls Try.prog 64 #[v] w fun e w' => ∃ v', e = .returned v' ∧ Ow w' (New w) 5 1 v' l.length (l.map enc8) ∧ Fr No w w' := by
  obtain ⟨A, c, rfl, h1, h2, h3⟩ := h.news
  cases A with
  | none =>
    obtain rfl : l = [] := by
      cases l with
      | nil => rfl
      | cons x xs => obtain ⟨ad, h, _⟩ := h3 0 _ rfl; cases h
    clear h h1 h2 h3 hl
    have hq := fun (W : World) => Lib.run_eql_slice_nil (P := Try.prog) W 22 5 none 0 c 0 0 Try.underlying22
    simp only [List.length_nil]
    go_enter Try.func64, Try.ntmps64
    go_wp2
    go_ret
    exact ⟨_, rfl, Ow.nil _ _ _ _, Fr.refl _ _⟩
  | some ad =>
    have hq := fun (W : World) => Lib.run_eql_slice_nil (P := Try.prog) W 22 5 (some ad) l.length c 0 0 Try.underlying22
    have HN := Lib.hid h3
    clear h h3 h1 h2
    go_enter Try.func64, Try.ntmps64
    go_wp2_with (at_builtin; refine wpList_app (O := fun k => k = w.heap.size) rfl (.tmp 5) (.tmp 6) 22 5 rfl _ 1 1 Try.underlying22 info5 rfl (by omega) (by omega) (.slice (some ⟨w.heap.size, 0, none⟩) 0 0) 0 [] rfl (some ad) l.length c rfl ?c1 (l.map enc8) (by simp) ?c2 (by simp [enc8, Value.oneCell']) (by omega) ?_; (case c1 => exact ⟨⟨rfl, .inr ⟨_, 0, #[], rfl, Nat.zero_le _, blk_new w _, Nat.le_refl _, Nat.zero_le _, rfl, rfl⟩⟩, fun k hk => (Option.some.inj hk).symm⟩); (case c2 => exact fun j u hj => by obtain ⟨ad', he, hc⟩ := HN.out j u hj; exact ⟨ad', he, (World.cell?_of_block (Below.heap_alloc _ _ _ (World.block_lt_of_cell? w _ hc))).trans hc⟩); intro v1 w1 hown hfr)
    go_ret
    refine ⟨_, rfl, ?_, ?_⟩
    · have e1 : 0 + l.length = l.length := Nat.zero_add _
      rw [List.nil_append, e1] at hown
      refine hown.mono fun k hk => ?_
      rcases hk with hk | hk
      · exact Nat.le_of_eq (Option.some.inj hk)
      · rw [hk]; simp [New]
    · exact ((Fr.refl _ w).alloc _).trans (S := No) hfr (fun _ _ h => h) (fun i hi h => absurd (Option.some.inj h) (by show w.heap.size ≠ i; omega))

/-! ### a disk -/
structure Dk where
  safe : List UInt8
  now : List UInt8
  waits : List (Nat × List UInt8)
def WaitsAre (w : World) (R : Nat → Prop) (ws : List (Nat × List UInt8)) (cells : List Value) : Prop :=
  ∀ j a b, ws[j]? = some (a, b) → ∃ vb, cells[2 * j]? = some (.int .i64 (a : Int)) ∧ cells[2 * j + 1]? = some vb ∧ Rb w R vb b
/-- The disk's own fields at block bp. -/
structure DiskAt (w : World) (O R : Nat → Prop) (bp : Nat) (vs vn vw : Value) (cells : List Value) (d : Dk) : Prop where
  top : O bp
  hp : w.heap[bp]? = some (.cells #[vs, vn, vw] 98 (0, 0))
  hs : Ow w (fun k => O k ∧ k ≠ bp) 5 1 vs d.safe.length (d.safe.map enc8)
  hn : Ow w (fun k => O k ∧ k ≠ bp ∧ vs.ownBlock ≠ some k) 5 1 vn d.now.length (d.now.map enc8)
  hw : Ow w (fun k => O k ∧ k ≠ bp ∧ vs.ownBlock ≠ some k ∧ vn.ownBlock ≠ some k) 100 2 vw d.waits.length cells
  ha : WaitsAre w R d.waits cells
  hd : ∀ k, O k → ¬ R k
  hb : ∀ k, O k ∨ R k → k < w.heap.size
  hl : d.safe.length = d.now.length
  hm : d.now.length ≤ 1048576
  hv : ∀ x ∈ d.waits, x.1 + x.2.length ≤ d.now.length
def DiskIs (w : World) (O R : Nat → Prop) (p : Value) (d : Dk) : Prop := ∃ bp vs vn vw cells, p = .pointer (some ⟨bp, 0, none⟩) ∧ DiskAt w O R bp vs vn vw cells d
theorem WaitsAre.move {w w' : World} {R R' : Nat → Prop} {ws : List (Nat × List UInt8)} {cells : List Value} (h : WaitsAre w R ws cells) (hm : ∀ k, R k → k < w.heap.size → w'.heap[k]? = w.heap[k]?) (hR : ∀ k, R k → R' k) : WaitsAre w' R' ws cells := fun j a b hj => by
  obtain ⟨vb, h1, h2, h3⟩ := h j a b hj
  exact ⟨vb, h1, h2, (h3.move hm).mono hR⟩
theorem DiskAt.move {w w' : World} {O R : Nat → Prop} {bp : Nat} {vs vn vw : Value} {cells : List Value} {d : Dk} (h : DiskAt w O R bp vs vn vw cells d) (hsz : w.heap.size ≤ w'.heap.size) (hm : ∀ k, O k ∨ R k → w'.heap[k]? = w.heap[k]?) : DiskAt w' O R bp vs vn vw cells d :=
  ⟨h.top, (hm bp (.inl h.top)).trans h.hp, h.hs.move fun k hk _ => hm k (.inl hk.1), h.hn.move fun k hk _ => hm k (.inl hk.1), h.hw.move fun k hk _ => hm k (.inl hk.1), h.ha.move (fun k hk _ => hm k (.inr hk)) (fun _ h => h), h.hd, fun k hk => Nat.lt_of_lt_of_le (h.hb k hk) hsz, h.hl, h.hm, h.hv⟩
/-- What turns other blocks leaves the disk as it is. -/
theorem DiskIs.fr {w w' : World} {O R S : Nat → Prop} {p : Value} {d : Dk} (h : DiskIs w O R p d) (hf : Fr S w w') (hs : ∀ k, k < w.heap.size → O k ∨ R k → ¬ S k) : DiskIs w' O R p d := by
  obtain ⟨bp, vs, vn, vw, cells, rfl, h⟩ := h
  exact ⟨bp, vs, vn, vw, cells, rfl, h.move hf.size fun k hk => hf.block k (h.hb k hk) (hs k (h.hb k hk) hk)⟩
theorem DiskIs.lt {w : World} {O R : Nat → Prop} {p : Value} {d : Dk} (h : DiskIs w O R p d) : ∀ k, O k ∨ R k → k < w.heap.size := by
  obtain ⟨bp, vs, vn, vw, cells, rfl, h⟩ := h
  exact h.hb
theorem DiskIs.apart {w : World} {O R : Nat → Prop} {p : Value} {d : Dk} (h : DiskIs w O R p d) : ∀ k, O k → ¬ R k := by
  obtain ⟨bp, vs, vn, vw, cells, rfl, h⟩ := h
  exact h.hd

theorem ow_zeros (W : World) {m g : Nat} (hn : m ≤ 1048576) (h : W.heap[g]? = some (.cells (madeCells #[.int .u8 0] m) 5 (0, 0))) : Ow W (fun k => k = g) 5 1 (.slice (some ⟨g, 0, none⟩) m m) m ((List.replicate m (0 : UInt8)).map enc8) := by
  refine ⟨⟨by simp, .inr ⟨_, m, _, rfl, Nat.zero_le _, h, Nat.le_refl _, by simp only [maxLen]; omega, by simp [madeCells], ?_⟩⟩, fun k hk => (Option.some.inj hk).symm⟩
  apply List.ext_getElem
  · simp [madeCells]
  · intro i h1 h2
    simp [madeCells, Nat.mod_one, enc8]
theorem disk_made {w : World} {m a b c : Nat} (hn : m ≤ 1048576) (ha : w.heap[a]? = some (.cells (madeCells #[.int .u8 0] m) 5 (0, 0))) (hb : w.heap[b]? = some (.cells (madeCells #[.int .u8 0] m) 5 (0, 0)))
    (hc : w.heap[c]? = some (.cells #[.slice (some ⟨a, 0, none⟩) m m, .slice (some ⟨b, 0, none⟩) m m, .slice none 0 0] 98 (0, 0))) (hab : a ≠ b) (hac : a ≠ c) (hbc : b ≠ c) :
    DiskIs w (fun k => k = a ∨ k = b ∨ k = c) No (.pointer (some ⟨c, 0, none⟩)) ⟨List.replicate m 0, List.replicate m 0, []⟩ := by
  refine ⟨c, _, _, _, [], rfl, ⟨.inr (.inr rfl), hc, ?_, ?_, Ow.nil _ _ _ _, fun j a b h => by simp at h, fun _ _ h => h, ?_, rfl, by simpa using hn, fun x hx => by simp at hx⟩⟩
  · rw [List.length_replicate]; exact (ow_zeros w hn ha).mono fun k hk => ⟨.inl hk, fun e => hac (hk ▸ e)⟩
  · rw [List.length_replicate]; exact (ow_zeros w hn hb).mono fun k hk => ⟨.inr (.inl hk), fun e => hbc (hk ▸ e), fun e => hab ((Option.some.inj e).trans hk)⟩
  · rintro k ((rfl | rfl | rfl) | hk)
    · exact heap_lt ha
    · exact heap_lt hb
    · exact heap_lt hc
    · exact hk.elim
def clampI (n : Int) : Nat := (min (max n 0) 1048576).toNat
theorem new_any (n : Int) (w : World) :
    Calls Try.prog 21 #[.int .i64 n] w fun e w' => ∃ p O, e = .returned p ∧ DiskIs w' O No p ⟨List.replicate (clampI n) 0, List.replicate (clampI n) 0, []⟩ ∧ (∀ k, O k → w.heap.size ≤ k) ∧ Fr No w w' := by
  obtain ⟨m, hm⟩ : ∃ m : Nat, m = clampI n := ⟨_, rfl⟩
  have hm2 : m ≤ 1048576 := by rw [hm]; unfold clampI; omega
  have hmm : Hid ((min (max n 0) 1048576 : Int) = (m : Int)) := by rw [hm]; unfold clampI; show _ = _; omega
  have H := Lib.hid hm
  clear hm
  have hmk := fun (W : World) => run_make_row' (P := Try.prog) 22 5 (.int .u8 0) 1 Try.underlying22 info5 rfl .i64 .i64 m (by omega) (by omega) W
  go_enter Try.func21, Try.ntmps21
  go_wp2_with (first | ((with_reducible refine at_dst 4 rfl ?_); refine wpList_max rfl (.tmp 3) (.const (.int .i64 0)) _ rfl _ _ rfl rfl ?_) | ((with_reducible refine at_dst 5 rfl ?_); refine wpList_min rfl (.tmp 4) (.const (.int .i64 1048576)) _ rfl _ _ rfl rfl ?_; rw [hmm.out]))
  go_region
  all_goals go_wp2
  all_goals go_ret
  all_goals rw [← H.out]
  · refine ⟨_, _, rfl, disk_made (a := w.heap.size) (b := w.heap.size + 1) (c := w.heap.size + 1 + 1) hm2 (blk_drew (blk_alloc (blk_alloc (blk_new _ _) _) _)) (blk_drew (blk_alloc (blk_new' (by simp)) _)) (blk_drew (blk_new' (by simp))) (by omega) (by omega) (by omega), ?_, (((Fr.refl _ w).alloc _).alloc _).alloc _ |>.drew⟩
    rintro k (rfl | rfl | rfl) <;> omega
  · refine ⟨_, _, rfl, disk_made (a := w.heap.size + 1) (b := w.heap.size) (c := w.heap.size + 1 + 1) hm2 (blk_drew (blk_alloc (blk_new' (by simp)) _)) (blk_drew (blk_alloc (blk_alloc (blk_new _ _) _) _)) (blk_drew (blk_new' (by simp))) (by omega) (by omega) (by omega), ?_, (((Fr.refl _ w).alloc _).alloc _).alloc _ |>.drew⟩
    rintro k (rfl | rfl | rfl) <;> omega

theorem size_any {w : World} {O R : Nat → Prop} {p : Value} {d : Dk} (h : DiskIs w O R p d) : Calls Try.prog 27 #[p] w fun e w' => e = .returned (.int .i64 (d.now.length : Int)) ∧ w = w' := by
  obtain ⟨bp, vs, vn, vw, cells, rfl, h⟩ := h
  obtain ⟨A, c, rfl, _, _⟩ := h.hn.shape
  have h1 := blk_cell h.hp 1
  simp only [List.getElem?_toArray, List.getElem?_cons_succ, List.getElem?_cons_zero] at h1
  clear h
  go_enter Try.func27, Try.ntmps27
  go_wp2
  go_ret
  exact ⟨rfl, rfl⟩
theorem waiting_any {w : World} {O R : Nat → Prop} {p : Value} {d : Dk} (h : DiskIs w O R p d) : Calls Try.prog 23 #[p] w fun e w' => e = .returned (.int .i64 (d.waits.length : Int)) ∧ w = w' := by
  obtain ⟨bp, vs, vn, vw, cells, rfl, h⟩ := h
  obtain ⟨A, c, rfl, _, _⟩ := h.hw.shape
  have h1 := blk_cell h.hp 2
  simp only [List.getElem?_toArray, List.getElem?_cons_succ, List.getElem?_cons_zero] at h1
  clear h
  go_enter Try.func23, Try.ntmps23
  go_wp2
  go_ret
  exact ⟨rfl, rfl⟩
theorem write_no {w : World} {O R F : Nat → Prop} {p vb : Value} {d : Dk} {at_ : Int} {b : List UInt8} (h : DiskIs w O R p d) (hb : Rb w F vb b) (hno : at_ < 0 ∨ at_ > (d.now.length : Int) - b.length) :
    Calls Try.prog 22 #[p, .int .i64 at_, vb] w fun e w' => e = .returned (.int .i64 210) ∧ w = w' := by
  obtain ⟨bp, vs, vn, vw, cells, rfl, h⟩ := h
  obtain ⟨A, c, hv, _, _⟩ := h.hn.shape
  have h1 := blk_cell h.hp 1
  simp only [List.getElem?_toArray, List.getElem?_cons_succ, List.getElem?_cons_zero] at h1
  have hm := h.hm
  subst hv
  obtain ⟨A', c', rfl, h4, h5⟩ := hb.shape
  obtain ⟨n, hn⟩ : ∃ n, n = d.now.length := ⟨_, rfl⟩
  obtain ⟨m, hm'⟩ : ∃ m, m = b.length := ⟨_, rfl⟩
  rw [← hn] at h1 hno hm
  rw [← hm'] at hno h4 ⊢
  have h6 : (m : Int) ≤ 9223372036854775807 := by simp only [maxLen] at h5; omega
  clear h hb hm' hn h4 h5
  by_cases h0 : at_ < 0
  · clear hno
    go_enter Try.func22, Try.ntmps22
    go_wp2
    go_ret
    exact ⟨rfl, rfl⟩
  · have h0' : 0 ≤ at_ := by omega
    have h7 : (n : Int) - m < at_ := by omega
    clear hno h0
    go_enter Try.func22, Try.ntmps22
    go_wp2
    go_ret
    exact ⟨rfl, rfl⟩
/-- A call that answers v and leaves the disk as d'. -/
def DiskPost (w : World) (O R : Nat → Prop) (p v : Value) (d' : Dk) (e : Ending) (w' : World) : Prop :=
  ∃ O' R', e = .returned v ∧ DiskIs w' O' R' p d' ∧ (∀ k, O' k → O k ∨ w.heap.size ≤ k) ∧ (∀ k, R' k → R k ∨ w.heap.size ≤ k) ∧ Fr O w w'
set_option maxHeartbeats 1000000 in
theorem write_yes {w : World} {O R F : Nat → Prop} {p vb : Value} {d : Dk} {a : Nat} {b : List UInt8} (h : DiskIs w O R p d) (hb : Rb w F vb b) (hF : ∀ k, F k → ¬ O k) (hyes : a + b.length ≤ d.now.length) (hws : d.waits.length ≤ 1000000) :
    Calls Try.prog 22 #[p, .int .i64 a, vb] w (DiskPost w O R p (.int .i64 0) ⟨d.safe, splice d.now a b, d.waits ++ [(a, b)]⟩) := by
  obtain ⟨bp, vs, vn, vw, cells, rfl, h⟩ := h
  obtain ⟨A, c, hv, hc1, hc2⟩ := h.hn.shape
  obtain ⟨Aw, cw, hvw, hcw1, hcw2⟩ := h.hw.shape
  obtain ⟨A', c', hvb, h4, h5⟩ := hb.shape
  subst hvb hv hvw
  have hf2 := blk_free h.hp 2
  have h1 := blk_cell h.hp 1
  have h2 := blk_cell h.hp 2
  simp only [List.getElem?_toArray, List.getElem?_cons_succ, List.getElem?_cons_zero] at h1 h2
  have hn20 : d.now.length ≤ 1048576 := h.hm
  have hs0 : (0 : Int) ≤ (a : Int) := by omega
  have hs1 : (a : Int) ≤ (d.now.length : Int) - (b.length : Int) := by omega
  have hs2 : (a : Int) ≤ (d.now.length : Int) := by omega
  have H := Lib.hid h
  have HB := Lib.hid hb
  clear h hb hyes hcw1 hcw2 h5 hc2
  go_enter Try.func22, Try.ntmps22
  go_wp2_with fail
  refine wp_seq_region (fun W => W.cell? ⟨bp, 2, none⟩ = some (Value.slice Aw d.waits.length cw)) [7, 9, 10, 13] [4] [13] [0, 1, 2, 3, 4, 5, 6, 7, 8, 9, 10, 11, 12, 13] (by kernel_rfl) (by kernel_rfl) rfl (by kernel_rfl) (fun _ _ _ _ _ h => h) ?_
  have hS : w.drew.cell? ⟨bp, 2, none⟩ = some (Value.slice Aw d.waits.length cw) := h2
  repeat (first
    | (refine sq_any (v := ?_) (a' := ?_) rfl rfl rfl (by rfl) (fun W => ?hr) ?ha ?_; (case hr => go_simp; first | done | rfl); (case ha => simp only [Act.put, List.setIfInBounds_toArray, List.set_cons_zero, List.set_cons_succ]; rfl))
    | (refine sq_load (v := ?_) (a' := ?_) rfl rfl rfl (by rfl) (fun W hSW => ?hr) hS ?ha ?_; (case hr => (try dsimp only at hSW); go_simp; first | done | rfl); (case ha => simp only [Act.put, List.setIfInBounds_toArray, List.set_cons_zero, List.set_cons_succ]; rfl)))
  refine sq_call rfl rfl (by rfl) rfl Try.func64 rfl rfl [.slice A' b.length c'] rfl ?_
  refine (clone8 (w := w.drew) (HB.out.fr (S := No) (Fr.refl _ _).drew (fun _ _ _ h => h)) (by omega)).mono ?_
  rintro e w1 ⟨v', rfl, hown, hfr⟩
  obtain ⟨A2, c2, rfl, _, _⟩ := hown.shape
  have hfr1 : Fr No w w1 := ((Fr.refl _ w).drew).then hfr
  have HO := Lib.hid hown
  have hn1 : w1.cell? ⟨bp, 2, none⟩ = some (Value.slice Aw d.waits.length cw) := hfr1.cell h2 (fun h => h)
  have HF := Lib.hid hfr1
  clear hown hfr hfr1 hS
  refine ⟨_, rfl, fun _ => hn1, ?_⟩
  simp only [Act.put, List.setIfInBounds_toArray, List.set_cons_zero, List.set_cons_succ]
  repeat (first
    | (refine sq_any (v := ?_) (a' := ?_) rfl rfl rfl (by rfl) (fun W => ?hr) ?ha ?_; (case hr => go_simp; first | done | rfl); (case ha => simp only [Act.put, List.setIfInBounds_toArray, List.set_cons_zero, List.set_cons_succ]; rfl)))
  refine sq_value (v := ?_) (w1 := ?_) (a' := ?_) rfl rfl (by rfl) ?hr ?hS ?ha ?_
  case hr => go_simp; first | done | rfl | (constructor <;> rfl)
  case ha => simp only [Act.put, List.setIfInBounds_toArray, List.set_cons_zero, List.set_cons_succ]; rfl
  case hS => exact fun _ => cell_alloc hn1 _
  refine sq_app (O := fun k => O k ∧ k ≠ bp ∧ vs.ownBlock ≠ some k ∧ (Value.slice A d.now.length c).ownBlock ≠ some k) rfl rfl (by rfl) (.tmp 25) (.tmp 30) 96 100 rfl _ 2 32 Try.underlying96 info100 rfl (by omega) (by omega) (.slice Aw d.waits.length cw) d.waits.length cells rfl (some ⟨w1.heap.size, 0, none⟩) 1 1 rfl ?HO [.int .i64 a, .slice A2 b.length c2] rfl ?hnews ?h1 (by omega) ?_
  case HO => exact (H.out.hw.fr HF.out (fun _ _ _ h => h)).fr ((Fr.refl No w1).alloc _) (fun _ _ _ h => h)
  case hnews =>
    intro j u hj
    exact ⟨_, rfl, by rw [add_none, blk_cell (blk_new w1 _)]; simpa using hj⟩
  case h1 => intro u hu; simp at hu; rcases hu with rfl | rfl <;> rfl
  intro v1 w2 hown2 hfr2
  obtain ⟨A3, c3, rfl, _, _⟩ := hown2.shape
  have hfa : Fr No w (w1.alloc (.cells #[.int .i64 a, .slice A2 b.length c2] 100)) := HF.out.alloc _
  have hbw : ¬ (Value.slice Aw d.waits.length cw).ownBlock = some bp := fun e => (H.out.hw.2 bp e).2.1 rfl
  have hn2 : w2.heap[bp]? = some (.cells #[vs, .slice A d.now.length c, .slice Aw d.waits.length cw] 98 (0, 0)) := hfr2.heap (hfa.heap H.out.hp (fun h => h)) hbw
  have hc2 : w2.cell? ⟨bp, 2, none⟩ = some (Value.slice Aw d.waits.length cw) := by rw [blk_cell hn2]; rfl
  have hz2 := blk_free hn2 2
  refine ⟨fun _ => hc2, ?_⟩
  simp only [Act.put, List.setIfInBounds_toArray, List.set_cons_zero, List.set_cons_succ]
  have HN2 := Lib.hid hn2
  have HO2 := Lib.hid hown2
  have HF2 := Lib.hid hfr2
  have HFA := Lib.hid hfa
  clear hn2 hown2 hfr2 hfa hbw
  repeat (first
    | (refine sq_any (v := ?_) (a' := ?_) rfl rfl rfl (by rfl) (fun W => ?hr) ?ha ?_; (case hr => go_simp; first | done | rfl); (case ha => simp only [Act.put, List.setIfInBounds_toArray, List.set_cons_zero, List.set_cons_succ]; rfl)))
  refine sq_store (w1 := ?_) rfl rfl (by rfl) rfl ?hr (fun h => absurd (by decide) h) ?_
  case hr => go_simp; first | done | rfl | (constructor <;> rfl)
  refine sq_done ?_
  obtain ⟨w3, hw3⟩ : ∃ w3, Hid (w3 = w2.setCell ⟨bp, 2, none⟩ (.slice A3 (d.waits.length + 1) c3)) := ⟨_, rfl⟩
  rw [← hw3.out]
  have hfr3 : Fr (fun k => k = bp) w2 w3 := by rw [hw3.out]; exact (Fr.refl _ _).setCell _ _ (fun _ => rfl)
  have hn3 : w3.heap[bp]? = some (.cells #[vs, .slice A d.now.length c, .slice A3 (d.waits.length + 1) c3] 98 (0, 0)) := by rw [hw3.out, blk_set HN2.out]; rfl
  have hc3 : w3.cell? ⟨bp, 1, none⟩ = some (Value.slice A d.now.length c) := by rw [blk_cell hn3]; rfl
  have HN3 := Lib.hid hn3
  have HF3 := Lib.hid hfr3
  clear hn3 hfr3 hn1 hc2 hz2
  have hw1s : w.heap.size ≤ w1.heap.size := HF.out.size
  have hlw : ∀ k, (Value.slice Aw d.waits.length cw).ownBlock = some k → O k ∧ k ≠ bp ∧ vs.ownBlock ≠ some k ∧ (Value.slice A d.now.length c).ownBlock ≠ some k := fun k hk => H.out.hw.2 k hk
  have hf13 : Fr (fun k => O k ∧ k ≠ bp ∧ vs.ownBlock ≠ some k ∧ (Value.slice A d.now.length c).ownBlock ≠ some k ∨ k = bp) w w3 :=
    (HFA.out.trans (U := fun k => O k ∧ k ≠ bp ∧ vs.ownBlock ≠ some k ∧ (Value.slice A d.now.length c).ownBlock ≠ some k ∨ k = bp) HF2.out (fun _ _ h => h.elim) (fun k _ hk => .inl (hlw k hk))).trans HF3.out (fun _ _ h => h) (fun _ _ h => .inr h)
  have hcO : Ow w3 (fun k => (Value.slice A d.now.length c).ownBlock = some k) 5 1 (.slice A d.now.length c) d.now.length (d.now.map enc8) := by
    refine H.out.hn.just.fr hf13 (fun k _ hk hS => ?_)
    rcases hS with ⟨_, _, _, h4⟩ | h4
    · exact h4 hk
    · exact (H.out.hn.2 k hk).2.1 h4
  have hB3 : Rb w3 F (.slice A' b.length c') b := by
    refine HB.out.fr hf13 (fun k _ hk hS => ?_)
    rcases hS with ⟨h1, _⟩ | h1
    · exact hF k hk h1
    · exact hF k hk (h1 ▸ H.out.top)
  obtain ⟨A0, c0, he0, _, _, hnews⟩ := hB3.news
  cases he0
  have HF13 := Lib.hid hf13
  have HLW := Lib.hid hlw
  have HCO := Lib.hid hcO
  have HNEWS := Lib.hid hnews
  clear hf13 hlw hcO hB3 hnews
  obtain ⟨A4, hcut, hA4⟩ := cut_run (P := Try.prog) 22 5 Try.underlying22 sz5 A d.now.length c a (by omega)
  have HA4 := Lib.hid hA4
  clear hA4
  go_wp2_with ((with_reducible refine at_dst 41 rfl ?_); refine wpList_cpy rfl (.tmp 39) (.tmp 40) 22 22 5 rfl Try.underlying22 sz5 _ _ _ rfl _ _ _ rfl (.slice A d.now.length c) d.now.length (d.now.map enc8) HCO.out a (by omega) (by omega) (by rw [HA4.out]; exact cut_at hc1) (b.map enc8) (by rw [List.length_map]; omega) HNEWS.out (by simp [enc8, Value.oneCell']) ?_; intro w4 hown4 hfr4; have HO4 := Lib.hid hown4; have HF4 := Lib.hid hfr4; clear hown4 hfr4)
  go_ret
  have hD := H.out
  have hf13 := HF13.out
  have hf4 := HF4.out
  have hlw := HLW.out
  have hvn := hD.hn.2
  have hvs := hD.hs.2
  have hsz1 : (w1.alloc (.cells #[.int .i64 a, .slice A2 b.length c2] 100)).heap.size = w1.heap.size + 1 := by simp
  have hsz2 : w1.heap.size + 1 ≤ w2.heap.size := by rw [← hsz1]; exact HF2.out.size
  have hsz4 : w2.heap.size ≤ w4.heap.size := Nat.le_trans HF3.out.size hf4.size
  have f14 : Fr (fun k => O k ∧ k ≠ bp ∧ vs.ownBlock ≠ some k ∨ k = bp) w w4 := hf13.trans hf4 (fun k _ h => h.imp (fun h => ⟨h.1, h.2.1, h.2.2.1⟩) id) (fun k _ h => .inl (hvn k h))
  refine ⟨fun k => O k ∨ (k = w1.heap.size + 1 ∧ k < w2.heap.size), fun k => R k ∨ (w.heap.size ≤ k ∧ k < w1.heap.size), rfl, ⟨bp, vs, .slice A d.now.length c, .slice A3 (d.waits.length + 1) c3, cells ++ [.int .i64 a, .slice A2 b.length c2], rfl, ?_⟩, fun k h => h.imp id (fun h => by have := h.1; omega), fun k h => h.imp id (fun h => h.1), f14.mono fun k _ h => ?_⟩
  · refine ⟨.inl hD.top, hf4.heap HN3.out (fun h => (hvn bp h).2.1 rfl), ?_, ?_, ?_, ?_, ?_, ?_, ?_, ?_, ?_⟩
    · exact (hD.hs.just.fr f14 (fun k _ h1 h2 => by
        rcases h2 with h2 | h2
        · exact h2.2.2 h1
        · exact (hvs k h1).2 h2)).mono (fun k hk => ⟨.inl (hvs k hk).1, (hvs k hk).2⟩)
    · have h := HO4.out
      rw [splice_map] at h
      have hl : (splice d.now a b).length = d.now.length := length_splice _ _ _ (by omega)
      rw [hl]
      exact h.mono (fun k hk => ⟨.inl (hvn k hk).1, (hvn k hk).2⟩)
    · have hlen : (d.waits ++ [(a, b)]).length = d.waits.length + 1 := by simp
      rw [hlen]
      have hk2 : ∀ k, (Value.slice A3 (d.waits.length + 1) c3).ownBlock = some k → (O k ∨ (k = w1.heap.size + 1 ∧ k < w2.heap.size)) ∧ k ≠ bp ∧ vs.ownBlock ≠ some k ∧ (Value.slice A d.now.length c).ownBlock ≠ some k := by
        intro k hk
        rcases HO2.out.2 k hk with h | h
        · exact ⟨.inl (hlw k h).1, (hlw k h).2⟩
        · rw [hsz1] at h
          have hbp := hD.hb bp (.inl hD.top)
          exact ⟨.inr ⟨h, (HO2.out.bound.2 k hk).2⟩, by omega, fun e => by have := hD.hb k (.inl (hvs k e).1); omega, fun e => by have := hD.hb k (.inl (hvn k e).1); omega⟩
      exact (((HO2.out.just.fr HF3.out (fun k _ h1 h2 => (hk2 k h1).2.1 h2)).fr hf4 (fun k _ h1 h2 => (hk2 k h1).2.2.2 h2)).mono hk2)
    · have hmv : ∀ k, R k → k < w.heap.size → w4.heap[k]? = w.heap[k]? := fun k hk hl => f14.block k hl (fun h2 => by
        rcases h2 with h2 | h2
        · exact hD.hd k h2.1 hk
        · exact hD.hd k (h2 ▸ hD.top) hk)
      have hold := hD.ha.move (R' := fun k => R k ∨ (w.heap.size ≤ k ∧ k < w1.heap.size)) hmv (fun _ h => .inl h)
      have hcl : cells.length = d.waits.length * 2 := hD.hw.len
      intro j a0 b0 hj
      rcases Nat.lt_or_ge j d.waits.length with hlt | hge
      · rw [List.getElem?_append_left hlt] at hj
        obtain ⟨vb, e1, e2, e3⟩ := hold j a0 b0 hj
        exact ⟨vb, by rw [List.getElem?_append_left (by omega)]; exact e1, by rw [List.getElem?_append_left (by omega)]; exact e2, e3⟩
      · rw [List.getElem?_append_right hge] at hj
        have hj0 : j = d.waits.length := by
          rcases Nat.lt_or_ge j (d.waits.length + 1) with h | h
          · omega
          · rw [List.getElem?_eq_none (by simp; omega)] at hj; cases hj
        subst hj0
        simp at hj
        obtain ⟨rfl, rfl⟩ := hj
        refine ⟨.slice A2 b.length c2, ?_, ?_, ?_⟩
        · rw [List.getElem?_append_right (by omega), show 2 * d.waits.length - cells.length = 0 from by omega]; rfl
        · rw [List.getElem?_append_right (by omega), show 2 * d.waits.length + 1 - cells.length = 1 from by omega]; rfl
        · have h1 : Rb w1 (fun k => New w.drew k ∧ k < w1.heap.size) (.slice A2 b.length c2) b := HO.out.bound.reads
          refine (h1.move (w' := w4) (fun k hk hl => ?_)).mono (fun k hk => .inr ⟨hk.1, hk.2⟩)
          have hnk : ¬ (Value.slice Aw d.waits.length cw).ownBlock = some k := fun e => by have h8 := hD.hb k (.inl (hlw k e).1); have h9 : w.heap.size ≤ k := hk.1; omega
          have hnk2 : ¬ (Value.slice A d.now.length c).ownBlock = some k := fun e => by have h8 := hD.hb k (.inl (hvn k e).1); have h9 : w.heap.size ≤ k := hk.1; omega
          have hnk3 : k ≠ bp := fun e => by have h8 := hD.hb bp (.inl hD.top); have h9 : w.heap.size ≤ k := hk.1; omega
          rw [hf4.block k (by have := HF3.out.size; omega) hnk2, HF3.out.block k (by omega) hnk3, HF2.out.block k (by rw [hsz1]; omega) hnk, Below.heap_alloc _ _ _ hl]
    · rintro k (h | h) (h' | h')
      · exact hD.hd k h h'
      · have := hD.hb k (.inl h); omega
      · have := hD.hb k (.inr h'); omega
      · omega
    · rintro k ((h | h) | (h | h))
      · have := hD.hb k (.inl h); omega
      · omega
      · have := hD.hb k (.inr h); omega
      · have h9 : k < w1.heap.size := h.2; omega
    · rw [hD.hl]; exact (length_splice _ _ _ (by omega)).symm
    · have hl : (splice d.now a b).length = d.now.length := length_splice _ _ _ (by omega)
      simp only [hl]; exact hn20
    · have hl : (splice d.now a b).length = d.now.length := length_splice _ _ _ (by omega)
      intro x hx
      rcases List.mem_append.1 hx with hx | hx
      · simp only [hl]; exact hD.hv x hx
      · rw [List.mem_singleton.1 hx]; simp only [hl]; omega
  · rcases h with h | h
    · exact h.1
    · exact h ▸ hD.top
/-- The bytes from at on, n of them. -/
def readB (l : List UInt8) (at_ n : Int) : List UInt8 := if n < 1 then [] else (l.take (at_ + n).toNat).drop at_.toNat
/-- Bytes told in new memory. -/
def TellsB (w : World) (l : List UInt8) (e : Ending) (w' : World) : Prop := ∃ v', e = .returned v' ∧ Ow w' (New w) 5 1 v' l.length (l.map enc8) ∧ Fr No w w'
theorem read_any {w : World} {O R : Nat → Prop} {p : Value} {d : Dk} {at_ n : Int} (h : DiskIs w O R p d) (h0 : -9223372036854775808 ≤ at_) (h1 : at_ ≤ 9223372036854775807) (h2 : n ≤ 9223372036854775807) :
    Calls Try.prog 24 #[p, .int .i64 at_, .int .i64 n] w (TellsB w (readB d.now at_ n)) := by
  obtain ⟨bp, vs, vn, vw, cells, rfl, h⟩ := h
  obtain ⟨A, c, hv, hc1, hc2⟩ := h.hn.shape
  subst hv
  have g1 := blk_cell h.hp 1
  simp only [List.getElem?_toArray, List.getElem?_cons_succ, List.getElem?_cons_zero] at g1
  have hm := h.hm
  have H := Lib.hid h
  have hnil : ∀ W, readB d.now at_ n = [] → TellsB W (readB d.now at_ n) (.returned (.slice none 0 0)) W := fun W h => ⟨_, rfl, by rw [h]; exact Ow.nil _ _ _ _, Fr.refl _ _⟩
  have HNIL := Lib.hid hnil
  clear h hnil hc2
  -- the piece that is told
  have tell : ∀ (W : World) (lo hi : Int), W = w → 0 ≤ lo → lo ≤ hi → hi ≤ d.now.length → ∀ A', A' = (if c = lo.toNat then A else Option.map (fun a => a.add lo.toNat) A) → readB d.now at_ n = (d.now.take hi.toNat).drop lo.toNat →
      Calls Try.prog 64 #[.slice A' (hi.toNat - lo.toNat) (c - lo.toNat)] W (TellsB w (readB d.now at_ n)) := by
    rintro W lo hi rfl hlo hlh hh A' rfl he
    have hr : Rb W O (.slice A d.now.length c) d.now := (H.out.hn.reads).mono (fun k hk => hk.1)
    have hcut := hr.cut lo.toNat hi.toNat (by omega) (by omega)
    rw [he]
    have hl : ((d.now.take hi.toNat).drop lo.toNat).length ≤ 140737488355328 := by rw [List.length_drop, List.length_take]; omega
    exact (clone8 hcut hl).mono fun e w' ⟨v', h1, h2, h3⟩ => ⟨v', h1, h2, h3⟩
  have TELL := Lib.hid tell
  clear tell
  by_cases c1 : n < 1
  · have e : readB d.now at_ n = [] := by unfold readB; rw [if_pos c1]
    have E := Lib.hid e
    clear e
    go_enter Try.func24, Try.ntmps24
    go_wp2
    go_ret
    exact HNIL.out _ E.out
  by_cases c2 : (d.now.length : Int) ≤ at_
  · have e : readB d.now at_ n = [] := by
      unfold readB; rw [if_neg c1]
      exact List.drop_eq_nil_of_le (by rw [List.length_take]; omega)
    have E := Lib.hid e
    have c1' : 1 ≤ n := by omega
    clear e c1
    go_enter Try.func24, Try.ntmps24
    go_wp2
    go_ret
    exact HNIL.out _ E.out
  have c1' : 1 ≤ n := by omega
  have c2' : at_ < d.now.length := by omega
  clear c1 c2
  by_cases c3 : at_ < 0
  · obtain ⟨hi, hhi⟩ : ∃ hi, Hid (hi = min (d.now.length : Int) (at_ + n)) := ⟨_, rfl⟩
    have hmax : Hid (max at_ 0 = 0) := by show _ = _; omega
    by_cases c4 : hi ≤ 0
    · have e : readB d.now at_ n = [] := by
        have := hhi.out
        unfold readB; rw [if_neg (by omega)]
        refine List.drop_eq_nil_of_le ?_
        rw [List.length_take]
        omega
      have E := Lib.hid e
      clear e
      go_enter Try.func24, Try.ntmps24
      go_wp2_with (first | ((with_reducible refine at_dst 32 rfl ?_); refine wpList_min rfl (.tmp 28) (.tmp 31) _ rfl _ _ rfl rfl ?_; rw [← hhi.out]) | ((with_reducible refine at_dst 43 rfl ?_); refine wpList_max rfl (.tmp 42) (.const (.int .i64 0)) _ rfl _ _ rfl rfl ?_; rw [hmax.out]))
      go_ret
      exact HNIL.out _ E.out
    · have c4' : 0 < hi := by omega
      have hhl : hi ≤ d.now.length := by have := hhi.out; omega
      have e : readB d.now at_ n = (d.now.take hi.toNat).drop (0 : Int).toNat := by
        have := hhi.out
        unfold readB
        rw [if_neg (by omega), show at_.toNat = 0 from by omega]
        simp only [Int.toNat_zero, List.drop_zero]
        rcases Int.le_total (d.now.length : Int) (at_ + n) with h | h
        · rw [List.take_of_length_le (l := d.now) (i := (at_ + n).toNat) (by omega), List.take_of_length_le (l := d.now) (i := hi.toNat) (by omega)]
        · rw [show hi = at_ + n from by omega]
      obtain ⟨A', hcut, hA'⟩ := cut2_run (P := Try.prog) 22 5 Try.underlying22 sz5 A d.now.length c 0 hi (by omega) (by omega) (by omega)
      have E := Lib.hid e
      have HA := Lib.hid hA'
      clear e c4 hA'
      go_enter Try.func24, Try.ntmps24
      go_wp2_with (first | ((with_reducible refine at_dst 32 rfl ?_); refine wpList_min rfl (.tmp 28) (.tmp 31) _ rfl _ _ rfl rfl ?_; rw [← hhi.out]) | ((with_reducible refine at_dst 43 rfl ?_); refine wpList_max rfl (.tmp 42) (.const (.int .i64 0)) _ rfl _ _ rfl rfl ?_; rw [hmax.out]) | ((with_reducible refine at_dst 54 rfl ?_); refine wpList_call rfl rfl Try.func64 rfl rfl [.slice A' (hi.toNat - (0 : Int).toNat) (c - (0 : Int).toNat)] rfl ?_; refine (TELL.out _ 0 hi rfl (by omega) (by omega) hhl A' HA.out E.out).mono ?_; rintro e w1 ⟨v1, rfl, ho, hf⟩; refine ⟨v1, rfl, ?_⟩; have HO1 := Lib.hid ho; have HF1 := Lib.hid hf; clear ho hf))
      go_ret
      exact ⟨_, rfl, HO1.out, HF1.out⟩
  · have c3' : 0 ≤ at_ := by omega
    have hmax : Hid (max at_ 0 = at_) := by show _ = _; omega
    by_cases c5 : n < d.now.length - at_
    · have e : readB d.now at_ n = (d.now.take (at_ + n).toNat).drop at_.toNat := by unfold readB; rw [if_neg (by omega)]
      obtain ⟨A', hcut, hA'⟩ := cut2_run (P := Try.prog) 22 5 Try.underlying22 sz5 A d.now.length c at_ (at_ + n) (by omega) (by omega) (by omega)
      have E := Lib.hid e
      have HA := Lib.hid hA'
      have c6 : at_ < at_ + n := by omega
      clear e hA'
      go_enter Try.func24, Try.ntmps24
      go_wp2_with (first | ((with_reducible refine at_dst 43 rfl ?_); refine wpList_max rfl (.tmp 42) (.const (.int .i64 0)) _ rfl _ _ rfl rfl ?_; rw [hmax.out]) | ((with_reducible refine at_dst 54 rfl ?_); refine wpList_call rfl rfl Try.func64 rfl rfl [.slice A' ((at_ + n).toNat - at_.toNat) (c - at_.toNat)] rfl ?_; refine (TELL.out _ at_ (at_ + n) rfl (by omega) (by omega) (by omega) A' HA.out E.out).mono ?_; rintro e w1 ⟨v1, rfl, ho, hf⟩; refine ⟨v1, rfl, ?_⟩; have HO1 := Lib.hid ho; have HF1 := Lib.hid hf; clear ho hf))
      go_ret
      exact ⟨_, rfl, HO1.out, HF1.out⟩
    · have c5' : (d.now.length : Int) - at_ ≤ n := by omega
      have e : readB d.now at_ n = (d.now.take (d.now.length : Int).toNat).drop at_.toNat := by
        unfold readB
        rw [if_neg (by omega), List.take_of_length_le (l := d.now) (i := (at_ + n).toNat) (by omega), List.take_of_length_le (l := d.now) (i := (d.now.length : Int).toNat) (by omega)]
      obtain ⟨A', hcut, hA'⟩ := cut2_run (P := Try.prog) 22 5 Try.underlying22 sz5 A d.now.length c at_ (d.now.length : Int) (by omega) (by omega) (by omega)
      have E := Lib.hid e
      have HA := Lib.hid hA'
      clear e hA' c5
      go_enter Try.func24, Try.ntmps24
      go_wp2_with (first | ((with_reducible refine at_dst 43 rfl ?_); refine wpList_max rfl (.tmp 42) (.const (.int .i64 0)) _ rfl _ _ rfl rfl ?_; rw [hmax.out]) | ((with_reducible refine at_dst 54 rfl ?_); refine wpList_call rfl rfl Try.func64 rfl rfl [.slice A' ((d.now.length : Int).toNat - at_.toNat) (c - at_.toNat)] rfl ?_; refine (TELL.out _ at_ (d.now.length : Int) rfl (by omega) (by omega) (by omega) A' HA.out E.out).mono ?_; rintro e w1 ⟨v1, rfl, ho, hf⟩; refine ⟨v1, rfl, ?_⟩; have HO1 := Lib.hid ho; have HF1 := Lib.hid hf; clear ho hf))
      go_ret
      exact ⟨_, rfl, HO1.out, HF1.out⟩
end Go.Proofs.Ytbaohngnpgappaa
