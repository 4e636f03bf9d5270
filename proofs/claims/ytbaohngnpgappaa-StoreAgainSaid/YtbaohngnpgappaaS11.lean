/- The store in memory: its block, its disk, what it saves; its size, which half counts. -/
import Derived.Test.YtbaohngnpgappaaS9
set_option linter.unusedVariables false
set_option linter.unusedSimpArgs false
namespace Go.Proofs.Ytbaohngnpgappaa
open Go.RowKit
structure St where
  d : Dk
  s : Sv
  half : Nat
  at_ : Nat
  mark : Nat
def stBlk (pd : Value) (s : Sv) (vs vl : Value) (half at_ mark : Int) : Obj := .cells #[pd, .int .i64 s.term, .int .i64 s.vote, .int .i64 s.base, .int .i64 s.bterm, vs, vl, .int .i64 half, .int .i64 at_, .int .i64 mark] 111 (0, 0)
/-- A store at block bp; X: all blocks that it may lead to. -/
structure StAt (w : World) (X O R G : Nat → Prop) (bp : Nat) (pd vs vl : Value) (x : St) : Prop where
  blk : w.heap[bp]? = some (stBlk pd x.s vs vl x.half x.at_ x.mark)
  disk : DiskIs w O R pd x.d
  snap : Rb w G vs x.s.snap
  ents : Row EnK w G vl x.s.l
  num : I64 x.s.term ∧ I64 x.s.vote ∧ I64 x.s.base ∧ I64 x.s.bterm
  top : X bp
  sep : ¬ O bp ∧ ¬ R bp ∧ ¬ G bp
  dx : ∀ k, O k ∨ R k → X k
  gx : ∀ k, G k → X k ∧ ¬ O k
  lt : ∀ k, X k → k < w.heap.size
def StIs (w : World) (X : Nat → Prop) (p pd : Value) (x : St) : Prop := ∃ bp O R G vs vl, p = .pointer (some ⟨bp, 0, none⟩) ∧ StAt w X O R G bp pd vs vl x
/-- A call that answers v and leaves the store as x'. -/
def StPost (w : World) (X : Nat → Prop) (p pd v : Value) (x' : St) (e : Ending) (w' : World) : Prop :=
  ∃ X', e = .returned v ∧ StIs w' X' p pd x' ∧ (∀ k, X' k → X k ∨ w.heap.size ≤ k) ∧ Fr X w w'
section
variable {w w' : World} {X O R G : Nat → Prop} {bp : Nat} {pd vs vl : Value} {x : St}
theorem StAt.move (h : StAt w X O R G bp pd vs vl x) {S : Nat → Prop} (hf : Fr S w w') (hs : ∀ k, k < w.heap.size → X k → ¬ S k) : StAt w' X O R G bp pd vs vl x :=
  ⟨(hf.block bp (h.lt bp h.top) (hs bp (h.lt bp h.top) h.top)).trans h.blk, h.disk.fr hf (fun k hk ho => hs k hk (h.dx k ho)), h.snap.fr hf (fun k hk hg => hs k hk (h.gx k hg).1), h.ents.fr (by decide) hf (fun k hk hg => hs k hk (h.gx k hg).1), h.num, h.top, h.sep, h.dx, h.gx, fun k hk => Nat.lt_of_lt_of_le (h.lt k hk) hf.size⟩
theorem StAt.no (h : StAt w X O R G bp pd vs vl x) (hf : Fr No w w') : StAt w' X O R G bp pd vs vl x := h.move hf (fun _ _ _ h => h)
theorem StIs.fr {p : Value} (h : StIs w X p pd x) {S : Nat → Prop} (hf : Fr S w w') (hs : ∀ k, k < w.heap.size → X k → ¬ S k) : StIs w' X p pd x := by
  obtain ⟨bp, O, R, G, vs, vl, rfl, h⟩ := h
  exact ⟨bp, O, R, G, vs, vl, rfl, h.move hf hs⟩
theorem StIs.lt {p : Value} (h : StIs w X p pd x) : ∀ k, X k → k < w.heap.size := by
  obtain ⟨bp, O, R, G, vs, vl, rfl, h⟩ := h
  exact h.lt
theorem st_cells {b : Nat} {s : Sv} {a c m : Int} (h : w.heap[b]? = some (stBlk pd s vs vl a c m)) : w.cell? ⟨b, 0, none⟩ = some pd ∧ w.cell? ⟨b, 1, none⟩ = some (.int .i64 s.term) ∧ w.cell? ⟨b, 2, none⟩ = some (.int .i64 s.vote) ∧ w.cell? ⟨b, 3, none⟩ = some (.int .i64 s.base) ∧ w.cell? ⟨b, 4, none⟩ = some (.int .i64 s.bterm) ∧
    w.cell? ⟨b, 5, none⟩ = some vs ∧ w.cell? ⟨b, 6, none⟩ = some vl ∧ w.cell? ⟨b, 7, none⟩ = some (.int .i64 a) ∧ w.cell? ⟨b, 8, none⟩ = some (.int .i64 c) ∧ w.cell? ⟨b, 9, none⟩ = some (.int .i64 m) :=
  ⟨blk_cell h 0, blk_cell h 1, blk_cell h 2, blk_cell h 3, blk_cell h 4, blk_cell h 5, blk_cell h 6, blk_cell h 7, blk_cell h 8, blk_cell h 9⟩
theorem st_free {b : Nat} {s : Sv} {a c m : Int} (h : w.heap[b]? = some (stBlk pd s vs vl a c m)) (i : Nat) : w.frozen? ⟨b, i, none⟩ = false := blk_free h i
theorem st_set {b : Nat} {s : Sv} {a c m : Int} (h : w.heap[b]? = some (stBlk pd s vs vl a c m)) :
    (∀ z : Int, (w.setCell ⟨b, 7, none⟩ (.int .i64 z)).heap[b]? = some (stBlk pd s vs vl z c m)) ∧ (∀ z : Int, (w.setCell ⟨b, 8, none⟩ (.int .i64 z)).heap[b]? = some (stBlk pd s vs vl a z m)) ∧ (∀ z : Int, (w.setCell ⟨b, 9, none⟩ (.int .i64 z)).heap[b]? = some (stBlk pd s vs vl a c z)) :=
  ⟨fun z => blk_set h 7 _, fun z => blk_set h 8 _, fun z => blk_set h 9 _⟩
/-- The disk has turned. -/
theorem StAt.turn (h : StAt w X O R G bp pd vs vl x) {O' R' : Nat → Prop} {d' : Dk} (hd : DiskIs w' O' R' pd d') (hO : ∀ k, O' k → O k ∨ w.heap.size ≤ k) (hR : ∀ k, R' k → R k ∨ w.heap.size ≤ k) (hf : Fr O w w') :
    StAt w' (fun k => X k ∨ O' k ∨ R' k) O' R' G bp pd vs vl { x with d := d' } := by
  have hb := h.lt bp h.top
  refine ⟨(hf.block bp hb h.sep.1).trans h.blk, hd, h.snap.fr hf (fun k _ hg => (h.gx k hg).2), h.ents.fr (by decide) hf (fun k _ hg => (h.gx k hg).2), h.num, .inl h.top, ⟨fun ho => ?_, fun ho => ?_, h.sep.2.2⟩, fun k hk => .inr hk, fun k hg => ⟨.inl (h.gx k hg).1, fun ho => ?_⟩, fun k hk => ?_⟩
  · rcases hO bp ho with h1 | h1
    · exact h.sep.1 h1
    · omega
  · rcases hR bp ho with h1 | h1
    · exact h.sep.2.1 h1
    · omega
  · rcases hO k ho with h1 | h1
    · exact (h.gx k hg).2 h1
    · have := h.lt k (h.gx k hg).1; omega
  · rcases hk with hk | hk
    · exact Nat.lt_of_lt_of_le (h.lt k hk) hf.size
    · exact hd.lt k hk
theorem StAt.turnX (h : StAt w X O R G bp pd vs vl x) {O' R' : Nat → Prop} (hO : ∀ k, O' k → O k ∨ w.heap.size ≤ k) (hR : ∀ k, R' k → R k ∨ w.heap.size ≤ k) : ∀ k, (X k ∨ O' k ∨ R' k) → X k ∨ w.heap.size ≤ k := fun k hk => by
  rcases hk with hk | hk | hk
  · exact .inl hk
  · exact (hO k hk).imp (fun h1 => h.dx k (.inl h1)) id
  · exact (hR k hk).imp (fun h1 => h.dx k (.inr h1)) id
/-- Fields of the block itself have turned. -/
theorem StAt.own (h : StAt w X O R G bp pd vs vl x) {x' : St} (hf : Fr (fun q => q = bp) w w') (hblk : w'.heap[bp]? = some (stBlk pd x'.s vs vl x'.half x'.at_ x'.mark)) (hd : x'.d = x.d) (hs : x'.s = x.s) : StAt w' X O R G bp pd vs vl x' := by
  refine ⟨hblk, by rw [hd]; exact h.disk.fr hf (fun k _ hk e => by subst e; rcases hk with hk | hk; exact h.sep.1 hk; exact h.sep.2.1 hk), ?_, ?_, by rw [hs]; exact h.num, h.top, h.sep, h.dx, h.gx, fun k hk => Nat.lt_of_lt_of_le (h.lt k hk) hf.size⟩
  · rw [hs]; exact h.snap.fr hf (fun k _ hk e => by subst e; exact h.sep.2.2 hk)
  · rw [hs]; exact h.ents.fr (by decide) hf (fun k _ hk e => by subst e; exact h.sep.2.2 hk)
end
/-- A half's size. -/
def Dk.half (d : Dk) : Nat := (d.now.length - 16) / 2
theorem DiskIs.len {w : World} {O R : Nat → Prop} {p : Value} {d : Dk} (h : DiskIs w O R p d) : d.now.length ≤ 1048576 ∧ d.safe.length = d.now.length := by
  obtain ⟨bp, vs, vn, vw, cells, rfl, h⟩ := h
  exact ⟨h.hm, h.hl⟩
theorem ssize_any {w : World} {X O R G : Nat → Prop} {bp : Nat} {pd vs vl : Value} {x : St} (h : StAt w X O R G bp pd vs vl x) (hn : 16 ≤ x.d.now.length) : Calls Try.prog 84 #[.pointer (some ⟨bp, 0, none⟩)] w fun e w' => e = .returned (.int .i64 (x.d.half : Int)) ∧ w = w' := by
  obtain ⟨c0, _⟩ := st_cells h.blk
  have HD : Hid (DiskIs w O R pd x.d) := (show DiskIs _ _ _ _ _ from h.disk)
  have hlen := h.disk.len.1
  obtain ⟨n, hnn⟩ : ∃ n, n = x.d.now.length := ⟨_, rfl⟩
  have HV : Hid ((x.d.half : Int) = ((n : Int) - 16) / 2) := (show _ = _ from by unfold Dk.half; omega)
  have HN := Lib.hid hnn
  rw [← hnn] at hn hlen
  rw [HV.out]
  clear hnn h
  go_enter Try.func84, Try.ntmps84
  go_wp2_with fail
  refine (size_any HD.out).mono ?_
  rw [← HN.out]
  rintro e w' ⟨rfl, rfl⟩
  go_wp2_with fail
  go_ret
  exact ⟨rfl, rfl⟩
/-- The byte of the disk that tells which half counts. -/
def Dk.told (d : Dk) (mark : Nat) : Nat := ((d.now[1 + 5 * mark]?).getD 0).toNat
theorem byte_of {l : List UInt8} {a : Nat} (h : a < l.length) : readB l (a : Int) 1 = [(l[a]?).getD 0] := by
  have h1 := readB_nat l a 1 (by omega)
  rw [show ((1 : Nat) : Int) = 1 from rfl] at h1
  rw [h1, List.drop_take, Nat.add_sub_cancel_left, List.drop_eq_getElem_cons h, List.getElem?_eq_getElem h]
  rfl
set_option maxHeartbeats 1000000 in
theorem counts_any {w : World} {X O R G : Nat → Prop} {bp : Nat} {pd vs vl : Value} {x : St} (h : StAt w X O R G bp pd vs vl x) (hn : 16 ≤ x.d.now.length) (hm : x.mark ≤ 1) :
    Calls Try.prog 101 #[.pointer (some ⟨bp, 0, none⟩)] w (Told (.int .i64 (x.d.told x.mark : Int)) w) := by
  obtain ⟨c0, _, _, _, _, _, _, _, _, c9⟩ := st_cells h.blk
  have HD : Hid (DiskIs w O R pd x.d) := (show DiskIs _ _ _ _ _ from h.disk)
  obtain ⟨d, s, half, at_, m⟩ := x
  simp only at HD c9 hm hn ⊢
  obtain ⟨mi, hmi⟩ : ∃ mi : Int, mi = (m : Int) := ⟨_, rfl⟩
  rw [← hmi] at c9
  have hq1 : IntKind.i64.wrap (5 * mi) = 5 * mi := by rw [IntKind.wrap_i64]; omega
  have hq2 : IntKind.i64.wrap (1 + 5 * mi) = 1 + 5 * mi := by rw [IntKind.wrap_i64]; omega
  have HB : Hid (readB d.now (1 + 5 * mi) 1 = [(d.now[1 + 5 * m]?).getD 0]) := (show _ = _ from by
    rw [show 1 + 5 * mi = ((1 + 5 * m : Nat) : Int) from by omega]
    exact byte_of (by omega))
  have HR1 : Hid (-9223372036854775808 ≤ 1 + 5 * mi ∧ 1 + 5 * mi ≤ 9223372036854775807) := (show _ ∧ _ from by omega)
  obtain ⟨v, hv⟩ : ∃ v : Nat, v = d.told m := ⟨_, rfl⟩
  have HV : Hid (v = ((d.now[1 + 5 * m]?).getD 0).toNat) := (show _ = _ from hv)
  rw [← hv]
  clear hmi hm hn h hv
  go_enter Try.func101, Try.ntmps101
  go_upto_region 1 with fail
  refine wp_seq_region (fun W => W.cell? ⟨bp, 0, none⟩ = some pd ∧ W.cell? ⟨bp, 9, none⟩ = some (.int .i64 mi)) [10, 12] [3, 7] [] [0, 1, 2, 3, 4, 5, 6, 7, 8, 9, 10, 11, 12, 13, 14] (by kernel_rfl) (by kernel_rfl) rfl (by kernel_rfl) (fun _ _ _ _ _ h => h) ?_
  have HS : Hid (w.drew.cell? ⟨bp, 0, none⟩ = some pd ∧ w.drew.cell? ⟨bp, 9, none⟩ = some (.int .i64 mi)) := (show _ ∧ _ from ⟨c0, c9⟩)
  clear c0 c9
  repeat (first
    | (refine sq_off (a' := ?_) rfl rfl (by rfl) (fun _ => (HS).out) ?ha ?_; (case ha => simp only [Act.put, List.setIfInBounds_toArray, List.set_cons_zero, List.set_cons_succ]; rfl))
    | (refine sq_any (v := ?_) (a' := ?_) rfl rfl rfl (by rfl) (fun W => ?hr) ?ha ?_; (case hr => go_simp; first | done | rfl); (case ha => simp only [Act.put, List.setIfInBounds_toArray, List.set_cons_zero, List.set_cons_succ]; rfl))
    | (refine sq_load (v := ?_) (a' := ?_) rfl rfl rfl (by rfl) (fun W hSW => ?hr) (HS).out ?ha ?_; (case hr => (try dsimp only at hSW); go_simp; first | done | rfl); (case ha => simp only [Act.put, List.setIfInBounds_toArray, List.set_cons_zero, List.set_cons_succ]; rfl)))
  refine sq_call rfl rfl (by rfl) rfl Try.func24 rfl rfl [pd, .int .i64 (1 + 5 * mi), .int .i64 1] rfl ?_
  refine (read_any (w := w.drew) (d := d) (HD.out.no (Fr.refl _ _).drew) HR1.out.1 HR1.out.2 (by omega)).mono ?_
  rw [HB.out]
  rintro e w2 ⟨v2, rfl, hown0, hf2⟩
  have hown : Ow w2 (New w.drew) 5 1 v2 1 ([(d.now[1 + 5 * m]?).getD 0].map enc8) := hown0
  clear hown0
  obtain ⟨g, c, cur, rfl, _, hblk, _, _, _, htk⟩ := hown.form (by decide)
  have k0 : w2.cell? ⟨g, 0, none⟩ = some (.int .u8 (v : Int)) := by
    obtain ⟨_, _, he, _, _, hc⟩ := hown.cells
    obtain ⟨g', hg', _, hc', _⟩ := hc 0 _ rfl
    injection he with he
    rw [hg'] at he
    injection he with he
    injection he with he
    rw [he, hc', HV.out]
    rfl
  have HS2 : Hid (w2.cell? ⟨bp, 0, none⟩ = some pd ∧ w2.cell? ⟨bp, 9, none⟩ = some (.int .i64 mi)) := (show _ ∧ _ from ⟨hf2.cell HS.out.1 (fun h => h), hf2.cell HS.out.2 (fun h => h)⟩)
  refine ⟨_, rfl, fun _ => HS2.out, ?_⟩
  simp only [Act.put, List.setIfInBounds_toArray, List.set_cons_zero, List.set_cons_succ]
  have HF2 := Lib.hid hf2
  have hvb : v < 256 := by rw [HV.out]; exact UInt8.toNat_lt _
  have hvw : IntKind.i64.wrap (v : Int) = (v : Int) := by rw [IntKind.wrap_i64]; omega
  clear hown hblk htk hf2
  repeat (first
    | (refine sq_off (a' := ?_) rfl rfl (by rfl) (fun _ => (HS2).out) ?ha ?_; (case ha => simp only [Act.put, List.setIfInBounds_toArray, List.set_cons_zero, List.set_cons_succ]; rfl))
    | (refine sq_any (v := ?_) (a' := ?_) rfl rfl rfl (by rfl) (fun W => ?hr) ?ha ?_; (case hr => go_simp; first | done | rfl); (case ha => simp only [Act.put, List.setIfInBounds_toArray, List.set_cons_zero, List.set_cons_succ]; rfl))
    | (refine sq_load (v := ?_) (a' := ?_) rfl rfl rfl (by rfl) (fun W hSW => ?hr) (HS2).out ?ha ?_; (case hr => (try dsimp only at hSW); go_simp; first | done | rfl); (case ha => simp only [Act.put, List.setIfInBounds_toArray, List.set_cons_zero, List.set_cons_succ]; rfl)))
  refine sq_value (v := .int .u8 (v : Int)) (w1 := w2) rfl rfl (by rfl) ?hr (fun _ => HS2.out) rfl ?_
  case hr => go_simp; first | done | rfl
  simp only [Act.put, List.setIfInBounds_toArray, List.set_cons_zero, List.set_cons_succ]
  repeat (first
    | (refine sq_off (a' := ?_) rfl rfl (by rfl) (fun _ => (HS2).out) ?ha ?_; (case ha => simp only [Act.put, List.setIfInBounds_toArray, List.set_cons_zero, List.set_cons_succ]; rfl))
    | (refine sq_any (v := ?_) (a' := ?_) rfl rfl rfl (by rfl) (fun W => ?hr) ?ha ?_; (case hr => go_simp; first | done | rfl); (case ha => simp only [Act.put, List.setIfInBounds_toArray, List.set_cons_zero, List.set_cons_succ]; rfl))
    | (refine sq_load (v := ?_) (a' := ?_) rfl rfl rfl (by rfl) (fun W hSW => ?hr) (HS2).out ?ha ?_; (case hr => (try dsimp only at hSW); go_simp; first | done | rfl); (case ha => simp only [Act.put, List.setIfInBounds_toArray, List.set_cons_zero, List.set_cons_succ]; rfl)))
  refine sq_done ?_
  go_wp2_with fail
  go_ret
  exact (show Told _ _ _ _ from ⟨rfl, (show Fr No w w.drew from (Fr.refl No w).drew).then HF2.out⟩)
end Go.Proofs.Ytbaohngnpgappaa
