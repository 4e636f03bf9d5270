/- store's Sync. -/
import Derived.Test.YtbaohngnpgappaaS13
set_option linter.unusedVariables false
set_option linter.unusedSimpArgs false
namespace Go.Proofs.Ytbaohngnpgappaa
open Go.RowKit
/-- A store on its way: w0, X0: where it began. -/
def StGo (w0 : World) (X0 : Nat → Prop) (w : World) (O R G : Nat → Prop) (bp : Nat) (pd vs vl : Value) (x : St) : Prop :=
  ∃ X, StAt w X O R G bp pd vs vl x ∧ (∀ k, X k → X0 k ∨ w0.heap.size ≤ k) ∧ Fr X0 w0 w ∧ X0 bp
section
variable {w0 w w' : World} {X0 O R G : Nat → Prop} {bp : Nat} {pd vs vl : Value} {x : St}
theorem StAt.go (h : StAt w X0 O R G bp pd vs vl x) : StGo w X0 w O R G bp pd vs vl x := ⟨X0, h, fun _ hk => .inl hk, Fr.refl _ _, h.top⟩
theorem StGo.no (h : StGo w0 X0 w O R G bp pd vs vl x) (hf : Fr No w w') : StGo w0 X0 w' O R G bp pd vs vl x := by
  obtain ⟨X, h1, h2, h3, h4⟩ := h
  exact ⟨X, h1.no hf, h2, h3.trans hf (fun _ _ h => h) (fun _ _ h => h.elim), h4⟩
theorem StGo.turn (h : StGo w0 X0 w O R G bp pd vs vl x) {O' R' : Nat → Prop} {d' : Dk} (hd : DiskIs w' O' R' pd d') (hO : ∀ k, O' k → O k ∨ w.heap.size ≤ k) (hR : ∀ k, R' k → R k ∨ w.heap.size ≤ k) (hf : Fr O w w') :
    StGo w0 X0 w' O' R' G bp pd vs vl { x with d := d' } := by
  obtain ⟨X, h1, h2, h3, h4⟩ := h
  refine ⟨_, h1.turn hd hO hR hf, fun k hk => ?_, h3.trans hf (fun _ _ h => h) (fun k hk ho => ?_), h4⟩
  · rcases h1.turnX hO hR k hk with h5 | h5
    · exact h2 k h5
    · exact .inr (Nat.le_trans h3.size h5)
  · rcases h2 k (h1.dx k (.inl ho)) with h5 | h5
    · exact h5
    · omega
theorem StGo.own (h : StGo w0 X0 w O R G bp pd vs vl x) {x' : St} (hf : Fr (fun q => q = bp) w w') (hblk : w'.heap[bp]? = some (stBlk pd x'.s vs vl x'.half x'.at_ x'.mark)) (hd : x'.d = x.d) (hs : x'.s = x.s) : StGo w0 X0 w' O R G bp pd vs vl x' := by
  obtain ⟨X, h1, h2, h3, h4⟩ := h
  exact ⟨X, h1.own hf hblk hd hs, h2, h3.trans hf (fun _ _ h => h) (fun k _ hk => by have h' : k = bp := hk; rw [h']; exact h4), h4⟩
theorem StGo.post (h : StGo w0 X0 w O R G bp pd vs vl x) (v : Value) : StPost w0 X0 (.pointer (some ⟨bp, 0, none⟩)) pd v x (.returned v) w := by
  obtain ⟨X, h1, h2, h3, h4⟩ := h
  exact ⟨X, rfl, ⟨bp, O, R, G, vs, vl, rfl, h1⟩, h2, h3⟩
theorem StGo.is (h : StGo w0 X0 w O R G bp pd vs vl x) : ∃ X, StAt w X O R G bp pd vs vl x := by
  obtain ⟨X, h1, _⟩ := h
  exact ⟨X, h1⟩
theorem StGo.disk (h : StGo w0 X0 w O R G bp pd vs vl x) : DiskIs w O R pd x.d := by
  obtain ⟨X, h1, _⟩ := h
  exact h1.disk
theorem StGo.blk (h : StGo w0 X0 w O R G bp pd vs vl x) : w.heap[bp]? = some (stBlk pd x.s vs vl x.half x.at_ x.mark) := by
  obtain ⟨X, h1, _⟩ := h
  exact h1.blk
end
def Dk.sync (d : Dk) : Dk := ⟨applyW d.safe d.waits, d.now, []⟩
def markB (half at_ : Nat) : List UInt8 := byteOf (half : Int) :: be4 at_
theorem markB_len (h a : Nat) : (markB h a).length = 5 := by rw [markB, be4_lit]; rfl
def St.synced (x : St) : St := { x with d := ((x.d.sync.put (1 + 5 * (1 - x.mark)) (markB x.half x.at_)).sync.put 0 [byteOf ((1 - x.mark : Nat) : Int)]).sync, mark := 1 - x.mark }
set_option maxRecDepth 100000 in
set_option maxHeartbeats 4000000 in
theorem ssync_any {w : World} {X O R G : Nat → Prop} {bp : Nat} {pd vs vl : Value} {x : St} (h : StAt w X O R G bp pd vs vl x) (hfine : x.fine) :
    Calls Try.prog 46 #[.pointer (some ⟨bp, 0, none⟩)] w (StPost w X (.pointer (some ⟨bp, 0, none⟩)) pd (.tuple #[]) x.synced) := by
  have HFI := Lib.hid hfine
  have HAT := Lib.hid h
  obtain ⟨hi, hhi⟩ : ∃ hi : Int, hi = (x.half : Int) := ⟨_, rfl⟩
  obtain ⟨ai, hai⟩ : ∃ ai : Int, ai = (x.at_ : Int) := ⟨_, rfl⟩
  obtain ⟨mi, hmi⟩ : ∃ mi : Int, mi = (x.mark : Int) := ⟨_, rfl⟩
  have hlen := h.disk.len.1
  have hab : 0 ≤ ai ∧ ai ≤ 524288 := by
    have h1 := hfine.2.2.2.1
    unfold Dk.half at h1
    omega
  have hmb : 0 ≤ mi ∧ mi ≤ 1 := by have := hfine.2.2.1; omega
  have hhb : 0 ≤ hi ∧ hi ≤ 1 := by have := hfine.2.1; omega
  obtain ⟨hab0, hab1⟩ := hab
  obtain ⟨hmb0, hmb1⟩ := hmb
  obtain ⟨hhb0, hhb1⟩ := hhb
  have hblk := h.blk
  rw [← hhi, ← hai, ← hmi] at hblk
  have HHI : Hid (hi = (x.half : Int) ∧ ai = (x.at_ : Int) ∧ mi = (x.mark : Int)) := (show _ ∧ _ ∧ _ from ⟨hhi, hai, hmi⟩)
  obtain ⟨c0, _, _, _, _, _, _, c7, c8, c9⟩ := st_cells hblk
  obtain ⟨na, hna⟩ : ∃ na : Nat, na = 1 + 5 * (1 - x.mark) := ⟨_, rfl⟩
  have hq1 : IntKind.i64.wrap (1 - mi) = 1 - mi := by rw [IntKind.wrap_i64]; omega
  have HNA : Hid ((na : Int) = 1 + 5 * (1 - mi) ∧ na = 1 + 5 * (1 - x.mark) ∧ na + 5 ≤ x.d.now.length) := (show _ ∧ _ ∧ _ from ⟨by omega, hna, by have := hfine.1; omega⟩)
  have HU8 : Hid (IntKind.u8.wrap (1 - mi) = 1 - mi) := (show _ = _ from by rw [IntKind.wrap_u8]; omega)
  clear hhi hai hmi hfine h hlen hna
  go_enter Try.func46, Try.ntmps46
  go_wp2_with fail
  refine (sync_any (w := w) HAT.out.disk (by have := HFI.out.2.2.2.2; omega)).mono ?_
  rintro e w1 ⟨O1, R1, rfl, hD, hO, hR, hf1⟩
  have HT1 : Hid (StGo w X w1 O1 R1 G bp pd vs vl { x with d := x.d.sync }) := (show StGo _ _ _ _ _ _ _ _ _ _ _ from HAT.out.go.turn hD hO hR hf1)
  have hblk1 := hf1.heap hblk HAT.out.sep.1
  clear c0 c7 c8 c9 hblk
  obtain ⟨c0, _, _, _, _, _, _, c7, c8, c9⟩ := st_cells hblk1
  clear hD hO hR hf1 hblk1
  go_upto_region 2 with fail
  have HS : Hid (w1.drew.cell? ⟨bp, 0, none⟩ = some pd ∧ w1.drew.cell? ⟨bp, 7, none⟩ = some (.int .i64 hi) ∧ w1.drew.cell? ⟨bp, 8, none⟩ = some (.int .i64 ai)) := (show _ ∧ _ ∧ _ from ⟨c0, c7, c8⟩)
  have hm1 : IntKind.i64.wrap (5 * (1 - mi)) = 5 * (1 - mi) := by rw [IntKind.wrap_i64]; omega
  have hm2 : IntKind.i64.wrap (1 + 5 * (1 - mi)) = (na : Int) := by rw [IntKind.wrap_i64]; have := HNA.out.1; omega
  refine wp_seq_region (fun W => W.cell? ⟨bp, 0, none⟩ = some pd ∧ W.cell? ⟨bp, 7, none⟩ = some (.int .i64 hi) ∧ W.cell? ⟨bp, 8, none⟩ = some (.int .i64 ai)) [35, 36] [3, 10, 15, 21, 27, 33] [] (List.range 37) (by kernel_rfl) (by kernel_rfl) rfl (by kernel_rfl) (fun _ _ _ _ _ h => h) ?_
  clear c0 c7 c8
  simp only [List.range, List.range.loop]
  repeat (first
    | (refine sq_off (a' := ?_) rfl rfl (by rfl) (fun _ => (HS).out) ?ha ?_; (case ha => simp only [Act.put, List.setIfInBounds_toArray, List.set_cons_zero, List.set_cons_succ]; rfl))
    | (refine sq_any (v := ?_) (a' := ?_) rfl rfl rfl (by rfl) (fun W => ?hr) ?ha ?_; (case hr => go_simp; first | done | rfl); (case ha => simp only [Act.put, List.setIfInBounds_toArray, List.set_cons_zero, List.set_cons_succ]; rfl))
    | (refine sq_load (v := ?_) (a' := ?_) rfl rfl rfl (by rfl) (fun W hSW => ?hr) (HS).out ?ha ?_; (case hr => (try dsimp only at hSW); go_simp; first | done | rfl); (case ha => simp only [Act.put, List.setIfInBounds_toArray, List.set_cons_zero, List.set_cons_succ]; rfl)))
  obtain ⟨w2, hw2⟩ : ∃ w2, Hid (w2 = w1.drew.alloc (.cells #[.int .u8 (IntKind.u8.wrap hi), .int .u8 (IntKind.u8.wrap (ai / 16777216)), .int .u8 (IntKind.u8.wrap (ai / 65536)), .int .u8 (IntKind.u8.wrap (ai / 256)), .int .u8 (IntKind.u8.wrap ai)] 5 (0, 0))) := ⟨_, show _ = _ from rfl⟩
  have HF12 : Hid (Fr No w1 w2) := (show Fr No w1 w2 from by rw [hw2.out]; exact (show Fr No w1 w1.drew from (Fr.refl No _).drew).alloc _)
  have HS2 : Hid (w2.cell? ⟨bp, 0, none⟩ = some pd ∧ w2.cell? ⟨bp, 7, none⟩ = some (.int .i64 hi) ∧ w2.cell? ⟨bp, 8, none⟩ = some (.int .i64 ai)) := (show _ ∧ _ ∧ _ from ⟨HF12.out.cell HS.out.1 (fun h => h), HF12.out.cell HS.out.2.1 (fun h => h), HF12.out.cell HS.out.2.2 (fun h => h)⟩)
  have HB2 : Hid (Rb w2 (fun k => k = w1.heap.size) (.slice (some ⟨w1.heap.size, 0, none⟩) 5 5) (markB x.half x.at_)) := (show Rb _ _ _ _ from by
    refine rb_lit (l := markB x.half x.at_) (g := w1.heap.size) ?_ (by rw [markB_len]; omega)
    rw [hw2.out, markB, be4_lit, ← HHI.out.1, ← HHI.out.2.1]
    simp only [List.map_cons, List.map_nil, byteOf_enc]
    exact blk_new w1.drew _)
  refine sq_value (v := .slice (some ⟨w1.heap.size, 0, none⟩) 5 5) (w1 := w2) (a' := ?_) rfl rfl (by rfl) ?hr (fun _ => HS2.out) ?ha ?_
  case hr => rw [hw2.out]; go_simp; first | done | rfl
  case ha => simp only [Act.put, List.setIfInBounds_toArray, List.set_cons_zero, List.set_cons_succ]; rfl
  refine sq_call rfl rfl (by rfl) rfl Try.func22 rfl rfl [pd, .int .i64 (na : Int), .slice (some ⟨w1.heap.size, 0, none⟩) 5 5] rfl ?_
  have HT2 : Hid (StGo w X w2 O1 R1 G bp pd vs vl { x with d := x.d.sync }) := (show StGo _ _ _ _ _ _ _ _ _ _ _ from HT1.out.no HF12.out)
  refine (write_yes (w := w2) (d := x.d.sync) (a := na) (b := markB x.half x.at_) HT2.out.disk HB2.out (fun k hk ho => by have h' : k = w1.heap.size := hk; have := HT1.out.disk.lt k (.inl ho); omega) (by rw [markB_len]; exact HNA.out.2.2) (by show 0 ≤ 1000000; omega)).mono ?_
  rintro e w3 ⟨O3, R3, rfl, hD, hO, hR, hf3⟩
  have HT3 : Hid (StGo w X w3 O3 R3 G bp pd vs vl { x with d := x.d.sync.put na (markB x.half x.at_) }) := (show StGo _ _ _ _ _ _ _ _ _ _ _ from HT2.out.turn hD hO hR hf3)
  have hb3 := HT3.out.blk
  simp only at hb3
  rw [← HHI.out.1, ← HHI.out.2.1, ← HHI.out.2.2] at hb3
  obtain ⟨c0, _, _, _, _, _, _, c7, c8, _⟩ := st_cells hb3
  refine ⟨_, rfl, fun _ => ⟨c0, c7, c8⟩, ?_⟩
  simp only [Act.put, List.setIfInBounds_toArray, List.set_cons_zero, List.set_cons_succ]
  clear hD hO hR hf3 hb3 c7 c8 hm1 hm2 c9
  refine sq_done ?_
  go_wp2_with fail
  refine (sync_any (w := w3) HT3.out.disk (by show 1 ≤ 1000000; omega)).mono ?_
  rintro e w4 ⟨O4, R4, rfl, hD, hO, hR, hf4⟩
  have HT4 : Hid (StGo w X w4 O4 R4 G bp pd vs vl { x with d := (x.d.sync.put na (markB x.half x.at_)).sync }) := (show StGo _ _ _ _ _ _ _ _ _ _ _ from HT3.out.turn hD hO hR hf4)
  have hb4 := HT4.out.blk
  clear c0
  obtain ⟨c0, _⟩ := st_cells hb4
  clear hD hO hR hf4 hb4
  obtain ⟨w5, hw5⟩ : ∃ w5, Hid (w5 = w4.alloc (.cells #[.int .u8 (1 - mi)] 5 (0, 0))) := ⟨_, show _ = _ from rfl⟩
  have HF45 : Hid (Fr No w4 w5) := (show Fr No w4 w5 from by rw [hw5.out]; exact (Fr.refl No _).alloc _)
  have HT5 : Hid (StGo w X w5 O4 R4 G bp pd vs vl { x with d := (x.d.sync.put na (markB x.half x.at_)).sync }) := (show StGo _ _ _ _ _ _ _ _ _ _ _ from HT4.out.no HF45.out)
  have HB5 : Hid (Rb w5 (fun k => k = w4.heap.size) (.slice (some ⟨w4.heap.size, 0, none⟩) 1 1) [byteOf ((1 - x.mark : Nat) : Int)]) := (show Rb _ _ _ _ from by
    refine rb_lit (l := [byteOf ((1 - x.mark : Nat) : Int)]) (g := w4.heap.size) ?_ (by show 1 ≤ 1000; omega)
    rw [hw5.out, show ((1 - x.mark : Nat) : Int) = 1 - mi from by have := HHI.out.2.2; omega]
    simp only [List.map_cons, List.map_nil, byteOf_enc]
    rw [HU8.out]
    exact blk_new w4 _)
  go_wp2_with fail
  rw [← hw5.out]
  refine (write_yes (w := w5) (d := (x.d.sync.put na (markB x.half x.at_)).sync) (a := 0) (b := [byteOf ((1 - x.mark : Nat) : Int)]) HT5.out.disk HB5.out (fun k hk ho => by have h' : k = w4.heap.size := hk; have := HT4.out.disk.lt k (.inl ho); omega) ?hlen (by show 0 ≤ 1000000; omega)).mono ?_
  case hlen =>
    show 0 + 1 ≤ (splice x.d.now na (markB x.half x.at_)).length
    rw [length_splice _ _ _ (by rw [markB_len]; exact HNA.out.2.2)]
    have := HNA.out.2.2
    omega
  rintro e w6 ⟨O6, R6, rfl, hD, hO, hR, hf6⟩
  have HT6 : Hid (StGo w X w6 O6 R6 G bp pd vs vl { x with d := (x.d.sync.put na (markB x.half x.at_)).sync.put 0 [byteOf ((1 - x.mark : Nat) : Int)] }) := (show StGo _ _ _ _ _ _ _ _ _ _ _ from HT5.out.turn hD hO hR hf6)
  have hb6 := HT6.out.blk
  clear c0
  obtain ⟨c0, _⟩ := st_cells hb6
  clear hD hO hR hf6 hb6
  go_wp2_with fail
  refine (sync_any (w := w6) HT6.out.disk (by show 1 ≤ 1000000; omega)).mono ?_
  rintro e w7 ⟨O7, R7, rfl, hD, hO, hR, hf7⟩
  have HT7 : Hid (StGo w X w7 O7 R7 G bp pd vs vl { x with d := ((x.d.sync.put na (markB x.half x.at_)).sync.put 0 [byteOf ((1 - x.mark : Nat) : Int)]).sync }) := (show StGo _ _ _ _ _ _ _ _ _ _ _ from HT6.out.turn hD hO hR hf7)
  have hb7 := HT7.out.blk
  clear c0
  have c9 := (st_cells hb7).2.2.2.2.2.2.2.2.2
  have z9 := st_free hb7 9
  simp only at c9
  clear hD hO hR hf7 hb7
  go_wp2_with fail
  go_end0
  have hb8 : (w7.setCell ⟨bp, 9, none⟩ (.int .i64 (1 - mi))).heap[bp]? = some (stBlk pd x.s vs vl x.half x.at_ ((1 - x.mark : Nat) : Int)) := by
    rw [show ((1 - x.mark : Nat) : Int) = 1 - mi from by have := HHI.out.2.2; omega]
    exact (st_set HT7.out.blk).2.2 _
  have h8 := HT7.out.own (x' := x.synced) (Fr.one 9 (.int .i64 (1 - mi))) hb8 (by rw [HNA.out.2.1]; rfl) rfl
  exact h8.post _
end Go.Proofs.Ytbaohngnpgappaa
