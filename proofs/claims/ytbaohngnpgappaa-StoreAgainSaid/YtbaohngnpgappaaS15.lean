/- store's Format. -/
import Derived.Test.YtbaohngnpgappaaS14
set_option linter.unusedVariables false
set_option linter.unusedSimpArgs false
namespace Go.Proofs.Ytbaohngnpgappaa
open Go.RowKit
/-- A store that came of w0, where X0 was its own. -/
def StWay (w0 : World) (X0 : Nat → Prop) (w : World) (p pd : Value) (x : St) : Prop := ∃ X, StIs w X p pd x ∧ (∀ k, X k → X0 k ∨ w0.heap.size ≤ k) ∧ Fr X0 w0 w
section
variable {w0 w w' : World} {X0 : Nat → Prop} {p pd v : Value} {x x' : St}
theorem StWay.no (h : StWay w0 X0 w p pd x) (hf : Fr No w w') : StWay w0 X0 w' p pd x := by
  obtain ⟨X, h1, h2, h3⟩ := h
  exact ⟨X, h1.fr hf (fun _ _ _ h => h), h2, h3.trans hf (fun _ _ h => h) (fun _ _ h => h.elim)⟩
/-- What turns none of its blocks leaves it as it is. -/
theorem StWay.far (h : StWay w0 X0 w p pd x) {S : Nat → Prop} (hf : Fr S w w') (hs : ∀ k, S k → k < w0.heap.size → X0 k) (hn : ∀ X, StIs w X p pd x → (∀ k, X k → X0 k ∨ w0.heap.size ≤ k) → ∀ k, k < w.heap.size → X k → ¬ S k) : StWay w0 X0 w' p pd x := by
  obtain ⟨X, h1, h2, h3⟩ := h
  exact ⟨X, h1.fr hf (hn X h1 h2), h2, h3.trans hf (fun _ _ h => h) (fun k hk h => hs k h hk)⟩
theorem StWay.step (h : StWay w0 X0 w p pd x) {f : FuncId} {args : Array Value} (hc : ∀ X, StIs w X p pd x → (∀ k, X k → X0 k ∨ w0.heap.size ≤ k) → Calls Try.prog f args w (StPost w X p pd v x')) :
    Calls Try.prog f args w (fun e w' => e = .returned v ∧ StWay w0 X0 w' p pd x') := by
  obtain ⟨X, h1, h2, h3⟩ := h
  refine (hc X h1 h2).mono ?_
  rintro e w' ⟨X', rfl, h4, h5, h6⟩
  refine ⟨rfl, X', h4, fun k hk => ?_, h3.trans h6 (fun _ _ h => h) (fun k hk hx => ?_)⟩
  · rcases h5 k hk with h7 | h7
    · exact h2 k h7
    · exact .inr (Nat.le_trans h3.size h7)
  · rcases h2 k hx with h7 | h7
    · exact h7
    · omega
end
theorem StGo.way {w0 w : World} {X0 O R G : Nat → Prop} {bp : Nat} {pd vs vl : Value} {x : St} (h : StGo w0 X0 w O R G bp pd vs vl x) : StWay w0 X0 w (.pointer (some ⟨bp, 0, none⟩)) pd x := by
  obtain ⟨X, h1, h2, h3, _⟩ := h
  exact ⟨X, ⟨bp, O, R, G, vs, vl, rfl, h1⟩, h2, h3⟩
theorem StIs.lay {w : World} {X F : Nat → Prop} {p pd vv : Value} {x : St} {v : It} (h : StIs w X p pd x) (hfine : x.fine) (hv : ItV w F vv v) (hbk : v.bulk ≤ 1048576) (hck : checkI v = 0) :
    Calls Try.prog 77 #[p, vv] w (StPost w X p pd (.bool (roomB x (sealB v.enc))) (layS x (sealB v.enc))) := by
  obtain ⟨bp, O, R, G, vs, vl, rfl, h⟩ := h
  exact lay_any h hfine hv hbk hck
theorem StIs.sync {w : World} {X : Nat → Prop} {p pd : Value} {x : St} (h : StIs w X p pd x) (hfine : x.fine) : Calls Try.prog 46 #[p] w (StPost w X p pd (.tuple #[]) x.synced) := by
  obtain ⟨bp, O, R, G, vs, vl, rfl, h⟩ := h
  exact ssync_any h hfine
def St.fresh (d : Dk) : St := ⟨d, Sv.zero, 0, 0, 0⟩
/-- What Format lays down. -/
def fmtS (d : Dk) : St := (layS (St.fresh (d.put 0 (List.replicate 16 0))) (recS Sv.zero)).synced
def FmtPost (w : World) (X : Nat → Prop) (pd : Value) (x : St) (e : Ending) (w' : World) : Prop := ∃ p, e = .returned (.tuple #[p, .int .i64 0]) ∧ (∃ bp, p = .pointer (some ⟨bp, 0, none⟩)) ∧ StWay w X w' p pd x
theorem zero_small : Sv.zero.small := ⟨Nat.zero_le _, by decide⟩
theorem layS_fine {x : St} {b : List UInt8} (h : x.fine) (hw : x.d.waits.length ≤ 899999) : (layS x b).fine := by
  unfold layS
  cases hr : roomB x b
  · exact h
  · obtain ⟨h1, h2, h3, h4, h5⟩ := h
    have hr2 : x.at_ + b.length ≤ x.d.half := by simpa [roomB] using hr
    have hl : (splice x.d.now x.place b).length = x.d.now.length := length_splice _ _ _ (by
      unfold St.place Dk.half at *
      rcases (show x.half = 0 ∨ x.half = 1 by omega) with h0 | h0
      · rw [h0, Nat.zero_mul]; omega
      · rw [h0, Nat.one_mul]; omega)
    rw [if_pos rfl]
    refine ⟨?_, h2, h3, ?_, ?_⟩
    · show 4096 ≤ (splice x.d.now x.place b).length
      rw [hl]; exact h1
    · show x.at_ + b.length ≤ ((splice x.d.now x.place b).length - 16) / 2
      rw [hl]; exact hr2
    · show (x.d.waits ++ [(x.place, b)]).length ≤ 900000
      rw [List.length_append, List.length_singleton]
      omega
set_option maxRecDepth 100000 in
set_option maxHeartbeats 4000000 in
theorem format_any {w : World} {O R : Nat → Prop} {pd : Value} {d : Dk} (h : DiskIs w O R pd d) (hlen : 4096 ≤ d.now.length) (hw : d.waits.length ≤ 800000) :
    Calls Try.prog 40 #[pd] w (FmtPost w (fun k => O k ∨ R k) pd (fmtS d)) := by
  obtain ⟨dp, rfl⟩ := h.ptr
  have HD := Lib.hid h
  obtain ⟨n, hn⟩ : ∃ n, n = d.now.length := ⟨_, rfl⟩
  have HN := Lib.hid hn
  rw [← hn] at hlen
  have HW := Lib.hid hw
  have hg : decide ((n : Int) < 4096) = false := by simp; omega
  obtain ⟨bp, hbp⟩ : ∃ b, b = w.heap.size := ⟨_, rfl⟩
  have HBP := Lib.hid hbp
  have hmk : ∀ W : World, (Instr.makeSlice 22 (.int .i64 16) (.int .i64 16)).run Try.prog W = .ok (.slice (some ⟨W.heap.size, 0, none⟩) 16 16) (W.alloc (.cells (madeCells #[.int .u8 0] 16) 5)) := fun (W : World) => run_make_row' (P := Try.prog) 22 5 (.int .u8 0) 1 Try.underlying22 info5 rfl .i64 .i64 16 (by omega) (by omega) W
  obtain ⟨w1, hw1⟩ : ∃ w1, Hid (w1 = w.alloc (.cells #[.pointer (some ⟨dp, 0, none⟩), .int .i64 0, .int .i64 0, .int .i64 0, .int .i64 0, .slice none 0 0, .slice none 0 0, .int .i64 0, .int .i64 0, .int .i64 0] 111 (0, 0))) := ⟨_, show _ = _ from rfl⟩
  clear hn h hw hbp
  go_enter Try.func40, Try.ntmps40
  go_wp2_with fail
  refine (size_any HD.out).mono ?_
  rw [← HN.out]
  rintro e _ ⟨rfl, rfl⟩
  go_wp2_with fail
  obtain ⟨w2, hw2⟩ : ∃ w2, Hid (w2 = w1.alloc (.cells (madeCells #[.int .u8 0] 16) 5)) := ⟨_, show _ = _ from rfl⟩
  have hf1 : Fr No w w1 := by rw [hw1.out]; exact (Fr.refl _ _).alloc _
  have hb1 : w1.heap[bp]? = some (stBlk (.pointer (some ⟨dp, 0, none⟩)) Sv.zero (.slice none 0 0) (.slice none 0 0) 0 0 0) := by rw [hw1.out, HBP.out]; exact blk_new _ _
  have hs1 : w1.heap.size = bp + 1 := by rw [hw1.out, HBP.out]; simp
  have HT1 : Hid (StAt w1 (fun k => (O k ∨ R k) ∨ k = bp) O R No bp (.pointer (some ⟨dp, 0, none⟩)) (.slice none 0 0) (.slice none 0 0) (St.fresh d)) := (show StAt _ _ _ _ _ _ _ _ _ _ from by
    have hlt := HD.out.lt
    have hbp := HBP.out
    refine ⟨hb1, HD.out.no hf1, Rds.nil _ _ _ _ _ (Nat.zero_le _), Row.nil _ _ _ _ _ (Nat.zero_le _), by unfold I64 St.fresh Sv.zero; simp, .inr rfl, ⟨fun ho => ?_, fun ho => ?_, fun h => h⟩, fun k hk => .inl hk, fun k hk => hk.elim, fun k hk => ?_⟩
    · have := hlt bp (.inl ho); omega
    · have := hlt bp (.inr ho); omega
    · rcases hk with hk | hk
      · have := hlt k hk; omega
      · omega)
  have HF12 : Hid (Fr No w1 w2) := (show Fr No w1 w2 from by rw [hw2.out]; exact (Fr.refl No _).alloc _)
  have HT2 : Hid (StGo w1 (fun k => (O k ∨ R k) ∨ k = bp) w2 O R No bp (.pointer (some ⟨dp, 0, none⟩)) (.slice none 0 0) (.slice none 0 0) (St.fresh d)) := (show StGo _ _ _ _ _ _ _ _ _ _ _ from HT1.out.go.no HF12.out)
  have HB2 : Hid (Rb w2 (fun k => k = bp + 1) (.slice (some ⟨bp + 1, 0, none⟩) 16 16) (List.replicate 16 0)) := (show Rb _ _ _ _ from by
    have h2 : w2.heap[bp + 1]? = some (.cells (madeCells #[.int .u8 0] 16) 5 (0, 0)) := by rw [hw2.out, ← hs1]; exact blk_new _ _
    exact (ow_zeros w2 (m := 16) (by omega) h2).reads (enc := enc8) (l := List.replicate 16 0))
  have HF1 := Lib.hid hf1
  have HS1 := Lib.hid hs1
  clear hf1 hb1 hs1 hmk
  rw [← HBP.out, ← hw1.out, ← hw2.out]
  refine (write_yes (w := w2) (d := d) (a := 0) (b := List.replicate 16 0) HT2.out.disk HB2.out (fun k hk ho => by have h' : k = bp + 1 := hk; have := HD.out.lt k (.inl ho); have := HBP.out; omega) (by rw [List.length_replicate, ← HN.out]; omega) (by have := HW.out; omega)).mono ?_
  rintro e w3 ⟨O3, R3, rfl, hD, hO, hR, hf3⟩
  obtain ⟨d3, hd3⟩ : ∃ d3, d3 = d.put 0 (List.replicate 16 0) := ⟨_, rfl⟩
  have HD3 := Lib.hid hd3
  have HT3 : Hid (StGo w1 (fun k => (O k ∨ R k) ∨ k = bp) w3 O3 R3 No bp (.pointer (some ⟨dp, 0, none⟩)) (.slice none 0 0) (.slice none 0 0) (St.fresh d3)) := (show StGo _ _ _ _ _ _ _ _ _ _ _ from by rw [hd3]; exact HT2.out.turn hD hO hR hf3)
  have hl3 : d3.now.length = n := by
    rw [hd3, HN.out]
    exact length_splice _ _ _ (by rw [List.length_replicate, ← HN.out]; omega)
  have HFI3 : Hid (St.fresh d3).fine := (show St.fine _ from ⟨by show 4096 ≤ d3.now.length; omega, by show 0 ≤ 1; omega, by show 0 ≤ 1; omega, Nat.zero_le _, by
    show d3.waits.length ≤ 900000
    rw [hd3]
    show (d.waits ++ [_]).length ≤ 900000
    rw [List.length_append, List.length_singleton]
    have := HW.out
    omega⟩)
  have HW3 : Hid (d3.waits.length ≤ 899999) := (show _ ≤ _ from by
    rw [hd3]
    show (d.waits ++ [_]).length ≤ 899999
    rw [List.length_append, List.length_singleton]
    have := HW.out
    omega)
  have hb3 := HT3.out.blk
  obtain ⟨c0, c1, c2, c3, c4, c5, c6, _⟩ := st_cells hb3
  simp only [St.fresh, Sv.zero] at c1 c2 c3 c4
  clear hD hO hR hf3 hb3 hd3 hl3
  go_wp2_with fail
  obtain ⟨X3, h3⟩ := HT3.out.is
  refine (sitem_any (w := w3) (s := Sv.zero) (by have h := h3.kv; exact h) (Nat.zero_le _)).mono ?_
  rintro e w4 ⟨vv4, rfl, hiv, hf4⟩
  have HIV := Lib.hid hiv
  have HF4 : Hid (Fr No w3 w4) := (show Fr No w3 w4 from hf4)
  clear hiv hf4 c0 c1 c2 c3 c4 c5 c6 h3
  go_wp2_with fail
  refine ((HT3.out.no HF4.out).way.step (fun X hX _ => hX.lay HFI3.out HIV.out zero_small.2 (sv_check _))).mono ?_
  rintro e w5 ⟨rfl, h5⟩
  have H5 := Lib.hid h5
  clear h5
  go_wp2_with fail
  refine (H5.out.step (fun X hX _ => hX.sync (layS_fine HFI3.out HW3.out))).mono ?_
  rintro e w6 ⟨rfl, h6⟩
  have H6 := Lib.hid h6
  clear h6
  go_wp2_with fail
  go_ret2
  refine (show FmtPost _ _ _ _ _ _ from ⟨_, rfl, ⟨bp, rfl⟩, ?_⟩)
  obtain ⟨X, h1, h2, h3⟩ := H6.out
  have hs := HS1.out
  have hbp := HBP.out
  refine ⟨X, ?_, fun k hk => ?_, HF1.out.trans h3 (fun _ _ h => h.elim) (fun k hk h => ?_)⟩
  · unfold fmtS
    rw [← HD3.out]
    exact h1
  · rcases h2 k hk with (h7 | h7) | h7
    · exact .inl h7
    · exact .inr (by omega)
    · exact .inr (by omega)
  · rcases h with h7 | h7
    · exact h7
    · omega
/-- Too small a disk. -/
theorem format_no {w : World} {O R : Nat → Prop} {pd : Value} {d : Dk} (h : DiskIs w O R pd d) (hlen : d.now.length < 4096) :
    Calls Try.prog 40 #[pd] w (Told (.tuple #[.pointer none, .int .i64 210]) w) := by
  have HD := Lib.hid h
  obtain ⟨n, hn⟩ : ∃ n, n = d.now.length := ⟨_, rfl⟩
  have HN := Lib.hid hn
  rw [← hn] at hlen
  have hg : decide ((n : Int) < 4096) = true := by simp; omega
  clear hn h
  go_enter Try.func40, Try.ntmps40
  go_wp2_with fail
  refine (size_any HD.out).mono ?_
  rw [← HN.out]
  rintro e _ ⟨rfl, rfl⟩
  go_wp2_with fail
  go_ret2
  exact (show Told _ _ _ _ from ⟨rfl, Fr.refl _ _⟩)
end Go.Proofs.Ytbaohngnpgappaa
