/- wire's Decode, of what was encoded. -/
import Derived.Test.YtbaohngnpgappaaS16
set_option linter.unusedVariables false
set_option linter.unusedSimpArgs false
namespace Go.Proofs.Ytbaohngnpgappaa
open Go.RowKit
def DecPost (w : World) (x : It) (e : Ending) (w' : World) : Prop := ∃ vv, e = .returned (.tuple #[vv, .int .i64 0]) ∧ ItV w' (New w) vv x ∧ Fr No w w'
set_option maxRecDepth 100000 in
set_option maxHeartbeats 4000000 in
theorem decode_any {w : World} {F : Nat → Prop} {v : Value} {L : List UInt8} {x : It} (h : Rb w F v L) (hl : L.length ≤ 1099511627776) (hx : readI L = (x, L.length, 0)) : Calls Try.prog 102 #[v] w (DecPost w x) := by
  obtain ⟨A, c, rfl, _, _⟩ := h.shape
  have H := Lib.hid h
  have HX := Lib.hid hx
  have HL := Lib.hid hl
  obtain ⟨n, hn⟩ : ∃ n, n = L.length := ⟨_, rfl⟩
  have HN := Lib.hid hn
  rw [← hn] at H ⊢
  obtain ⟨rb, hrb⟩ : ∃ b, b = w.heap.size := ⟨_, rfl⟩
  have HRB := Lib.hid hrb
  obtain ⟨w1, hw1⟩ : ∃ w1, Hid (w1 = w.alloc (.cells #[.int .i64 0, .int .i64 0, .string ⟨#[]⟩, .slice none 0 0] 48 (0, 0))) := ⟨_, show _ = _ from rfl⟩
  have hf1 : Fr No w w1 := by rw [hw1.out]; exact (Fr.refl _ _).alloc _
  have hv1 : VIs w1 rb 0 0 [] (.slice none 0 0) := by rw [hw1.out, hrb]; exact blk_new _ _
  have HF1 := Lib.hid hf1
  have HV1 := Lib.hid hv1
  clear h hx hl hn hrb hf1 hv1
  go_enter Try.func102, Try.ntmps102
  go_wp2_with fail
  rw [← hw1.out, ← HRB.out]
  refine (wread_any (w := w1) (L := L) (by have h := H.out.fr HF1.out (fun _ _ _ h => h); exact h) HL.out).mono ?_
  rw [HX.out, ← HN.out]
  rintro e w2 ⟨vv, rfl, hiv, hf2⟩
  simp only at hiv ⊢
  obtain ⟨xk, xn, xt, xl⟩ := x
  obtain ⟨cs, rfl, hir⟩ := hiv
  have hir0 := hir
  obtain ⟨vx, rfl, hxrow, hxfit⟩ := itR_row hir
  obtain ⟨A2, c2, rfl, _, _⟩ := hxrow.shape
  have HIR := Lib.hid hir0
  have HF2 := Lib.hid hf2
  have hv2 : VIs w2 rb 0 0 [] (.slice none 0 0) := hf2.heap HV1.out (fun h => h)
  have HV2 := Lib.hid hv2
  obtain ⟨vb, hvb⟩ : ∃ b, b = w2.heap.size := ⟨_, rfl⟩
  have HVB := Lib.hid hvb
  clear hir hir0 hxrow hxfit hf2 hv2 hvb
  unfold str at *
  go_upto_region 2 with fail
  obtain ⟨nl, hnl⟩ : ∃ k, k = xl.length := ⟨_, rfl⟩
  rw [← hnl] at HIR ⊢
  have HNL := Lib.hid hnl
  obtain ⟨w3, hw3⟩ : ∃ w3, Hid (w3 = w2.alloc (.cells #[.int .i64 xk, .int .i64 xn, .string ⟨xt.toArray⟩, .slice A2 nl c2] 48 (0, 0))) := ⟨_, show _ = _ from rfl⟩
  rw [← hw3.out, ← HVB.out]
  have hf3 : Fr No w2 w3 := by rw [hw3.out]; exact (Fr.refl _ _).alloc _
  have hv3 : VIs w3 vb xk xn xt (.slice A2 nl c2) := by rw [hw3.out, HVB.out]; exact blk_new _ _
  have hr3 : VIs w3 rb 0 0 [] (.slice none 0 0) := hf3.heap HV2.out (fun h => h)
  have HF3 := Lib.hid hf3
  have HR3 := Lib.hid hr3
  obtain ⟨b0, b1, b2, b3⟩ := v_cells hv3
  obtain ⟨r0, r1, r2, r3⟩ := v_cells hr3
  have z0 := v_free hr3 0
  have z1 := v_free hr3 1
  have z2 := v_free hr3 2
  have z3 := v_free hr3 3
  have hg : decide ((n : Int) < (n : Int)) = false := by simp
  clear hf3 hv3 hr3 hnl
  go_wp2_with fail
  obtain ⟨w9, hw9⟩ : ∃ w9, Hid (w9 = backW w3 rb xk xn xt (.slice A2 nl c2)) := ⟨_, show _ = _ from rfl⟩
  have hx9 : VIs w9 rb xk xn xt (.slice A2 nl c2) := by rw [hw9.out]; exact back_set HR3.out
  have HF9 : Hid (Fr (fun q => q = rb) w3 w9) := (show Fr _ _ _ from by rw [hw9.out]; exact back_fr _ _ _ _ _ _)
  unfold backW at hw9
  rw [← hw9.out]
  obtain ⟨y0, y1, y2, y3⟩ := v_cells hx9
  clear b0 b1 b2 b3 r0 r1 r2 r3 z0 z1 z2 z3
  (try simp only [Exit.inBlock, Exit.then])
  refine bodyPost_ret (by simp [results, Try.results102, go_sem, y0, y1, y2, y3]; try rfl) rfl ?_
  have hs1 : rb < w1.heap.size := heap_lt HV1.out
  refine (show DecPost _ _ _ _ from ⟨_, rfl, ⟨_, rfl, itR_mono (fun k hk => ?_) _ _ (itR_move (w := w2) (fun k hk hl => ?_) _ _ HIR.out)⟩, ((HF1.out.then HF2.out).then HF3.out).trans HF9.out (fun _ _ h => h) (fun q hq h => by have h' : q = rb := h; have := HRB.out; omega)⟩)
  · have hk' : w1.heap.size ≤ k := hk
    have := HF1.out.size
    show w.heap.size ≤ k
    omega
  · have hk' : w1.heap.size ≤ k := hk
    rw [HF9.out.block k (Nat.lt_of_lt_of_le hl HF3.out.size) (fun h => by have h' : k = rb := h; omega)]
    exact HF3.out.block k hl (fun h => h)
end Go.Proofs.Ytbaohngnpgappaa
