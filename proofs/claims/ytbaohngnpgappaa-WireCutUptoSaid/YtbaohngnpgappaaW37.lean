/- wire's Read. -/
import Derived.Test.YtbaohngnpgappaaW36
set_option linter.unusedVariables false
set_option linter.unusedSimpArgs false
namespace Go.Proofs.Ytbaohngnpgappaa
open Go.RowKit
def ReadPost (w : World) (r : It × Nat × Int) (e : Ending) (w' : World) : Prop :=
  ∃ vv, e = .returned (.tuple #[vv, .int .i64 (r.2.1 : Int), .int .i64 r.2.2]) ∧ ItV w' (New w) vv r.1 ∧ Fr No w w'
theorem wread_end {w wz : World} {rb : Nat} {k n : Int} {s : List UInt8} {l : List It} {vl : Value} {m : Nat} {cc : Int} (hrb : rb = w.heap.size) (hf : Fr (fun q => q = rb) w wz) (hit : ItR wz (fun q => rb < q) (.mk k n s l) [.int .i64 k, .int .i64 n, .string ⟨s.toArray⟩, vl]) :
    ReadPost w (.mk k n s l, m, cc) (.returned (.tuple #[.agg #[.int .i64 k, .int .i64 n, .string ⟨s.toArray⟩, vl], .int .i64 (m : Int), .int .i64 cc])) (backW wz rb k n s vl) := by
  have hb := back_fr wz rb k n s vl
  refine ⟨_, rfl, ⟨_, rfl, itR_mono (fun q hq => ?_) _ _ (itR_move (fun q hq hl => hb.block q hl (fun h => ?_)) _ _ hit)⟩, hf.trans hb (fun q hq h => ?_) (fun q hq h => ?_)⟩
  · show w.heap.size ≤ q
    omega
  · have h' : q = rb := h
    omega
  · have h' : q = rb := h
    omega
  · have h' : q = rb := h
    omega
theorem back_set {w : World} {vb : Nat} {k n k' n' : Int} {s s' : List UInt8} {vl vl' : Value} (h : VIs w vb k n s vl) : VIs (backW w vb k' n' s' vl') vb k' n' s' vl' := v_l (v_s (v_n (v_k h k') n') s') vl'
set_option maxRecDepth 100000 in
set_option maxHeartbeats 4000000 in
theorem wread_any {w : World} {F : Nat → Prop} {v : Value} {L : List UInt8} (h : Rb w F v L) (hl : L.length ≤ 1099511627776) : Calls Try.prog 59 #[v] w (ReadPost w (readI L)) := by
  obtain ⟨A, c, rfl, hc1, hc2⟩ := h.shape
  obtain ⟨N, hN⟩ : ∃ N, N = L.length := ⟨_, rfl⟩
  have HN := Lib.hid hN
  have H : Hid (Rb w (fun k => F k ∧ k < w.heap.size) (.slice A L.length c) L) := (show Rb _ _ _ _ from h.bound)
  have HL := Lib.hid hl
  obtain ⟨rb, hrb⟩ : ∃ rb, rb = w.heap.size := ⟨_, rfl⟩
  obtain ⟨w1, hw1⟩ : ∃ w1, Hid (w1 = (w.alloc (.cells #[.int .i64 0, .int .i64 0, .string ⟨#[]⟩, .slice none 0 0] 48 (0, 0))).alloc (.cells #[.slice A N c, .int .i64 0, .int .i64 0, .int .i64 0] 124 (0, 0))) := ⟨_, show _ = _ from rfl⟩
  have hf1 : Fr No w w1 := by rw [hw1.out]; exact ((Fr.refl _ _).alloc _).alloc _
  have hs1 : w1.heap.size = rb + 2 := by rw [hw1.out, hrb]; simp
  have hv1 : VIs w1 rb 0 0 [] (.slice none 0 0) := by rw [hw1.out, hrb]; exact Fr.heap (S := No) ((Fr.refl _ _).alloc _) (blk_new _ _) (fun h => h)
  have hr1 : RdIs w1 (rb + 1) A N c ⟨0, 0, 0⟩ := by rw [hw1.out, hrb]; exact blk_new' (by simp)
  have HF1 := Lib.hid hf1
  have HS1 := Lib.hid hs1
  have HV1 := Lib.hid hv1
  have HR1 := Lib.hid hr1
  have HRB := Lib.hid hrb
  obtain ⟨X, hX⟩ : ∃ X, Hid (X = readI L) := ⟨_, show _ = _ from rfl⟩
  rw [← hX.out, ← hN]
  rw [← hN] at hc1
  clear h hc2 hl hf1 hs1 hv1 hr1 hN hrb
  obtain ⟨x, t, hx⟩ : ∃ x t, itemR L 41 ⟨0, 0, 0⟩ = (x, t) := ⟨_, _, rfl⟩
  have HXX : Hid (X = if t.e ≠ 0 then (.mk 0 0 [] [], 0, t.e) else (x, t.at_, 0)) := (show _ = _ from by rw [hX.out, readI, hx])
  have HX := Lib.hid hx
  clear hx
  go_enter Try.func59, Try.ntmps59
  go_wp2_with fail
  rw [← hw1.out, ← HRB.out]
  refine (item_any 41 w1 (fun k => F k ∧ k < w.heap.size) (rb + 1) c A L ⟨0, 0, 0⟩ (H.out.fr HF1.out (fun _ _ _ h => h)) (fun k hk h => by have := HRB.out; have := hk.2; omega) (by rw [← HN.out]; exact HR1.out) (Nat.zero_le _) (Nat.zero_le _) (Nat.le_refl _) HL.out).mono ?_
  rw [HX.out, ← HN.out]
  rintro e w2 ⟨vv, rfl, hiv, hr2, hf2⟩
  obtain ⟨xk, xn, xt, xl⟩ := x
  obtain ⟨cs, rfl, hir⟩ := hiv
  have hir0 := hir
  obtain ⟨vx, rfl, hxrow, hxfit⟩ := itR_row hir
  obtain ⟨A2, c2, rfl, _, _⟩ := hxrow.shape
  have HIR := Lib.hid hir0
  have hv2 : VIs w2 rb 0 0 [] (.slice none 0 0) := hf2.heap HV1.out (fun h => by have h' : rb = rb + 1 := h; omega)
  have HV2 := Lib.hid hv2
  have HR2 := Lib.hid hr2
  have HF2 : Hid (Fr No w w2) := (show Fr No w w2 from HF1.out.trans hf2 (fun _ _ h => h) (fun q hq h => by have h' : q = rb + 1 := h; have := HRB.out; omega))
  have hs12 : w1.heap.size ≤ w2.heap.size := hf2.size
  obtain ⟨at_, wt, E⟩ := t
  simp only at hr2 HXX
  clear hir hir0 hxrow hxfit hr2 hf2 hv2
  unfold str at *
  go_upto_region 3 with fail
  obtain ⟨w3, hw3⟩ : ∃ w3, Hid (w3 = w2.alloc (.cells #[.int .i64 xk, .int .i64 xn, .string ⟨xt.toArray⟩, .slice A2 xl.length c2] 48 (0, 0))) := ⟨_, show _ = _ from rfl⟩
  rw [← hw3.out]
  have hf3 : Fr No w2 w3 := by rw [hw3.out]; exact (Fr.refl _ _).alloc _
  have hx3 : VIs w3 w2.heap.size xk xn xt (.slice A2 xl.length c2) := by rw [hw3.out]; exact blk_new _ _
  have hv3 : VIs w3 rb 0 0 [] (.slice none 0 0) := hf3.heap HV2.out (fun h => h)
  have hr3 : RdIs w3 (rb + 1) A N c ⟨at_, wt, E⟩ := hf3.heap HR2.out (fun h => h)
  obtain ⟨g0, g1, g2, g3⟩ := rd_cells hr3
  simp only at g0 g1 g2 g3
  have HF3 : Hid (Fr No w w3) := (show Fr No w w3 from HF2.out.then hf3)
  have HI3 : Hid (ItR w3 (fun q => rb < q) (.mk xk xn xt xl) [.int .i64 xk, .int .i64 xn, .string ⟨xt.toArray⟩, .slice A2 xl.length c2]) := (show ItR _ _ _ _ from itR_mono (fun q hq => by have h' : w1.heap.size ≤ q := hq; have := HS1.out; omega) _ _ (itR_move (fun q _ hq => hf3.block q hq (fun h => h)) _ _ HIR.out))
  have HV3 := Lib.hid hv3
  have HX3 := Lib.hid hx3
  clear hf3 hx3 hv3 hr3
  by_cases hE : E = 0
  · subst hE
    have hXe : Hid (X = (.mk xk xn xt xl, at_, 0)) := (show _ = _ from by rw [HXX.out, if_neg (by simp)])
    go_upto_region 5 with fail
    obtain ⟨k0, k1, k2, k3⟩ := v_cells HX3.out
    obtain ⟨b0, b1, b2, b3⟩ := v_cells HV3.out
    refine wp_seq_region (fun W => W.cell? ⟨w2.heap.size, 0, none⟩ = some (.int .i64 xk) ∧ W.cell? ⟨w2.heap.size, 1, none⟩ = some (.int .i64 xn) ∧ W.cell? ⟨w2.heap.size, 2, none⟩ = some (.string ⟨xt.toArray⟩) ∧ W.cell? ⟨w2.heap.size, 3, none⟩ = some (.slice A2 xl.length c2) ∧ W.cell? ⟨rb + 1, 1, none⟩ = some (.int .i64 at_)) [5] [0, 4] [] [0, 1, 2, 3, 4, 5, 6, 7] (by kernel_rfl) (by kernel_rfl) rfl (by kernel_rfl) (fun _ _ _ _ _ h => h) ?_
    have HS : Hid (w3.drew.cell? ⟨w2.heap.size, 0, none⟩ = some (.int .i64 xk) ∧ w3.drew.cell? ⟨w2.heap.size, 1, none⟩ = some (.int .i64 xn) ∧ w3.drew.cell? ⟨w2.heap.size, 2, none⟩ = some (.string ⟨xt.toArray⟩) ∧ w3.drew.cell? ⟨w2.heap.size, 3, none⟩ = some (.slice A2 xl.length c2) ∧ w3.drew.cell? ⟨rb + 1, 1, none⟩ = some (.int .i64 at_)) := (show _ ∧ _ from ⟨k0, k1, k2, k3, g1⟩)
    clear k0 k1 k2 k3 g0 g1 g2 g3
    repeat (first
      | (refine sq_off (a' := ?_) rfl rfl (by rfl) (fun _ => (HS).out) ?ha ?_; (case ha => simp only [Act.put, List.setIfInBounds_toArray, List.set_cons_zero, List.set_cons_succ]; rfl))
      | (refine sq_any (v := ?_) (a' := ?_) rfl rfl rfl (by rfl) (fun W => ?hr) ?ha ?_; (case hr => go_simp; first | done | rfl); (case ha => simp only [Act.put, List.setIfInBounds_toArray, List.set_cons_zero, List.set_cons_succ]; rfl))
      | (refine sq_load (v := ?_) (a' := ?_) rfl rfl rfl (by rfl) (fun W hSW => ?hr) (HS).out ?ha ?_; (case hr => (try dsimp only at hSW); go_simp; first | done | rfl); (case ha => simp only [Act.put, List.setIfInBounds_toArray, List.set_cons_zero, List.set_cons_succ]; rfl)))
    obtain ⟨w4, hw4⟩ : ∃ w4, Hid (w4 = w3.drew) := ⟨_, show _ = _ from rfl⟩
    rw [← hw4.out]
    have hv4 : VIs w4 rb 0 0 [] (.slice none 0 0) := by rw [hw4.out]; exact HV3.out
    clear b0 b1 b2 b3
    obtain ⟨b0, b1, b2, b3⟩ := v_cells hv4
    have z0 := v_free hv4 0
    have z1 := v_free hv4 1
    have z2 := v_free hv4 2
    have z3 := v_free hv4 3
    obtain ⟨w9, hw9⟩ : ∃ w9, Hid (w9 = backW w4 rb xk xn xt (.slice A2 xl.length c2)) := ⟨_, show _ = _ from rfl⟩
    refine sq_store (w1 := w9) rfl rfl (by rfl) rfl ?hr (fun _ => ?hss) ?_
    case hss =>
      have hb := back_fr w4 rb xk xn xt (.slice A2 xl.length c2)
      rw [← hw9.out] at hb
      obtain ⟨q0, q1, q2, q3, q4⟩ := HS.out
      rw [← hw4.out] at q0 q1 q2 q3 q4
      have h2 : ¬ w2.heap.size = rb := by have := HS1.out; omega
      exact ⟨hb.cell q0 h2, hb.cell q1 h2, hb.cell q2 h2, hb.cell q3 h2, hb.cell q4 (fun h => by have h' : rb + 1 = rb := h; omega)⟩
    case hr => rw [hw9.out]; unfold backW; go_simp; first | done | rfl | (constructor <;> rfl)
    have HEND : Hid (ReadPost w (.mk xk xn xt xl, at_, 0) (.returned (.tuple #[.agg #[.int .i64 xk, .int .i64 xn, .string ⟨xt.toArray⟩, .slice A2 xl.length c2], .int .i64 (at_ : Int), .int .i64 0])) w9) := (show ReadPost _ _ _ _ from by
      rw [hw9.out]
      refine wread_end HRB.out ((HF3.out.mono (fun _ _ h => h.elim)).then (by rw [hw4.out]; exact (Fr.refl _ _).drew)) ?_
      rw [hw4.out]
      exact itR_move (w := w3) (w' := w3.drew) (fun _ _ _ => rfl) _ _ HI3.out)
    have hv9 : VIs w9 rb xk xn xt (.slice A2 xl.length c2) := by rw [hw9.out]; exact back_set hv4
    obtain ⟨y0, y1, y2, y3⟩ := v_cells hv9
    clear b0 b1 b2 b3 z0 z1 z2 z3 hv4
    have HS9 : Hid True := (show True from trivial)
    repeat (first
      | (refine sq_any (v := ?_) (a' := ?_) rfl rfl rfl (by rfl) (fun W => ?hr) ?ha ?_; (case hr => go_simp; first | done | rfl); (case ha => simp only [Act.put, List.setIfInBounds_toArray, List.set_cons_zero, List.set_cons_succ]; rfl)))
    refine sq_done ?_
    go_wp2_with fail
    (try simp only [Exit.inBlock, Exit.then])
    refine bodyPost_ret (by simp [results, Try.results59, go_sem, y0, y1, y2, y3]; try rfl) rfl ?_
    rw [hXe.out]
    exact HEND.out
  · have hXe : Hid (X = (.mk 0 0 [] [], 0, E)) := (show _ = _ from by rw [HXX.out, if_pos hE])
    go_upto_region 4 with fail
    refine wp_seq_region (fun W => W.cell? ⟨rb + 1, 3, none⟩ = some (.int .i64 E)) [5] [4] [] [0, 1, 2, 3, 4, 5, 6, 7] (by kernel_rfl) (by kernel_rfl) rfl (by kernel_rfl) (fun _ _ _ _ _ h => h) ?_
    have HS : Hid (w3.drew.cell? ⟨rb + 1, 3, none⟩ = some (.int .i64 E)) := (show _ = _ from g3)
    clear g0 g1 g2 g3
    repeat (first
      | (refine sq_off (a' := ?_) rfl rfl (by rfl) (fun _ => (HS).out) ?ha ?_; (case ha => simp only [Act.put, List.setIfInBounds_toArray, List.set_cons_zero, List.set_cons_succ]; rfl))
      | (refine sq_any (v := ?_) (a' := ?_) rfl rfl rfl (by rfl) (fun W => ?hr) ?ha ?_; (case hr => go_simp; first | done | rfl); (case ha => simp only [Act.put, List.setIfInBounds_toArray, List.set_cons_zero, List.set_cons_succ]; rfl))
      | (refine sq_load (v := ?_) (a' := ?_) rfl rfl rfl (by rfl) (fun W hSW => ?hr) (HS).out ?ha ?_; (case hr => (try dsimp only at hSW); go_simp; first | done | rfl); (case ha => simp only [Act.put, List.setIfInBounds_toArray, List.set_cons_zero, List.set_cons_succ]; rfl)))
    obtain ⟨w4, hw4⟩ : ∃ w4, Hid (w4 = w3.drew) := ⟨_, show _ = _ from rfl⟩
    rw [← hw4.out]
    have hv4 : VIs w4 rb 0 0 [] (.slice none 0 0) := by rw [hw4.out]; exact HV3.out
    obtain ⟨b0, b1, b2, b3⟩ := v_cells hv4
    have z0 := v_free hv4 0
    have z1 := v_free hv4 1
    have z2 := v_free hv4 2
    have z3 := v_free hv4 3
    obtain ⟨w9, hw9⟩ : ∃ w9, Hid (w9 = backW w4 rb 0 0 [] (.slice none 0 0)) := ⟨_, show _ = _ from rfl⟩
    refine sq_store (w1 := w9) rfl rfl (by rfl) rfl ?hr (fun _ => ?hss) ?_
    case hss =>
      have hb := back_fr w4 rb 0 0 [] (.slice none 0 0)
      rw [← hw9.out] at hb
      have q0 := HS.out
      rw [← hw4.out] at q0
      exact hb.cell q0 (fun h => by have h' : rb + 1 = rb := h; omega)
    case hr => rw [hw9.out]; unfold backW; go_simp; first | done | rfl | (constructor <;> rfl)
    have HEND : Hid (ReadPost w (.mk 0 0 [] [], 0, E) (.returned (.tuple #[.agg #[.int .i64 0, .int .i64 0, .string ⟨#[]⟩, .slice none 0 0], .int .i64 0, .int .i64 E])) w9) := (show ReadPost _ _ _ _ from by
      rw [hw9.out]
      refine wread_end (m := 0) HRB.out ((HF3.out.mono (fun _ _ h => h.elim)).then (by rw [hw4.out]; exact (Fr.refl _ _).drew)) ?_
      exact itR_of_row (s := []) (Row.nil _ _ _ _ _ (Nat.zero_le _)) ⟨by unfold I64; omega, by unfold I64; omega, Nat.zero_le _⟩)
    have hv9 : VIs w9 rb 0 0 [] (.slice none 0 0) := by rw [hw9.out]; exact back_set hv4
    obtain ⟨y0, y1, y2, y3⟩ := v_cells hv9
    clear b0 b1 b2 b3 z0 z1 z2 z3 hv4
    repeat (first
      | (refine sq_any (v := ?_) (a' := ?_) rfl rfl rfl (by rfl) (fun W => ?hr) ?ha ?_; (case hr => go_simp; first | done | rfl); (case ha => simp only [Act.put, List.setIfInBounds_toArray, List.set_cons_zero, List.set_cons_succ]; rfl)))
    refine sq_done ?_
    go_wp2_with fail
    (try simp only [Exit.inBlock, Exit.then])
    refine bodyPost_ret (by simp [results, Try.results59, go_sem, y0, y1, y2, y3]; try rfl) rfl ?_
    rw [hXe.out]
    exact HEND.out
end Go.Proofs.Ytbaohngnpgappaa
