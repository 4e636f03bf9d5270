/- store's clone: what is saved, in memory of its own. -/
import Derived.Test.YtbaohngnpgappaaS1
set_option linter.unusedVariables false
set_option linter.unusedSimpArgs false
namespace Go.Proofs.Ytbaohngnpgappaa
open Go.RowKit
/-- What is saved as six cells of a block. -/
def SIs (w : World) (b : Nat) (t v ba bt : Int) (vs vl : Value) : Prop := w.heap[b]? = some (.cells #[.int .i64 t, .int .i64 v, .int .i64 ba, .int .i64 bt, vs, vl] 68 (0, 0))
theorem s_cells {w : World} {b : Nat} {t v ba bt : Int} {vs vl : Value} (h : SIs w b t v ba bt vs vl) : w.cell? ⟨b, 0, none⟩ = some (.int .i64 t) ∧ w.cell? ⟨b, 1, none⟩ = some (.int .i64 v) ∧ w.cell? ⟨b, 2, none⟩ = some (.int .i64 ba) ∧ w.cell? ⟨b, 3, none⟩ = some (.int .i64 bt) ∧ w.cell? ⟨b, 4, none⟩ = some vs ∧ w.cell? ⟨b, 5, none⟩ = some vl :=
  ⟨blk_cell h 0, blk_cell h 1, blk_cell h 2, blk_cell h 3, blk_cell h 4, blk_cell h 5⟩
theorem s_free {w : World} {b : Nat} {t v ba bt : Int} {vs vl : Value} (h : SIs w b t v ba bt vs vl) (i : Nat) : w.frozen? ⟨b, i, none⟩ = false := blk_free h i
def back6 (w : World) (b : Nat) (t v ba bt : Int) (vs vl : Value) : World := (((((w.setCell ⟨b, 0, none⟩ (.int .i64 t)).setCell ⟨b, 1, none⟩ (.int .i64 v)).setCell ⟨b, 2, none⟩ (.int .i64 ba)).setCell ⟨b, 3, none⟩ (.int .i64 bt)).setCell ⟨b, 4, none⟩ vs).setCell ⟨b, 5, none⟩ vl
theorem back6_s {w : World} {b : Nat} {t v ba bt t' v' ba' bt' : Int} {vs vl vs' vl' : Value} (h : SIs w b t v ba bt vs vl) : SIs (back6 w b t' v' ba' bt' vs' vl') b t' v' ba' bt' vs' vl' := by
  have h0 := blk_set h 0 (.int .i64 t')
  have h1 := blk_set h0 1 (.int .i64 v')
  have h2 := blk_set h1 2 (.int .i64 ba')
  have h3 := blk_set h2 3 (.int .i64 bt')
  have h4 := blk_set h3 4 vs'
  exact blk_set h4 5 vl'
theorem back6_fr (w : World) (b : Nat) (t v ba bt : Int) (vs vl : Value) : Fr (fun q => q = b) w (back6 w b t v ba bt vs vl) := (((((Fr.one _ _).then (Fr.one _ _)).then (Fr.one _ _)).then (Fr.one _ _)).then (Fr.one _ _)).then (Fr.one _ _)
theorem s_vs {w : World} {b : Nat} {t v ba bt : Int} {vs vl : Value} (h : SIs w b t v ba bt vs vl) (z : Value) : SIs (w.setCell ⟨b, 4, none⟩ z) b t v ba bt z vl := blk_set h 4 z
theorem s_vl {w : World} {b : Nat} {t v ba bt : Int} {vs vl : Value} (h : SIs w b t v ba bt vs vl) (z : Value) : SIs (w.setCell ⟨b, 5, none⟩ z) b t v ba bt vs z := blk_set h 5 z
/-- Small enough to be copied. -/
def Sv.lim (s : Sv) : Prop := s.l.length ≤ 1048576 ∧ (∀ x ∈ s.l, x.2.length ≤ 140737488355328) ∧ s.snap.length ≤ 140737488355328
def SvPost (w : World) (s : Sv) (e : Ending) (w' : World) : Prop := ∃ v, e = .returned v ∧ KV SvK w' (New w) v s ∧ Fr No w w'
set_option maxRecDepth 100000 in
set_option maxHeartbeats 4000000 in
theorem sclone_any {w : World} {F : Nat → Prop} {vv : Value} {s : Sv} (h : KV SvK w F vv s) (hlim : s.lim) : Calls Try.prog 81 #[vv] w (SvPost w s) := by
  obtain ⟨st, sv, sb, sbt, sn, sl⟩ := s
  obtain ⟨cs, rfl, ⟨vs, vl, rfl, hbs, hrow, i1, i2, i3, i4⟩⟩ := h
  obtain ⟨As, cs, rfl, _, _⟩ := hbs.shape
  obtain ⟨Al, cl, rfl, _, _⟩ := hrow.shape
  simp only at hbs hrow i1 i2 i3 i4 ⊢
  obtain ⟨ns, hns⟩ : ∃ n, n = sn.length := ⟨_, rfl⟩
  obtain ⟨nl, hnl⟩ : ∃ n, n = sl.length := ⟨_, rfl⟩
  rw [← hns] at hbs ⊢
  rw [← hnl] at hrow ⊢
  have HBS := Lib.hid hbs
  have HROW := Lib.hid hrow
  have HNS := Lib.hid hns
  have HNL := Lib.hid hnl
  have HI : Hid (I64 st ∧ I64 sv ∧ I64 sb ∧ I64 sbt) := (show _ ∧ _ from ⟨i1, i2, i3, i4⟩)
  have HLIM : Hid (sl.length ≤ 1048576 ∧ (∀ x ∈ sl, x.2.length ≤ 140737488355328) ∧ sn.length ≤ 140737488355328) := (show _ ∧ _ from hlim)
  obtain ⟨xb, hxb⟩ : ∃ b, b = w.heap.size := ⟨_, rfl⟩
  obtain ⟨w1, hw1⟩ : ∃ w1, Hid (w1 = (w.alloc (.cells #[.int .i64 st, .int .i64 sv, .int .i64 sb, .int .i64 sbt, .slice As ns cs, .slice Al nl cl] 68 (0, 0))).alloc (.cells #[.int .i64 0, .int .i64 0, .int .i64 0, .int .i64 0, .slice none 0 0, .slice none 0 0] 68 (0, 0))) := ⟨_, show _ = _ from rfl⟩
  have hf1 : Fr No w w1 := by rw [hw1.out]; exact ((Fr.refl _ _).alloc _).alloc _
  have hx1 : SIs w1 xb st sv sb sbt (.slice As ns cs) (.slice Al nl cl) := by rw [hw1.out, hxb]; exact Fr.heap (S := No) ((Fr.refl _ _).alloc _) (blk_new _ _) (fun h => h)
  have hr1 : SIs w1 (xb + 1) 0 0 0 0 (.slice none 0 0) (.slice none 0 0) := by rw [hw1.out, hxb]; exact blk_new' (by simp)
  have hs1 : w1.heap.size = xb + 2 := by rw [hw1.out, hxb]; simp
  have HF1 := Lib.hid hf1
  have HX1 := Lib.hid hx1
  have HR1 := Lib.hid hr1
  have HS1 := Lib.hid hs1
  have HXB := Lib.hid hxb
  clear hbs hrow hns hnl i1 i2 i3 i4 hlim hf1 hx1 hr1 hs1 hxb
  go_enter Try.func81, Try.ntmps81
  go_upto_region 1 with fail
  rw [← hw1.out, ← HXB.out]
  obtain ⟨b0, b1, b2, b3, b4, b5⟩ := s_cells HX1.out
  refine wp_seq_region (fun W => W.cell? ⟨xb, 4, none⟩ = some (.slice As ns cs) ∧ W.cell? ⟨xb, 5, none⟩ = some (.slice Al nl cl)) [2, 5, 7, 9] [1, 4] [7, 9] [0, 1, 3, 4, 2, 6, 5, 7, 8, 9] (by kernel_rfl) (by kernel_rfl) rfl (by kernel_rfl) (fun _ _ _ _ _ h => h) ?_
  have HS : Hid (w1.drew.cell? ⟨xb, 4, none⟩ = some (.slice As ns cs) ∧ w1.drew.cell? ⟨xb, 5, none⟩ = some (.slice Al nl cl)) := (show _ ∧ _ from ⟨b4, b5⟩)
  clear b0 b1 b2 b3 b4 b5
  repeat (first
    | (refine sq_off (a' := ?_) rfl rfl (by rfl) (fun _ => (HS).out) ?ha ?_; (case ha => simp only [Act.put, List.setIfInBounds_toArray, List.set_cons_zero, List.set_cons_succ]; rfl))
    | (refine sq_any (v := ?_) (a' := ?_) rfl rfl rfl (by rfl) (fun W => ?hr) ?ha ?_; (case hr => go_simp; first | done | rfl); (case ha => simp only [Act.put, List.setIfInBounds_toArray, List.set_cons_zero, List.set_cons_succ]; rfl))
    | (refine sq_load (v := ?_) (a' := ?_) rfl rfl rfl (by rfl) (fun W hSW => ?hr) (HS).out ?ha ?_; (case hr => (try dsimp only at hSW); go_simp; first | done | rfl); (case ha => simp only [Act.put, List.setIfInBounds_toArray, List.set_cons_zero, List.set_cons_succ]; rfl)))
  refine sq_call rfl rfl (by rfl) rfl Try.func91 rfl rfl [.slice Al nl cl] rfl ?_
  refine (own_any (w := w1.drew) (HROW.out.fr (by decide) HF1.out.drew (fun _ _ _ h => h)) HLIM.out.1 HLIM.out.2.1).mono ?_
  rintro e w2 ⟨v2, rfl, hown2, hf2⟩
  obtain ⟨A2, c2, rfl, _, _⟩ := hown2.shape
  rw [← HNL.out] at hown2
  rw [← HNL.out]
  have hrd2 : Row EnK w2 (New w1.drew) (.slice A2 nl c2) sl := hown2.reads.mono (fun k hk => by rcases hk with h | h; exact h; exact h.1)
  have HRD2 := Lib.hid hrd2
  have HF12 : Hid (Fr No w1.drew w2) := (show Fr No _ _ from hf2)
  have HS2 : Hid (w2.cell? ⟨xb, 4, none⟩ = some (.slice As ns cs) ∧ w2.cell? ⟨xb, 5, none⟩ = some (.slice Al nl cl)) := (show _ ∧ _ from ⟨hf2.cell HS.out.1 (fun h => h), hf2.cell HS.out.2 (fun h => h)⟩)
  refine ⟨_, rfl, fun _ => HS2.out, ?_⟩
  simp only [Act.put, List.setIfInBounds_toArray, List.set_cons_zero, List.set_cons_succ]
  clear hown2 hrd2 hf2
  repeat (first
    | (refine sq_off (a' := ?_) rfl rfl (by rfl) (fun _ => (HS2).out) ?ha ?_; (case ha => simp only [Act.put, List.setIfInBounds_toArray, List.set_cons_zero, List.set_cons_succ]; rfl))
    | (refine sq_any (v := ?_) (a' := ?_) rfl rfl rfl (by rfl) (fun W => ?hr) ?ha ?_; (case hr => go_simp; first | done | rfl); (case ha => simp only [Act.put, List.setIfInBounds_toArray, List.set_cons_zero, List.set_cons_succ]; rfl))
    | (refine sq_load (v := ?_) (a' := ?_) rfl rfl rfl (by rfl) (fun W hSW => ?hr) (HS2).out ?ha ?_; (case hr => (try dsimp only at hSW); go_simp; first | done | rfl); (case ha => simp only [Act.put, List.setIfInBounds_toArray, List.set_cons_zero, List.set_cons_succ]; rfl)))
  refine sq_call rfl rfl (by rfl) rfl Try.func64 rfl rfl [.slice As ns cs] rfl ?_
  refine (clone8 (w := w2) (HBS.out.fr (HF1.out.drew.then HF12.out) (fun _ _ _ h => h)) HLIM.out.2.2).mono ?_
  rw [← HNS.out]
  rintro e w3 ⟨v3, rfl, hown3, hf3⟩
  obtain ⟨A3, c3, rfl, _, _⟩ := hown3.shape
  have HRD3 : Hid (Rb w3 (New w2) (.slice A3 ns c3) sn) := (show Rb _ _ _ _ from by
    have h := hown3
    rw [HNS.out] at h ⊢
    exact h.reads)
  have HF13 : Hid (Fr No w1 w3) := (show Fr No w1 w3 from ((Fr.refl No w1).drew.then HF12.out).then hf3)
  have HRD23 : Hid (Row EnK w3 (New w1.drew) (.slice A2 nl c2) sl) := (show Row _ _ _ _ _ from HRD2.out.fr (by decide) hf3 (fun _ _ _ h => h))
  have HS3 : Hid (w3.cell? ⟨xb, 4, none⟩ = some (.slice As ns cs) ∧ w3.cell? ⟨xb, 5, none⟩ = some (.slice Al nl cl)) := (show _ ∧ _ from ⟨hf3.cell HS2.out.1 (fun h => h), hf3.cell HS2.out.2 (fun h => h)⟩)
  have HSZ2 : Hid (w1.heap.size ≤ w2.heap.size) := (show _ ≤ _ from HF12.out.size)
  refine ⟨_, rfl, fun _ => HS3.out, ?_⟩
  simp only [Act.put, List.setIfInBounds_toArray, List.set_cons_zero, List.set_cons_succ]
  clear hown3 hf3
  have hx3 : SIs w3 xb st sv sb sbt (.slice As ns cs) (.slice Al nl cl) := HF13.out.heap HX1.out (fun h => h)
  obtain ⟨b0, b1, b2, b3, b4, b5⟩ := s_cells hx3
  have z4 := s_free hx3 4
  have z5 := s_free hx3 5
  have HX3 := Lib.hid hx3
  clear hx3
  repeat (first
    | (refine sq_off (a' := ?_) rfl rfl (by rfl) (fun _ => (HS3).out) ?ha ?_; (case ha => simp only [Act.put, List.setIfInBounds_toArray, List.set_cons_zero, List.set_cons_succ]; rfl))
    | (refine sq_any (v := ?_) (a' := ?_) rfl rfl rfl (by rfl) (fun W => ?hr) ?ha ?_; (case hr => go_simp; first | done | rfl); (case ha => simp only [Act.put, List.setIfInBounds_toArray, List.set_cons_zero, List.set_cons_succ]; rfl))
    | (refine sq_load (v := ?_) (a' := ?_) rfl rfl rfl (by rfl) (fun W hSW => ?hr) (HS3).out ?ha ?_; (case hr => (try dsimp only at hSW); go_simp; first | done | rfl); (case ha => simp only [Act.put, List.setIfInBounds_toArray, List.set_cons_zero, List.set_cons_succ]; rfl)))
  refine sq_store (w1 := w3.setCell ⟨xb, 5, none⟩ (.slice A2 nl c2)) rfl rfl (by rfl) rfl ?hr (fun h => absurd (by decide) h) ?_
  case hr => go_simp; first | done | rfl | (constructor <;> rfl)
  obtain ⟨w4, hw4⟩ : ∃ w4, Hid (w4 = w3.setCell ⟨xb, 5, none⟩ (.slice A2 nl c2)) := ⟨_, show _ = _ from rfl⟩
  rw [← hw4.out]
  have hx4 : SIs w4 xb st sv sb sbt (.slice As ns cs) (.slice A2 nl c2) := by rw [hw4.out]; exact s_vl HX3.out _
  have hf4 : Fr (fun q => q = xb) w3 w4 := by rw [hw4.out]; exact Fr.one _ _
  have HF4 := Lib.hid hf4
  have HX4 := Lib.hid hx4
  clear b0 b1 b2 b3 b4 b5 z4 z5
  obtain ⟨b0, b1, b2, b3, b4, b5⟩ := s_cells hx4
  have z4 := s_free hx4 4
  clear hx4 hf4
  have HS4 : Hid True := (show True from trivial)
  repeat (first
    | (refine sq_any (v := ?_) (a' := ?_) rfl rfl rfl (by rfl) (fun W => ?hr) ?ha ?_; (case hr => go_simp; first | done | rfl); (case ha => simp only [Act.put, List.setIfInBounds_toArray, List.set_cons_zero, List.set_cons_succ]; rfl)))
  refine sq_store (w1 := w4.setCell ⟨xb, 4, none⟩ (.slice A3 ns c3)) rfl rfl (by rfl) rfl ?hr (fun h => absurd (by decide) h) ?_
  case hr => go_simp; first | done | rfl | (constructor <;> rfl)
  obtain ⟨w5, hw5⟩ : ∃ w5, Hid (w5 = w4.setCell ⟨xb, 4, none⟩ (.slice A3 ns c3)) := ⟨_, show _ = _ from rfl⟩
  rw [← hw5.out]
  have hx5 : SIs w5 xb st sv sb sbt (.slice A3 ns c3) (.slice A2 nl c2) := by rw [hw5.out]; exact s_vs HX4.out _
  have hf5 : Fr (fun q => q = xb) w4 w5 := by rw [hw5.out]; exact Fr.one _ _
  have HF35 : Hid (Fr (fun q => q = xb) w3 w5) := (show Fr _ _ _ from HF4.out.then hf5)
  clear b0 b1 b2 b3 b4 b5 z4
  obtain ⟨b0, b1, b2, b3, b4, b5⟩ := s_cells hx5
  have HX5 := Lib.hid hx5
  clear hx5 hf5
  refine sq_done ?_
  have hr5 : SIs w5 (xb + 1) 0 0 0 0 (.slice none 0 0) (.slice none 0 0) := HF35.out.heap (HF13.out.heap HR1.out (fun h => h)) (fun h => by have h' : xb + 1 = xb := h; omega)
  obtain ⟨r0, r1, r2, r3, r4, r5⟩ := s_cells hr5
  have z0 := s_free hr5 0
  have z1 := s_free hr5 1
  have z2 := s_free hr5 2
  have z3 := s_free hr5 3
  have z4 := s_free hr5 4
  have z5 := s_free hr5 5
  have HR5 := Lib.hid hr5
  clear hr5
  go_wp2_with fail
  obtain ⟨w9, hw9⟩ : ∃ w9, Hid (w9 = (((((w5.setCell ⟨xb + 1, 0, none⟩ (.int .i64 st)).setCell ⟨xb + 1, 1, none⟩ (.int .i64 sv)).setCell ⟨xb + 1, 2, none⟩ (.int .i64 sb)).setCell ⟨xb + 1, 3, none⟩ (.int .i64 sbt)).setCell ⟨xb + 1, 4, none⟩ (.slice A3 ns c3)).setCell ⟨xb + 1, 5, none⟩ (.slice A2 nl c2)) := ⟨_, show _ = _ from rfl⟩
  rw [← hw9.out]
  have hx9 : SIs w9 (xb + 1) st sv sb sbt (.slice A3 ns c3) (.slice A2 nl c2) := by rw [hw9.out]; exact back6_s HR5.out
  have HF9 : Hid (Fr (fun q => q = xb ∨ q = xb + 1) w3 w9) := (show Fr _ _ _ from by
    rw [hw9.out]
    exact HF35.out.trans (back6_fr w5 (xb + 1) st sv sb sbt (.slice A3 ns c3) (.slice A2 nl c2)) (U := fun q => q = xb ∨ q = xb + 1) (fun _ _ h => .inl h) (fun _ _ h => .inr h))
  obtain ⟨y0, y1, y2, y3, y4, y5⟩ := s_cells hx9
  clear b0 b1 b2 b3 b4 b5 r0 r1 r2 r3 r4 r5 z0 z1 z2 z3 z4 z5
  (try simp only [Exit.inBlock, Exit.then])
  refine bodyPost_ret (by simp [results, Try.results81, go_sem, y0, y1, y2, y3, y4, y5]; try rfl) rfl ?_
  have hd : w1.drew.heap.size = w1.heap.size := rfl
  refine (show SvPost _ _ _ _ from ⟨_, rfl, ⟨_, rfl, ⟨_, _, rfl, ?_, ?_, HI.out.1, HI.out.2.1, HI.out.2.2.1, HI.out.2.2.2⟩⟩, ?_⟩)
  · refine (HRD3.out.fr HF9.out (fun k _ hk h => ?_)).mono (fun k hk => ?_)
    · have h1 : w2.heap.size ≤ k := hk
      have := HSZ2.out
      have := HS1.out
      rcases h with h | h
      · have h' : k = xb := h; omega
      · have h' : k = xb + 1 := h; omega
    · have h1 : w2.heap.size ≤ k := hk
      have := HSZ2.out
      have := HS1.out
      have := HXB.out
      show w.heap.size ≤ k
      omega
  · refine (HRD23.out.fr (by decide) HF9.out (fun k _ hk h => ?_)).mono (fun k hk => ?_)
    · have h1 : w1.drew.heap.size ≤ k := hk
      have := HS1.out
      rcases h with h | h
      · have h' : k = xb := h; omega
      · have h' : k = xb + 1 := h; omega
    · have h1 : w1.drew.heap.size ≤ k := hk
      have := HS1.out
      have := HXB.out
      show w.heap.size ≤ k
      omega
  · exact (HF1.out.then HF13.out).trans HF9.out (fun _ _ h => h) (fun q hq h => by
      have := HXB.out
      rcases h with h | h
      · have h' : q = xb := h; omega
      · have h' : q = xb + 1 := h; omega)
end Go.Proofs.Ytbaohngnpgappaa
