/- WireChecks: its walk. -/
import Derived.Test.YtbaohngnpgappaaW14
set_option linter.unusedVariables false
set_option linter.unusedSimpArgs false
namespace Go.Proofs.Ytbaohngnpgappaa
open Go.RowKit
set_option maxRecDepth 100000 in
set_option maxHeartbeats 2000000 in
theorem wchecks_any {w : World} {F : Nat → Prop} {v1 v2 : Value} {x y : It} (h1 : ItV w F v1 x) (h2 : ItV w F v2 y) : Calls Try.prog 11 #[v1, v2] w (Told (.bool true) w) := by
  obtain ⟨k, n, s, l⟩ := x
  obtain ⟨k', n', s', l'⟩ := y
  obtain ⟨cs, rfl, hr⟩ := h1
  obtain ⟨cs', rfl, hr'⟩ := h2
  have hr0 := hr
  have hr0' := hr'
  obtain ⟨vl, rfl, hrow, hfit⟩ := itR_row hr
  obtain ⟨A, c, rfl, hc1, hc2⟩ := hrow.shape
  obtain ⟨vl, rfl, hrow', hfit'⟩ := itR_row hr'
  obtain ⟨A', c', rfl, hc1', hc2'⟩ := hrow'.shape
  have HR := Lib.hid hr0
  have HR' := Lib.hid hr0'
  clear hr hr' hr0 hr0' hrow hrow' hfit hfit' hc1 hc2 hc1' hc2'
  unfold str
  unfold str at HR HR'
  go_enter Try.func11, Try.ntmps11
  go_wp2_with fail
  obtain ⟨w1, hw1⟩ : ∃ w1, Hid (w1 = (w.alloc (.cells #[.int .i64 k, .int .i64 n, .string ⟨s.toArray⟩, .slice A l.length c] 48 (0, 0))).alloc (.cells #[.int .i64 k', .int .i64 n', .string ⟨s'.toArray⟩, .slice A' l'.length c'] 48 (0, 0))) := ⟨_, rfl⟩
  rw [← hw1.out]
  have hf1 : Fr No w w1 := by rw [hw1.out]; exact ((Fr.refl _ _).alloc _).alloc _
  have hb1 : w1.heap[w.heap.size]? = some (.cells #[.int .i64 k, .int .i64 n, .string ⟨s.toArray⟩, .slice A l.length c] 48 (0, 0)) := by rw [hw1.out]; exact Fr.heap (S := No) ((Fr.refl _ _).alloc _) (blk_new _ _) (fun h => h)
  have hb2 : w1.heap[w.heap.size + 1]? = some (.cells #[.int .i64 k', .int .i64 n', .string ⟨s'.toArray⟩, .slice A' l'.length c'] 48 (0, 0)) := by rw [hw1.out]; exact blk_new' (by simp)
  have HF1 := Lib.hid hf1
  have HB1 := Lib.hid hb1
  have HB2 := Lib.hid hb2
  clear hf1 hb1 hb2
  refine (wlive_any w1).mono ?_
  rintro e w2 ⟨rfl, hf2⟩
  have hb1 := hf2.heap HB1.out (fun h => h)
  have hb2 := hf2.heap HB2.out (fun h => h)
  have HF2 := Lib.hid (HF1.out.then hf2)
  clear hf2
  have d00 := blk_cell hb1 0
  have d01 := blk_cell hb1 1
  have d02 := blk_cell hb1 2
  have d03 := blk_cell hb1 3
  have d10 := blk_cell hb2 0
  have d11 := blk_cell hb2 1
  have d12 := blk_cell hb2 2
  have d13 := blk_cell hb2 3
  simp only [List.getElem?_toArray, List.getElem?_cons_zero, List.getElem?_cons_succ] at d00 d01 d02 d03 d10 d11 d12 d13
  have HS2 : Hid (w2.cell? ⟨w.heap.size, 0, none⟩ = some (.int .i64 k) ∧ w2.cell? ⟨w.heap.size, 1, none⟩ = some (.int .i64 n) ∧ w2.cell? ⟨w.heap.size, 2, none⟩ = some (.string ⟨s.toArray⟩) ∧ w2.cell? ⟨w.heap.size, 3, none⟩ = some (.slice A l.length c) ∧ w2.cell? ⟨w.heap.size + 1, 0, none⟩ = some (.int .i64 k') ∧ w2.cell? ⟨w.heap.size + 1, 1, none⟩ = some (.int .i64 n') ∧ w2.cell? ⟨w.heap.size + 1, 2, none⟩ = some (.string ⟨s'.toArray⟩) ∧ w2.cell? ⟨w.heap.size + 1, 3, none⟩ = some (.slice A' l'.length c')) := (show _ ∧ _ from ⟨d00, d01, d02, d03, d10, d11, d12, d13⟩)
  clear hb1 hb2
  go_wp2_with fail
  obtain ⟨w3, hw3⟩ : ∃ w3, Hid (w3 = w2.alloc (.cells #[.int .i64 k, .int .i64 n, .string ⟨s.toArray⟩, .slice A l.length c, .int .i64 k', .int .i64 n', .string ⟨s'.toArray⟩, .slice A' l'.length c'] 48 (0, 0))) := ⟨_, rfl⟩
  rw [← hw3.out]
  have hf3 : Fr No w2 w3 := by rw [hw3.out]; exact (Fr.refl _ _).alloc _
  have hb3 : w3.heap[w2.heap.size]? = some (.cells #[.int .i64 k, .int .i64 n, .string ⟨s.toArray⟩, .slice A l.length c, .int .i64 k', .int .i64 n', .string ⟨s'.toArray⟩, .slice A' l'.length c'] 48 (0, 0)) := by rw [hw3.out]; exact blk_new _ _
  have HF3 := Lib.hid (HF2.out.then hf3)
  have HRW : Hid (ItR w3 (fun _ => True) (.mk k n s l) [.int .i64 k, .int .i64 n, .string ⟨s.toArray⟩, .slice A l.length c]) := (show ItR _ _ _ _ from itR_mono (fun _ _ => trivial) _ _ (itR_move (fun q _ hq => HF3.out.block q hq (fun h => h)) _ _ HR.out))
  have HRW' : Hid (ItR w3 (fun _ => True) (.mk k' n' s' l') [.int .i64 k', .int .i64 n', .string ⟨s'.toArray⟩, .slice A' l'.length c']) := (show ItR _ _ _ _ from itR_mono (fun _ _ => trivial) _ _ (itR_move (fun q _ hq => HF3.out.block q hq (fun h => h)) _ _ HR'.out))
  have hrow : Row ItK w3 (fun _ => True) (.slice (some ⟨w2.heap.size, 0, none⟩) 2 2) [.mk k n s l, .mk k' n' s' l'] := by
    refine ⟨_, 2, rfl, Nat.le_refl _, by decide, fun j x hj => ?_⟩
    rcases j with _ | _ | j
    · cases hj
      refine ⟨_, 0, _, rfl, trivial, HRW.out, fun i u hu => ?_⟩
      rw [blk_cell hb3]
      rcases i with _ | _ | _ | _ | i
      · exact hu
      · exact hu
      · exact hu
      · exact hu
      · simp at hu
    · cases hj
      refine ⟨_, 0, _, rfl, trivial, HRW'.out, fun i u hu => ?_⟩
      rw [blk_cell hb3]
      rcases i with _ | _ | _ | _ | i
      · exact hu
      · exact hu
      · exact hu
      · exact hu
      · simp at hu
    · simp at hj
  clear hb3
  obtain ⟨B, hB⟩ : ∃ B, Hid (B = bigB [.mk k n s l, .mk k' n' s' l']) := ⟨_, rfl⟩
  refine (big_any hrow).mono ?_
  rw [← hB.out]
  rintro e w4 ⟨rfl, hf4⟩
  have HF34 : Hid (Fr No w3 w4) := (show Fr No w3 w4 from hf4)
  have HS3 : Hid (w3.cell? ⟨w.heap.size, 0, none⟩ = some (.int .i64 k) ∧ w3.cell? ⟨w.heap.size, 1, none⟩ = some (.int .i64 n) ∧ w3.cell? ⟨w.heap.size, 2, none⟩ = some (.string ⟨s.toArray⟩) ∧ w3.cell? ⟨w.heap.size, 3, none⟩ = some (.slice A l.length c) ∧ w3.cell? ⟨w.heap.size + 1, 0, none⟩ = some (.int .i64 k') ∧ w3.cell? ⟨w.heap.size + 1, 1, none⟩ = some (.int .i64 n') ∧ w3.cell? ⟨w.heap.size + 1, 2, none⟩ = some (.string ⟨s'.toArray⟩) ∧ w3.cell? ⟨w.heap.size + 1, 3, none⟩ = some (.slice A' l'.length c')) := (show _ ∧ _ from by obtain ⟨q0, q1, q2, q3, q4, q5, q6, q7⟩ := HS2.out; exact ⟨hf3.cell q0 (fun h => h), hf3.cell q1 (fun h => h), hf3.cell q2 (fun h => h), hf3.cell q3 (fun h => h), hf3.cell q4 (fun h => h), hf3.cell q5 (fun h => h), hf3.cell q6 (fun h => h), hf3.cell q7 (fun h => h)⟩)
  clear hf3 hf4 hrow d00 d01 d02 d03 d10 d11 d12 d13 HS2
  cases B
  · have hm := bigB_mem hB.out.symm
    have hs1 := hm _ List.mem_cons_self
    have hs2 := hm _ (List.mem_cons_of_mem _ List.mem_cons_self)
    have HZ : Hid (It.size (.mk k n s l) ≤ 2000) := (show _ ≤ _ from hs1)
    have HZ' : Hid (It.size (.mk k' n' s' l') ≤ 2000) := (show _ ≤ _ from hs2)
    clear hm hs1 hs2
    go_wp2_with fail
    refine wp_seq_region (fun W => W.cell? ⟨w.heap.size, 0, none⟩ = some (.int .i64 k) ∧ W.cell? ⟨w.heap.size, 1, none⟩ = some (.int .i64 n) ∧ W.cell? ⟨w.heap.size, 2, none⟩ = some (.string ⟨s.toArray⟩) ∧ W.cell? ⟨w.heap.size, 3, none⟩ = some (.slice A l.length c) ∧ W.cell? ⟨w.heap.size + 1, 0, none⟩ = some (.int .i64 k') ∧ W.cell? ⟨w.heap.size + 1, 1, none⟩ = some (.int .i64 n') ∧ W.cell? ⟨w.heap.size + 1, 2, none⟩ = some (.string ⟨s'.toArray⟩) ∧ W.cell? ⟨w.heap.size + 1, 3, none⟩ = some (.slice A' l'.length c')) [3, 5, 11, 14, 19, 21] [2, 4, 9, 10, 12, 13, 18, 20] [] [0, 1, 2, 4, 3, 5, 6, 7, 8, 9, 10, 12, 13, 11, 14, 15, 16, 17, 18, 20, 19, 21, 22, 23, 24] (by kernel_rfl) (by kernel_rfl) rfl (by kernel_rfl) (fun _ _ _ _ _ h => h) ?_
    have HS0 : Hid (w3.cell? ⟨w.heap.size, 0, none⟩ = some (.int .i64 k) ∧ w3.cell? ⟨w.heap.size, 1, none⟩ = some (.int .i64 n) ∧ w3.cell? ⟨w.heap.size, 2, none⟩ = some (.string ⟨s.toArray⟩) ∧ w3.cell? ⟨w.heap.size, 3, none⟩ = some (.slice A l.length c) ∧ w3.cell? ⟨w.heap.size + 1, 0, none⟩ = some (.int .i64 k') ∧ w3.cell? ⟨w.heap.size + 1, 1, none⟩ = some (.int .i64 n') ∧ w3.cell? ⟨w.heap.size + 1, 2, none⟩ = some (.string ⟨s'.toArray⟩) ∧ w3.cell? ⟨w.heap.size + 1, 3, none⟩ = some (.slice A' l'.length c')) := (show _ ∧ _ from by obtain ⟨q0, q1, q2, q3, q4, q5, q6, q7⟩ := HS3.out; exact ⟨q0, q1, q2, q3, q4, q5, q6, q7⟩)
    have HS : Hid (w4.drew.cell? ⟨w.heap.size, 0, none⟩ = some (.int .i64 k) ∧ w4.drew.cell? ⟨w.heap.size, 1, none⟩ = some (.int .i64 n) ∧ w4.drew.cell? ⟨w.heap.size, 2, none⟩ = some (.string ⟨s.toArray⟩) ∧ w4.drew.cell? ⟨w.heap.size, 3, none⟩ = some (.slice A l.length c) ∧ w4.drew.cell? ⟨w.heap.size + 1, 0, none⟩ = some (.int .i64 k') ∧ w4.drew.cell? ⟨w.heap.size + 1, 1, none⟩ = some (.int .i64 n') ∧ w4.drew.cell? ⟨w.heap.size + 1, 2, none⟩ = some (.string ⟨s'.toArray⟩) ∧ w4.drew.cell? ⟨w.heap.size + 1, 3, none⟩ = some (.slice A' l'.length c')) := (show _ ∧ _ from by obtain ⟨q0, q1, q2, q3, q4, q5, q6, q7⟩ := HS3.out; exact ⟨HF34.out.cell q0 (fun h => h), HF34.out.cell q1 (fun h => h), HF34.out.cell q2 (fun h => h), HF34.out.cell q3 (fun h => h), HF34.out.cell q4 (fun h => h), HF34.out.cell q5 (fun h => h), HF34.out.cell q6 (fun h => h), HF34.out.cell q7 (fun h => h)⟩)
    have HFd : Hid (Fr No w3 w4.drew) := (show Fr No w3 w4.drew from HF34.out.drew)
    obtain ⟨cx, hcx⟩ : ∃ cx, Hid (cx = checkI (.mk k n s l)) := ⟨_, rfl⟩
    obtain ⟨D, hD⟩ : ∃ D, Hid (D = It.same (.mk k n s l) (.mk k' n' s' l')) := ⟨_, rfl⟩
    obtain ⟨sx, hsx⟩ : ∃ sx : Nat, Hid (sx = It.size (.mk k n s l)) := ⟨_, rfl⟩
    repeat (first
      | (refine sq_off (a' := ?_) rfl rfl (by rfl) (fun _ => (HS).out) ?ha ?_; (case ha => simp only [Act.put, List.setIfInBounds_toArray, List.set_cons_zero, List.set_cons_succ]; rfl))
      | (refine sq_any (v := ?_) (a' := ?_) rfl rfl rfl (by rfl) (fun W => ?hr) ?ha ?_; (case hr => go_simp; first | done | rfl); (case ha => simp only [Act.put, List.setIfInBounds_toArray, List.set_cons_zero, List.set_cons_succ]; rfl))
      | (refine sq_load (v := ?_) (a' := ?_) rfl rfl rfl (by rfl) (fun W hSW => ?hr) (HS).out ?ha ?_; (case hr => (try dsimp only at hSW); go_simp; first | done | rfl); (case ha => simp only [Act.put, List.setIfInBounds_toArray, List.set_cons_zero, List.set_cons_succ]; rfl)))
    refine sq_call rfl rfl (by rfl) rfl Try.func49 rfl rfl [.agg #[.int .i64 k, .int .i64 n, .string ⟨s.toArray⟩, .slice A l.length c]] rfl ?_
    refine ((check_any (show ItV w4.drew (fun _ => True) _ _ from ⟨_, rfl, itR_move (fun q _ hq => HFd.out.block q hq (fun h => h)) _ _ HRW.out⟩) HZ.out)).mono ?_
    rw [← hcx.out]
    rintro e w49 ⟨rfl, hf49⟩
    have HF49 : Hid (Fr No w3 w49) := (show Fr No w3 w49 from HFd.out.then hf49)
    clear hf49
    have HT : Hid (w49.cell? ⟨w.heap.size, 0, none⟩ = some (.int .i64 k) ∧ w49.cell? ⟨w.heap.size, 1, none⟩ = some (.int .i64 n) ∧ w49.cell? ⟨w.heap.size, 2, none⟩ = some (.string ⟨s.toArray⟩) ∧ w49.cell? ⟨w.heap.size, 3, none⟩ = some (.slice A l.length c) ∧ w49.cell? ⟨w.heap.size + 1, 0, none⟩ = some (.int .i64 k') ∧ w49.cell? ⟨w.heap.size + 1, 1, none⟩ = some (.int .i64 n') ∧ w49.cell? ⟨w.heap.size + 1, 2, none⟩ = some (.string ⟨s'.toArray⟩) ∧ w49.cell? ⟨w.heap.size + 1, 3, none⟩ = some (.slice A' l'.length c')) := (show _ ∧ _ from by obtain ⟨q0, q1, q2, q3, q4, q5, q6, q7⟩ := HS0.out; exact ⟨HF49.out.cell q0 (fun h => h), HF49.out.cell q1 (fun h => h), HF49.out.cell q2 (fun h => h), HF49.out.cell q3 (fun h => h), HF49.out.cell q4 (fun h => h), HF49.out.cell q5 (fun h => h), HF49.out.cell q6 (fun h => h), HF49.out.cell q7 (fun h => h)⟩)
    clear HS
    have HS := HT
    clear HT
    refine ⟨_, rfl, fun _ => HS.out, ?_⟩
    simp only [Act.put, List.setIfInBounds_toArray, List.set_cons_zero, List.set_cons_succ]
    repeat (first
      | (refine sq_off (a' := ?_) rfl rfl (by rfl) (fun _ => (HS).out) ?ha ?_; (case ha => simp only [Act.put, List.setIfInBounds_toArray, List.set_cons_zero, List.set_cons_succ]; rfl))
      | (refine sq_any (v := ?_) (a' := ?_) rfl rfl rfl (by rfl) (fun W => ?hr) ?ha ?_; (case hr => go_simp; first | done | rfl); (case ha => simp only [Act.put, List.setIfInBounds_toArray, List.set_cons_zero, List.set_cons_succ]; rfl))
      | (refine sq_load (v := ?_) (a' := ?_) rfl rfl rfl (by rfl) (fun W hSW => ?hr) (HS).out ?ha ?_; (case hr => (try dsimp only at hSW); go_simp; first | done | rfl); (case ha => simp only [Act.put, List.setIfInBounds_toArray, List.set_cons_zero, List.set_cons_succ]; rfl)))
    refine sq_call rfl rfl (by rfl) rfl Try.func50 rfl rfl [.agg #[.int .i64 k, .int .i64 n, .string ⟨s.toArray⟩, .slice A l.length c]] rfl ?_
    refine ((refcheck_any (show ItV w49 (fun _ => True) _ _ from ⟨_, rfl, itR_move (fun q _ hq => HF49.out.block q hq (fun h => h)) _ _ HRW.out⟩) HZ.out)).mono ?_
    rw [← hcx.out]
    rintro e w50 ⟨rfl, hf50⟩
    have HF50 : Hid (Fr No w3 w50) := (show Fr No w3 w50 from HF49.out.then hf50)
    clear hf50
    have HT : Hid (w50.cell? ⟨w.heap.size, 0, none⟩ = some (.int .i64 k) ∧ w50.cell? ⟨w.heap.size, 1, none⟩ = some (.int .i64 n) ∧ w50.cell? ⟨w.heap.size, 2, none⟩ = some (.string ⟨s.toArray⟩) ∧ w50.cell? ⟨w.heap.size, 3, none⟩ = some (.slice A l.length c) ∧ w50.cell? ⟨w.heap.size + 1, 0, none⟩ = some (.int .i64 k') ∧ w50.cell? ⟨w.heap.size + 1, 1, none⟩ = some (.int .i64 n') ∧ w50.cell? ⟨w.heap.size + 1, 2, none⟩ = some (.string ⟨s'.toArray⟩) ∧ w50.cell? ⟨w.heap.size + 1, 3, none⟩ = some (.slice A' l'.length c')) := (show _ ∧ _ from by obtain ⟨q0, q1, q2, q3, q4, q5, q6, q7⟩ := HS0.out; exact ⟨HF50.out.cell q0 (fun h => h), HF50.out.cell q1 (fun h => h), HF50.out.cell q2 (fun h => h), HF50.out.cell q3 (fun h => h), HF50.out.cell q4 (fun h => h), HF50.out.cell q5 (fun h => h), HF50.out.cell q6 (fun h => h), HF50.out.cell q7 (fun h => h)⟩)
    clear HS
    have HS := HT
    clear HT
    refine ⟨_, rfl, fun _ => HS.out, ?_⟩
    simp only [Act.put, List.setIfInBounds_toArray, List.set_cons_zero, List.set_cons_succ]
    repeat (first
      | (refine sq_off (a' := ?_) rfl rfl (by rfl) (fun _ => (HS).out) ?ha ?_; (case ha => simp only [Act.put, List.setIfInBounds_toArray, List.set_cons_zero, List.set_cons_succ]; rfl))
      | (refine sq_any (v := ?_) (a' := ?_) rfl rfl rfl (by rfl) (fun W => ?hr) ?ha ?_; (case hr => go_simp; first | done | rfl); (case ha => simp only [Act.put, List.setIfInBounds_toArray, List.set_cons_zero, List.set_cons_succ]; rfl))
      | (refine sq_load (v := ?_) (a' := ?_) rfl rfl rfl (by rfl) (fun W hSW => ?hr) (HS).out ?ha ?_; (case hr => (try dsimp only at hSW); go_simp; first | done | rfl); (case ha => simp only [Act.put, List.setIfInBounds_toArray, List.set_cons_zero, List.set_cons_succ]; rfl)))
    refine sq_call rfl rfl (by rfl) rfl Try.func45 rfl rfl [.agg #[.int .i64 k, .int .i64 n, .string ⟨s.toArray⟩, .slice A l.length c], .agg #[.int .i64 k', .int .i64 n', .string ⟨s'.toArray⟩, .slice A' l'.length c']] rfl ?_
    refine ((same_any _ _ _ _ _ _ _ (show ItV w50 (fun _ => True) _ _ from ⟨_, rfl, itR_move (fun q _ hq => HF50.out.block q hq (fun h => h)) _ _ HRW.out⟩) (show ItV w50 (fun _ => True) _ _ from ⟨_, rfl, itR_move (fun q _ hq => HF50.out.block q hq (fun h => h)) _ _ HRW'.out⟩))).mono ?_
    rw [← hD.out]
    rintro e w45 ⟨rfl, hf45⟩
    have HF45 : Hid (Fr No w3 w45) := (show Fr No w3 w45 from HF50.out.then hf45)
    clear hf45
    have HT : Hid (w45.cell? ⟨w.heap.size, 0, none⟩ = some (.int .i64 k) ∧ w45.cell? ⟨w.heap.size, 1, none⟩ = some (.int .i64 n) ∧ w45.cell? ⟨w.heap.size, 2, none⟩ = some (.string ⟨s.toArray⟩) ∧ w45.cell? ⟨w.heap.size, 3, none⟩ = some (.slice A l.length c) ∧ w45.cell? ⟨w.heap.size + 1, 0, none⟩ = some (.int .i64 k') ∧ w45.cell? ⟨w.heap.size + 1, 1, none⟩ = some (.int .i64 n') ∧ w45.cell? ⟨w.heap.size + 1, 2, none⟩ = some (.string ⟨s'.toArray⟩) ∧ w45.cell? ⟨w.heap.size + 1, 3, none⟩ = some (.slice A' l'.length c')) := (show _ ∧ _ from by obtain ⟨q0, q1, q2, q3, q4, q5, q6, q7⟩ := HS0.out; exact ⟨HF45.out.cell q0 (fun h => h), HF45.out.cell q1 (fun h => h), HF45.out.cell q2 (fun h => h), HF45.out.cell q3 (fun h => h), HF45.out.cell q4 (fun h => h), HF45.out.cell q5 (fun h => h), HF45.out.cell q6 (fun h => h), HF45.out.cell q7 (fun h => h)⟩)
    clear HS
    have HS := HT
    clear HT
    refine ⟨_, rfl, fun _ => HS.out, ?_⟩
    simp only [Act.put, List.setIfInBounds_toArray, List.set_cons_zero, List.set_cons_succ]
    repeat (first
      | (refine sq_off (a' := ?_) rfl rfl (by rfl) (fun _ => (HS).out) ?ha ?_; (case ha => simp only [Act.put, List.setIfInBounds_toArray, List.set_cons_zero, List.set_cons_succ]; rfl))
      | (refine sq_any (v := ?_) (a' := ?_) rfl rfl rfl (by rfl) (fun W => ?hr) ?ha ?_; (case hr => go_simp; first | done | rfl); (case ha => simp only [Act.put, List.setIfInBounds_toArray, List.set_cons_zero, List.set_cons_succ]; rfl))
      | (refine sq_load (v := ?_) (a' := ?_) rfl rfl rfl (by rfl) (fun W hSW => ?hr) (HS).out ?ha ?_; (case hr => (try dsimp only at hSW); go_simp; first | done | rfl); (case ha => simp only [Act.put, List.setIfInBounds_toArray, List.set_cons_zero, List.set_cons_succ]; rfl)))
    refine sq_call rfl rfl (by rfl) rfl Try.func44 rfl rfl [.agg #[.int .i64 k, .int .i64 n, .string ⟨s.toArray⟩, .slice A l.length c], .agg #[.int .i64 k', .int .i64 n', .string ⟨s'.toArray⟩, .slice A' l'.length c']] rfl ?_
    refine ((refsame_any _ _ _ _ _ _ _ (show ItV w45 (fun _ => True) _ _ from ⟨_, rfl, itR_move (fun q _ hq => HF45.out.block q hq (fun h => h)) _ _ HRW.out⟩) (show ItV w45 (fun _ => True) _ _ from ⟨_, rfl, itR_move (fun q _ hq => HF45.out.block q hq (fun h => h)) _ _ HRW'.out⟩))).mono ?_
    rw [← hD.out]
    rintro e w44 ⟨rfl, hf44⟩
    have HF44 : Hid (Fr No w3 w44) := (show Fr No w3 w44 from HF45.out.then hf44)
    clear hf44
    have HT : Hid (w44.cell? ⟨w.heap.size, 0, none⟩ = some (.int .i64 k) ∧ w44.cell? ⟨w.heap.size, 1, none⟩ = some (.int .i64 n) ∧ w44.cell? ⟨w.heap.size, 2, none⟩ = some (.string ⟨s.toArray⟩) ∧ w44.cell? ⟨w.heap.size, 3, none⟩ = some (.slice A l.length c) ∧ w44.cell? ⟨w.heap.size + 1, 0, none⟩ = some (.int .i64 k') ∧ w44.cell? ⟨w.heap.size + 1, 1, none⟩ = some (.int .i64 n') ∧ w44.cell? ⟨w.heap.size + 1, 2, none⟩ = some (.string ⟨s'.toArray⟩) ∧ w44.cell? ⟨w.heap.size + 1, 3, none⟩ = some (.slice A' l'.length c')) := (show _ ∧ _ from by obtain ⟨q0, q1, q2, q3, q4, q5, q6, q7⟩ := HS0.out; exact ⟨HF44.out.cell q0 (fun h => h), HF44.out.cell q1 (fun h => h), HF44.out.cell q2 (fun h => h), HF44.out.cell q3 (fun h => h), HF44.out.cell q4 (fun h => h), HF44.out.cell q5 (fun h => h), HF44.out.cell q6 (fun h => h), HF44.out.cell q7 (fun h => h)⟩)
    clear HS
    have HS := HT
    clear HT
    refine ⟨_, rfl, fun _ => HS.out, ?_⟩
    simp only [Act.put, List.setIfInBounds_toArray, List.set_cons_zero, List.set_cons_succ]
    repeat (first
      | (refine sq_off (a' := ?_) rfl rfl (by rfl) (fun _ => (HS).out) ?ha ?_; (case ha => simp only [Act.put, List.setIfInBounds_toArray, List.set_cons_zero, List.set_cons_succ]; rfl))
      | (refine sq_any (v := ?_) (a' := ?_) rfl rfl rfl (by rfl) (fun W => ?hr) ?ha ?_; (case hr => go_simp; first | done | rfl); (case ha => simp only [Act.put, List.setIfInBounds_toArray, List.set_cons_zero, List.set_cons_succ]; rfl))
      | (refine sq_load (v := ?_) (a' := ?_) rfl rfl rfl (by rfl) (fun W hSW => ?hr) (HS).out ?ha ?_; (case hr => (try dsimp only at hSW); go_simp; first | done | rfl); (case ha => simp only [Act.put, List.setIfInBounds_toArray, List.set_cons_zero, List.set_cons_succ]; rfl)))
    refine sq_call rfl rfl (by rfl) rfl Try.func51 rfl rfl [.agg #[.int .i64 k, .int .i64 n, .string ⟨s.toArray⟩, .slice A l.length c]] rfl ?_
    refine ((size_item _ _ _ _ (show ItV w44 (fun _ => True) _ _ from ⟨_, rfl, itR_move (fun q _ hq => HF44.out.block q hq (fun h => h)) _ _ HRW.out⟩) HZ.out)).mono ?_
    rw [← hsx.out]
    rintro e w51 ⟨rfl, hf51⟩
    have HF51 : Hid (Fr No w3 w51) := (show Fr No w3 w51 from HF44.out.then hf51)
    clear hf51
    have HT : Hid (w51.cell? ⟨w.heap.size, 0, none⟩ = some (.int .i64 k) ∧ w51.cell? ⟨w.heap.size, 1, none⟩ = some (.int .i64 n) ∧ w51.cell? ⟨w.heap.size, 2, none⟩ = some (.string ⟨s.toArray⟩) ∧ w51.cell? ⟨w.heap.size, 3, none⟩ = some (.slice A l.length c) ∧ w51.cell? ⟨w.heap.size + 1, 0, none⟩ = some (.int .i64 k') ∧ w51.cell? ⟨w.heap.size + 1, 1, none⟩ = some (.int .i64 n') ∧ w51.cell? ⟨w.heap.size + 1, 2, none⟩ = some (.string ⟨s'.toArray⟩) ∧ w51.cell? ⟨w.heap.size + 1, 3, none⟩ = some (.slice A' l'.length c')) := (show _ ∧ _ from by obtain ⟨q0, q1, q2, q3, q4, q5, q6, q7⟩ := HS0.out; exact ⟨HF51.out.cell q0 (fun h => h), HF51.out.cell q1 (fun h => h), HF51.out.cell q2 (fun h => h), HF51.out.cell q3 (fun h => h), HF51.out.cell q4 (fun h => h), HF51.out.cell q5 (fun h => h), HF51.out.cell q6 (fun h => h), HF51.out.cell q7 (fun h => h)⟩)
    clear HS
    have HS := HT
    clear HT
    refine ⟨_, rfl, fun _ => HS.out, ?_⟩
    simp only [Act.put, List.setIfInBounds_toArray, List.set_cons_zero, List.set_cons_succ]
    repeat (first
      | (refine sq_off (a' := ?_) rfl rfl (by rfl) (fun _ => (HS).out) ?ha ?_; (case ha => simp only [Act.put, List.setIfInBounds_toArray, List.set_cons_zero, List.set_cons_succ]; rfl))
      | (refine sq_any (v := ?_) (a' := ?_) rfl rfl rfl (by rfl) (fun W => ?hr) ?ha ?_; (case hr => go_simp; first | done | rfl); (case ha => simp only [Act.put, List.setIfInBounds_toArray, List.set_cons_zero, List.set_cons_succ]; rfl))
      | (refine sq_load (v := ?_) (a' := ?_) rfl rfl rfl (by rfl) (fun W hSW => ?hr) (HS).out ?ha ?_; (case hr => (try dsimp only at hSW); go_simp; first | done | rfl); (case ha => simp only [Act.put, List.setIfInBounds_toArray, List.set_cons_zero, List.set_cons_succ]; rfl)))
    refine sq_call rfl rfl (by rfl) rfl Try.func52 rfl rfl [.agg #[.int .i64 k, .int .i64 n, .string ⟨s.toArray⟩, .slice A l.length c]] rfl ?_
    refine ((refsize_item _ _ _ _ (show ItV w51 (fun _ => True) _ _ from ⟨_, rfl, itR_move (fun q _ hq => HF51.out.block q hq (fun h => h)) _ _ HRW.out⟩) HZ.out)).mono ?_
    rw [← hsx.out]
    rintro e w52 ⟨rfl, hf52⟩
    have HF52 : Hid (Fr No w3 w52) := (show Fr No w3 w52 from HF51.out.then hf52)
    clear hf52
    have HT : Hid (w52.cell? ⟨w.heap.size, 0, none⟩ = some (.int .i64 k) ∧ w52.cell? ⟨w.heap.size, 1, none⟩ = some (.int .i64 n) ∧ w52.cell? ⟨w.heap.size, 2, none⟩ = some (.string ⟨s.toArray⟩) ∧ w52.cell? ⟨w.heap.size, 3, none⟩ = some (.slice A l.length c) ∧ w52.cell? ⟨w.heap.size + 1, 0, none⟩ = some (.int .i64 k') ∧ w52.cell? ⟨w.heap.size + 1, 1, none⟩ = some (.int .i64 n') ∧ w52.cell? ⟨w.heap.size + 1, 2, none⟩ = some (.string ⟨s'.toArray⟩) ∧ w52.cell? ⟨w.heap.size + 1, 3, none⟩ = some (.slice A' l'.length c')) := (show _ ∧ _ from by obtain ⟨q0, q1, q2, q3, q4, q5, q6, q7⟩ := HS0.out; exact ⟨HF52.out.cell q0 (fun h => h), HF52.out.cell q1 (fun h => h), HF52.out.cell q2 (fun h => h), HF52.out.cell q3 (fun h => h), HF52.out.cell q4 (fun h => h), HF52.out.cell q5 (fun h => h), HF52.out.cell q6 (fun h => h), HF52.out.cell q7 (fun h => h)⟩)
    clear HS
    have HS := HT
    clear HT
    refine ⟨_, rfl, fun _ => HS.out, ?_⟩
    simp only [Act.put, List.setIfInBounds_toArray, List.set_cons_zero, List.set_cons_succ]
    repeat (first
      | (refine sq_off (a' := ?_) rfl rfl (by rfl) (fun _ => (HS).out) ?ha ?_; (case ha => simp only [Act.put, List.setIfInBounds_toArray, List.set_cons_zero, List.set_cons_succ]; rfl))
      | (refine sq_any (v := ?_) (a' := ?_) rfl rfl rfl (by rfl) (fun W => ?hr) ?ha ?_; (case hr => go_simp; first | done | rfl); (case ha => simp only [Act.put, List.setIfInBounds_toArray, List.set_cons_zero, List.set_cons_succ]; rfl))
      | (refine sq_load (v := ?_) (a' := ?_) rfl rfl rfl (by rfl) (fun W hSW => ?hr) (HS).out ?ha ?_; (case hr => (try dsimp only at hSW); go_simp; first | done | rfl); (case ha => simp only [Act.put, List.setIfInBounds_toArray, List.set_cons_zero, List.set_cons_succ]; rfl)))
    refine sq_done ?_
    have hq1 : (cx == cx) = true := by simp
    go_wp2_with fail
    go_ret
    exact (show Told _ _ _ _ from ⟨rfl, HF3.out.then HF52.out⟩)
  · go_wp2_with fail
    go_ret
    exact (show Told _ _ _ _ from ⟨rfl, HF3.out.then HF34.out⟩)
end Go.Proofs.Ytbaohngnpgappaa
