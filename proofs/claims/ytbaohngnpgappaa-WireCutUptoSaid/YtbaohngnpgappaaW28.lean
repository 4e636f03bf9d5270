/- WireApart: its walk. -/
import Derived.Test.YtbaohngnpgappaaW27
set_option linter.unusedVariables false
set_option linter.unusedSimpArgs false
namespace Go.Proofs.Ytbaohngnpgappaa
open Go.RowKit
theorem check_ok {x : It} (h : checkI x = 0) : x.ok = true := by
  unfold checkI at h
  by_cases hk : x.ok = true
  · exact hk
  · rw [if_neg hk] at h; cases h
set_option maxRecDepth 100000 in
set_option maxHeartbeats 2000000 in
theorem wapart_any {w : World} {F : Nat → Prop} {v1 v2 : Value} {x y : It} (h1 : ItV w F v1 x) (h2 : ItV w F v2 y) (hbk : x.bulk ≤ 1048576) (hbk' : y.bulk ≤ 1048576) : Calls Try.prog 9 #[v1, v2] w (Told (.bool true) w) := by
  obtain ⟨k, n, s, l⟩ := x
  obtain ⟨k', n', s', l'⟩ := y
  obtain ⟨cs, rfl, hr⟩ := h1
  obtain ⟨cs', rfl, hr'⟩ := h2
  have hr0 := hr
  have hr0' := hr'
  obtain ⟨vl, rfl, hrow, hfit⟩ := itR_row hr
  obtain ⟨A, c, rfl, hc1, hc2⟩ := hrow.shape
  obtain ⟨vl, rfl, hrow', hfit'⟩ := itR_row hr'
  obtain ⟨A', c', rfl, hc1', hc2'⟩ := hrow'.shape
  have HR := Lib.hid hr0
  have HR' := Lib.hid hr0'
  have HBK := Lib.hid hbk
  have HBK' := Lib.hid hbk'
  have HFT : Hid (It.fit (.mk k n s l) ∧ It.fit (.mk k' n' s' l')) := (show _ ∧ _ from ⟨itR_fit _ _ hr0, itR_fit _ _ hr0'⟩)
  clear hbk hbk'
  clear hr hr' hr0 hr0' hrow hrow' hfit hfit' hc1 hc2 hc1' hc2'
  unfold str
  unfold str at HR HR'
  go_enter Try.func9, Try.ntmps9
  go_wp2_with fail
  obtain ⟨w1, hw1⟩ : ∃ w1, Hid (w1 = (w.alloc (.cells #[.int .i64 k, .int .i64 n, .string ⟨s.toArray⟩, .slice A l.length c] 48 (0, 0))).alloc (.cells #[.int .i64 k', .int .i64 n', .string ⟨s'.toArray⟩, .slice A' l'.length c'] 48 (0, 0))) := ⟨_, rfl⟩
  rw [← hw1.out]
  have hf1 : Fr No w w1 := by rw [hw1.out]; exact ((Fr.refl _ _).alloc _).alloc _
  have hb1 : w1.heap[w.heap.size]? = some (.cells #[.int .i64 k, .int .i64 n, .string ⟨s.toArray⟩, .slice A l.length c] 48 (0, 0)) := by rw [hw1.out]; exact Fr.heap (S := No) ((Fr.refl _ _).alloc _) (blk_new _ _) (fun h => h)
  have hb2 : w1.heap[w.heap.size + 1]? = some (.cells #[.int .i64 k', .int .i64 n', .string ⟨s'.toArray⟩, .slice A' l'.length c'] 48 (0, 0)) := by rw [hw1.out]; exact blk_new' (by simp)
  have HF1 := Lib.hid hf1
  have HB1 := Lib.hid hb1
  have HB2 := Lib.hid hb2
  clear hf1 hb1 hb2
  refine (wlive_any w1).mono ?_
  rintro e w2 ⟨rfl, hf2⟩
  have hb1 := hf2.heap HB1.out (fun h => h)
  have hb2 := hf2.heap HB2.out (fun h => h)
  have HF2 := Lib.hid (HF1.out.then hf2)
  clear hf2
  have d00 := blk_cell hb1 0
  have d01 := blk_cell hb1 1
  have d02 := blk_cell hb1 2
  have d03 := blk_cell hb1 3
  have d10 := blk_cell hb2 0
  have d11 := blk_cell hb2 1
  have d12 := blk_cell hb2 2
  have d13 := blk_cell hb2 3
  simp only [List.getElem?_toArray, List.getElem?_cons_zero, List.getElem?_cons_succ] at d00 d01 d02 d03 d10 d11 d12 d13
  have HS2 : Hid (w2.cell? ⟨w.heap.size, 0, none⟩ = some (.int .i64 k) ∧ w2.cell? ⟨w.heap.size, 1, none⟩ = some (.int .i64 n) ∧ w2.cell? ⟨w.heap.size, 2, none⟩ = some (.string ⟨s.toArray⟩) ∧ w2.cell? ⟨w.heap.size, 3, none⟩ = some (.slice A l.length c) ∧ w2.cell? ⟨w.heap.size + 1, 0, none⟩ = some (.int .i64 k') ∧ w2.cell? ⟨w.heap.size + 1, 1, none⟩ = some (.int .i64 n') ∧ w2.cell? ⟨w.heap.size + 1, 2, none⟩ = some (.string ⟨s'.toArray⟩) ∧ w2.cell? ⟨w.heap.size + 1, 3, none⟩ = some (.slice A' l'.length c')) := (show _ ∧ _ from ⟨d00, d01, d02, d03, d10, d11, d12, d13⟩)
  clear hb1 hb2
  go_wp2_with fail
  obtain ⟨w3, hw3⟩ : ∃ w3, Hid (w3 = w2.alloc (.cells #[.int .i64 k, .int .i64 n, .string ⟨s.toArray⟩, .slice A l.length c, .int .i64 k', .int .i64 n', .string ⟨s'.toArray⟩, .slice A' l'.length c'] 48 (0, 0))) := ⟨_, rfl⟩
  rw [← hw3.out]
  have hf3 : Fr No w2 w3 := by rw [hw3.out]; exact (Fr.refl _ _).alloc _
  have hb3 : w3.heap[w2.heap.size]? = some (.cells #[.int .i64 k, .int .i64 n, .string ⟨s.toArray⟩, .slice A l.length c, .int .i64 k', .int .i64 n', .string ⟨s'.toArray⟩, .slice A' l'.length c'] 48 (0, 0)) := by rw [hw3.out]; exact blk_new _ _
  have HF3 := Lib.hid (HF2.out.then hf3)
  have HRW : Hid (ItR w3 (fun _ => True) (.mk k n s l) [.int .i64 k, .int .i64 n, .string ⟨s.toArray⟩, .slice A l.length c]) := (show ItR _ _ _ _ from itR_mono (fun _ _ => trivial) _ _ (itR_move (fun q _ hq => HF3.out.block q hq (fun h => h)) _ _ HR.out))
  have HRW' : Hid (ItR w3 (fun _ => True) (.mk k' n' s' l') [.int .i64 k', .int .i64 n', .string ⟨s'.toArray⟩, .slice A' l'.length c']) := (show ItR _ _ _ _ from itR_mono (fun _ _ => trivial) _ _ (itR_move (fun q _ hq => HF3.out.block q hq (fun h => h)) _ _ HR'.out))
  have hrow : Row ItK w3 (fun _ => True) (.slice (some ⟨w2.heap.size, 0, none⟩) 2 2) [.mk k n s l, .mk k' n' s' l'] := by
    refine ⟨_, 2, rfl, Nat.le_refl _, by decide, fun j x hj => ?_⟩
    rcases j with _ | _ | j
    · cases hj
      refine ⟨_, 0, _, rfl, trivial, HRW.out, fun i u hu => ?_⟩
      rw [blk_cell hb3]
      rcases i with _ | _ | _ | _ | i
      · exact hu
      · exact hu
      · exact hu
      · exact hu
      · simp at hu
    · cases hj
      refine ⟨_, 0, _, rfl, trivial, HRW'.out, fun i u hu => ?_⟩
      rw [blk_cell hb3]
      rcases i with _ | _ | _ | _ | i
      · exact hu
      · exact hu
      · exact hu
      · exact hu
      · simp at hu
    · simp at hj
  clear hb3
  obtain ⟨B, hB⟩ : ∃ B, Hid (B = bigB [.mk k n s l, .mk k' n' s' l']) := ⟨_, rfl⟩
  refine (big_any hrow).mono ?_
  rw [← hB.out]
  rintro e w4 ⟨rfl, hf4⟩
  have HF34 : Hid (Fr No w3 w4) := (show Fr No w3 w4 from hf4)
  have HS3 : Hid (w3.cell? ⟨w.heap.size, 0, none⟩ = some (.int .i64 k) ∧ w3.cell? ⟨w.heap.size, 1, none⟩ = some (.int .i64 n) ∧ w3.cell? ⟨w.heap.size, 2, none⟩ = some (.string ⟨s.toArray⟩) ∧ w3.cell? ⟨w.heap.size, 3, none⟩ = some (.slice A l.length c) ∧ w3.cell? ⟨w.heap.size + 1, 0, none⟩ = some (.int .i64 k') ∧ w3.cell? ⟨w.heap.size + 1, 1, none⟩ = some (.int .i64 n') ∧ w3.cell? ⟨w.heap.size + 1, 2, none⟩ = some (.string ⟨s'.toArray⟩) ∧ w3.cell? ⟨w.heap.size + 1, 3, none⟩ = some (.slice A' l'.length c')) := (show _ ∧ _ from by obtain ⟨q0, q1, q2, q3, q4, q5, q6, q7⟩ := HS2.out; exact ⟨hf3.cell q0 (fun h => h), hf3.cell q1 (fun h => h), hf3.cell q2 (fun h => h), hf3.cell q3 (fun h => h), hf3.cell q4 (fun h => h), hf3.cell q5 (fun h => h), hf3.cell q6 (fun h => h), hf3.cell q7 (fun h => h)⟩)
  clear hf3 hf4 hrow d00 d01 d02 d03 d10 d11 d12 d13 HS2
  cases B
  · have hm := bigB_mem hB.out.symm
    have hs1 := hm _ List.mem_cons_self
    have hs2 := hm _ (List.mem_cons_of_mem _ List.mem_cons_self)
    have HZ : Hid (It.size (.mk k n s l) ≤ 1048576) := (show _ ≤ _ from Nat.le_trans hs1 (by decide))
    have HZ' : Hid (It.size (.mk k' n' s' l') ≤ 1048576) := (show _ ≤ _ from Nat.le_trans hs2 (by decide))
    clear hm hs1 hs2
    obtain ⟨C1, hC1⟩ : ∃ C, Hid (C = checkI (.mk k n s l)) := ⟨_, show _ = _ from rfl⟩
    obtain ⟨X1, hX1⟩ : ∃ X, Hid (X = encodeI (.mk k n s l)) := ⟨_, show _ = _ from rfl⟩
    obtain ⟨C2, hC2⟩ : ∃ C, Hid (C = checkI (.mk k' n' s' l')) := ⟨_, show _ = _ from rfl⟩
    obtain ⟨X2, hX2⟩ : ∃ X, Hid (X = encodeI (.mk k' n' s' l')) := ⟨_, show _ = _ from rfl⟩
    have HSX : Hid (w4.cell? ⟨w.heap.size, 0, none⟩ = some (.int .i64 k) ∧ w4.cell? ⟨w.heap.size, 1, none⟩ = some (.int .i64 n) ∧ w4.cell? ⟨w.heap.size, 2, none⟩ = some (.string ⟨s.toArray⟩) ∧ w4.cell? ⟨w.heap.size, 3, none⟩ = some (.slice A l.length c) ∧ w4.cell? ⟨w.heap.size + 1, 0, none⟩ = some (.int .i64 k') ∧ w4.cell? ⟨w.heap.size + 1, 1, none⟩ = some (.int .i64 n') ∧ w4.cell? ⟨w.heap.size + 1, 2, none⟩ = some (.string ⟨s'.toArray⟩) ∧ w4.cell? ⟨w.heap.size + 1, 3, none⟩ = some (.slice A' l'.length c')) := (show _ ∧ _ from by obtain ⟨q0, q1, q2, q3, q4, q5, q6, q7⟩ := HS3.out; exact ⟨HF34.out.cell q0 (fun h => h), HF34.out.cell q1 (fun h => h), HF34.out.cell q2 (fun h => h), HF34.out.cell q3 (fun h => h), HF34.out.cell q4 (fun h => h), HF34.out.cell q5 (fun h => h), HF34.out.cell q6 (fun h => h), HF34.out.cell q7 (fun h => h)⟩)
    obtain ⟨q0, q1, q2, q3, q4, q5, q6, q7⟩ := HSX.out
    go_wp2_with fail
    refine (encode_any (v := (.mk k n s l)) (show ItV w4 (fun _ => True) _ _ from ⟨_, rfl, itR_move (fun q _ hq => HF34.out.block q hq (fun h => h)) _ _ HRW.out⟩) HZ.out (fun _ => ⟨It.bulk_texts _ HBK.out, It.bulk_enc HBK.out⟩)).mono ?_
    rw [← hC1.out, ← hX1.out]
    rintro e w5 ⟨v5, rfl, hown5, hf5⟩
    have HF35 : Hid (Fr No w3 w5) := (show Fr No w3 w5 from HF34.out.then hf5)
    have HR5 : Hid (Rb w5 (fun q => New w4 q ∧ q < w5.heap.size) v5 X1) := (show Rb _ _ _ _ from hown5.reads.bound)
    obtain ⟨A5, c5, rfl, _, _⟩ := hown5.shape
    clear q0 q1 q2 q3 q4 q5 q6 q7 hown5 hf5
    have HSY : Hid (w5.cell? ⟨w.heap.size, 0, none⟩ = some (.int .i64 k) ∧ w5.cell? ⟨w.heap.size, 1, none⟩ = some (.int .i64 n) ∧ w5.cell? ⟨w.heap.size, 2, none⟩ = some (.string ⟨s.toArray⟩) ∧ w5.cell? ⟨w.heap.size, 3, none⟩ = some (.slice A l.length c) ∧ w5.cell? ⟨w.heap.size + 1, 0, none⟩ = some (.int .i64 k') ∧ w5.cell? ⟨w.heap.size + 1, 1, none⟩ = some (.int .i64 n') ∧ w5.cell? ⟨w.heap.size + 1, 2, none⟩ = some (.string ⟨s'.toArray⟩) ∧ w5.cell? ⟨w.heap.size + 1, 3, none⟩ = some (.slice A' l'.length c')) := (show _ ∧ _ from by obtain ⟨q0, q1, q2, q3, q4, q5, q6, q7⟩ := HS3.out; exact ⟨HF35.out.cell q0 (fun h => h), HF35.out.cell q1 (fun h => h), HF35.out.cell q2 (fun h => h), HF35.out.cell q3 (fun h => h), HF35.out.cell q4 (fun h => h), HF35.out.cell q5 (fun h => h), HF35.out.cell q6 (fun h => h), HF35.out.cell q7 (fun h => h)⟩)
    obtain ⟨q0, q1, q2, q3, q4, q5, q6, q7⟩ := HSY.out
    go_wp2_with fail
    refine (encode_any (v := (.mk k' n' s' l')) (show ItV w5 (fun _ => True) _ _ from ⟨_, rfl, itR_move (fun q _ hq => HF35.out.block q hq (fun h => h)) _ _ HRW'.out⟩) HZ'.out (fun _ => ⟨It.bulk_texts _ HBK'.out, It.bulk_enc HBK'.out⟩)).mono ?_
    rw [← hC2.out, ← hX2.out]
    rintro e w6 ⟨v6, rfl, hown6, hf6⟩
    have HF36 : Hid (Fr No w3 w6) := (show Fr No w3 w6 from HF35.out.then hf6)
    have HR6 : Hid (Rb w6 (New w5) v6 X2) := (show Rb _ _ _ _ from hown6.reads)
    have HR56 : Hid (Rb w6 (fun q => New w4 q ∧ q < w5.heap.size) (.slice A5 X1.length c5) X1) := (show Rb _ _ _ _ from HR5.out.fr hf6 (fun _ _ _ h => h))
    obtain ⟨A6, c6, rfl, _, _⟩ := hown6.shape
    clear q0 q1 q2 q3 q4 q5 q6 q7 hown6 hf6
    by_cases h1 : C1 = 0
    · by_cases h2 : C2 = 0
      · have HK : Hid (It.ok (.mk k n s l) = true ∧ It.ok (.mk k' n' s' l') = true ∧ X1 = It.enc (.mk k n s l) ∧ X2 = It.enc (.mk k' n' s' l')) := (show _ ∧ _ from by
          have e1 := hC1.out
          have e2 := hC2.out
          rw [h1] at e1
          rw [h2] at e2
          exact ⟨check_ok e1.symm, check_ok e2.symm, by rw [hX1.out, encodeI, if_pos e1.symm], by rw [hX2.out, encodeI, if_pos e2.symm]⟩)
        subst h1
        subst h2
        obtain ⟨D, hD⟩ : ∃ D, Hid (D = It.same (.mk k n s l) (.mk k' n' s' l')) := ⟨_, show _ = _ from rfl⟩
        have hDX : Hid ((X1 == X2) = D) := (show _ = _ from by rw [hD.out, HK.out.2.2.1, HK.out.2.2.2]; exact It.enc_same HK.out.1 HK.out.2.1 HFT.out.1 HFT.out.2)
        go_wp2_with fail
        refine wp_seq_region (fun W => W.cell? ⟨w.heap.size, 0, none⟩ = some (.int .i64 k) ∧ W.cell? ⟨w.heap.size, 1, none⟩ = some (.int .i64 n) ∧ W.cell? ⟨w.heap.size, 2, none⟩ = some (.string ⟨s.toArray⟩) ∧ W.cell? ⟨w.heap.size, 3, none⟩ = some (.slice A l.length c) ∧ W.cell? ⟨w.heap.size + 1, 0, none⟩ = some (.int .i64 k') ∧ W.cell? ⟨w.heap.size + 1, 1, none⟩ = some (.int .i64 n') ∧ W.cell? ⟨w.heap.size + 1, 2, none⟩ = some (.string ⟨s'.toArray⟩) ∧ W.cell? ⟨w.heap.size + 1, 3, none⟩ = some (.slice A' l'.length c')) [4, 7] [5, 6] [] [0, 1, 2, 3, 5, 6, 4, 7, 8, 9, 10] (by kernel_rfl) (by kernel_rfl) rfl (by kernel_rfl) (fun _ _ _ _ _ h => h) ?_
        have HS : Hid (w6.drew.cell? ⟨w.heap.size, 0, none⟩ = some (.int .i64 k) ∧ w6.drew.cell? ⟨w.heap.size, 1, none⟩ = some (.int .i64 n) ∧ w6.drew.cell? ⟨w.heap.size, 2, none⟩ = some (.string ⟨s.toArray⟩) ∧ w6.drew.cell? ⟨w.heap.size, 3, none⟩ = some (.slice A l.length c) ∧ w6.drew.cell? ⟨w.heap.size + 1, 0, none⟩ = some (.int .i64 k') ∧ w6.drew.cell? ⟨w.heap.size + 1, 1, none⟩ = some (.int .i64 n') ∧ w6.drew.cell? ⟨w.heap.size + 1, 2, none⟩ = some (.string ⟨s'.toArray⟩) ∧ w6.drew.cell? ⟨w.heap.size + 1, 3, none⟩ = some (.slice A' l'.length c')) := (show _ ∧ _ from by obtain ⟨q0, q1, q2, q3, q4, q5, q6, q7⟩ := HS3.out; exact ⟨HF36.out.cell q0 (fun h => h), HF36.out.cell q1 (fun h => h), HF36.out.cell q2 (fun h => h), HF36.out.cell q3 (fun h => h), HF36.out.cell q4 (fun h => h), HF36.out.cell q5 (fun h => h), HF36.out.cell q6 (fun h => h), HF36.out.cell q7 (fun h => h)⟩)
        repeat (first
          | (refine sq_off (a' := ?_) rfl rfl (by rfl) (fun _ => (HS).out) ?ha ?_; (case ha => simp only [Act.put, List.setIfInBounds_toArray, List.set_cons_zero, List.set_cons_succ]; rfl))
          | (refine sq_any (v := ?_) (a' := ?_) rfl rfl rfl (by rfl) (fun W => ?hr) ?ha ?_; (case hr => go_simp; first | done | rfl); (case ha => simp only [Act.put, List.setIfInBounds_toArray, List.set_cons_zero, List.set_cons_succ]; rfl))
          | (refine sq_load (v := ?_) (a' := ?_) rfl rfl rfl (by rfl) (fun W hSW => ?hr) (HS).out ?ha ?_; (case hr => (try dsimp only at hSW); go_simp; first | done | rfl); (case ha => simp only [Act.put, List.setIfInBounds_toArray, List.set_cons_zero, List.set_cons_succ]; rfl)))
        refine sq_call rfl rfl (by rfl) rfl Try.func25 rfl rfl [.slice A5 X1.length c5, .slice A6 X2.length c6] rfl ?_
        refine (samebytes (w := w6.drew) (HR56.out.fr (Fr.refl No _).drew (fun _ _ _ h => h)) (HR6.out.fr (Fr.refl No _).drew (fun _ _ _ h => h))).mono ?_
        rw [hDX.out]
        rintro e w' ⟨rfl, rfl⟩
        refine ⟨_, rfl, fun _ => HS.out, ?_⟩
        simp only [Act.put, List.setIfInBounds_toArray, List.set_cons_zero, List.set_cons_succ]
        refine sq_call rfl rfl (by rfl) rfl Try.func45 rfl rfl [.agg #[.int .i64 k, .int .i64 n, .string ⟨s.toArray⟩, .slice A l.length c], .agg #[.int .i64 k', .int .i64 n', .string ⟨s'.toArray⟩, .slice A' l'.length c']] rfl ?_
        have HF36d : Hid (Fr No w3 w6.drew) := (show Fr No w3 w6.drew from HF36.out.drew)
        refine (same_any _ _ _ _ _ _ _ (show ItV w6.drew (fun _ => True) _ _ from ⟨_, rfl, itR_move (fun q _ hq => HF36d.out.block q hq (fun h => h)) _ _ HRW.out⟩) (show ItV w6.drew (fun _ => True) _ _ from ⟨_, rfl, itR_move (fun q _ hq => HF36d.out.block q hq (fun h => h)) _ _ HRW'.out⟩)).mono ?_
        rw [← hD.out]
        rintro e w7 ⟨rfl, hf7⟩
        have HF37 : Hid (Fr No w3 w7) := (show Fr No w3 w7 from HF36d.out.then hf7)
        refine ⟨_, rfl, fun _ => ?_, ?_⟩
        · obtain ⟨q0, q1, q2, q3, q4, q5, q6, q7⟩ := HS3.out
          exact ⟨HF37.out.cell q0 (fun h => h), HF37.out.cell q1 (fun h => h), HF37.out.cell q2 (fun h => h), HF37.out.cell q3 (fun h => h), HF37.out.cell q4 (fun h => h), HF37.out.cell q5 (fun h => h), HF37.out.cell q6 (fun h => h), HF37.out.cell q7 (fun h => h)⟩
        simp only [Act.put, List.setIfInBounds_toArray, List.set_cons_zero, List.set_cons_succ]
        clear hf7
        repeat (first
          | (refine sq_off (a' := ?_) rfl rfl (by rfl) (fun _ => (HS).out) ?ha ?_; (case ha => simp only [Act.put, List.setIfInBounds_toArray, List.set_cons_zero, List.set_cons_succ]; rfl))
          | (refine sq_any (v := ?_) (a' := ?_) rfl rfl rfl (by rfl) (fun W => ?hr) ?ha ?_; (case hr => go_simp; first | done | rfl); (case ha => simp only [Act.put, List.setIfInBounds_toArray, List.set_cons_zero, List.set_cons_succ]; rfl))
          | (refine sq_load (v := ?_) (a' := ?_) rfl rfl rfl (by rfl) (fun W hSW => ?hr) (HS).out ?ha ?_; (case hr => (try dsimp only at hSW); go_simp; first | done | rfl); (case ha => simp only [Act.put, List.setIfInBounds_toArray, List.set_cons_zero, List.set_cons_succ]; rfl)))
        refine sq_done ?_
        cases D
        · go_wp2_with fail
          go_ret
          exact (show Told _ _ _ _ from ⟨rfl, HF3.out.then HF37.out⟩)
        · go_wp2_with fail
          go_ret
          exact (show Told _ _ _ _ from ⟨rfl, HF3.out.then HF37.out⟩)
      · have hl2 : X2 = [] := by rw [hX2.out, encodeI, if_neg (by rw [← hC2.out]; exact h2)]
        subst h1
        subst hl2
        simp only [List.length_nil]
        go_wp2_with fail
        go_ret
        exact (show Told _ _ _ _ from ⟨rfl, HF3.out.then HF36.out⟩)
    · have hl1 : X1 = [] := by rw [hX1.out, encodeI, if_neg (by rw [← hC1.out]; exact h1)]
      subst hl1
      simp only [List.length_nil]
      by_cases h2 : C2 = 0
      · subst h2
        go_wp2_with fail
        go_ret
        exact (show Told _ _ _ _ from ⟨rfl, HF3.out.then HF36.out⟩)
      · have hl2 : X2 = [] := by rw [hX2.out, encodeI, if_neg (by rw [← hC2.out]; exact h2)]
        subst hl2
        simp only [List.length_nil]
        go_wp2_with fail
        go_ret
        exact (show Told _ _ _ _ from ⟨rfl, HF3.out.then HF36.out⟩)
  · go_wp2_with fail
    go_ret
    exact (show Told _ _ _ _ from ⟨rfl, HF3.out.then HF34.out⟩)
end Go.Proofs.Ytbaohngnpgappaa
