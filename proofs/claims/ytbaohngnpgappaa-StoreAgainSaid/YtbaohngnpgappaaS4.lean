/- store's Item and change: what is saved, and a change, as an item. -/
import Derived.Test.YtbaohngnpgappaaS3
set_option linter.unusedVariables false
set_option linter.unusedSimpArgs false
namespace Go.Proofs.Ytbaohngnpgappaa
open Go.RowKit
set_option maxRecDepth 100000 in
set_option maxHeartbeats 4000000 in
theorem sitem_any {w : World} {F : Nat → Prop} {vv : Value} {s : Sv} (h : KV SvK w F vv s) (hn : s.l.length ≤ 1048576) : Calls Try.prog 62 #[vv] w (ItemTold w (itSv s)) := by
  obtain ⟨n0, n1, n2, n3, sn, sl⟩ := s
  obtain ⟨cs0, rfl, ⟨vs, vl, rfl, hbs, hrow, i1, i2, i3, i4⟩⟩ := h
  obtain ⟨As, cs, rfl, hsc1, hsc2⟩ := hbs.shape
  obtain ⟨Al, cl, rfl, _, _⟩ := hrow.shape
  simp only at hbs hrow i1 i2 i3 i4 hn hsc1 ⊢
  have HSM : Hid (sn.length ≤ maxLen) := (show _ ≤ _ from Nat.le_trans hsc1 hsc2)
  obtain ⟨ns, hns⟩ : ∃ n, n = sn.length := ⟨_, rfl⟩
  obtain ⟨nl, hnl⟩ : ∃ n, n = sl.length := ⟨_, rfl⟩
  rw [← hns] at hbs ⊢
  rw [← hnl] at hrow ⊢
  have HBS := Lib.hid hbs
  have HROW := Lib.hid hrow
  have HLN : Hid (sl.length ≤ 1048576) := (show _ ≤ _ from hn)
  have HI : Hid (I64 n0 ∧ I64 n1 ∧ I64 n2 ∧ I64 n3) := (show _ ∧ _ from ⟨i1, i2, i3, i4⟩)
  obtain ⟨xb, hxb⟩ : ∃ b, b = w.heap.size := ⟨_, rfl⟩
  obtain ⟨w1, hw1⟩ : ∃ w1, Hid (w1 = (w.alloc (.cells #[.int .i64 n0, .int .i64 n1, .int .i64 n2, .int .i64 n3, .slice As ns cs, .slice Al nl cl] 68 (0, 0))).alloc (.cells #[.int .i64 0, .int .i64 0, .string ⟨#[]⟩, .slice none 0 0] 48 (0, 0))) := ⟨_, show _ = _ from rfl⟩
  have hf1 : Fr No w w1 := by rw [hw1.out]; exact ((Fr.refl _ _).alloc _).alloc _
  have hx1 : w1.heap[xb]? = some (.cells #[.int .i64 n0, .int .i64 n1, .int .i64 n2, .int .i64 n3, .slice As ns cs, .slice Al nl cl] 68 (0, 0)) := by rw [hw1.out, hxb]; exact Fr.heap (S := No) ((Fr.refl _ _).alloc _) (blk_new _ _) (fun h => h)
  have hr1 : VIs w1 (xb + 1) 0 0 [] (.slice none 0 0) := by rw [hw1.out, hxb]; exact blk_new' (by simp)
  have hs1 : w1.heap.size = xb + 2 := by rw [hw1.out, hxb]; simp
  have b0 := blk_cell hx1 0
  have b1 := blk_cell hx1 1
  have b2 := blk_cell hx1 2
  have b3 := blk_cell hx1 3
  have b4 := blk_cell hx1 4
  have b5 := blk_cell hx1 5
  simp only [List.getElem?_toArray, List.getElem?_cons_zero, List.getElem?_cons_succ] at b0 b1 b2 b3 b4 b5
  have HF1 := Lib.hid hf1
  have HR1 := Lib.hid hr1
  have HS1 := Lib.hid hs1
  have HXB := Lib.hid hxb
  clear hbs hrow hns hnl i1 i2 i3 i4 hn hf1 hx1 hr1 hs1 hxb hsc1 hsc2
  go_enter Try.func62, Try.ntmps62
  go_upto_region 1 with fail
  rw [← hw1.out, ← HXB.out]
  refine wp_seq_region (fun W => W.cell? ⟨xb, 0, none⟩ = some (.int .i64 n0) ∧ W.cell? ⟨xb, 1, none⟩ = some (.int .i64 n1) ∧ W.cell? ⟨xb, 2, none⟩ = some (.int .i64 n2) ∧ W.cell? ⟨xb, 3, none⟩ = some (.int .i64 n3) ∧ W.cell? ⟨xb, 4, none⟩ = some (.slice As ns cs) ∧ W.cell? ⟨xb, 5, none⟩ = some (.slice Al nl cl)) [2, 5, 8, 11, 14, 17, 18, 19, 20] [1, 4, 7, 10, 13, 16] [20] [0, 1, 3, 4, 6, 7, 9, 10, 12, 13, 15, 16, 2, 5, 8, 11, 14, 17, 18, 19, 20] (by kernel_rfl) (by kernel_rfl) rfl (by kernel_rfl) (fun _ _ _ _ _ h => h) ?_
  have HS : Hid (w1.drew.cell? ⟨xb, 0, none⟩ = some (.int .i64 n0) ∧ w1.drew.cell? ⟨xb, 1, none⟩ = some (.int .i64 n1) ∧ w1.drew.cell? ⟨xb, 2, none⟩ = some (.int .i64 n2) ∧ w1.drew.cell? ⟨xb, 3, none⟩ = some (.int .i64 n3) ∧ w1.drew.cell? ⟨xb, 4, none⟩ = some (.slice As ns cs) ∧ w1.drew.cell? ⟨xb, 5, none⟩ = some (.slice Al nl cl)) := (show _ ∧ _ from ⟨b0, b1, b2, b3, b4, b5⟩)
  clear b0 b1 b2 b3 b4 b5
  repeat (first
    | (refine sq_off (a' := ?_) rfl rfl (by rfl) (fun _ => (HS).out) ?ha ?_; (case ha => simp only [Act.put, List.setIfInBounds_toArray, List.set_cons_zero, List.set_cons_succ]; rfl))
    | (refine sq_any (v := ?_) (a' := ?_) rfl rfl rfl (by rfl) (fun W => ?hr) ?ha ?_; (case hr => go_simp; first | done | rfl); (case ha => simp only [Act.put, List.setIfInBounds_toArray, List.set_cons_zero, List.set_cons_succ]; rfl))
    | (refine sq_load (v := ?_) (a' := ?_) rfl rfl rfl (by rfl) (fun W hSW => ?hr) (HS).out ?ha ?_; (case hr => (try dsimp only at hSW); go_simp; first | done | rfl); (case ha => simp only [Act.put, List.setIfInBounds_toArray, List.set_cons_zero, List.set_cons_succ]; rfl)))
  have HFa : Hid (Fr No w1 w1.drew) := (show Fr No w1 w1.drew from (Fr.refl _ _).drew)
  refine sq_call rfl rfl (by rfl) rfl Try.func94 rfl rfl [.int .i64 n0] rfl ?_
  refine (num_any n0 _).mono ?_
  rintro e w2 ⟨rfl, hf⟩
  have HFw2 : Hid (Fr No w1 w2) := (show Fr No w1 w2 from HFa.out.then hf)
  have HSw2 : Hid (w2.cell? ⟨xb, 0, none⟩ = some (.int .i64 n0) ∧ w2.cell? ⟨xb, 1, none⟩ = some (.int .i64 n1) ∧ w2.cell? ⟨xb, 2, none⟩ = some (.int .i64 n2) ∧ w2.cell? ⟨xb, 3, none⟩ = some (.int .i64 n3) ∧ w2.cell? ⟨xb, 4, none⟩ = some (.slice As ns cs) ∧ w2.cell? ⟨xb, 5, none⟩ = some (.slice Al nl cl)) := (show _ ∧ _ from by obtain ⟨q0, q1, q2, q3, q4, q5⟩ := HS.out; exact ⟨hf.cell q0 (fun h => h), hf.cell q1 (fun h => h), hf.cell q2 (fun h => h), hf.cell q3 (fun h => h), hf.cell q4 (fun h => h), hf.cell q5 (fun h => h)⟩)
  refine ⟨_, rfl, fun _ => HSw2.out, ?_⟩
  simp only [Act.put, List.setIfInBounds_toArray, List.set_cons_zero, List.set_cons_succ]
  clear hf
  refine sq_call rfl rfl (by rfl) rfl Try.func94 rfl rfl [.int .i64 n1] rfl ?_
  refine (num_any n1 _).mono ?_
  rintro e w3 ⟨rfl, hf⟩
  have HFw3 : Hid (Fr No w1 w3) := (show Fr No w1 w3 from HFw2.out.then hf)
  have HSw3 : Hid (w3.cell? ⟨xb, 0, none⟩ = some (.int .i64 n0) ∧ w3.cell? ⟨xb, 1, none⟩ = some (.int .i64 n1) ∧ w3.cell? ⟨xb, 2, none⟩ = some (.int .i64 n2) ∧ w3.cell? ⟨xb, 3, none⟩ = some (.int .i64 n3) ∧ w3.cell? ⟨xb, 4, none⟩ = some (.slice As ns cs) ∧ w3.cell? ⟨xb, 5, none⟩ = some (.slice Al nl cl)) := (show _ ∧ _ from by obtain ⟨q0, q1, q2, q3, q4, q5⟩ := HSw2.out; exact ⟨hf.cell q0 (fun h => h), hf.cell q1 (fun h => h), hf.cell q2 (fun h => h), hf.cell q3 (fun h => h), hf.cell q4 (fun h => h), hf.cell q5 (fun h => h)⟩)
  refine ⟨_, rfl, fun _ => HSw3.out, ?_⟩
  simp only [Act.put, List.setIfInBounds_toArray, List.set_cons_zero, List.set_cons_succ]
  clear hf
  refine sq_call rfl rfl (by rfl) rfl Try.func94 rfl rfl [.int .i64 n2] rfl ?_
  refine (num_any n2 _).mono ?_
  rintro e w4 ⟨rfl, hf⟩
  have HFw4 : Hid (Fr No w1 w4) := (show Fr No w1 w4 from HFw3.out.then hf)
  have HSw4 : Hid (w4.cell? ⟨xb, 0, none⟩ = some (.int .i64 n0) ∧ w4.cell? ⟨xb, 1, none⟩ = some (.int .i64 n1) ∧ w4.cell? ⟨xb, 2, none⟩ = some (.int .i64 n2) ∧ w4.cell? ⟨xb, 3, none⟩ = some (.int .i64 n3) ∧ w4.cell? ⟨xb, 4, none⟩ = some (.slice As ns cs) ∧ w4.cell? ⟨xb, 5, none⟩ = some (.slice Al nl cl)) := (show _ ∧ _ from by obtain ⟨q0, q1, q2, q3, q4, q5⟩ := HSw3.out; exact ⟨hf.cell q0 (fun h => h), hf.cell q1 (fun h => h), hf.cell q2 (fun h => h), hf.cell q3 (fun h => h), hf.cell q4 (fun h => h), hf.cell q5 (fun h => h)⟩)
  refine ⟨_, rfl, fun _ => HSw4.out, ?_⟩
  simp only [Act.put, List.setIfInBounds_toArray, List.set_cons_zero, List.set_cons_succ]
  clear hf
  refine sq_call rfl rfl (by rfl) rfl Try.func94 rfl rfl [.int .i64 n3] rfl ?_
  refine (num_any n3 _).mono ?_
  rintro e w5 ⟨rfl, hf⟩
  have HFw5 : Hid (Fr No w1 w5) := (show Fr No w1 w5 from HFw4.out.then hf)
  have HSw5 : Hid (w5.cell? ⟨xb, 0, none⟩ = some (.int .i64 n0) ∧ w5.cell? ⟨xb, 1, none⟩ = some (.int .i64 n1) ∧ w5.cell? ⟨xb, 2, none⟩ = some (.int .i64 n2) ∧ w5.cell? ⟨xb, 3, none⟩ = some (.int .i64 n3) ∧ w5.cell? ⟨xb, 4, none⟩ = some (.slice As ns cs) ∧ w5.cell? ⟨xb, 5, none⟩ = some (.slice Al nl cl)) := (show _ ∧ _ from by obtain ⟨q0, q1, q2, q3, q4, q5⟩ := HSw4.out; exact ⟨hf.cell q0 (fun h => h), hf.cell q1 (fun h => h), hf.cell q2 (fun h => h), hf.cell q3 (fun h => h), hf.cell q4 (fun h => h), hf.cell q5 (fun h => h)⟩)
  refine ⟨_, rfl, fun _ => HSw5.out, ?_⟩
  simp only [Act.put, List.setIfInBounds_toArray, List.set_cons_zero, List.set_cons_succ]
  clear hf
  refine sq_call rfl rfl (by rfl) rfl Try.func95 rfl rfl [.slice As ns cs] rfl ?_
  refine (text_any (HBS.out.fr (HF1.out.then HFw5.out) (fun _ _ _ h => h))).mono ?_
  rintro e w6 ⟨rfl, hf⟩
  have HFw6 : Hid (Fr No w1 w6) := (show Fr No w1 w6 from HFw5.out.then hf)
  have HSw6 : Hid (w6.cell? ⟨xb, 0, none⟩ = some (.int .i64 n0) ∧ w6.cell? ⟨xb, 1, none⟩ = some (.int .i64 n1) ∧ w6.cell? ⟨xb, 2, none⟩ = some (.int .i64 n2) ∧ w6.cell? ⟨xb, 3, none⟩ = some (.int .i64 n3) ∧ w6.cell? ⟨xb, 4, none⟩ = some (.slice As ns cs) ∧ w6.cell? ⟨xb, 5, none⟩ = some (.slice Al nl cl)) := (show _ ∧ _ from by obtain ⟨q0, q1, q2, q3, q4, q5⟩ := HSw5.out; exact ⟨hf.cell q0 (fun h => h), hf.cell q1 (fun h => h), hf.cell q2 (fun h => h), hf.cell q3 (fun h => h), hf.cell q4 (fun h => h), hf.cell q5 (fun h => h)⟩)
  refine ⟨_, rfl, fun _ => HSw6.out, ?_⟩
  simp only [Act.put, List.setIfInBounds_toArray, List.set_cons_zero, List.set_cons_succ]
  clear hf
  refine sq_call rfl rfl (by rfl) rfl Try.func96 rfl rfl [.slice Al nl cl] rfl ?_
  refine (entries_any (HROW.out.fr (by decide) (HF1.out.then HFw6.out) (fun _ _ _ h => h)) HLN.out).mono ?_
  rintro e w7 ⟨vv, rfl, ⟨cse, rfl, hie⟩, hf⟩
  have hie0 := hie
  obtain ⟨ve, rfl, hve, _⟩ := itR_row hie
  obtain ⟨Ae, ce, rfl, _, _⟩ := hve.shape
  have HIE := Lib.hid hie0
  have HFw7 : Hid (Fr No w1 w7) := (show Fr No w1 w7 from HFw6.out.then hf)
  have HSw7 : Hid (w7.cell? ⟨xb, 0, none⟩ = some (.int .i64 n0) ∧ w7.cell? ⟨xb, 1, none⟩ = some (.int .i64 n1) ∧ w7.cell? ⟨xb, 2, none⟩ = some (.int .i64 n2) ∧ w7.cell? ⟨xb, 3, none⟩ = some (.int .i64 n3) ∧ w7.cell? ⟨xb, 4, none⟩ = some (.slice As ns cs) ∧ w7.cell? ⟨xb, 5, none⟩ = some (.slice Al nl cl)) := (show _ ∧ _ from by obtain ⟨q0, q1, q2, q3, q4, q5⟩ := HSw6.out; exact ⟨hf.cell q0 (fun h => h), hf.cell q1 (fun h => h), hf.cell q2 (fun h => h), hf.cell q3 (fun h => h), hf.cell q4 (fun h => h), hf.cell q5 (fun h => h)⟩)
  obtain ⟨ne, hne⟩ : ∃ n, n = (sl.map itEn).length := ⟨_, rfl⟩
  rw [← hne] at HIE ⊢
  have HNE := Lib.hid hne
  unfold str at *
  refine ⟨_, rfl, fun _ => HSw7.out, ?_⟩
  simp only [Act.put, List.setIfInBounds_toArray, List.set_cons_zero, List.set_cons_succ]
  have HSZ : Hid (w.heap.size ≤ w6.heap.size ∧ w6.heap.size ≤ w7.heap.size ∧ xb + 2 ≤ w6.heap.size) := (show _ ∧ _ from ⟨(HF1.out.then HFw6.out).size, hf.size, by have := HFw6.out.size; have := HS1.out; omega⟩)
  clear hf hie hie0 hve hne
  obtain ⟨w8, hw8⟩ : ∃ w8, Hid (w8 = w7.alloc (.cells #[.int .i64 1, .int .i64 n0, .string ⟨#[]⟩, .slice none 0 0, .int .i64 1, .int .i64 n1, .string ⟨#[]⟩, .slice none 0 0, .int .i64 1, .int .i64 n2, .string ⟨#[]⟩, .slice none 0 0, .int .i64 1, .int .i64 n3, .string ⟨#[]⟩, .slice none 0 0, .int .i64 2, .int .i64 0, .string ⟨sn.toArray⟩, .slice none 0 0, .int .i64 3, .int .i64 0, .string ⟨#[]⟩, .slice Ae ne ce] 48 (0, 0))) := ⟨_, show _ = _ from rfl⟩
  have hf8 : Fr No w7 w8 := by rw [hw8.out]; exact (Fr.refl _ _).alloc _
  have hb8 : w8.heap[w7.heap.size]? = some (.cells #[.int .i64 1, .int .i64 n0, .string ⟨#[]⟩, .slice none 0 0, .int .i64 1, .int .i64 n1, .string ⟨#[]⟩, .slice none 0 0, .int .i64 1, .int .i64 n2, .string ⟨#[]⟩, .slice none 0 0, .int .i64 1, .int .i64 n3, .string ⟨#[]⟩, .slice none 0 0, .int .i64 2, .int .i64 0, .string ⟨sn.toArray⟩, .slice none 0 0, .int .i64 3, .int .i64 0, .string ⟨#[]⟩, .slice Ae ne ce] 48 (0, 0)) := by rw [hw8.out]; exact blk_new _ _
  have HB8 := Lib.hid hb8
  have HFw8 : Hid (Fr No w1 w8) := (show Fr No w1 w8 from HFw7.out.then hf8)
  have HSw8 : Hid (w8.cell? ⟨xb, 0, none⟩ = some (.int .i64 n0) ∧ w8.cell? ⟨xb, 1, none⟩ = some (.int .i64 n1) ∧ w8.cell? ⟨xb, 2, none⟩ = some (.int .i64 n2) ∧ w8.cell? ⟨xb, 3, none⟩ = some (.int .i64 n3) ∧ w8.cell? ⟨xb, 4, none⟩ = some (.slice As ns cs) ∧ w8.cell? ⟨xb, 5, none⟩ = some (.slice Al nl cl)) := (show _ ∧ _ from by obtain ⟨q0, q1, q2, q3, q4, q5⟩ := HSw7.out; exact ⟨hf8.cell q0 (fun h => h), hf8.cell q1 (fun h => h), hf8.cell q2 (fun h => h), hf8.cell q3 (fun h => h), hf8.cell q4 (fun h => h), hf8.cell q5 (fun h => h)⟩)
  refine sq_value (v := .slice (some ⟨w7.heap.size, 0, none⟩) 6 6) (w1 := w8) (a' := ?_) rfl rfl (by rfl) ?hr (fun _ => HSw8.out) ?ha ?_
  case hr => rw [hw8.out]; go_simp; first | done | rfl | (constructor <;> rfl)
  case ha => simp only [Act.put, List.setIfInBounds_toArray, List.set_cons_zero, List.set_cons_succ]; rfl
  have HF78 := Lib.hid hf8
  clear hf8 hb8
  refine sq_call rfl rfl (by rfl) rfl Try.func93 rfl rfl [.slice (some ⟨w7.heap.size, 0, none⟩) 6 6] rfl ?_
  refine (list_any (some ⟨w7.heap.size, 0, none⟩) 6 6 w8).mono ?_
  rintro e w9 ⟨rfl, hf⟩
  have HF89 : Hid (Fr No w8 w9) := (show Fr No w8 w9 from hf)
  have HFw9 : Hid (Fr No w1 w9) := (show Fr No w1 w9 from HFw8.out.then hf)
  have HSw9 : Hid (w9.cell? ⟨xb, 0, none⟩ = some (.int .i64 n0) ∧ w9.cell? ⟨xb, 1, none⟩ = some (.int .i64 n1) ∧ w9.cell? ⟨xb, 2, none⟩ = some (.int .i64 n2) ∧ w9.cell? ⟨xb, 3, none⟩ = some (.int .i64 n3) ∧ w9.cell? ⟨xb, 4, none⟩ = some (.slice As ns cs) ∧ w9.cell? ⟨xb, 5, none⟩ = some (.slice Al nl cl)) := (show _ ∧ _ from by obtain ⟨q0, q1, q2, q3, q4, q5⟩ := HSw8.out; exact ⟨hf.cell q0 (fun h => h), hf.cell q1 (fun h => h), hf.cell q2 (fun h => h), hf.cell q3 (fun h => h), hf.cell q4 (fun h => h), hf.cell q5 (fun h => h)⟩)
  refine ⟨_, rfl, fun _ => HSw9.out, ?_⟩
  simp only [Act.put, List.setIfInBounds_toArray, List.set_cons_zero, List.set_cons_succ]
  clear hf
  have hr9 : VIs w9 (xb + 1) 0 0 [] (.slice none 0 0) := HFw9.out.heap HR1.out (fun h => h)
  obtain ⟨b0, b1, b2, b3⟩ := v_cells hr9
  have z0 := v_free hr9 0
  have z1 := v_free hr9 1
  have z2 := v_free hr9 2
  have z3 := v_free hr9 3
  obtain ⟨wz, hwz⟩ : ∃ wz, Hid (wz = backW w9 (xb + 1) 3 0 [] (.slice (some ⟨w7.heap.size, 0, none⟩) 6 6)) := ⟨_, show _ = _ from rfl⟩
  refine sq_store (w1 := wz) rfl rfl (by rfl) rfl ?hr (fun h => absurd (by decide) h) ?_
  case hr => rw [hwz.out]; unfold backW; go_simp; first | done | rfl | (constructor <;> rfl)
  refine sq_done ?_
  have HEND : Hid (ItemTold w (itList [itNum n0, itNum n1, itNum n2, itNum n3, itText sn, itEns sl]) (.returned (.agg #[.int .i64 3, .int .i64 0, .string ⟨#[]⟩, .slice (some ⟨w7.heap.size, 0, none⟩) 6 6])) wz) := (show ItemTold _ _ _ _ from by
    have hsz := HSZ.out
    have hxb := HXB.out
    have hfz : Fr (fun q => q = xb + 1) w9 wz := by rw [hwz.out]; exact back_fr _ _ _ _ _ _
    refine ⟨_, rfl, ⟨_, rfl, list_r (l := [itNum n0, itNum n1, itNum n2, itNum n3, itText sn, itEns sl]) ?_⟩, ?_⟩
    · have hrow : Row ItK w9 (fun k => w6.heap.size ≤ k) (.slice (some ⟨w7.heap.size, 0, none⟩) 6 6) [itNum n0, itNum n1, itNum n2, itNum n3, itText sn, itEns sl] := by
        refine row_cells (xs := [itNum n0, itNum n1, itNum n2, itNum n3, itText sn, itEns sl]) (b := w7.heap.size) hsz.2.1 [[.int .i64 1, .int .i64 n0, .string ⟨#[]⟩, .slice none 0 0], [.int .i64 1, .int .i64 n1, .string ⟨#[]⟩, .slice none 0 0], [.int .i64 1, .int .i64 n2, .string ⟨#[]⟩, .slice none 0 0], [.int .i64 1, .int .i64 n3, .string ⟨#[]⟩, .slice none 0 0], [.int .i64 2, .int .i64 0, .string ⟨sn.toArray⟩, .slice none 0 0], [.int .i64 3, .int .i64 0, .string ⟨#[]⟩, .slice Ae ne ce]] rfl (fun i y cs hy hcs => ?_) (HF89.out.heap HB8.out (fun h => h)) (show ([itNum n0, itNum n1, itNum n2, itNum n3, itText sn, itEns sl] : List It).length ≤ 1000 from by simp)
        rcases i with _ | _ | _ | _ | _ | _ | i
        · cases hy; cases hcs; exact num_r HI.out.1
        · cases hy; cases hcs; exact num_r HI.out.2.1
        · cases hy; cases hcs; exact num_r HI.out.2.2.1
        · cases hy; cases hcs; exact num_r HI.out.2.2.2
        · cases hy; cases hcs; exact text_r HSM.out
        · cases hy; cases hcs; exact itR_move (fun q _ hq => (HF78.out.then HF89.out).block q hq (fun h => h)) _ _ HIE.out
        · simp at hy
      exact (hrow.fr (by decide) hfz (fun k _ hk h => by have h' : k = xb + 1 := h; have hk' : w6.heap.size ≤ k := hk; omega)).mono (fun k hk => by have hk' : w6.heap.size ≤ k := hk; show w.heap.size ≤ k; omega)
    · exact (HF1.out.then HFw9.out).trans hfz (fun _ _ h => h) (fun q hq h => by have h' : q = xb + 1 := h; omega))
  have hv9 : VIs wz (xb + 1) 3 0 [] (.slice (some ⟨w7.heap.size, 0, none⟩) 6 6) := by rw [hwz.out]; exact back_set (s' := []) hr9
  obtain ⟨y0, y1, y2, y3⟩ := v_cells hv9
  clear b0 b1 b2 b3 z0 z1 z2 z3 hr9 hv9
  go_wp2_with fail
  (try simp only [Exit.inBlock, Exit.then])
  refine bodyPost_ret (by simp [results, Try.results62, go_sem, y0, y1, y2, y3]; try rfl) rfl ?_
  exact HEND.out
set_option maxRecDepth 100000 in
set_option maxHeartbeats 4000000 in
theorem schange_any {w : World} {F : Nat → Prop} {vv : Value} {s : Ch} (h : KV ChK w F vv s) (hn : s.l.length ≤ 1048576) : Calls Try.prog 78 #[vv] w (ItemTold w (itCh s)) := by
  obtain ⟨n0, n1, n2, n3, sl, sn⟩ := s
  obtain ⟨cs0, rfl, ⟨vl, vs, rfl, hrow, hbs, i1, i2, i3, i4⟩⟩ := h
  obtain ⟨As, cs, rfl, hsc1, hsc2⟩ := hbs.shape
  obtain ⟨Al, cl, rfl, _, _⟩ := hrow.shape
  simp only at hbs hrow i1 i2 i3 i4 hn hsc1 ⊢
  have HSM : Hid (sn.length ≤ maxLen) := (show _ ≤ _ from Nat.le_trans hsc1 hsc2)
  obtain ⟨ns, hns⟩ : ∃ n, n = sn.length := ⟨_, rfl⟩
  obtain ⟨nl, hnl⟩ : ∃ n, n = sl.length := ⟨_, rfl⟩
  rw [← hns] at hbs ⊢
  rw [← hnl] at hrow ⊢
  have HBS := Lib.hid hbs
  have HROW := Lib.hid hrow
  have HLN : Hid (sl.length ≤ 1048576) := (show _ ≤ _ from hn)
  have HI : Hid (I64 n0 ∧ I64 n1 ∧ I64 n2 ∧ I64 n3) := (show _ ∧ _ from ⟨i1, i2, i3, i4⟩)
  obtain ⟨xb, hxb⟩ : ∃ b, b = w.heap.size := ⟨_, rfl⟩
  obtain ⟨w1, hw1⟩ : ∃ w1, Hid (w1 = (w.alloc (.cells #[.int .i64 n0, .int .i64 n1, .int .i64 n2, .int .i64 n3, .slice Al nl cl, .slice As ns cs] 62 (0, 0))).alloc (.cells #[.int .i64 0, .int .i64 0, .string ⟨#[]⟩, .slice none 0 0] 48 (0, 0))) := ⟨_, show _ = _ from rfl⟩
  have hf1 : Fr No w w1 := by rw [hw1.out]; exact ((Fr.refl _ _).alloc _).alloc _
  have hx1 : w1.heap[xb]? = some (.cells #[.int .i64 n0, .int .i64 n1, .int .i64 n2, .int .i64 n3, .slice Al nl cl, .slice As ns cs] 62 (0, 0)) := by rw [hw1.out, hxb]; exact Fr.heap (S := No) ((Fr.refl _ _).alloc _) (blk_new _ _) (fun h => h)
  have hr1 : VIs w1 (xb + 1) 0 0 [] (.slice none 0 0) := by rw [hw1.out, hxb]; exact blk_new' (by simp)
  have hs1 : w1.heap.size = xb + 2 := by rw [hw1.out, hxb]; simp
  have b0 := blk_cell hx1 0
  have b1 := blk_cell hx1 1
  have b2 := blk_cell hx1 2
  have b3 := blk_cell hx1 3
  have b4 := blk_cell hx1 4
  have b5 := blk_cell hx1 5
  simp only [List.getElem?_toArray, List.getElem?_cons_zero, List.getElem?_cons_succ] at b0 b1 b2 b3 b4 b5
  have HF1 := Lib.hid hf1
  have HR1 := Lib.hid hr1
  have HS1 := Lib.hid hs1
  have HXB := Lib.hid hxb
  clear hbs hrow hns hnl i1 i2 i3 i4 hn hf1 hx1 hr1 hs1 hxb hsc1 hsc2
  go_enter Try.func78, Try.ntmps78
  go_upto_region 1 with fail
  rw [← hw1.out, ← HXB.out]
  refine wp_seq_region (fun W => W.cell? ⟨xb, 0, none⟩ = some (.int .i64 n0) ∧ W.cell? ⟨xb, 1, none⟩ = some (.int .i64 n1) ∧ W.cell? ⟨xb, 2, none⟩ = some (.int .i64 n2) ∧ W.cell? ⟨xb, 3, none⟩ = some (.int .i64 n3) ∧ W.cell? ⟨xb, 4, none⟩ = some (.slice Al nl cl) ∧ W.cell? ⟨xb, 5, none⟩ = some (.slice As ns cs)) [2, 5, 8, 11, 14, 17, 18, 19, 20] [1, 4, 7, 10, 13, 16] [20] [0, 1, 3, 4, 6, 7, 9, 10, 12, 13, 15, 16, 2, 5, 8, 11, 14, 17, 18, 19, 20] (by kernel_rfl) (by kernel_rfl) rfl (by kernel_rfl) (fun _ _ _ _ _ h => h) ?_
  have HS : Hid (w1.drew.cell? ⟨xb, 0, none⟩ = some (.int .i64 n0) ∧ w1.drew.cell? ⟨xb, 1, none⟩ = some (.int .i64 n1) ∧ w1.drew.cell? ⟨xb, 2, none⟩ = some (.int .i64 n2) ∧ w1.drew.cell? ⟨xb, 3, none⟩ = some (.int .i64 n3) ∧ w1.drew.cell? ⟨xb, 4, none⟩ = some (.slice Al nl cl) ∧ w1.drew.cell? ⟨xb, 5, none⟩ = some (.slice As ns cs)) := (show _ ∧ _ from ⟨b0, b1, b2, b3, b4, b5⟩)
  clear b0 b1 b2 b3 b4 b5
  repeat (first
    | (refine sq_off (a' := ?_) rfl rfl (by rfl) (fun _ => (HS).out) ?ha ?_; (case ha => simp only [Act.put, List.setIfInBounds_toArray, List.set_cons_zero, List.set_cons_succ]; rfl))
    | (refine sq_any (v := ?_) (a' := ?_) rfl rfl rfl (by rfl) (fun W => ?hr) ?ha ?_; (case hr => go_simp; first | done | rfl); (case ha => simp only [Act.put, List.setIfInBounds_toArray, List.set_cons_zero, List.set_cons_succ]; rfl))
    | (refine sq_load (v := ?_) (a' := ?_) rfl rfl rfl (by rfl) (fun W hSW => ?hr) (HS).out ?ha ?_; (case hr => (try dsimp only at hSW); go_simp; first | done | rfl); (case ha => simp only [Act.put, List.setIfInBounds_toArray, List.set_cons_zero, List.set_cons_succ]; rfl)))
  have HFa : Hid (Fr No w1 w1.drew) := (show Fr No w1 w1.drew from (Fr.refl _ _).drew)
  refine sq_call rfl rfl (by rfl) rfl Try.func94 rfl rfl [.int .i64 n0] rfl ?_
  refine (num_any n0 _).mono ?_
  rintro e w2 ⟨rfl, hf⟩
  have HFw2 : Hid (Fr No w1 w2) := (show Fr No w1 w2 from HFa.out.then hf)
  have HSw2 : Hid (w2.cell? ⟨xb, 0, none⟩ = some (.int .i64 n0) ∧ w2.cell? ⟨xb, 1, none⟩ = some (.int .i64 n1) ∧ w2.cell? ⟨xb, 2, none⟩ = some (.int .i64 n2) ∧ w2.cell? ⟨xb, 3, none⟩ = some (.int .i64 n3) ∧ w2.cell? ⟨xb, 4, none⟩ = some (.slice Al nl cl) ∧ w2.cell? ⟨xb, 5, none⟩ = some (.slice As ns cs)) := (show _ ∧ _ from by obtain ⟨q0, q1, q2, q3, q4, q5⟩ := HS.out; exact ⟨hf.cell q0 (fun h => h), hf.cell q1 (fun h => h), hf.cell q2 (fun h => h), hf.cell q3 (fun h => h), hf.cell q4 (fun h => h), hf.cell q5 (fun h => h)⟩)
  refine ⟨_, rfl, fun _ => HSw2.out, ?_⟩
  simp only [Act.put, List.setIfInBounds_toArray, List.set_cons_zero, List.set_cons_succ]
  clear hf
  refine sq_call rfl rfl (by rfl) rfl Try.func94 rfl rfl [.int .i64 n1] rfl ?_
  refine (num_any n1 _).mono ?_
  rintro e w3 ⟨rfl, hf⟩
  have HFw3 : Hid (Fr No w1 w3) := (show Fr No w1 w3 from HFw2.out.then hf)
  have HSw3 : Hid (w3.cell? ⟨xb, 0, none⟩ = some (.int .i64 n0) ∧ w3.cell? ⟨xb, 1, none⟩ = some (.int .i64 n1) ∧ w3.cell? ⟨xb, 2, none⟩ = some (.int .i64 n2) ∧ w3.cell? ⟨xb, 3, none⟩ = some (.int .i64 n3) ∧ w3.cell? ⟨xb, 4, none⟩ = some (.slice Al nl cl) ∧ w3.cell? ⟨xb, 5, none⟩ = some (.slice As ns cs)) := (show _ ∧ _ from by obtain ⟨q0, q1, q2, q3, q4, q5⟩ := HSw2.out; exact ⟨hf.cell q0 (fun h => h), hf.cell q1 (fun h => h), hf.cell q2 (fun h => h), hf.cell q3 (fun h => h), hf.cell q4 (fun h => h), hf.cell q5 (fun h => h)⟩)
  refine ⟨_, rfl, fun _ => HSw3.out, ?_⟩
  simp only [Act.put, List.setIfInBounds_toArray, List.set_cons_zero, List.set_cons_succ]
  clear hf
  refine sq_call rfl rfl (by rfl) rfl Try.func94 rfl rfl [.int .i64 n2] rfl ?_
  refine (num_any n2 _).mono ?_
  rintro e w4 ⟨rfl, hf⟩
  have HFw4 : Hid (Fr No w1 w4) := (show Fr No w1 w4 from HFw3.out.then hf)
  have HSw4 : Hid (w4.cell? ⟨xb, 0, none⟩ = some (.int .i64 n0) ∧ w4.cell? ⟨xb, 1, none⟩ = some (.int .i64 n1) ∧ w4.cell? ⟨xb, 2, none⟩ = some (.int .i64 n2) ∧ w4.cell? ⟨xb, 3, none⟩ = some (.int .i64 n3) ∧ w4.cell? ⟨xb, 4, none⟩ = some (.slice Al nl cl) ∧ w4.cell? ⟨xb, 5, none⟩ = some (.slice As ns cs)) := (show _ ∧ _ from by obtain ⟨q0, q1, q2, q3, q4, q5⟩ := HSw3.out; exact ⟨hf.cell q0 (fun h => h), hf.cell q1 (fun h => h), hf.cell q2 (fun h => h), hf.cell q3 (fun h => h), hf.cell q4 (fun h => h), hf.cell q5 (fun h => h)⟩)
  refine ⟨_, rfl, fun _ => HSw4.out, ?_⟩
  simp only [Act.put, List.setIfInBounds_toArray, List.set_cons_zero, List.set_cons_succ]
  clear hf
  refine sq_call rfl rfl (by rfl) rfl Try.func94 rfl rfl [.int .i64 n3] rfl ?_
  refine (num_any n3 _).mono ?_
  rintro e w5 ⟨rfl, hf⟩
  have HFw5 : Hid (Fr No w1 w5) := (show Fr No w1 w5 from HFw4.out.then hf)
  have HSw5 : Hid (w5.cell? ⟨xb, 0, none⟩ = some (.int .i64 n0) ∧ w5.cell? ⟨xb, 1, none⟩ = some (.int .i64 n1) ∧ w5.cell? ⟨xb, 2, none⟩ = some (.int .i64 n2) ∧ w5.cell? ⟨xb, 3, none⟩ = some (.int .i64 n3) ∧ w5.cell? ⟨xb, 4, none⟩ = some (.slice Al nl cl) ∧ w5.cell? ⟨xb, 5, none⟩ = some (.slice As ns cs)) := (show _ ∧ _ from by obtain ⟨q0, q1, q2, q3, q4, q5⟩ := HSw4.out; exact ⟨hf.cell q0 (fun h => h), hf.cell q1 (fun h => h), hf.cell q2 (fun h => h), hf.cell q3 (fun h => h), hf.cell q4 (fun h => h), hf.cell q5 (fun h => h)⟩)
  refine ⟨_, rfl, fun _ => HSw5.out, ?_⟩
  simp only [Act.put, List.setIfInBounds_toArray, List.set_cons_zero, List.set_cons_succ]
  clear hf
  refine sq_call rfl rfl (by rfl) rfl Try.func95 rfl rfl [.slice As ns cs] rfl ?_
  refine (text_any (HBS.out.fr (HF1.out.then HFw5.out) (fun _ _ _ h => h))).mono ?_
  rintro e w6 ⟨rfl, hf⟩
  have HFw6 : Hid (Fr No w1 w6) := (show Fr No w1 w6 from HFw5.out.then hf)
  have HSw6 : Hid (w6.cell? ⟨xb, 0, none⟩ = some (.int .i64 n0) ∧ w6.cell? ⟨xb, 1, none⟩ = some (.int .i64 n1) ∧ w6.cell? ⟨xb, 2, none⟩ = some (.int .i64 n2) ∧ w6.cell? ⟨xb, 3, none⟩ = some (.int .i64 n3) ∧ w6.cell? ⟨xb, 4, none⟩ = some (.slice Al nl cl) ∧ w6.cell? ⟨xb, 5, none⟩ = some (.slice As ns cs)) := (show _ ∧ _ from by obtain ⟨q0, q1, q2, q3, q4, q5⟩ := HSw5.out; exact ⟨hf.cell q0 (fun h => h), hf.cell q1 (fun h => h), hf.cell q2 (fun h => h), hf.cell q3 (fun h => h), hf.cell q4 (fun h => h), hf.cell q5 (fun h => h)⟩)
  refine ⟨_, rfl, fun _ => HSw6.out, ?_⟩
  simp only [Act.put, List.setIfInBounds_toArray, List.set_cons_zero, List.set_cons_succ]
  clear hf
  refine sq_call rfl rfl (by rfl) rfl Try.func96 rfl rfl [.slice Al nl cl] rfl ?_
  refine (entries_any (HROW.out.fr (by decide) (HF1.out.then HFw6.out) (fun _ _ _ h => h)) HLN.out).mono ?_
  rintro e w7 ⟨vv, rfl, ⟨cse, rfl, hie⟩, hf⟩
  have hie0 := hie
  obtain ⟨ve, rfl, hve, _⟩ := itR_row hie
  obtain ⟨Ae, ce, rfl, _, _⟩ := hve.shape
  have HIE := Lib.hid hie0
  have HFw7 : Hid (Fr No w1 w7) := (show Fr No w1 w7 from HFw6.out.then hf)
  have HSw7 : Hid (w7.cell? ⟨xb, 0, none⟩ = some (.int .i64 n0) ∧ w7.cell? ⟨xb, 1, none⟩ = some (.int .i64 n1) ∧ w7.cell? ⟨xb, 2, none⟩ = some (.int .i64 n2) ∧ w7.cell? ⟨xb, 3, none⟩ = some (.int .i64 n3) ∧ w7.cell? ⟨xb, 4, none⟩ = some (.slice Al nl cl) ∧ w7.cell? ⟨xb, 5, none⟩ = some (.slice As ns cs)) := (show _ ∧ _ from by obtain ⟨q0, q1, q2, q3, q4, q5⟩ := HSw6.out; exact ⟨hf.cell q0 (fun h => h), hf.cell q1 (fun h => h), hf.cell q2 (fun h => h), hf.cell q3 (fun h => h), hf.cell q4 (fun h => h), hf.cell q5 (fun h => h)⟩)
  obtain ⟨ne, hne⟩ : ∃ n, n = (sl.map itEn).length := ⟨_, rfl⟩
  rw [← hne] at HIE ⊢
  have HNE := Lib.hid hne
  unfold str at *
  refine ⟨_, rfl, fun _ => HSw7.out, ?_⟩
  simp only [Act.put, List.setIfInBounds_toArray, List.set_cons_zero, List.set_cons_succ]
  have HSZ : Hid (w.heap.size ≤ w6.heap.size ∧ w6.heap.size ≤ w7.heap.size ∧ xb + 2 ≤ w6.heap.size) := (show _ ∧ _ from ⟨(HF1.out.then HFw6.out).size, hf.size, by have := HFw6.out.size; have := HS1.out; omega⟩)
  clear hf hie hie0 hve hne
  obtain ⟨w8, hw8⟩ : ∃ w8, Hid (w8 = w7.alloc (.cells #[.int .i64 1, .int .i64 n0, .string ⟨#[]⟩, .slice none 0 0, .int .i64 1, .int .i64 n1, .string ⟨#[]⟩, .slice none 0 0, .int .i64 1, .int .i64 n2, .string ⟨#[]⟩, .slice none 0 0, .int .i64 1, .int .i64 n3, .string ⟨#[]⟩, .slice none 0 0, .int .i64 2, .int .i64 0, .string ⟨sn.toArray⟩, .slice none 0 0, .int .i64 3, .int .i64 0, .string ⟨#[]⟩, .slice Ae ne ce] 48 (0, 0))) := ⟨_, show _ = _ from rfl⟩
  have hf8 : Fr No w7 w8 := by rw [hw8.out]; exact (Fr.refl _ _).alloc _
  have hb8 : w8.heap[w7.heap.size]? = some (.cells #[.int .i64 1, .int .i64 n0, .string ⟨#[]⟩, .slice none 0 0, .int .i64 1, .int .i64 n1, .string ⟨#[]⟩, .slice none 0 0, .int .i64 1, .int .i64 n2, .string ⟨#[]⟩, .slice none 0 0, .int .i64 1, .int .i64 n3, .string ⟨#[]⟩, .slice none 0 0, .int .i64 2, .int .i64 0, .string ⟨sn.toArray⟩, .slice none 0 0, .int .i64 3, .int .i64 0, .string ⟨#[]⟩, .slice Ae ne ce] 48 (0, 0)) := by rw [hw8.out]; exact blk_new _ _
  have HB8 := Lib.hid hb8
  have HFw8 : Hid (Fr No w1 w8) := (show Fr No w1 w8 from HFw7.out.then hf8)
  have HSw8 : Hid (w8.cell? ⟨xb, 0, none⟩ = some (.int .i64 n0) ∧ w8.cell? ⟨xb, 1, none⟩ = some (.int .i64 n1) ∧ w8.cell? ⟨xb, 2, none⟩ = some (.int .i64 n2) ∧ w8.cell? ⟨xb, 3, none⟩ = some (.int .i64 n3) ∧ w8.cell? ⟨xb, 4, none⟩ = some (.slice Al nl cl) ∧ w8.cell? ⟨xb, 5, none⟩ = some (.slice As ns cs)) := (show _ ∧ _ from by obtain ⟨q0, q1, q2, q3, q4, q5⟩ := HSw7.out; exact ⟨hf8.cell q0 (fun h => h), hf8.cell q1 (fun h => h), hf8.cell q2 (fun h => h), hf8.cell q3 (fun h => h), hf8.cell q4 (fun h => h), hf8.cell q5 (fun h => h)⟩)
  refine sq_value (v := .slice (some ⟨w7.heap.size, 0, none⟩) 6 6) (w1 := w8) (a' := ?_) rfl rfl (by rfl) ?hr (fun _ => HSw8.out) ?ha ?_
  case hr => rw [hw8.out]; go_simp; first | done | rfl | (constructor <;> rfl)
  case ha => simp only [Act.put, List.setIfInBounds_toArray, List.set_cons_zero, List.set_cons_succ]; rfl
  have HF78 := Lib.hid hf8
  clear hf8 hb8
  refine sq_call rfl rfl (by rfl) rfl Try.func93 rfl rfl [.slice (some ⟨w7.heap.size, 0, none⟩) 6 6] rfl ?_
  refine (list_any (some ⟨w7.heap.size, 0, none⟩) 6 6 w8).mono ?_
  rintro e w9 ⟨rfl, hf⟩
  have HF89 : Hid (Fr No w8 w9) := (show Fr No w8 w9 from hf)
  have HFw9 : Hid (Fr No w1 w9) := (show Fr No w1 w9 from HFw8.out.then hf)
  have HSw9 : Hid (w9.cell? ⟨xb, 0, none⟩ = some (.int .i64 n0) ∧ w9.cell? ⟨xb, 1, none⟩ = some (.int .i64 n1) ∧ w9.cell? ⟨xb, 2, none⟩ = some (.int .i64 n2) ∧ w9.cell? ⟨xb, 3, none⟩ = some (.int .i64 n3) ∧ w9.cell? ⟨xb, 4, none⟩ = some (.slice Al nl cl) ∧ w9.cell? ⟨xb, 5, none⟩ = some (.slice As ns cs)) := (show _ ∧ _ from by obtain ⟨q0, q1, q2, q3, q4, q5⟩ := HSw8.out; exact ⟨hf.cell q0 (fun h => h), hf.cell q1 (fun h => h), hf.cell q2 (fun h => h), hf.cell q3 (fun h => h), hf.cell q4 (fun h => h), hf.cell q5 (fun h => h)⟩)
  refine ⟨_, rfl, fun _ => HSw9.out, ?_⟩
  simp only [Act.put, List.setIfInBounds_toArray, List.set_cons_zero, List.set_cons_succ]
  clear hf
  have hr9 : VIs w9 (xb + 1) 0 0 [] (.slice none 0 0) := HFw9.out.heap HR1.out (fun h => h)
  obtain ⟨b0, b1, b2, b3⟩ := v_cells hr9
  have z0 := v_free hr9 0
  have z1 := v_free hr9 1
  have z2 := v_free hr9 2
  have z3 := v_free hr9 3
  obtain ⟨wz, hwz⟩ : ∃ wz, Hid (wz = backW w9 (xb + 1) 3 0 [] (.slice (some ⟨w7.heap.size, 0, none⟩) 6 6)) := ⟨_, show _ = _ from rfl⟩
  refine sq_store (w1 := wz) rfl rfl (by rfl) rfl ?hr (fun h => absurd (by decide) h) ?_
  case hr => rw [hwz.out]; unfold backW; go_simp; first | done | rfl | (constructor <;> rfl)
  refine sq_done ?_
  have HEND : Hid (ItemTold w (itList [itNum n0, itNum n1, itNum n2, itNum n3, itText sn, itEns sl]) (.returned (.agg #[.int .i64 3, .int .i64 0, .string ⟨#[]⟩, .slice (some ⟨w7.heap.size, 0, none⟩) 6 6])) wz) := (show ItemTold _ _ _ _ from by
    have hsz := HSZ.out
    have hxb := HXB.out
    have hfz : Fr (fun q => q = xb + 1) w9 wz := by rw [hwz.out]; exact back_fr _ _ _ _ _ _
    refine ⟨_, rfl, ⟨_, rfl, list_r (l := [itNum n0, itNum n1, itNum n2, itNum n3, itText sn, itEns sl]) ?_⟩, ?_⟩
    · have hrow : Row ItK w9 (fun k => w6.heap.size ≤ k) (.slice (some ⟨w7.heap.size, 0, none⟩) 6 6) [itNum n0, itNum n1, itNum n2, itNum n3, itText sn, itEns sl] := by
        refine row_cells (xs := [itNum n0, itNum n1, itNum n2, itNum n3, itText sn, itEns sl]) (b := w7.heap.size) hsz.2.1 [[.int .i64 1, .int .i64 n0, .string ⟨#[]⟩, .slice none 0 0], [.int .i64 1, .int .i64 n1, .string ⟨#[]⟩, .slice none 0 0], [.int .i64 1, .int .i64 n2, .string ⟨#[]⟩, .slice none 0 0], [.int .i64 1, .int .i64 n3, .string ⟨#[]⟩, .slice none 0 0], [.int .i64 2, .int .i64 0, .string ⟨sn.toArray⟩, .slice none 0 0], [.int .i64 3, .int .i64 0, .string ⟨#[]⟩, .slice Ae ne ce]] rfl (fun i y cs hy hcs => ?_) (HF89.out.heap HB8.out (fun h => h)) (show ([itNum n0, itNum n1, itNum n2, itNum n3, itText sn, itEns sl] : List It).length ≤ 1000 from by simp)
        rcases i with _ | _ | _ | _ | _ | _ | i
        · cases hy; cases hcs; exact num_r HI.out.1
        · cases hy; cases hcs; exact num_r HI.out.2.1
        · cases hy; cases hcs; exact num_r HI.out.2.2.1
        · cases hy; cases hcs; exact num_r HI.out.2.2.2
        · cases hy; cases hcs; exact text_r HSM.out
        · cases hy; cases hcs; exact itR_move (fun q _ hq => (HF78.out.then HF89.out).block q hq (fun h => h)) _ _ HIE.out
        · simp at hy
      exact (hrow.fr (by decide) hfz (fun k _ hk h => by have h' : k = xb + 1 := h; have hk' : w6.heap.size ≤ k := hk; omega)).mono (fun k hk => by have hk' : w6.heap.size ≤ k := hk; show w.heap.size ≤ k; omega)
    · exact (HF1.out.then HFw9.out).trans hfz (fun _ _ h => h) (fun q hq h => by have h' : q = xb + 1 := h; omega))
  have hv9 : VIs wz (xb + 1) 3 0 [] (.slice (some ⟨w7.heap.size, 0, none⟩) 6 6) := by rw [hwz.out]; exact back_set (s' := []) hr9
  obtain ⟨y0, y1, y2, y3⟩ := v_cells hv9
  clear b0 b1 b2 b3 z0 z1 z2 z3 hr9 hv9
  go_wp2_with fail
  (try simp only [Exit.inBlock, Exit.then])
  refine bodyPost_ret (by simp [results, Try.results78, go_sem, y0, y1, y2, y3]; try rfl) rfl ?_
  exact HEND.out
end Go.Proofs.Ytbaohngnpgappaa
