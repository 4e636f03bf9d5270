/- The document's Item of what is saved, and its Same. -/
import Derived.Test.YtbaohngnpgappaaS4
set_option linter.unusedVariables false
set_option linter.unusedSimpArgs false
namespace Go.Proofs.Ytbaohngnpgappaa
open Go.RowKit
set_option maxRecDepth 100000 in
set_option maxHeartbeats 4000000 in
theorem refsitem_any {w : World} {F : Nat → Prop} {vv : Value} {s : Sv} (h : KV SvK w F vv s) (hn : s.l.length ≤ 1048576) : Calls Try.prog 42 #[vv] w (ItemTold w (itSv s)) := by
  obtain ⟨n0, n1, n2, n3, sn, l⟩ := s
  obtain ⟨cs0, rfl, ⟨vs, vl, rfl, hbs, hrow, i1, i2, i3, i4⟩⟩ := h
  obtain ⟨As, cs, rfl, hsc1, hsc2⟩ := hbs.shape
  obtain ⟨A, c, rfl, hc1, hc2⟩ := hrow.shape
  simp only at hbs hrow i1 i2 i3 i4 hn hsc1 hc1 ⊢
  have HSM : Hid (sn.length ≤ maxLen) := (show _ ≤ _ from Nat.le_trans hsc1 hsc2)
  obtain ⟨ns, hns⟩ : ∃ n, n = sn.length := ⟨_, rfl⟩
  rw [← hns] at hbs ⊢
  have HBS : Hid (Rb w (fun k => F k ∧ k < w.heap.size) (.slice As ns cs) sn) := (show Rb _ _ _ _ from hbs.bound)
  have H : Hid (Row EnK w (fun k => F k ∧ k < w.heap.size) (.slice A l.length c) l) := (show Row _ _ _ _ _ from hrow.bound (by decide))
  have HI : Hid (I64 n0 ∧ I64 n1 ∧ I64 n2 ∧ I64 n3) := (show _ ∧ _ from ⟨i1, i2, i3, i4⟩)
  obtain ⟨n, hnn⟩ : ∃ n, n = l.length := ⟨_, rfl⟩
  have HN := Lib.hid hnn
  rw [← hnn] at hn hc1 ⊢
  obtain ⟨xb, hxb⟩ : ∃ b, b = w.heap.size := ⟨_, rfl⟩
  obtain ⟨rb, hrb⟩ : ∃ b, b = xb + 1 := ⟨_, rfl⟩
  obtain ⟨w1, hw1⟩ : ∃ w1, Hid (w1 = (w.alloc (.cells #[.int .i64 n0, .int .i64 n1, .int .i64 n2, .int .i64 n3, .slice As ns cs, .slice A n c] 68 (0, 0))).alloc (.cells #[.int .i64 0, .int .i64 0, .string ⟨#[]⟩, .slice none 0 0] 48 (0, 0))) := ⟨_, show _ = _ from rfl⟩
  have hf1 : Fr No w w1 := by rw [hw1.out]; exact ((Fr.refl _ _).alloc _).alloc _
  have hx1 : w1.heap[xb]? = some (.cells #[.int .i64 n0, .int .i64 n1, .int .i64 n2, .int .i64 n3, .slice As ns cs, .slice A n c] 68 (0, 0)) := by rw [hw1.out, hxb]; exact Fr.heap (S := No) ((Fr.refl _ _).alloc _) (blk_new _ _) (fun h => h)
  have hr1 : VIs w1 rb 0 0 [] (.slice none 0 0) := by rw [hw1.out, hrb, hxb]; exact blk_new' (by simp)
  have hs1 : w1.heap.size = rb + 1 := by rw [hw1.out, hrb, hxb]; simp
  have HF1 := Lib.hid hf1
  have HX1 := Lib.hid hx1
  have HR1 := Lib.hid hr1
  have HS1 := Lib.hid hs1
  have HXB : Hid (xb = w.heap.size ∧ rb = xb + 1) := (show _ ∧ _ from ⟨hxb, hrb⟩)
  have HRB : Hid (w.heap.size < rb ∧ xb < rb) := (show _ ∧ _ from ⟨by omega, by omega⟩)
  clear hbs hrow hc2 hns hnn i1 i2 i3 i4 hf1 hx1 hr1 hs1 hsc1 hsc2
  go_enter Try.func42, Try.ntmps42
  go_wp2_with fail
  rw [← hxb, ← hrb, ← hw1.out]
  clear hxb hrb
  refine (list1_any none 0 0 w1).mono ?_
  rintro e w2 ⟨rfl, hf2⟩
  have HF2 : Hid (Fr No w1 w2) := (show Fr No w1 w2 from hf2)
  clear hf2
  go_upto_region 2 with fail
  obtain ⟨ob, hob⟩ : ∃ b, b = w2.heap.size := ⟨_, rfl⟩
  obtain ⟨w3, hw3⟩ : ∃ w3, Hid (w3 = w2.alloc (.cells #[.int .i64 3, .int .i64 0, .string ⟨#[]⟩, .slice none 0 0] 48 (0, 0))) := ⟨_, show _ = _ from rfl⟩
  rw [← hw3.out, ← hob]
  have hf3 : Fr No w2 w3 := by rw [hw3.out]; exact (Fr.refl _ _).alloc _
  have ho3 : VIs w3 ob 3 0 [] (.slice none 0 0) := by rw [hw3.out, hob]; exact blk_new _ _
  have hs3 : w3.heap.size = ob + 1 := by rw [hw3.out, hob]; simp
  have HF3 : Hid (Fr No w w3) := (show Fr No w w3 from (HF1.out.then HF2.out).then hf3)
  have HR3 : Hid (VIs w3 rb 0 0 [] (.slice none 0 0)) := (show VIs _ _ _ _ _ _ from (HF2.out.then hf3).heap HR1.out (fun h => h))
  have hx3 : w3.heap[xb]? = some (.cells #[.int .i64 n0, .int .i64 n1, .int .i64 n2, .int .i64 n3, .slice As ns cs, .slice A n c] 68 (0, 0)) := (HF2.out.then hf3).heap HX1.out (fun h => h)
  have b5 := blk_cell hx3 5
  simp only [List.getElem?_toArray, List.getElem?_cons_zero, List.getElem?_cons_succ] at b5
  have HX3 := Lib.hid hx3
  have HG0 : Hid (Grows w3 w3 ob l 0 (.slice none 0 0)) := (show Grows _ _ _ _ _ _ from ⟨ho3, OwK.nil _ _ _ _ _, Fr.refl _ _⟩)
  have HOB : Hid (rb < ob ∧ w3.heap.size = ob + 1) := (show _ ∧ _ from ⟨by have := HF2.out.size; have := HS1.out; omega, hs3⟩)
  clear hf3 ho3 hs3 hob hx3
  go_wp2_with fail
  clear b5
  go_loopw [10] (fun i wr => ∃ (j : Nat) (vl : Value), j ≤ n ∧ i = .int .i64 j ∧ Hid (Grows w3 wr ob l j vl)) (fun i _ => n - (intOf i).toNat)
  case atStart => exact ⟨0, _, Nat.zero_le _, rfl, HG0⟩
  case round =>
    obtain ⟨j, vl, hj, rfl, HJ⟩ := hrel
    by_cases hlt : j < n
    · have hlt' : j < l.length := by rw [← HN.out]; exact hlt
      obtain ⟨hv, hown, hfr⟩ := HJ.out
      have hm : ((l.take j).map itEn).length = j := by rw [List.length_map, List.length_take]; omega
      obtain ⟨Av, cv, rfl, _, _⟩ := hown.shape
      rw [hm] at hv hown HJ
      obtain ⟨b1, o1, _, cs, he, _, _, _, ⟨vb, hcs, hbr, hti⟩, hcell⟩ := (H.out.fr (by decide) (HF3.out.trans hfr (U := fun q => q = ob) (fun _ _ h => h.elim) (fun _ _ h => h)) (fun k _ hk h => by have h' : k = ob := h; have := hk.2; have := HOB.out.1; have := HRB.out.1; omega)).at_ j hlt'
      rw [← HN.out] at he
      cases he
      obtain ⟨x, hx⟩ : ∃ x, x = l[j] := ⟨_, rfl⟩
      have HXJ : Hid (l[j]? = some x) := (show _ = _ from by rw [hx]; exact List.getElem?_eq_getElem hlt')
      rw [← hx] at hcs hbr hti
      obtain ⟨xt, eb⟩ := x
      simp only at hcs hbr hti
      subst hcs
      obtain ⟨Ab, cb, rfl, hbc1, hbc2⟩ := hbr.shape
      have HXM : Hid (eb.length ≤ maxLen) := (show _ ≤ _ from Nat.le_trans hbc1 hbc2)
      obtain ⟨nb, hnb⟩ : ∃ nb, nb = eb.length := ⟨_, rfl⟩
      rw [← hnb] at hbr hcell
      have c0 := hcell 0 _ rfl
      have c1 := hcell 1 _ rfl
      simp only [show EnK.sz = 2 from rfl, Nat.add_zero] at c0 c1
      have HBR := Lib.hid hbr
      have HTI := Lib.hid hti
      have HV := Lib.hid hv
      have HO := Lib.hid hown
      have HFR := Lib.hid hfr
      have HM := Lib.hid hm
      clear hcell hbr hti hx hnb hbc1 hbc2 hv hown hfr hm
      go_upto_region 5 with fail
      obtain ⟨w4, hw4⟩ : ∃ w4, Hid (w4 = wr.alloc (.cells #[.int .i64 xt, .slice Ab nb cb] 64 (0, 0))) := ⟨_, show _ = _ from rfl⟩
      rw [← hw4.out]
      have hf4 : Fr No wr w4 := by rw [hw4.out]; exact (Fr.refl _ _).alloc _
      have hb4 : w4.heap[wr.heap.size]? = some (.cells #[.int .i64 xt, .slice Ab nb cb] 64 (0, 0)) := by rw [hw4.out]; exact blk_new _ _
      have k0 := blk_cell hb4 0
      have k1 := blk_cell hb4 1
      simp only [List.getElem?_toArray, List.getElem?_cons_zero, List.getElem?_cons_succ] at k0 k1
      obtain ⟨_, _, _, o3⟩ := v_cells (show VIs w4 ob 3 0 [] (.slice Av j cv) from hf4.heap HV.out (fun h => h))
      have HF4 := Lib.hid hf4
      refine wp_seq_region (fun W => W.cell? ⟨wr.heap.size, 0, none⟩ = some (.int .i64 xt) ∧ W.cell? ⟨wr.heap.size, 1, none⟩ = some (.slice Ab nb cb) ∧ W.cell? ⟨ob, 3, none⟩ = some (.slice Av j cv) ∧ Rb W (fun k => F k ∧ k < w.heap.size) (.slice Ab nb cb) eb) [4, 8, 9, 10, 11, 12, 14] [1, 3, 6, 7] [14] [0, 1, 2, 3, 5, 6, 7, 4, 8, 9, 10, 11, 12, 13, 14] (by kernel_rfl) (by kernel_rfl) rfl (by kernel_rfl) (fun _ _ _ _ _ h => h) ?_
      have HS : Hid (w4.drew.cell? ⟨wr.heap.size, 0, none⟩ = some (.int .i64 xt) ∧ w4.drew.cell? ⟨wr.heap.size, 1, none⟩ = some (.slice Ab nb cb) ∧ w4.drew.cell? ⟨ob, 3, none⟩ = some (.slice Av j cv) ∧ Rb w4.drew (fun k => F k ∧ k < w.heap.size) (.slice Ab nb cb) eb) := (show _ ∧ _ from ⟨k0, k1, o3, HBR.out.fr HF4.out.drew (fun _ _ _ h => h)⟩)
      clear hf4 hb4 k0 k1 c0 c1 o3
      repeat (first
        | (refine sq_off (a' := ?_) rfl rfl (by rfl) (fun _ => (HS).out) ?ha ?_; (case ha => simp only [Act.put, List.setIfInBounds_toArray, List.set_cons_zero, List.set_cons_succ]; rfl))
        | (refine sq_any (v := ?_) (a' := ?_) rfl rfl rfl (by rfl) (fun W => ?hr) ?ha ?_; (case hr => go_simp; first | done | rfl); (case ha => simp only [Act.put, List.setIfInBounds_toArray, List.set_cons_zero, List.set_cons_succ]; rfl))
        | (refine sq_load (v := ?_) (a' := ?_) rfl rfl rfl (by rfl) (fun W hSW => ?hr) (HS).out ?ha ?_; (case hr => (try dsimp only at hSW); go_simp; first | done | rfl); (case ha => simp only [Act.put, List.setIfInBounds_toArray, List.set_cons_zero, List.set_cons_succ]; rfl)))
      refine sq_load (v := .string ⟨eb.toArray⟩) (a' := ?_) rfl rfl rfl (by rfl) (fun W hSW => ?hr) HS.out ?ha ?_
      case hr => (first | exact conv_str Try.underlying22 Try.underlying5 Try.underlying9 hSW.2.2.2 | (unfold execOp; exact conv_str Try.underlying22 Try.underlying5 Try.underlying9 hSW.2.2.2) | (unfold execOp; simp [Act.eval, conv_str Try.underlying22 Try.underlying5 Try.underlying9 hSW.2.2.2]))
      case ha => simp only [Act.put, List.setIfInBounds_toArray, List.set_cons_zero, List.set_cons_succ]; rfl
      refine sq_call rfl rfl (by rfl) rfl Try.func80 rfl rfl [.int .i64 xt] rfl ?_
      have HF4d : Hid (Fr No wr w4.drew) := (show Fr No wr w4.drew from HF4.out.drew)
      refine (refnum_any xt w4.drew).mono ?_
      rintro e w5 ⟨rfl, hf5⟩
      have HF5 : Hid (Fr No wr w5) := (show Fr No wr w5 from HF4d.out.then hf5)
      refine ⟨_, rfl, fun _ => ⟨hf5.cell HS.out.1 (fun h => h), hf5.cell HS.out.2.1 (fun h => h), hf5.cell HS.out.2.2.1 (fun h => h), HS.out.2.2.2.fr hf5 (fun _ _ _ h => h)⟩, ?_⟩
      simp only [Act.put, List.setIfInBounds_toArray, List.set_cons_zero, List.set_cons_succ]
      have HS5 : Hid (w5.cell? ⟨wr.heap.size, 0, none⟩ = some (.int .i64 xt) ∧ w5.cell? ⟨wr.heap.size, 1, none⟩ = some (.slice Ab nb cb) ∧ w5.cell? ⟨ob, 3, none⟩ = some (.slice Av j cv) ∧ Rb w5 (fun k => F k ∧ k < w.heap.size) (.slice Ab nb cb) eb) := (show _ ∧ _ from ⟨hf5.cell HS.out.1 (fun h => h), hf5.cell HS.out.2.1 (fun h => h), hf5.cell HS.out.2.2.1 (fun h => h), HS.out.2.2.2.fr hf5 (fun _ _ _ h => h)⟩)
      clear hf5
      refine sq_call rfl rfl (by rfl) rfl Try.func73 rfl rfl [.string ⟨eb.toArray⟩] rfl ?_
      refine (text1_any eb w5).mono ?_
      rintro e w6 ⟨rfl, hf6⟩
      have HF6 : Hid (Fr No wr w6) := (show Fr No wr w6 from HF5.out.then hf6)
      have HS6 : Hid (w6.cell? ⟨wr.heap.size, 0, none⟩ = some (.int .i64 xt) ∧ w6.cell? ⟨wr.heap.size, 1, none⟩ = some (.slice Ab nb cb) ∧ w6.cell? ⟨ob, 3, none⟩ = some (.slice Av j cv) ∧ Rb w6 (fun k => F k ∧ k < w.heap.size) (.slice Ab nb cb) eb) := (show _ ∧ _ from ⟨hf6.cell HS5.out.1 (fun h => h), hf6.cell HS5.out.2.1 (fun h => h), hf6.cell HS5.out.2.2.1 (fun h => h), HS5.out.2.2.2.fr hf6 (fun _ _ _ h => h)⟩)
      refine ⟨_, rfl, fun _ => HS6.out, ?_⟩
      simp only [Act.put, List.setIfInBounds_toArray, List.set_cons_zero, List.set_cons_succ]
      clear hf6
      obtain ⟨w7, hw7⟩ : ∃ w7, Hid (w7 = w6.alloc (.cells #[.int .i64 1, .int .i64 xt, .string ⟨#[]⟩, .slice none 0 0, .int .i64 2, .int .i64 0, .string ⟨eb.toArray⟩, .slice none 0 0] 48 (0, 0))) := ⟨_, show _ = _ from rfl⟩
      have hf7 : Fr No w6 w7 := by rw [hw7.out]; exact (Fr.refl _ _).alloc _
      have hb7 : w7.heap[w6.heap.size]? = some (.cells #[.int .i64 1, .int .i64 xt, .string ⟨#[]⟩, .slice none 0 0, .int .i64 2, .int .i64 0, .string ⟨eb.toArray⟩, .slice none 0 0] 48 (0, 0)) := by rw [hw7.out]; exact blk_new _ _
      have HS7 : Hid (w7.cell? ⟨wr.heap.size, 0, none⟩ = some (.int .i64 xt) ∧ w7.cell? ⟨wr.heap.size, 1, none⟩ = some (.slice Ab nb cb) ∧ w7.cell? ⟨ob, 3, none⟩ = some (.slice Av j cv) ∧ Rb w7 (fun k => F k ∧ k < w.heap.size) (.slice Ab nb cb) eb) := (show _ ∧ _ from ⟨hf7.cell HS6.out.1 (fun h => h), hf7.cell HS6.out.2.1 (fun h => h), hf7.cell HS6.out.2.2.1 (fun h => h), HS6.out.2.2.2.fr hf7 (fun _ _ _ h => h)⟩)
      have HF67 := Lib.hid hf7
      have HB7 := Lib.hid hb7
      clear hf7 hb7
      refine sq_value (v := .slice (some ⟨w6.heap.size, 0, none⟩) 2 2) (w1 := w7) (a' := ?_) rfl rfl (by rfl) ?hr (fun _ => HS7.out) ?ha ?_
      case hr => rw [hw7.out]; go_simp; first | done | rfl | (constructor <;> rfl)
      case ha => simp only [Act.put, List.setIfInBounds_toArray, List.set_cons_zero, List.set_cons_succ]; rfl
      refine sq_call rfl rfl (by rfl) rfl Try.func37 rfl rfl [.slice (some ⟨w6.heap.size, 0, none⟩) 2 2] rfl ?_
      refine (list1_any (some ⟨w6.heap.size, 0, none⟩) 2 2 w7).mono ?_
      rintro e w8 ⟨rfl, hf8⟩
      have HF78 : Hid (Fr No w7 w8) := (show Fr No w7 w8 from hf8)
      have HS8 : Hid (w8.cell? ⟨wr.heap.size, 0, none⟩ = some (.int .i64 xt) ∧ w8.cell? ⟨wr.heap.size, 1, none⟩ = some (.slice Ab nb cb) ∧ w8.cell? ⟨ob, 3, none⟩ = some (.slice Av j cv) ∧ Rb w8 (fun k => F k ∧ k < w.heap.size) (.slice Ab nb cb) eb) := (show _ ∧ _ from ⟨hf8.cell HS7.out.1 (fun h => h), hf8.cell HS7.out.2.1 (fun h => h), hf8.cell HS7.out.2.2.1 (fun h => h), HS7.out.2.2.2.fr hf8 (fun _ _ _ h => h)⟩)
      refine ⟨_, rfl, fun _ => HS8.out, ?_⟩
      simp only [Act.put, List.setIfInBounds_toArray, List.set_cons_zero, List.set_cons_succ]
      clear hf8
      obtain ⟨w9, hw9⟩ : ∃ w9, Hid (w9 = w8.alloc (.cells #[.int .i64 3, .int .i64 0, .string ⟨#[]⟩, .slice (some ⟨w6.heap.size, 0, none⟩) 2 2] 48 (0, 0))) := ⟨_, show _ = _ from rfl⟩
      have hf9 : Fr No w8 w9 := by rw [hw9.out]; exact (Fr.refl _ _).alloc _
      have hb9 : w9.heap[w8.heap.size]? = some (.cells #[.int .i64 3, .int .i64 0, .string ⟨#[]⟩, .slice (some ⟨w6.heap.size, 0, none⟩) 2 2] 48 (0, 0)) := by rw [hw9.out]; exact blk_new _ _
      have HS9 : Hid (w9.cell? ⟨wr.heap.size, 0, none⟩ = some (.int .i64 xt) ∧ w9.cell? ⟨wr.heap.size, 1, none⟩ = some (.slice Ab nb cb) ∧ w9.cell? ⟨ob, 3, none⟩ = some (.slice Av j cv) ∧ Rb w9 (fun k => F k ∧ k < w.heap.size) (.slice Ab nb cb) eb) := (show _ ∧ _ from ⟨hf9.cell HS8.out.1 (fun h => h), hf9.cell HS8.out.2.1 (fun h => h), hf9.cell HS8.out.2.2.1 (fun h => h), HS8.out.2.2.2.fr hf9 (fun _ _ _ h => h)⟩)
      have HF69 : Hid (Fr No w6 w9) := (show Fr No w6 w9 from (HF67.out.then HF78.out).then hf9)
      have HF79 : Hid (Fr No w7 w9) := (show Fr No w7 w9 from HF78.out.then hf9)
      have HF9 : Hid (Fr No wr w9) := (show Fr No wr w9 from HF6.out.then HF69.out)
      have hs7 : w7.heap.size = w6.heap.size + 1 := by rw [hw7.out]; simp
      refine sq_value (v := .slice (some ⟨w8.heap.size, 0, none⟩) 1 1) (w1 := w9) (a' := ?_) rfl rfl (by rfl) ?hr (fun _ => HS9.out) ?ha ?_
      case hr => rw [hw9.out]; go_simp; first | done | rfl | (constructor <;> rfl)
      case ha => simp only [Act.put, List.setIfInBounds_toArray, List.set_cons_zero, List.set_cons_succ]; rfl
      have HO9 : Hid (OwK ItK 48 w9 (fun k => ob < k) (fun k => ob < k ∧ ¬ (Value.slice Av j cv).ownBlock = some k) (.slice Av j cv) ((l.take j).map itEn)) := (show OwK _ _ _ _ _ _ _ from HO.out.fr HF9.out (fun _ _ _ h => h))
      have HOG : Hid (∀ k, (Value.slice Av j cv).ownBlock = some k → k < wr.heap.size ∧ ob < k) := (show ∀ k, (Value.slice Av j cv).ownBlock = some k → k < wr.heap.size ∧ ob < k from by
        obtain ⟨_, ho, _⟩ := HO.out
        exact fun k hk => ⟨(ho.bound.2 k hk).2, (ho.bound.2 k hk).1⟩)
      have HIT : Hid (ItR w9 (fun q => wr.heap.size ≤ q ∧ q < w9.heap.size) (itEn (xt, eb)) [.int .i64 3, .int .i64 0, .string ⟨#[]⟩, .slice (some ⟨w6.heap.size, 0, none⟩) 2 2]) := (show ItR _ _ _ _ from by
        have h6 := HF6.out.size
        have h7 := HF79.out.size
        refine list_r (l := [itNum xt, itText eb]) ?_
        refine row_cells (xs := [itNum xt, itText eb]) (b := w6.heap.size) ⟨h6, by omega⟩ [[.int .i64 1, .int .i64 xt, .string ⟨#[]⟩, .slice none 0 0], [.int .i64 2, .int .i64 0, .string ⟨eb.toArray⟩, .slice none 0 0]] rfl (fun i y cs hy hcs => ?_) (HF79.out.heap HB7.out (fun h => h)) (show ([itNum xt, itText eb] : List It).length ≤ 1000 from by simp)
        rcases i with _ | _ | i
        · cases hy; cases hcs; exact num_r HTI.out
        · cases hy; cases hcs; exact text_r HXM.out
        · simp at hy)
      obtain ⟨cells, hown9, hcs9⟩ := HO9.out
      have HCS9 := Lib.hid hcs9
      have hcl : cells.length = ((l.take j).map itEn).length * 4 := hown9.len
      have HCL := Lib.hid hcl
      have HOW9 : Hid (Ow w9 (fun k => ob < k) 48 4 (.slice Av j cv) j cells) := (show Ow _ _ _ _ _ _ _ from by rw [HM.out] at hown9; exact hown9)
      have hjb : j ≤ 1048576 := by omega
      clear hf9 hown9 hcs9 hcl
      refine sq_app (O := fun k => ob < k) rfl rfl (by rfl) (.tmp 15) (.tmp 25) 46 48 rfl _ 4 56 Try.underlying46 info48 rfl (by omega) (by omega) (.slice Av j cv) j cells rfl (some ⟨w8.heap.size, 0, none⟩) 1 1 rfl HOW9.out [.int .i64 3, .int .i64 0, .string ⟨#[]⟩, .slice (some ⟨w6.heap.size, 0, none⟩) 2 2] rfl ?hnews (itR_one HIT.out) (by omega) ?_
      case hnews =>
        intro i u hi
        refine ⟨_, rfl, ?_⟩
        rw [add_none, blk_cell hb9, Nat.zero_add, List.getElem?_toArray]
        exact hi
      intro va wa howna hfra
      have HSA : Hid (wa.cell? ⟨wr.heap.size, 0, none⟩ = some (.int .i64 xt) ∧ wa.cell? ⟨wr.heap.size, 1, none⟩ = some (.slice Ab nb cb) ∧ wa.cell? ⟨ob, 3, none⟩ = some (.slice Av j cv) ∧ Rb wa (fun k => F k ∧ k < w.heap.size) (.slice Ab nb cb) eb) := (show _ ∧ _ from ⟨hfra.cell HS9.out.1 (fun h => absurd (HOG.out _ h).1 (Nat.lt_irrefl _)), hfra.cell HS9.out.2.1 (fun h => absurd (HOG.out _ h).1 (Nat.lt_irrefl _)), hfra.cell HS9.out.2.2.1 (fun h => absurd (HOG.out _ h).2 (Nat.lt_irrefl _)), HS9.out.2.2.2.fr hfra (fun k _ hk h => by have h1 := (HOG.out _ h).2; have h2 := hk.2; have h3 := HOB.out.1; have h4 := HRB.out.1; omega)⟩)
      have HGA : Hid (OwK ItK 48 wa (fun k => ob < k) (fun k => ob < k ∧ ¬ va.ownBlock = some k) va ((l.take (j + 1)).map itEn)) := (show OwK _ _ _ _ _ _ _ from
        grows_step (g := wr.heap.size) HM.out.symm HXJ.out (by rw [HCL.out, HM.out]) HCS9.out HIT.out (by have h1 := heap_lt HV.out; exact h1) HOG.out howna hfra HF9.out.size)
      have HVA : Hid (VIs wa ob 3 0 [] (.slice Av j cv)) := (show VIs _ _ _ _ _ _ from hfra.heap (HF9.out.heap HV.out (fun h => h)) (fun h => by have := (HOG.out _ h).2; omega))
      have HFA : Hid (Fr (fun q => q = ob) w3 wa) := (show Fr _ _ _ from HFR.out.trans (HF9.out.trans hfra (U := fun q => (Value.slice Av j cv).ownBlock = some q) (fun _ _ h => h.elim) (fun _ _ h => h)) (U := fun q => q = ob) (fun _ _ h => h) (fun q hq h => by have h1 := (HOG.out _ h).2; have h2 := HOB.out.2; omega))
      obtain ⟨Aa, ca, rfl, _, _⟩ := howna.shape
      refine ⟨fun _ => HSA.out, ?_⟩
      simp only [Act.put, List.setIfInBounds_toArray, List.set_cons_zero, List.set_cons_succ]
      clear howna hfra hb9 hs7
      repeat (first
        | (refine sq_off (a' := ?_) rfl rfl (by rfl) (fun _ => (HSA).out) ?ha ?_; (case ha => simp only [Act.put, List.setIfInBounds_toArray, List.set_cons_zero, List.set_cons_succ]; rfl))
        | (refine sq_any (v := ?_) (a' := ?_) rfl rfl rfl (by rfl) (fun W => ?hr) ?ha ?_; (case hr => go_simp; first | done | rfl); (case ha => simp only [Act.put, List.setIfInBounds_toArray, List.set_cons_zero, List.set_cons_succ]; rfl))
        | (refine sq_load (v := ?_) (a' := ?_) rfl rfl rfl (by rfl) (fun W hSW => ?hr) (HSA).out ?ha ?_; (case hr => (try dsimp only at hSW); go_simp; first | done | rfl); (case ha => simp only [Act.put, List.setIfInBounds_toArray, List.set_cons_zero, List.set_cons_succ]; rfl)))
      obtain ⟨o0, o1', o2, o3⟩ := v_cells HVA.out
      have z3 := v_free HVA.out 3
      obtain ⟨wz, hwz⟩ : ∃ wz, Hid (wz = wa.setCell ⟨ob, 3, none⟩ (.slice Aa (j + 1) ca)) := ⟨_, show _ = _ from rfl⟩
      refine sq_store (w1 := wz) rfl rfl (by rfl) rfl ?hr (fun h => absurd (by decide) h) ?_
      case hr => rw [hwz.out]; go_simp; first | done | rfl | (constructor <;> rfl)
      refine sq_done ?_
      have HJ2 : Hid (Grows w3 wz ob l (j + 1) (.slice Aa (j + 1) ca)) := (show Grows _ _ _ _ _ _ from by
        have hfz : Fr (fun q => q = ob) wa wz := by rw [hwz.out]; exact Fr.one _ _
        refine ⟨by rw [hwz.out]; exact v_l HVA.out _, HGA.out.fr hfz (fun k _ hk h => ?_), HFA.out.then hfz⟩
        have h' : k = ob := h
        rcases hk with hk | hk
        · have hk' : ob < k := hk; omega
        · have hk' : ob < k := hk.1; omega)
      clear o0 o1' o2 o3 z3
      go_wp2_with fail
      go_roundw
      case rel => exact ⟨j + 1, _, by omega, by go_num, HJ2⟩
      case measure => simp [intOf]; omega
    · have hjl : j = n := by omega
      subst hjl
      clear hlt hj
      obtain ⟨hv, hown, hfr⟩ := HJ.out
      have hm : ((l.take j).map itEn).length = j := by rw [List.length_map, List.length_take]; have h9 := HN.out; omega
      obtain ⟨Av, cv, rfl, _, _⟩ := hown.shape
      rw [hm] at hv hown HJ
      have HROW : Hid (Row ItK wr (fun k => ob < k) (.slice Av j cv) (l.map itEn)) := (show Row _ _ _ _ _ from by
        have h1 := hown.reads.mono (F' := fun k => ob < k) (fun k hk => by rcases hk with h | h; exact h; exact h.1)
        rw [List.take_of_length_le (by have h9 := HN.out; omega)] at h1
        exact h1)
      have HLL : Hid (j = (l.map itEn).length) := (show _ = _ from by rw [List.length_map]; exact HN.out)
      have hrr : VIs wr rb 0 0 [] (.slice none 0 0) := hfr.heap HR3.out (fun h => by have h' : rb = ob := h; have := HOB.out.1; omega)
      have hxx : wr.heap[xb]? = some (.cells #[.int .i64 n0, .int .i64 n1, .int .i64 n2, .int .i64 n3, .slice As ns cs, .slice A j c] 68 (0, 0)) := hfr.heap HX3.out (fun h => by have h' : xb = ob := h; have := HOB.out.1; have := HRB.out.2; omega)
      have HBB : Hid (Rb wr (fun k => F k ∧ k < w.heap.size) (.slice As ns cs) sn) := (show Rb _ _ _ _ from HBS.out.fr (HF3.out.trans hfr (U := fun q => q = ob) (fun _ _ h => h.elim) (fun _ _ h => h)) (fun k _ hk h => by have h' : k = ob := h; have := hk.2; have := HOB.out.1; have := HRB.out.1; omega))
      have HRR := Lib.hid hrr
      have HFX : Hid (Fr (fun q => q = ob) w3 wr) := (show Fr _ _ _ from hfr)
      have HOX : Hid (ob < wr.heap.size) := (show _ < _ from heap_lt hv)
      obtain ⟨o0, o1, o2, o3⟩ := v_cells hv
      have b0 := blk_cell hxx 0
      have b1 := blk_cell hxx 1
      have b2 := blk_cell hxx 2
      have b3 := blk_cell hxx 3
      have b4 := blk_cell hxx 4
      simp only [List.getElem?_toArray, List.getElem?_cons_zero, List.getElem?_cons_succ] at b0 b1 b2 b3 b4
      clear hv hown hfr hm hrr hxx
      go_upto_region 7 with fail
      refine wp_seq_region (fun W => W.cell? ⟨xb, 0, none⟩ = some (.int .i64 n0) ∧ W.cell? ⟨xb, 1, none⟩ = some (.int .i64 n1) ∧ W.cell? ⟨xb, 2, none⟩ = some (.int .i64 n2) ∧ W.cell? ⟨xb, 3, none⟩ = some (.int .i64 n3) ∧ W.cell? ⟨xb, 4, none⟩ = some (.slice As ns cs) ∧ W.cell? ⟨ob, 0, none⟩ = some (.int .i64 3) ∧ W.cell? ⟨ob, 1, none⟩ = some (.int .i64 0) ∧ W.cell? ⟨ob, 2, none⟩ = some (.string ⟨#[]⟩) ∧ W.cell? ⟨ob, 3, none⟩ = some (.slice Av j cv) ∧ Rb W (fun k => F k ∧ k < w.heap.size) (.slice As ns cs) sn) [2, 5, 8, 11, 15, 17, 18, 19] [1, 4, 7, 10, 13, 14, 16] [19] [0, 1, 3, 4, 6, 7, 9, 10, 12, 13, 14, 16, 2, 5, 8, 11, 15, 17, 18, 19] (by kernel_rfl) (by kernel_rfl) rfl (by kernel_rfl) (fun _ _ _ _ _ h => h) ?_
      have HS : Hid (wr.drew.cell? ⟨xb, 0, none⟩ = some (.int .i64 n0) ∧ wr.drew.cell? ⟨xb, 1, none⟩ = some (.int .i64 n1) ∧ wr.drew.cell? ⟨xb, 2, none⟩ = some (.int .i64 n2) ∧ wr.drew.cell? ⟨xb, 3, none⟩ = some (.int .i64 n3) ∧ wr.drew.cell? ⟨xb, 4, none⟩ = some (.slice As ns cs) ∧ wr.drew.cell? ⟨ob, 0, none⟩ = some (.int .i64 3) ∧ wr.drew.cell? ⟨ob, 1, none⟩ = some (.int .i64 0) ∧ wr.drew.cell? ⟨ob, 2, none⟩ = some (.string ⟨#[]⟩) ∧ wr.drew.cell? ⟨ob, 3, none⟩ = some (.slice Av j cv) ∧ Rb wr.drew (fun k => F k ∧ k < w.heap.size) (.slice As ns cs) sn) := (show _ ∧ _ from ⟨b0, b1, b2, b3, b4, o0, o1, o2, o3, HBB.out⟩)
      clear b0 b1 b2 b3 b4 o0 o1 o2 o3
      repeat (first
        | (refine sq_off (a' := ?_) rfl rfl (by rfl) (fun _ => (HS).out) ?ha ?_; (case ha => simp only [Act.put, List.setIfInBounds_toArray, List.set_cons_zero, List.set_cons_succ]; rfl))
        | (refine sq_any (v := ?_) (a' := ?_) rfl rfl rfl (by rfl) (fun W => ?hr) ?ha ?_; (case hr => go_simp; first | done | rfl); (case ha => simp only [Act.put, List.setIfInBounds_toArray, List.set_cons_zero, List.set_cons_succ]; rfl))
        | (refine sq_load (v := ?_) (a' := ?_) rfl rfl rfl (by rfl) (fun W hSW => ?hr) (HS).out ?ha ?_; (case hr => (try dsimp only at hSW); go_simp; first | done | rfl); (case ha => simp only [Act.put, List.setIfInBounds_toArray, List.set_cons_zero, List.set_cons_succ]; rfl)))
      refine sq_load (v := .string ⟨sn.toArray⟩) (a' := ?_) rfl rfl rfl (by rfl) (fun W hSW => ?hr) HS.out ?ha ?_
      case hr => (first | exact conv_str Try.underlying22 Try.underlying5 Try.underlying9 hSW.2.2.2.2.2.2.2.2.2 | (unfold execOp; exact conv_str Try.underlying22 Try.underlying5 Try.underlying9 hSW.2.2.2.2.2.2.2.2.2) | (unfold execOp; simp [Act.eval, conv_str Try.underlying22 Try.underlying5 Try.underlying9 hSW.2.2.2.2.2.2.2.2.2]))
      case ha => simp only [Act.put, List.setIfInBounds_toArray, List.set_cons_zero, List.set_cons_succ]; rfl
      repeat (first
        | (refine sq_off (a' := ?_) rfl rfl (by rfl) (fun _ => (HS).out) ?ha ?_; (case ha => simp only [Act.put, List.setIfInBounds_toArray, List.set_cons_zero, List.set_cons_succ]; rfl))
        | (refine sq_any (v := ?_) (a' := ?_) rfl rfl rfl (by rfl) (fun W => ?hr) ?ha ?_; (case hr => go_simp; first | done | rfl); (case ha => simp only [Act.put, List.setIfInBounds_toArray, List.set_cons_zero, List.set_cons_succ]; rfl))
        | (refine sq_load (v := ?_) (a' := ?_) rfl rfl rfl (by rfl) (fun W hSW => ?hr) (HS).out ?ha ?_; (case hr => (try dsimp only at hSW); go_simp; first | done | rfl); (case ha => simp only [Act.put, List.setIfInBounds_toArray, List.set_cons_zero, List.set_cons_succ]; rfl)))
      have HFa : Hid (Fr No wr wr.drew) := (show Fr No wr wr.drew from (Fr.refl _ _).drew)
      refine sq_call rfl rfl (by rfl) rfl Try.func80 rfl rfl [.int .i64 n0] rfl ?_
      refine (refnum_any n0 _).mono ?_
      rintro e w5 ⟨rfl, hf⟩
      have HFw5 : Hid (Fr No wr w5) := (show Fr No wr w5 from HFa.out.then hf)
      have HSw5 : Hid (w5.cell? ⟨xb, 0, none⟩ = some (.int .i64 n0) ∧ w5.cell? ⟨xb, 1, none⟩ = some (.int .i64 n1) ∧ w5.cell? ⟨xb, 2, none⟩ = some (.int .i64 n2) ∧ w5.cell? ⟨xb, 3, none⟩ = some (.int .i64 n3) ∧ w5.cell? ⟨xb, 4, none⟩ = some (.slice As ns cs) ∧ w5.cell? ⟨ob, 0, none⟩ = some (.int .i64 3) ∧ w5.cell? ⟨ob, 1, none⟩ = some (.int .i64 0) ∧ w5.cell? ⟨ob, 2, none⟩ = some (.string ⟨#[]⟩) ∧ w5.cell? ⟨ob, 3, none⟩ = some (.slice Av j cv) ∧ Rb w5 (fun k => F k ∧ k < w.heap.size) (.slice As ns cs) sn) := (show _ ∧ _ from by obtain ⟨q0, q1, q2, q3, q4, q5, q6, q7, q8, q9⟩ := HS.out; exact ⟨hf.cell q0 (fun h => h), hf.cell q1 (fun h => h), hf.cell q2 (fun h => h), hf.cell q3 (fun h => h), hf.cell q4 (fun h => h), hf.cell q5 (fun h => h), hf.cell q6 (fun h => h), hf.cell q7 (fun h => h), hf.cell q8 (fun h => h), q9.fr hf (fun _ _ _ h => h)⟩)
      refine ⟨_, rfl, fun _ => HSw5.out, ?_⟩
      simp only [Act.put, List.setIfInBounds_toArray, List.set_cons_zero, List.set_cons_succ]
      clear hf
      refine sq_call rfl rfl (by rfl) rfl Try.func80 rfl rfl [.int .i64 n1] rfl ?_
      refine (refnum_any n1 _).mono ?_
      rintro e w6 ⟨rfl, hf⟩
      have HFw6 : Hid (Fr No wr w6) := (show Fr No wr w6 from HFw5.out.then hf)
      have HSw6 : Hid (w6.cell? ⟨xb, 0, none⟩ = some (.int .i64 n0) ∧ w6.cell? ⟨xb, 1, none⟩ = some (.int .i64 n1) ∧ w6.cell? ⟨xb, 2, none⟩ = some (.int .i64 n2) ∧ w6.cell? ⟨xb, 3, none⟩ = some (.int .i64 n3) ∧ w6.cell? ⟨xb, 4, none⟩ = some (.slice As ns cs) ∧ w6.cell? ⟨ob, 0, none⟩ = some (.int .i64 3) ∧ w6.cell? ⟨ob, 1, none⟩ = some (.int .i64 0) ∧ w6.cell? ⟨ob, 2, none⟩ = some (.string ⟨#[]⟩) ∧ w6.cell? ⟨ob, 3, none⟩ = some (.slice Av j cv) ∧ Rb w6 (fun k => F k ∧ k < w.heap.size) (.slice As ns cs) sn) := (show _ ∧ _ from by obtain ⟨q0, q1, q2, q3, q4, q5, q6, q7, q8, q9⟩ := HSw5.out; exact ⟨hf.cell q0 (fun h => h), hf.cell q1 (fun h => h), hf.cell q2 (fun h => h), hf.cell q3 (fun h => h), hf.cell q4 (fun h => h), hf.cell q5 (fun h => h), hf.cell q6 (fun h => h), hf.cell q7 (fun h => h), hf.cell q8 (fun h => h), q9.fr hf (fun _ _ _ h => h)⟩)
      refine ⟨_, rfl, fun _ => HSw6.out, ?_⟩
      simp only [Act.put, List.setIfInBounds_toArray, List.set_cons_zero, List.set_cons_succ]
      clear hf
      refine sq_call rfl rfl (by rfl) rfl Try.func80 rfl rfl [.int .i64 n2] rfl ?_
      refine (refnum_any n2 _).mono ?_
      rintro e w7 ⟨rfl, hf⟩
      have HFw7 : Hid (Fr No wr w7) := (show Fr No wr w7 from HFw6.out.then hf)
      have HSw7 : Hid (w7.cell? ⟨xb, 0, none⟩ = some (.int .i64 n0) ∧ w7.cell? ⟨xb, 1, none⟩ = some (.int .i64 n1) ∧ w7.cell? ⟨xb, 2, none⟩ = some (.int .i64 n2) ∧ w7.cell? ⟨xb, 3, none⟩ = some (.int .i64 n3) ∧ w7.cell? ⟨xb, 4, none⟩ = some (.slice As ns cs) ∧ w7.cell? ⟨ob, 0, none⟩ = some (.int .i64 3) ∧ w7.cell? ⟨ob, 1, none⟩ = some (.int .i64 0) ∧ w7.cell? ⟨ob, 2, none⟩ = some (.string ⟨#[]⟩) ∧ w7.cell? ⟨ob, 3, none⟩ = some (.slice Av j cv) ∧ Rb w7 (fun k => F k ∧ k < w.heap.size) (.slice As ns cs) sn) := (show _ ∧ _ from by obtain ⟨q0, q1, q2, q3, q4, q5, q6, q7, q8, q9⟩ := HSw6.out; exact ⟨hf.cell q0 (fun h => h), hf.cell q1 (fun h => h), hf.cell q2 (fun h => h), hf.cell q3 (fun h => h), hf.cell q4 (fun h => h), hf.cell q5 (fun h => h), hf.cell q6 (fun h => h), hf.cell q7 (fun h => h), hf.cell q8 (fun h => h), q9.fr hf (fun _ _ _ h => h)⟩)
      refine ⟨_, rfl, fun _ => HSw7.out, ?_⟩
      simp only [Act.put, List.setIfInBounds_toArray, List.set_cons_zero, List.set_cons_succ]
      clear hf
      refine sq_call rfl rfl (by rfl) rfl Try.func80 rfl rfl [.int .i64 n3] rfl ?_
      refine (refnum_any n3 _).mono ?_
      rintro e w8 ⟨rfl, hf⟩
      have HFw8 : Hid (Fr No wr w8) := (show Fr No wr w8 from HFw7.out.then hf)
      have HSw8 : Hid (w8.cell? ⟨xb, 0, none⟩ = some (.int .i64 n0) ∧ w8.cell? ⟨xb, 1, none⟩ = some (.int .i64 n1) ∧ w8.cell? ⟨xb, 2, none⟩ = some (.int .i64 n2) ∧ w8.cell? ⟨xb, 3, none⟩ = some (.int .i64 n3) ∧ w8.cell? ⟨xb, 4, none⟩ = some (.slice As ns cs) ∧ w8.cell? ⟨ob, 0, none⟩ = some (.int .i64 3) ∧ w8.cell? ⟨ob, 1, none⟩ = some (.int .i64 0) ∧ w8.cell? ⟨ob, 2, none⟩ = some (.string ⟨#[]⟩) ∧ w8.cell? ⟨ob, 3, none⟩ = some (.slice Av j cv) ∧ Rb w8 (fun k => F k ∧ k < w.heap.size) (.slice As ns cs) sn) := (show _ ∧ _ from by obtain ⟨q0, q1, q2, q3, q4, q5, q6, q7, q8, q9⟩ := HSw7.out; exact ⟨hf.cell q0 (fun h => h), hf.cell q1 (fun h => h), hf.cell q2 (fun h => h), hf.cell q3 (fun h => h), hf.cell q4 (fun h => h), hf.cell q5 (fun h => h), hf.cell q6 (fun h => h), hf.cell q7 (fun h => h), hf.cell q8 (fun h => h), q9.fr hf (fun _ _ _ h => h)⟩)
      refine ⟨_, rfl, fun _ => HSw8.out, ?_⟩
      simp only [Act.put, List.setIfInBounds_toArray, List.set_cons_zero, List.set_cons_succ]
      clear hf
      refine sq_call rfl rfl (by rfl) rfl Try.func73 rfl rfl [.string ⟨sn.toArray⟩] rfl ?_
      refine (text1_any sn _).mono ?_
      rintro e w9 ⟨rfl, hf⟩
      have HFw9 : Hid (Fr No wr w9) := (show Fr No wr w9 from HFw8.out.then hf)
      have HSw9 : Hid (w9.cell? ⟨xb, 0, none⟩ = some (.int .i64 n0) ∧ w9.cell? ⟨xb, 1, none⟩ = some (.int .i64 n1) ∧ w9.cell? ⟨xb, 2, none⟩ = some (.int .i64 n2) ∧ w9.cell? ⟨xb, 3, none⟩ = some (.int .i64 n3) ∧ w9.cell? ⟨xb, 4, none⟩ = some (.slice As ns cs) ∧ w9.cell? ⟨ob, 0, none⟩ = some (.int .i64 3) ∧ w9.cell? ⟨ob, 1, none⟩ = some (.int .i64 0) ∧ w9.cell? ⟨ob, 2, none⟩ = some (.string ⟨#[]⟩) ∧ w9.cell? ⟨ob, 3, none⟩ = some (.slice Av j cv) ∧ Rb w9 (fun k => F k ∧ k < w.heap.size) (.slice As ns cs) sn) := (show _ ∧ _ from by obtain ⟨q0, q1, q2, q3, q4, q5, q6, q7, q8, q9⟩ := HSw8.out; exact ⟨hf.cell q0 (fun h => h), hf.cell q1 (fun h => h), hf.cell q2 (fun h => h), hf.cell q3 (fun h => h), hf.cell q4 (fun h => h), hf.cell q5 (fun h => h), hf.cell q6 (fun h => h), hf.cell q7 (fun h => h), hf.cell q8 (fun h => h), q9.fr hf (fun _ _ _ h => h)⟩)
      refine ⟨_, rfl, fun _ => HSw9.out, ?_⟩
      simp only [Act.put, List.setIfInBounds_toArray, List.set_cons_zero, List.set_cons_succ]
      clear hf
      obtain ⟨wb, hwb⟩ : ∃ wb, Hid (wb = w9.alloc (.cells #[.int .i64 1, .int .i64 n0, .string ⟨#[]⟩, .slice none 0 0, .int .i64 1, .int .i64 n1, .string ⟨#[]⟩, .slice none 0 0, .int .i64 1, .int .i64 n2, .string ⟨#[]⟩, .slice none 0 0, .int .i64 1, .int .i64 n3, .string ⟨#[]⟩, .slice none 0 0, .int .i64 2, .int .i64 0, .string ⟨sn.toArray⟩, .slice none 0 0, .int .i64 3, .int .i64 0, .string ⟨#[]⟩, .slice Av j cv] 48 (0, 0))) := ⟨_, show _ = _ from rfl⟩
      have hf : Fr No w9 wb := by rw [hwb.out]; exact (Fr.refl _ _).alloc _
      have hbb : wb.heap[w9.heap.size]? = some (.cells #[.int .i64 1, .int .i64 n0, .string ⟨#[]⟩, .slice none 0 0, .int .i64 1, .int .i64 n1, .string ⟨#[]⟩, .slice none 0 0, .int .i64 1, .int .i64 n2, .string ⟨#[]⟩, .slice none 0 0, .int .i64 1, .int .i64 n3, .string ⟨#[]⟩, .slice none 0 0, .int .i64 2, .int .i64 0, .string ⟨sn.toArray⟩, .slice none 0 0, .int .i64 3, .int .i64 0, .string ⟨#[]⟩, .slice Av j cv] 48 (0, 0)) := by rw [hwb.out]; exact blk_new _ _
      have HBW := Lib.hid hbb
      have HFwb : Hid (Fr No wr wb) := (show Fr No wr wb from HFw9.out.then hf)
      have HSwb : Hid (wb.cell? ⟨xb, 0, none⟩ = some (.int .i64 n0) ∧ wb.cell? ⟨xb, 1, none⟩ = some (.int .i64 n1) ∧ wb.cell? ⟨xb, 2, none⟩ = some (.int .i64 n2) ∧ wb.cell? ⟨xb, 3, none⟩ = some (.int .i64 n3) ∧ wb.cell? ⟨xb, 4, none⟩ = some (.slice As ns cs) ∧ wb.cell? ⟨ob, 0, none⟩ = some (.int .i64 3) ∧ wb.cell? ⟨ob, 1, none⟩ = some (.int .i64 0) ∧ wb.cell? ⟨ob, 2, none⟩ = some (.string ⟨#[]⟩) ∧ wb.cell? ⟨ob, 3, none⟩ = some (.slice Av j cv) ∧ Rb wb (fun k => F k ∧ k < w.heap.size) (.slice As ns cs) sn) := (show _ ∧ _ from by obtain ⟨q0, q1, q2, q3, q4, q5, q6, q7, q8, q9⟩ := HSw9.out; exact ⟨hf.cell q0 (fun h => h), hf.cell q1 (fun h => h), hf.cell q2 (fun h => h), hf.cell q3 (fun h => h), hf.cell q4 (fun h => h), hf.cell q5 (fun h => h), hf.cell q6 (fun h => h), hf.cell q7 (fun h => h), hf.cell q8 (fun h => h), q9.fr hf (fun _ _ _ h => h)⟩)
      refine sq_value (v := .slice (some ⟨w9.heap.size, 0, none⟩) 6 6) (w1 := wb) (a' := ?_) rfl rfl (by rfl) ?hr (fun _ => HSwb.out) ?ha ?_
      case hr => rw [hwb.out]; go_simp; first | done | rfl | (constructor <;> rfl)
      case ha => simp only [Act.put, List.setIfInBounds_toArray, List.set_cons_zero, List.set_cons_succ]; rfl
      clear hf hbb
      refine sq_call rfl rfl (by rfl) rfl Try.func37 rfl rfl [.slice (some ⟨w9.heap.size, 0, none⟩) 6 6] rfl ?_
      refine (list1_any (some ⟨w9.heap.size, 0, none⟩) 6 6 wb).mono ?_
      rintro e wc ⟨rfl, hf⟩
      have HFbc : Hid (Fr No wb wc) := (show Fr No wb wc from hf)
      have HFwc : Hid (Fr No wr wc) := (show Fr No wr wc from HFwb.out.then hf)
      have HSwc : Hid (wc.cell? ⟨xb, 0, none⟩ = some (.int .i64 n0) ∧ wc.cell? ⟨xb, 1, none⟩ = some (.int .i64 n1) ∧ wc.cell? ⟨xb, 2, none⟩ = some (.int .i64 n2) ∧ wc.cell? ⟨xb, 3, none⟩ = some (.int .i64 n3) ∧ wc.cell? ⟨xb, 4, none⟩ = some (.slice As ns cs) ∧ wc.cell? ⟨ob, 0, none⟩ = some (.int .i64 3) ∧ wc.cell? ⟨ob, 1, none⟩ = some (.int .i64 0) ∧ wc.cell? ⟨ob, 2, none⟩ = some (.string ⟨#[]⟩) ∧ wc.cell? ⟨ob, 3, none⟩ = some (.slice Av j cv) ∧ Rb wc (fun k => F k ∧ k < w.heap.size) (.slice As ns cs) sn) := (show _ ∧ _ from by obtain ⟨q0, q1, q2, q3, q4, q5, q6, q7, q8, q9⟩ := HSwb.out; exact ⟨hf.cell q0 (fun h => h), hf.cell q1 (fun h => h), hf.cell q2 (fun h => h), hf.cell q3 (fun h => h), hf.cell q4 (fun h => h), hf.cell q5 (fun h => h), hf.cell q6 (fun h => h), hf.cell q7 (fun h => h), hf.cell q8 (fun h => h), q9.fr hf (fun _ _ _ h => h)⟩)
      refine ⟨_, rfl, fun _ => HSwc.out, ?_⟩
      simp only [Act.put, List.setIfInBounds_toArray, List.set_cons_zero, List.set_cons_succ]
      clear hf
      have hrc : VIs wc rb 0 0 [] (.slice none 0 0) := HFwc.out.heap HRR.out (fun h => h)
      obtain ⟨b0, b1, b2, b3⟩ := v_cells hrc
      have z0 := v_free hrc 0
      have z1 := v_free hrc 1
      have z2 := v_free hrc 2
      have z3 := v_free hrc 3
      obtain ⟨wz, hwz⟩ : ∃ wz, Hid (wz = backW wc rb 3 0 [] (.slice (some ⟨w9.heap.size, 0, none⟩) 6 6)) := ⟨_, show _ = _ from rfl⟩
      refine sq_store (w1 := wz) rfl rfl (by rfl) rfl ?hr (fun h => absurd (by decide) h) ?_
      case hr => rw [hwz.out]; unfold backW; go_simp; first | done | rfl | (constructor <;> rfl)
      refine sq_done ?_
      have HEND : Hid (ItemTold w (itList [itNum n0, itNum n1, itNum n2, itNum n3, itText sn, itEns l]) (.returned (.agg #[.int .i64 3, .int .i64 0, .string ⟨#[]⟩, .slice (some ⟨w9.heap.size, 0, none⟩) 6 6])) wz) := (show ItemTold _ _ _ _ from by
        have ho1 := HOB.out.1
        have ho2 := HOX.out
        have hxb := HXB.out
        have hrb := HRB.out.1
        have h9 := HFw9.out.size
        have hfz : Fr (fun q => q = rb) wc wz := by rw [hwz.out]; exact back_fr _ _ _ _ _ _
        refine ⟨_, rfl, ⟨_, rfl, list_r (l := [itNum n0, itNum n1, itNum n2, itNum n3, itText sn, itEns l]) ?_⟩, ?_⟩
        · have hrow : Row ItK wc (fun k => ob < k) (.slice (some ⟨w9.heap.size, 0, none⟩) 6 6) [itNum n0, itNum n1, itNum n2, itNum n3, itText sn, itEns l] := by
            refine row_cells (xs := [itNum n0, itNum n1, itNum n2, itNum n3, itText sn, itEns l]) (b := w9.heap.size) (show ob < w9.heap.size from by omega) [[.int .i64 1, .int .i64 n0, .string ⟨#[]⟩, .slice none 0 0], [.int .i64 1, .int .i64 n1, .string ⟨#[]⟩, .slice none 0 0], [.int .i64 1, .int .i64 n2, .string ⟨#[]⟩, .slice none 0 0], [.int .i64 1, .int .i64 n3, .string ⟨#[]⟩, .slice none 0 0], [.int .i64 2, .int .i64 0, .string ⟨sn.toArray⟩, .slice none 0 0], [.int .i64 3, .int .i64 0, .string ⟨#[]⟩, .slice Av j cv]] rfl (fun i y cs hy hcs => ?_) (HFbc.out.heap HBW.out (fun h => h)) (show ([itNum n0, itNum n1, itNum n2, itNum n3, itText sn, itEns l] : List It).length ≤ 1000 from by simp)
            rcases i with _ | _ | _ | _ | _ | _ | i
            · cases hy; cases hcs; exact num_r HI.out.1
            · cases hy; cases hcs; exact num_r HI.out.2.1
            · cases hy; cases hcs; exact num_r HI.out.2.2.1
            · cases hy; cases hcs; exact num_r HI.out.2.2.2
            · cases hy; cases hcs; exact text_r HSM.out
            · cases hy; cases hcs; exact list_r (l := l.map itEn) (HROW.out.fr (by decide) HFwc.out (fun _ _ _ h => h))
            · simp at hy
          exact (hrow.fr (by decide) hfz (fun k _ hk h => by have h' : k = rb := h; have hk' : ob < k := hk; omega)).mono (fun k hk => by have hk' : ob < k := hk; show w.heap.size ≤ k; omega)
        · exact HF3.out.trans (HFX.out.trans (HFwc.out.trans hfz (U := fun q => q = rb) (fun _ _ h => h.elim) (fun _ _ h => h)) (U := fun q => q = ob ∨ q = rb) (fun _ _ h => .inl h) (fun _ _ h => .inr h)) (fun _ _ h => h) (fun q hq h => by rcases h with h | h <;> omega))
      have hv9 : VIs wz rb 3 0 [] (.slice (some ⟨w9.heap.size, 0, none⟩) 6 6) := by rw [hwz.out]; exact back_set (s' := []) hrc
      obtain ⟨y0, y1, y2, y3⟩ := v_cells hv9
      clear b0 b1 b2 b3 z0 z1 z2 z3 hrc hv9
      go_wp2_with fail
      (try simp only [Exit.inBlock, Exit.then])
      refine bodyPost_ret (by simp [results, Try.results42, go_sem, y0, y1, y2, y3]; try rfl) rfl ?_
      exact HEND.out
end Go.Proofs.Ytbaohngnpgappaa
