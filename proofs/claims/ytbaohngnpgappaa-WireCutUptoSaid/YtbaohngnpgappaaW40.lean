/- WireCut: its walk. -/
import Derived.Test.YtbaohngnpgappaaW39
set_option linter.unusedVariables false
set_option linter.unusedSimpArgs false
namespace Go.Proofs.Ytbaohngnpgappaa
open Go.RowKit
theorem readI_cut {x : It} (h : checkI x = 0) (hf : x.fit) (hb : x.bulk ≤ 1048576) {k : Nat} (hk : k < x.enc.length) : (readI (x.enc.take k)).2.2 = 10 := by
  have h1 := item_cut x (check_ok h) hf (by omega) 41 (x.enc.take k) 0 0 (x.enc.take k) (x.enc.drop k) (by have := check_deep h; omega) (Nat.le_refl _) rfl (List.take_append_drop _ _) (fun h => by have := congrArg List.length h; rw [List.length_drop, List.length_nil] at this; omega)
  unfold readI
  simp only
  rw [if_pos (by rw [h1]; exact (show (10 : Int) ≠ 0 by decide))]
  exact h1
theorem openB_cut {b : List UInt8} (hb : b.length ≤ 2147483647) {k : Nat} (hk : k < b.length + 8) : (openB ((sealB b).take k)).2.2 = 10 := by
  have hl : ((sealB b).take k).length = k := by rw [List.length_take, sealB_len]; omega
  unfold openB
  rw [hl]
  by_cases h4 : k < 4
  · rw [if_pos h4]
  · have h5 : ((sealB b).take k).take 4 = be4 b.length := by
      rw [List.take_take, Nat.min_eq_left (by omega), sealB, List.append_assoc, List.take_append_of_le_length (by rw [be4_len]; omega), List.take_of_length_le (by rw [be4_len]; omega)]
    rw [if_neg h4, h5, rdn_be4 _ (by omega), if_neg (by omega), if_pos hk]
set_option maxRecDepth 100000 in
set_option maxHeartbeats 4000000 in
theorem wcut_any {w : World} {F : Nat → Prop} {v : Value} {x : It} {cut : Int} (h : ItV w F v x) (hcutb : I64 cut) (hbk : x.bulk ≤ 1048576) : Calls Try.prog 16 #[v, .int .i64 cut] w (Told (.bool true) w) := by
  obtain ⟨k, n, s, l⟩ := x
  obtain ⟨cs, rfl, hr⟩ := h
  have hr0 := hr
  obtain ⟨vl, rfl, hrow, hfit⟩ := itR_row hr
  obtain ⟨A, c, rfl, hc1, hc2⟩ := hrow.shape
  have HR := Lib.hid hr0
  have HBK := Lib.hid hbk
  have HFT : Hid (It.fit (.mk k n s l)) := (show It.fit _ from itR_fit _ _ hr0)
  clear hr hr0 hrow hfit hc1 hc2 hbk
  unfold I64 at hcutb
  unfold str
  unfold str at HR
  go_enter Try.func16, Try.ntmps16
  go_wp2_with fail
  obtain ⟨w1, hw1⟩ : ∃ w1, Hid (w1 = w.alloc (.cells #[.int .i64 k, .int .i64 n, .string ⟨s.toArray⟩, .slice A l.length c] 48 (0, 0))) := ⟨_, show _ = _ from rfl⟩
  rw [← hw1.out]
  have hf1 : Fr No w w1 := by rw [hw1.out]; exact (Fr.refl _ _).alloc _
  have hb1 : VIs w1 w.heap.size k n s (.slice A l.length c) := by rw [hw1.out]; exact blk_new _ _
  have HF1 := Lib.hid hf1
  have HB1 := Lib.hid hb1
  clear hf1 hb1
  refine (wlive_any w1).mono ?_
  rintro e w2 ⟨rfl, hf2⟩
  have HB2 : Hid (VIs w2 w.heap.size k n s (.slice A l.length c)) := (show VIs _ _ _ _ _ _ from hf2.heap HB1.out (fun h => h))
  have HF2 := Lib.hid (HF1.out.then hf2)
  clear hf2
  obtain ⟨d0, d1, d2, d3⟩ := v_cells HB2.out
  go_wp2_with fail
  obtain ⟨w3, hw3⟩ : ∃ w3, Hid (w3 = w2.alloc (.cells #[.int .i64 k, .int .i64 n, .string ⟨s.toArray⟩, .slice A l.length c] 48 (0, 0))) := ⟨_, show _ = _ from rfl⟩
  rw [← hw3.out]
  have hf3 : Fr No w2 w3 := by rw [hw3.out]; exact (Fr.refl _ _).alloc _
  have hb3 : w3.heap[w2.heap.size]? = some (.cells #[.int .i64 k, .int .i64 n, .string ⟨s.toArray⟩, .slice A l.length c] 48 (0, 0)) := by rw [hw3.out]; exact blk_new _ _
  have HF3 := Lib.hid (HF2.out.then hf3)
  have HRW : Hid (ItR w3 (fun _ => True) (.mk k n s l) [.int .i64 k, .int .i64 n, .string ⟨s.toArray⟩, .slice A l.length c]) := (show ItR _ _ _ _ from itR_mono (fun _ _ => trivial) _ _ (itR_move (fun q _ hq => HF3.out.block q hq (fun h => h)) _ _ HR.out))
  have hrow := row_one hb3 HRW.out
  have HB3 : Hid (VIs w3 w.heap.size k n s (.slice A l.length c)) := (show VIs _ _ _ _ _ _ from hf3.heap HB2.out (fun h => h))
  obtain ⟨B, hB⟩ : ∃ B, Hid (B = bigB [.mk k n s l]) := ⟨_, show _ = _ from rfl⟩
  refine (big_any hrow).mono ?_
  rw [← hB.out]
  rintro e w4 ⟨rfl, hf4⟩
  have HF34 : Hid (Fr No w3 w4) := (show Fr No w3 w4 from hf4)
  have HB4 : Hid (VIs w4 w.heap.size k n s (.slice A l.length c)) := (show VIs _ _ _ _ _ _ from hf4.heap HB3.out (fun h => h))
  clear hf3 hf4 hrow hb3 d0 d1 d2 d3
  cases B
  · have hs1 := bigB_mem hB.out.symm _ List.mem_cons_self
    have HZ : Hid (It.size (.mk k n s l) ≤ 1048576) := (show _ ≤ _ from Nat.le_trans hs1 (by decide))
    clear hs1
    obtain ⟨C, hC⟩ : ∃ C, Hid (C = checkI (.mk k n s l)) := ⟨_, show _ = _ from rfl⟩
    obtain ⟨X, hX⟩ : ∃ X, Hid (X = encodeI (.mk k n s l)) := ⟨_, show _ = _ from rfl⟩
    obtain ⟨d0, d1, d2, d3⟩ := v_cells HB4.out
    go_wp2_with fail
    refine (encode_any (v := .mk k n s l) (show ItV w4 (fun _ => True) _ _ from ⟨_, rfl, itR_move (fun q _ hq => HF34.out.block q hq (fun h => h)) _ _ HRW.out⟩) HZ.out (fun _ => ⟨It.bulk_texts _ HBK.out, It.bulk_enc HBK.out⟩)).mono ?_
    rw [← hC.out, ← hX.out]
    rintro e w5 ⟨v5, rfl, hown5, hf5⟩
    have HF35 : Hid (Fr No w3 w5) := (show Fr No w3 w5 from HF34.out.then hf5)
    have HR5 : Hid (Rb w5 (fun q => New w4 q ∧ q < w5.heap.size) v5 X) := (show Rb _ _ _ _ from hown5.reads.bound)
    obtain ⟨m, hm⟩ : ∃ m, Hid (m = X.length) := ⟨_, show _ = _ from rfl⟩
    obtain ⟨A5, c5, he5, hmc, _⟩ := hown5.shape
    rw [← hm.out] at he5 hmc
    subst he5
    clear d0 d1 d2 d3 hown5 hf5
    by_cases hC0 : C = 0
    · have HCK : Hid (checkI (.mk k n s l) = 0) := (show _ = _ from by rw [← hC.out]; exact hC0)
      have HXE : Hid (X = (It.mk k n s l).enc) := (show _ = _ from by rw [hX.out, encodeI, if_pos HCK.out])
      have hXl : m ≤ 11534336 := by rw [hm.out, HXE.out]; have := It.enc_bulk (.mk k n s l); have := HBK.out; omega
      have hm1 : 1 ≤ m := by rw [hm.out, HXE.out]; exact enc_pos _
      have hmz : Hid ((m : Int) ≠ 0) := (show (m : Int) ≠ 0 from by omega)
      subst hC0
      obtain ⟨a, ha1, ha2, ha3, ha4⟩ := bit_tmod (a := cut) (d := (m : Int)) (by omega)
      obtain ⟨q, hq⟩ : ∃ q, q = cut.tmod (m : Int) := ⟨_, rfl⟩
      rw [← hq] at ha1 ha3 ha4
      have HQ := Lib.hid hq
      have HA := Lib.hid ha1
      have ham : a < m := by omega
      have hcut := cut0_run (P := Try.prog) 22 5 Try.underlying22 sz5 A5 m c5 (a : Int) (by omega) (by omega)
      rw [Int.toNat_natCast] at hcut
      have HRT : Hid (Rb w5 (fun q => New w4 q ∧ q < w5.heap.size) (.slice A5 a c5) (X.take a)) := (show Rb _ _ _ _ from by
        have h1 := HR5.out
        rw [hm.out] at h1
        obtain ⟨_, _, he, _, _, h5⟩ := h1.take_ a (by rw [← hm.out]; omega)
        cases he
        exact h5)
      clear hq ha1 ha2
      have hm0 : ¬ (m : Int) = 0 := by omega
      go_wp2_with (with_reducible refine halt_dst 31 rfl ?_)
      refine wpListG_run (by rfl) (v := .bool false) (w' := w5) ?hr ?_
      case hr => go_simp; first | done | omega
      go_wp2_with (with_reducible refine halt_dst 41 rfl ?_)
      refine wpListG_run (by rfl) (v := .int .i64 q) (w' := w5) ?hr ?_
      case hr => go_simp; rw [if_neg (by omega), HQ.out]
      go_wp2_with (with_reducible refine halt_dst 44 rfl ?_)
      refine wpListG_run (by rfl) (v := .int .i64 (q + (m : Int))) (w' := w5) ?hr ?_
      case hr => go_simp; rw [IntKind.wrap_i64]; omega
      go_wp2_with (with_reducible refine halt_dst 47 rfl ?_)
      refine wpListG_run (by rfl) (v := .int .i64 (a : Int)) (w' := w5) ?hr ?_
      case hr => go_simp; rw [if_neg (by omega), HA.out]
      obtain ⟨x', n', E', hR⟩ : ∃ (x' : It) (n' : Nat) (E' : Int), readI (X.take a) = (x', n', E') := ⟨_, _, _, rfl⟩
      have hE' : E' = 10 := by
        have h1 := readI_cut HCK.out HFT.out HBK.out (k := a) (by rw [← HXE.out, ← hm.out]; exact ham)
        rw [← HXE.out, hR] at h1
        exact h1
      subst hE'
      go_wp2_with fail
      refine (wread_any HRT.out (by rw [List.length_take]; omega)).mono ?_
      rw [hR]
      clear hcut hR
      rintro e w8 ⟨vv, rfl, ⟨cs, rfl, hir⟩, hf8⟩
      obtain ⟨xk, xn, xt, xl⟩ := x'
      obtain ⟨vx, rfl, hxrow, hxfit⟩ := itR_row hir
      obtain ⟨A2, c2, rfl, _, _⟩ := hxrow.shape
      have HF58 : Hid (Fr No w5 w8) := (show Fr No w5 w8 from hf8)
      clear hir hxrow hxfit hf8
      unfold str at *
      simp only [] at *
      go_upto_region 9 with fail
      obtain ⟨w9, hw9⟩ : ∃ w9, Hid (w9 = w8.alloc (.cells #[.int .i64 xk, .int .i64 xn, .string ⟨xt.toArray⟩, .slice A2 xl.length c2] 48 (0, 0))) := ⟨_, show _ = _ from rfl⟩
      rw [← hw9.out]
      have HF59 : Hid (Fr No w5 w9) := (show Fr No w5 w9 from HF58.out.then (by rw [hw9.out]; exact (Fr.refl _ _).alloc _))
      have HR9 : Hid (Rb w9 (fun q => New w4 q ∧ q < w5.heap.size) (.slice A5 m c5) X) := (show Rb _ _ _ _ from HR5.out.fr HF59.out (fun _ _ _ h => h))
      go_wp2_with fail
      refine (seal_any HR9.out (by rw [← hm.out]; omega)).mono ?_
      obtain ⟨Y, hY⟩ : ∃ Y, Hid (Y = sealB X) := ⟨_, show _ = _ from rfl⟩
      obtain ⟨M, hM⟩ : ∃ M, Hid (M = Y.length) := ⟨_, show _ = _ from rfl⟩
      have hMm : M = m + 8 := by rw [hM.out, hY.out, sealB_len, hm.out]
      rw [← hY.out]
      rintro e w10 ⟨v10, rfl, hown10, hf10⟩
      have HF5a : Hid (Fr No w5 w10) := (show Fr No w5 w10 from HF59.out.then hf10)
      have HR10 : Hid (Rb w10 (fun q => New w9 q ∧ q < w10.heap.size) v10 Y) := (show Rb _ _ _ _ from hown10.reads.bound)
      obtain ⟨A10, c10, he10, hMc, _⟩ := hown10.shape
      rw [← hM.out] at he10 hMc
      subst he10
      clear hown10 hf10
      have hMb : M ≤ 11534344 := by omega
      have hM1 : 1 ≤ M := by omega
      have HMM := Lib.hid hMm
      clear hMm
      obtain ⟨a2, hb1, hb2, hb3, hb4⟩ := bit_tmod (a := cut) (d := (M : Int)) (by omega)
      obtain ⟨q2, hq2⟩ : ∃ q, q = cut.tmod (M : Int) := ⟨_, rfl⟩
      rw [← hq2] at hb1 hb3 hb4
      have HQ2 := Lib.hid hq2
      have HA2 := Lib.hid hb1
      have haM : a2 < M := by omega
      have hcut2 := cut0_run (P := Try.prog) 22 5 Try.underlying22 sz5 A10 M c10 (a2 : Int) (by omega) (by omega)
      rw [Int.toNat_natCast] at hcut2
      have HRT2 : Hid (Rb w10 (fun q => New w9 q ∧ q < w10.heap.size) (.slice A10 a2 c10) (Y.take a2)) := (show Rb _ _ _ _ from by
        have h1 := HR10.out
        rw [hM.out] at h1
        obtain ⟨_, _, he, _, _, h5⟩ := h1.take_ a2 (by rw [← hM.out]; omega)
        cases he
        exact h5)
      clear hq2 hb1 hb2
      go_wp2_with (with_reducible refine halt_dst 63 rfl ?_)
      refine wpListG_run (by rfl) (v := .int .i64 q2) (w' := w10) ?hr ?_
      case hr => go_simp; rw [if_neg (by omega), HQ2.out]
      go_wp2_with (with_reducible refine halt_dst 66 rfl ?_)
      refine wpListG_run (by rfl) (v := .int .i64 (q2 + (M : Int))) (w' := w10) ?hr ?_
      case hr => go_simp; rw [IntKind.wrap_i64]; omega
      go_wp2_with (with_reducible refine halt_dst 69 rfl ?_)
      refine wpListG_run (by rfl) (v := .int .i64 (a2 : Int)) (w' := w10) ?hr ?_
      case hr => go_simp; rw [if_neg (by omega), HA2.out]
      obtain ⟨z', n2, E2, hO⟩ : ∃ (z' : List UInt8) (n2 : Nat) (E2 : Int), openB (Y.take a2) = (z', n2, E2) := ⟨_, _, _, rfl⟩
      have hE2 : E2 = 10 := by
        have h1 := openB_cut (b := X) (k := a2) (by rw [← hm.out]; omega) (by rw [← hm.out]; have := HMM.out; omega)
        rw [← hY.out, hO] at h1
        exact h1
      subst hE2
      go_wp2_with fail
      refine (open_any HRT2.out).mono ?_
      rw [hO]
      clear hcut2 hO
      rintro e w13 ⟨v13, rfl, hown13, hf13⟩
      have HF5d : Hid (Fr No w5 w13) := (show Fr No w5 w13 from HF5a.out.then hf13)
      obtain ⟨A13, c13, rfl, _, _⟩ := hown13.shape
      clear hown13 hf13
      simp only [] at *
      go_wp2_with fail
      go_ret
      exact (show Told _ _ _ _ from ⟨rfl, (HF3.out.then HF35.out).then HF5d.out⟩)
    · go_wp2_with (with_reducible refine halt_dst 27 rfl ?_)
      refine wpListG_run (by rfl) (v := .bool true) (w' := w5) ?hr ?_
      case hr => go_simp; first | done | exact hC0 | simpa using hC0
      go_wp2_with (with_reducible refine halt_dst 36 rfl ?_)
      refine wpListG_run (by rfl) (v := .bool true) (w' := w5) ?hr ?_
      case hr => go_simp; first | done | exact hC0 | simpa using hC0
      go_wp2_with fail
      go_ret
      exact (show Told _ _ _ _ from ⟨rfl, HF3.out.then HF35.out⟩)
  · go_wp2_with fail
    go_ret
    exact (show Told _ _ _ _ from ⟨rfl, HF3.out.then HF34.out⟩)
end Go.Proofs.Ytbaohngnpgappaa
