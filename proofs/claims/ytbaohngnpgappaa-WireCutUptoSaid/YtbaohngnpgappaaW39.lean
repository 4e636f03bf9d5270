/- WireBack: its walk. -/
import Derived.Test.YtbaohngnpgappaaW38
import Derived.Test.YtbaohngnpgappaaW22
set_option linter.unusedVariables false
set_option linter.unusedSimpArgs false
namespace Go.Proofs.Ytbaohngnpgappaa
open Go.RowKit
theorem check_deep {x : It} (h : checkI x = 0) : x.deep ≤ 40 := by
  have hk := check_ok h
  unfold checkI at h
  rw [if_pos hk] at h
  by_cases hd : x.deep ≤ 40
  · exact hd
  · rw [if_pos (by omega)] at h
    exact absurd h (by decide)
theorem readI_of {x : It} (h : checkI x = 0) (hf : x.fit) (hb : x.bulk ≤ 1048576) (r : List UInt8) : readI (x.enc ++ r) = (x, x.enc.length, 0) := by
  have h1 := item_ok x (check_ok h) hf (by omega) 41 (x.enc ++ r) 0 0 r (by have := check_deep h; omega) (Nat.le_refl _) rfl
  unfold readI
  simp only
  rw [h1]
  simp only
  rw [if_neg (by simp), Nat.zero_add]
theorem openB_seal {b : List UInt8} (hb : b.length ≤ 2147483647) (r : List UInt8) : openB (sealB b ++ r) = (b, b.length + 8, 0) := by
  have hl : (sealB b ++ r).length = b.length + 8 + r.length := by rw [List.length_append, sealB_len]
  have h4 : (sealB b ++ r).take 4 = be4 b.length := by
    rw [sealB, List.append_assoc, List.append_assoc, List.take_append_of_le_length (by rw [be4_len]; omega), List.take_of_length_le (by rw [be4_len]; omega)]
  have hr : rdn ((sealB b ++ r).take 4) = b.length := by rw [h4]; exact rdn_be4 _ (by omega)
  have h5 : ((sealB b ++ r).take (4 + b.length)).drop 4 = b := by
    rw [sealB, List.append_assoc, List.take_append_of_le_length (by rw [List.length_append, be4_len]; omega), List.take_of_length_le (by rw [List.length_append, be4_len]; omega), List.drop_left' (be4_len _)]
  have h6 : (sealB b ++ r).take (b.length + 8) = sealB b := by
    rw [List.take_append_of_le_length (by rw [sealB_len]; omega), List.take_of_length_le (by rw [sealB_len]; omega)]
  unfold openB
  rw [if_neg (by omega), hr, if_neg (by omega), if_neg (by omega), h5, if_pos h6.symm]
set_option maxRecDepth 100000 in
set_option maxHeartbeats 4000000 in
theorem wback_any {w : World} {F F' : Nat → Prop} {v vb : Value} {x : It} {q : List UInt8} (h : ItV w F v x) (hq : Rb w F' vb q) (hbk : x.bulk ≤ 1048576) : Calls Try.prog 15 #[v, vb] w (Told (.bool true) w) := by
  obtain ⟨k, n, s, l⟩ := x
  obtain ⟨cs, rfl, hr⟩ := h
  have hr0 := hr
  obtain ⟨vl, rfl, hrow, hfit⟩ := itR_row hr
  obtain ⟨A, c, rfl, hc1, hc2⟩ := hrow.shape
  obtain ⟨Aq, cq, rfl, hq1, hq2⟩ := hq.shape
  have HR := Lib.hid hr0
  have HBK := Lib.hid hbk
  have HQ := Lib.hid hq
  have HFT : Hid (It.fit (.mk k n s l)) := (show It.fit _ from itR_fit _ _ hr0)
  have hql : (q.length : Int) ≤ 9223372036854775807 := by simp only [maxLen] at hq2; omega
  clear hr hr0 hrow hfit hc1 hc2 hbk hq hq2
  unfold str
  unfold str at HR
  go_enter Try.func15, Try.ntmps15
  go_wp2_with fail
  obtain ⟨w1, hw1⟩ : ∃ w1, Hid (w1 = w.alloc (.cells #[.int .i64 k, .int .i64 n, .string ⟨s.toArray⟩, .slice A l.length c] 48 (0, 0))) := ⟨_, show _ = _ from rfl⟩
  rw [← hw1.out]
  have hf1 : Fr No w w1 := by rw [hw1.out]; exact (Fr.refl _ _).alloc _
  have hb1 : VIs w1 w.heap.size k n s (.slice A l.length c) := by rw [hw1.out]; exact blk_new _ _
  have HF1 := Lib.hid hf1
  have HB1 := Lib.hid hb1
  clear hf1 hb1
  refine (wlive_any w1).mono ?_
  rintro e w2 ⟨rfl, hf2⟩
  have HB2 : Hid (VIs w2 w.heap.size k n s (.slice A l.length c)) := (show VIs _ _ _ _ _ _ from hf2.heap HB1.out (fun h => h))
  have HF2 := Lib.hid (HF1.out.then hf2)
  clear hf2
  obtain ⟨d0, d1, d2, d3⟩ := v_cells HB2.out
  go_wp2_with fail
  obtain ⟨w3, hw3⟩ : ∃ w3, Hid (w3 = w2.alloc (.cells #[.int .i64 k, .int .i64 n, .string ⟨s.toArray⟩, .slice A l.length c] 48 (0, 0))) := ⟨_, show _ = _ from rfl⟩
  rw [← hw3.out]
  have hf3 : Fr No w2 w3 := by rw [hw3.out]; exact (Fr.refl _ _).alloc _
  have hb3 : w3.heap[w2.heap.size]? = some (.cells #[.int .i64 k, .int .i64 n, .string ⟨s.toArray⟩, .slice A l.length c] 48 (0, 0)) := by rw [hw3.out]; exact blk_new _ _
  have HF3 := Lib.hid (HF2.out.then hf3)
  have HRW : Hid (ItR w3 (fun _ => True) (.mk k n s l) [.int .i64 k, .int .i64 n, .string ⟨s.toArray⟩, .slice A l.length c]) := (show ItR _ _ _ _ from itR_mono (fun _ _ => trivial) _ _ (itR_move (fun q _ hq => HF3.out.block q hq (fun h => h)) _ _ HR.out))
  have hrow := row_one hb3 HRW.out
  have HB3 : Hid (VIs w3 w.heap.size k n s (.slice A l.length c)) := (show VIs _ _ _ _ _ _ from hf3.heap HB2.out (fun h => h))
  obtain ⟨B, hB⟩ : ∃ B, Hid (B = bigB [.mk k n s l]) := ⟨_, show _ = _ from rfl⟩
  refine (big_any hrow).mono ?_
  rw [← hB.out]
  rintro e w4 ⟨rfl, hf4⟩
  have HF34 : Hid (Fr No w3 w4) := (show Fr No w3 w4 from hf4)
  have HB4 : Hid (VIs w4 w.heap.size k n s (.slice A l.length c)) := (show VIs _ _ _ _ _ _ from hf4.heap HB3.out (fun h => h))
  clear hf3 hf4 hrow hb3 d0 d1 d2 d3
  cases B
  · have hs1 := bigB_mem hB.out.symm _ List.mem_cons_self
    have HZ : Hid (It.size (.mk k n s l) ≤ 1048576) := (show _ ≤ _ from Nat.le_trans hs1 (by decide))
    clear hs1
    by_cases hqb : (100000 : Int) < (q.length : Int)
    · have hd1 : Hid (decide ((100000 : Int) < (q.length : Int)) = true) := (show _ = _ from decide_eq_true hqb)
      go_wp2_with (with_reducible refine halt_dst 22 rfl ?_)
      refine wpListG_run (by rfl) (v := .bool true) (w' := w4) ?hr ?_
      case hr => go_simp; first | done | omega | rw [hd1.out]
      go_wp2_with fail
      go_ret
      exact (show Told _ _ _ _ from ⟨rfl, HF3.out.then HF34.out⟩)
    · have hqn : q.length ≤ 100000 := by omega
      go_wp2_with (with_reducible refine halt_dst 22 rfl ?_)
      refine wpListG_run (by rfl) (v := .bool false) (w' := w4) ?hr ?_
      case hr => go_simp; first | done | omega
      obtain ⟨C, hC⟩ : ∃ C, Hid (C = checkI (.mk k n s l)) := ⟨_, show _ = _ from rfl⟩
      obtain ⟨X, hX⟩ : ∃ X, Hid (X = encodeI (.mk k n s l)) := ⟨_, show _ = _ from rfl⟩
      obtain ⟨d0, d1, d2, d3⟩ := v_cells HB4.out
      go_wp2_with fail
      refine (encode_any (v := .mk k n s l) (show ItV w4 (fun _ => True) _ _ from ⟨_, rfl, itR_move (fun q _ hq => HF34.out.block q hq (fun h => h)) _ _ HRW.out⟩) HZ.out (fun _ => ⟨It.bulk_texts _ HBK.out, It.bulk_enc HBK.out⟩)).mono ?_
      rw [← hC.out, ← hX.out]
      rintro e w5 ⟨v5, rfl, hown5, hf5⟩
      have HF35 : Hid (Fr No w3 w5) := (show Fr No w3 w5 from HF34.out.then hf5)
      have HR5 : Hid (Rb w5 (fun q => New w4 q ∧ q < w5.heap.size) v5 X) := (show Rb _ _ _ _ from hown5.reads.bound)
      have HB5 : Hid (VIs w5 w.heap.size k n s (.slice A l.length c)) := (show VIs _ _ _ _ _ _ from hf5.heap HB4.out (fun h => h))
      obtain ⟨A5, c5, rfl, _, _⟩ := hown5.shape
      clear d0 d1 d2 d3 hown5 hf5
      by_cases hC0 : C = 0
      · have HCK : Hid (checkI (.mk k n s l) = 0) := (show _ = _ from by rw [← hC.out]; exact hC0)
        have HXE : Hid (X = (It.mk k n s l).enc) := (show _ = _ from by rw [hX.out, encodeI, if_pos HCK.out])
        have hXl : X.length ≤ 11534336 := by rw [HXE.out]; have := It.enc_bulk (.mk k n s l); have := HBK.out; omega
        subst hC0
        have HG0 : Hid (Grow w5 (.slice none 0 0) (.slice none 0 0) [] w5) := (show Grow _ _ _ _ _ from Grow.start (w1 := w5) (Ow.nil w5 No _ _) (Fr.refl _ _))
        obtain ⟨_, _, he, _, _, hnews⟩ := HR5.out.news
        cases he
        have HN5 := Lib.hid hnews
        clear hnews
        go_wp2_with (with_reducible refine halt_dst 40 rfl ?_)
        refine wpList_app rfl (.const (.slice none 0 0)) (.tmp 39) 22 5 rfl _ 1 1 Try.underlying22 info5 rfl (by omega) (by omega) (.slice none 0 0) 0 [] rfl A5 X.length c5 rfl HG0.out.own (X.map enc8) (by rw [List.length_map, Nat.mul_one]) HN5.out (one8 _) (by omega) ?_
        intro v6 w6 hown6 hfr6
        have HG6 : Hid (Grow w5 (.slice none 0 0) v6 X w6) := (show Grow _ _ _ _ _ from HG0.out.app hown6 hfr6 rfl)
        clear hown6 hfr6
        have HF56 : Hid (Fr No w5 w6) := (show Fr No w5 w6 from HG6.out.fr.mono (fun k _ h => by simp [Value.ownBlock] at h))
        obtain ⟨_, _, he, _, _, hnews⟩ := (HQ.out.bound.fr ((HF3.out.then HF35.out).then HF56.out) (fun _ _ _ h => h)).news
        cases he
        have HNQ := Lib.hid hnews
        clear hnews
        go_wp2_with (with_reducible refine halt_dst 42 rfl ?_)
        refine wpList_app rfl (.tmp 40) (.tmp 41) 22 5 rfl _ 1 1 Try.underlying22 info5 rfl (by omega) (by omega) v6 X.length (X.map enc8) rfl Aq q.length cq rfl HG6.out.own (q.map enc8) (by rw [List.length_map, Nat.mul_one]) HNQ.out (one8 _) (by omega) ?_
        intro v7 w7 hown7 hfr7
        have HG7 : Hid (Grow w5 (.slice none 0 0) v7 (X ++ q) w7) := (show Grow _ _ _ _ _ from HG6.out.app hown7 hfr7 rfl)
        clear hown7 hfr7
        have HF57 : Hid (Fr No w5 w7) := (show Fr No w5 w7 from HG7.out.fr.mono (fun k _ h => by simp [Value.ownBlock] at h))
        have HR7 : Hid (Rb w7 (fun _ => True) v7 (X ++ q)) := (show Rb _ _ _ _ from HG7.out.own.reads.mono (fun _ _ => trivial))
        obtain ⟨M, hM⟩ : ∃ M, Hid (M = (X ++ q).length) := ⟨_, show _ = _ from rfl⟩
        obtain ⟨A7, c7, he7, _, _⟩ := HG7.out.own.shape
        rw [← hM.out] at he7
        subst he7
        go_wp2_with fail
        refine (wread_any HR7.out (by rw [List.length_append]; omega)).mono ?_
        rw [show readI (X ++ q) = (.mk k n s l, X.length, 0) from by rw [HXE.out]; exact readI_of HCK.out HFT.out HBK.out q]
        rintro e w8 ⟨vv, rfl, ⟨cs, rfl, hir⟩, hf8⟩
        have hir0 := hir
        obtain ⟨vx, rfl, hxrow, hxfit⟩ := itR_row hir
        obtain ⟨A2, c2, rfl, _, _⟩ := hxrow.shape
        have HIR := Lib.hid hir0
        have HF58 : Hid (Fr No w5 w8) := (show Fr No w5 w8 from HF57.out.then hf8)
        clear hir hir0 hxrow hxfit hf8
        unfold str at *
        simp only [] at *
        go_upto_region 8 with fail
        obtain ⟨w9, hw9⟩ : ∃ w9, Hid (w9 = w8.alloc (.cells #[.int .i64 k, .int .i64 n, .string ⟨s.toArray⟩, .slice A2 l.length c2] 48 (0, 0))) := ⟨_, show _ = _ from rfl⟩
        rw [← hw9.out]
        have hf9 : Fr No w8 w9 := by rw [hw9.out]; exact (Fr.refl _ _).alloc _
        have HF59 : Hid (Fr No w5 w9) := (show Fr No w5 w9 from HF58.out.then hf9)
        have HX9 : Hid (VIs w9 w8.heap.size k n s (.slice A2 l.length c2)) := (show VIs _ _ _ _ _ _ from by rw [hw9.out]; exact blk_new _ _)
        have HI9 : Hid (ItR w9 (fun _ => True) (.mk k n s l) [.int .i64 k, .int .i64 n, .string ⟨s.toArray⟩, .slice A2 l.length c2]) := (show ItR _ _ _ _ from itR_mono (fun _ _ => trivial) _ _ (itR_move (fun q _ hq => hf9.block q hq (fun h => h)) _ _ HIR.out))
        clear hf9
        go_wp2_with fail
        refine (seal_any (HR5.out.fr HF59.out (fun _ _ _ h => h)) (by omega)).mono ?_
        obtain ⟨Y, hY⟩ : ∃ Y, Hid (Y = sealB X) := ⟨_, show _ = _ from rfl⟩
        have hYl : Y.length = X.length + 8 := by rw [hY.out, sealB_len]
        rw [← hY.out]
        rintro e w10 ⟨v10, rfl, hown10, hf10⟩
        have HF9a : Hid (Fr No w9 w10) := (show Fr No w9 w10 from hf10)
        have HR10 : Hid (Rb w10 (fun q => New w9 q ∧ q < w10.heap.size) v10 Y) := (show Rb _ _ _ _ from hown10.reads.bound)
        obtain ⟨A10, c10, rfl, _, _⟩ := hown10.shape
        clear hown10 hf10
        have HG10 : Hid (Grow w10 (.slice none 0 0) (.slice none 0 0) [] w10) := (show Grow _ _ _ _ _ from Grow.start (w1 := w10) (Ow.nil w10 No _ _) (Fr.refl _ _))
        obtain ⟨_, _, he, _, _, hnews⟩ := HR10.out.news
        cases he
        have HN10 := Lib.hid hnews
        have hYb : Y.length ≤ 11534344 := by omega
        have HYL := Lib.hid hYl
        clear hnews hYl
        go_wp2_with (with_reducible refine halt_dst 51 rfl ?_)
        refine wpList_app rfl (.const (.slice none 0 0)) (.tmp 50) 22 5 rfl _ 1 1 Try.underlying22 info5 rfl (by omega) (by omega) (.slice none 0 0) 0 [] rfl A10 Y.length c10 rfl HG10.out.own (Y.map enc8) (by rw [List.length_map, Nat.mul_one]) HN10.out (one8 _) (by omega) ?_
        intro v11 w11 hown11 hfr11
        have HG11 : Hid (Grow w10 (.slice none 0 0) v11 Y w11) := (show Grow _ _ _ _ _ from HG10.out.app hown11 hfr11 rfl)
        clear hown11 hfr11
        have HFa11 : Hid (Fr No w10 w11) := (show Fr No w10 w11 from HG11.out.fr.mono (fun k _ h => by simp [Value.ownBlock] at h))
        obtain ⟨_, _, he, _, _, hnews⟩ := (HQ.out.bound.fr ((((HF3.out.then HF35.out).then HF59.out).then HF9a.out).then HFa11.out) (fun _ _ _ h => h)).news
        cases he
        have HNQ2 := Lib.hid hnews
        clear hnews
        go_wp2_with (with_reducible refine halt_dst 53 rfl ?_)
        refine wpList_app rfl (.tmp 51) (.tmp 52) 22 5 rfl _ 1 1 Try.underlying22 info5 rfl (by omega) (by omega) v11 Y.length (Y.map enc8) rfl Aq q.length cq rfl HG11.out.own (q.map enc8) (by rw [List.length_map, Nat.mul_one]) HNQ2.out (one8 _) (by omega) ?_
        intro v12 w12 hown12 hfr12
        have HG12 : Hid (Grow w10 (.slice none 0 0) v12 (Y ++ q) w12) := (show Grow _ _ _ _ _ from HG11.out.app hown12 hfr12 rfl)
        clear hown12 hfr12
        have HFa12 : Hid (Fr No w10 w12) := (show Fr No w10 w12 from HG12.out.fr.mono (fun k _ h => by simp [Value.ownBlock] at h))
        have HR12 : Hid (Rb w12 (fun _ => True) v12 (Y ++ q)) := (show Rb _ _ _ _ from HG12.out.own.reads.mono (fun _ _ => trivial))
        obtain ⟨M2, hM2⟩ : ∃ M, Hid (M = (Y ++ q).length) := ⟨_, show _ = _ from rfl⟩
        obtain ⟨A12, c12, he12, _, _⟩ := HG12.out.own.shape
        rw [← hM2.out] at he12
        subst he12
        go_wp2_with fail
        refine (open_any HR12.out).mono ?_
        rw [show openB (Y ++ q) = (X, Y.length, 0) from by rw [HYL.out, hY.out]; exact openB_seal (by omega) q]
        rintro e w13 ⟨v13, rfl, hown13, hf13⟩
        have HF9d : Hid (Fr No w9 w13) := (show Fr No w9 w13 from (HF9a.out.then HFa12.out).then hf13)
        have HR13 : Hid (Rb w13 (New w12) v13 X) := (show Rb _ _ _ _ from hown13.reads)
        obtain ⟨A13, c13, rfl, _, _⟩ := hown13.shape
        have HF5d : Hid (Fr No w5 w13) := (show Fr No w5 w13 from HF59.out.then HF9d.out)
        clear hown13 hf13
        simp only [] at *
        obtain ⟨d0, d1, d2, d3⟩ := v_cells (show VIs w13 w.heap.size k n s (.slice A l.length c) from HF5d.out.heap HB5.out (fun h => h))
        obtain ⟨k0, k1, k2, k3⟩ := v_cells (show VIs w13 w8.heap.size k n s (.slice A2 l.length c2) from HF9d.out.heap HX9.out (fun h => h))
        go_wp2_with fail
        refine (refsame_any (.mk k n s l) (.mk k n s l) w13 (fun _ => True) (fun _ => True) _ _ ⟨_, rfl, itR_move (fun q _ hq => HF9d.out.block q hq (fun h => h)) _ _ HI9.out⟩ ⟨_, rfl, itR_move (fun q _ hq => (HF35.out.then HF5d.out).block q hq (fun h => h)) _ _ HRW.out⟩).mono ?_
        rw [show It.same (.mk k n s l) (.mk k n s l) = true from (It.same_iff _ _).2 rfl]
        rintro e w14 ⟨rfl, hf14⟩
        have HF5e : Hid (Fr No w5 w14) := (show Fr No w5 w14 from HF5d.out.then hf14)
        have HR14 : Hid (Rb w14 (New w12) (.slice A13 X.length c13) X) := (show Rb _ _ _ _ from HR13.out.fr hf14 (fun _ _ _ h => h))
        clear hf14 d0 d1 d2 d3 k0 k1 k2 k3
        go_wp2_with fail
        refine (samebytes_yes HR14.out (HR5.out.fr HF5e.out (fun _ _ _ h => h)) rfl).mono ?_
        rintro e w' ⟨rfl, rfl⟩
        go_wp2_with fail
        go_ret
        exact (show Told _ _ _ _ from ⟨rfl, (HF3.out.then HF35.out).then HF5e.out⟩)
      · have hl1 : X = [] := by rw [hX.out, encodeI, if_neg (by rw [← hC.out]; exact hC0)]
        subst hl1
        simp only [List.length_nil]
        go_wp2_with fail
        go_ret
        exact (show Told _ _ _ _ from ⟨rfl, HF3.out.then HF35.out⟩)
  · go_wp2_with fail
    go_ret
    exact (show Told _ _ _ _ from ⟨rfl, HF3.out.then HF34.out⟩)
end Go.Proofs.Ytbaohngnpgappaa
