/- StoreAgain: its walk. -/
import Derived.Test.YtbaohngnpgappaaS25
set_option linter.unusedVariables false
set_option linter.unusedSimpArgs false
namespace Go.Proofs.Ytbaohngnpgappaa
open Go.RowKit
theorem row_I64 {w : World} {F : Nat → Prop} {v : Value} {l : List En} (h : Row EnK w F v l) : ∀ e ∈ l, I64 e.1 := by
  intro e he
  obtain ⟨j, hj⟩ := List.mem_iff_getElem?.1 he
  obtain ⟨_, _, _, cs, _, _, _, _, hr, _⟩ := h.at_ j (List.getElem?_eq_some_iff.1 hj).1
  rw [(List.getElem?_eq_some_iff.1 hj).2] at hr
  obtain ⟨vb, _, _, hi⟩ := hr
  exact hi
theorem few_all {w : World} {F : Nat → Prop} {v : Value} {l : List Ch} (h : Row ChK w F v l) (hf : fewCB l = true) : l.length ≤ 60 ∧ ∀ c ∈ l, FewC c := by
  unfold fewCB at hf
  rw [Bool.and_eq_true, decide_eq_true_eq, List.all_eq_true] at hf
  refine ⟨hf.1, fun c hc => ?_⟩
  have h1 := hf.2 c hc
  unfold okC at h1
  rw [Bool.and_eq_true, Bool.and_eq_true, decide_eq_true_eq, decide_eq_true_eq, List.all_eq_true] at h1
  obtain ⟨j, hj⟩ := List.mem_iff_getElem?.1 hc
  obtain ⟨_, _, _, cs, _, _, _, _, hr, _⟩ := h.at_ j (List.getElem?_eq_some_iff.1 hj).1
  rw [(List.getElem?_eq_some_iff.1 hj).2] at hr
  obtain ⟨vl, vb, _, hrow, _, hi⟩ := hr
  exact ⟨h1.1.1, h1.1.2, fun e he => ⟨by simpa using h1.2 e he, row_I64 hrow e he⟩, hi⟩
theorem Good.reopen {x : St} {last : Sv} {h n : Nat} (G : Good x last h n) : Good ⟨x.d, last, h, n, x.mark⟩ last h n := by
  obtain ⟨s0, cs, H⟩ := G.held
  exact ⟨⟨s0, cs, H⟩, G.safe, G.fits, G.now, G.far, H.h1, H.n1, fun _ => Nat.le_refl _, ⟨s0, cs, H.all, H.fit, H.bulk, H.ok, H.goes⟩⟩
theorem KeptS.reopen {k : Nat} {x : St} {last : Sv} {h n : Nat} (K : KeptS k x last h n) (hl : Sm k last) : KeptS k ⟨x.d, last, h, n, x.mark⟩ last h n := ⟨K.good.reopen, hl, K.waits⟩
theorem KeptS.more {k k' : Nat} {x : St} {last : Sv} {h n : Nat} (K : KeptS k x last h n) (hk : k ≤ k') : KeptS k' x last h n := ⟨K.good, K.sm.more hk, by have := K.waits; omega⟩
/-- All of the store is new. -/
def LoopA (w : World) (p pd : Value) (k h n : Nat) (wr : World) : Prop := ∃ x, KeptS k x Sv.zero h n ∧ StWay w No wr p pd x
def LoopB (w : World) (p pd : Value) (S : Sv) (q : Nat) (wr : World) : Prop := ∃ x last h n, KeptS 60 x last h n ∧ StWay w No wr p pd x ∧ x.s = S ∧ (0 < q → last = S)
def LoopC (wB : World) (XB : Nat → Prop) (pd : Value) (S : Sv) (wr : World) : Prop := ∃ p x h n m, KeptS 60 ⟨x.d, S, h, n, m⟩ S h n ∧ StWay wB XB wr p pd x
set_option maxRecDepth 100000 in
set_option maxHeartbeats 8000000 in
theorem again_any {w : World} {F : Nat → Prop} {v : Value} {l : List Ch} {size syncs : Int} (h : Row ChK w F v l) (hs : I64 size) (hy : I64 syncs) : Calls Try.prog 10 #[.int .i64 size, v, .int .i64 syncs] w (Told (.bool true) w) := by
  obtain ⟨A, c, rfl, hc1, hc2⟩ := h.shape
  have H : Hid (Row ChK w (fun k => F k ∧ k < w.heap.size) (.slice A l.length c) l) := (show Row _ _ _ _ _ from h.bound (by decide))
  obtain ⟨n, hnn⟩ : ∃ n, n = l.length := ⟨_, rfl⟩
  have HN := Lib.hid hnn
  rw [← hnn] at H ⊢
  unfold I64 at hs hy
  obtain ⟨hs0, hs1⟩ := hs
  obtain ⟨hy0, hy1⟩ := hy
  clear h hnn hc1 hc2
  obtain ⟨B, hB⟩ : ∃ B, Hid (B = fewCB l) := ⟨_, show _ = _ from rfl⟩
  go_enter Try.func10, Try.ntmps10
  go_wp2_with fail
  refine (slive_any w).mono ?_
  rintro e w1 ⟨rfl, hf1⟩
  have HF1 := Lib.hid hf1
  clear hf1
  go_wp2_with fail
  refine (fewc_any (l := l) (H.out.fr (by decide) HF1.out (fun _ _ _ h => h))).mono ?_
  rw [← hB.out]
  rintro e w2 ⟨rfl, hf2⟩
  have HF2 : Hid (Fr No w w2) := (show Fr No w w2 from HF1.out.then hf2)
  clear hf2
  cases B with
  | false =>
    go_wp2_with fail
    go_ret
    exact (show Told _ _ _ _ from ⟨rfl, HF2.out⟩)
  | true =>
    by_cases hz : 4096 ≤ size ∧ size ≤ 20000
    · obtain ⟨hz0, hz1⟩ := hz
      obtain ⟨hl60, hfew⟩ := few_all H.out (by have := hB.out; exact this.symm)
      obtain ⟨N, hN⟩ : ∃ N, N = clampI size := ⟨_, rfl⟩
      have hN2 : 4096 ≤ N ∧ N ≤ 20000 := by rw [hN]; unfold clampI; omega
      have HNN := Lib.hid hN
      have HN2 := Lib.hid hN2
      have HL60 : Hid (n ≤ 60) := (show _ ≤ _ from by rw [HN.out]; exact hl60)
      have HFEW := Lib.hid hfew
      clear hN hN2 hl60 hfew
      have hga1 : decide (size < 4096) = false := by simp; omega
      have hga2 : decide (20000 < size) = false := by simp; omega
      go_wp2_with fail
      refine (new_any size w2).mono ?_
      rw [← HNN.out]
      rintro e w3 ⟨pd, O, rfl, hD, hO, hf3⟩
      obtain ⟨dp, rfl⟩ := hD.ptr
      have HD := Lib.hid hD
      have HO := Lib.hid hO
      have HF3 := Lib.hid hf3
      clear hD hO hf3
      go_wp2_with fail
      refine (format_any (w := w3) (d := Dk.new N) HD.out (by show 4096 ≤ (List.replicate N (0 : UInt8)).length; rw [List.length_replicate]; exact HN2.out.1) (Nat.zero_le _)).mono ?_
      rintro e w4 ⟨px, rfl, ⟨bp, rfl⟩, h4⟩
      have H4 : Hid (StWay w No w4 (.pointer (some ⟨bp, 0, none⟩)) (.pointer (some ⟨dp, 0, none⟩)) (fmtS (Dk.new N))) := (show StWay _ _ _ _ _ _ from StWay.of_new (HF2.out.then HF3.out) (fun k hk => Nat.le_trans HF2.out.size (HO.out k hk)) h4)
      obtain ⟨n0, hK0⟩ := fmt_kept (N := N) HN2.out.1
      have HA0 : Hid (LoopA w (.pointer (some ⟨bp, 0, none⟩)) (.pointer (some ⟨dp, 0, none⟩)) 0 0 n0 w4) := (show LoopA _ _ _ _ _ _ _ from ⟨_, hK0, H4.out⟩)
      clear h4 hK0
      go_wp2_with fail
      have hl60n := HL60.out
      go_loopw [44] (fun i wr => ∃ k : Nat, k ≤ n ∧ i = .int .i64 k ∧ Hid (LoopA w (.pointer (some ⟨bp, 0, none⟩)) (.pointer (some ⟨dp, 0, none⟩)) k 0 n0 wr)) (fun i _ => n - (intOf i).toNat)
      case atStart => exact ⟨0, Nat.zero_le _, rfl, HA0⟩
      case round =>
        obtain ⟨k, hk, rfl, HR⟩ := hrel
        by_cases hlt : k < n
        · have hlt' : k < l.length := by rw [← HN.out]; exact hlt
          obtain ⟨x, hx⟩ : ∃ x, x = l[k] := ⟨_, rfl⟩
          have HXL : Hid (x ∈ l) := (show _ ∈ _ from by rw [hx]; exact List.getElem_mem hlt')
          obtain ⟨X0, hK, hway⟩ := HR.out
          obtain ⟨X, hS, hX, hf⟩ := hway
          obtain ⟨b1, o1, _, cs, he, _, _, _, hr, hcell⟩ := (H.out.fr (by decide) hf (fun _ _ _ h => h)).at_ k hlt'
          rw [← hx] at hr
          rw [← HN.out] at he
          cases he
          have hr0 := hr
          obtain ⟨vl, vb, rfl, hrow, hrb, _⟩ := hr0
          obtain ⟨Al, cl, rfl, _, _⟩ := hrow.shape
          obtain ⟨Ab, cb, rfl, _, _⟩ := hrb.shape
          have HKV : Hid (KV ChK wr (fun k => F k ∧ k < w.heap.size) (.agg #[.int .i64 x.kind, .int .i64 x.term, .int .i64 x.vote, .int .i64 x.at_, .slice Al x.l.length cl, .slice Ab x.b.length cb]) x) := (show KV _ _ _ _ _ from ⟨_, rfl, hr⟩)
          obtain ⟨nb, hnb⟩ : ∃ q, q = x.b.length := ⟨_, rfl⟩
          obtain ⟨ml, hml⟩ : ∃ q, q = x.l.length := ⟨_, rfl⟩
          rw [← hnb, ← hml] at hcell HKV
          have c0 := hcell 0 _ rfl
          have c1 := hcell 1 _ rfl
          have c2 := hcell 2 _ rfl
          have c3 := hcell 3 _ rfl
          have c4 := hcell 4 _ rfl
          have c5 := hcell 5 _ rfl
          simp only [show ChK.sz = 6 from rfl, Nat.add_zero] at c0 c1 c2 c3 c4 c5
          have HK := Lib.hid hK
          have HS := Lib.hid hS
          have HX := Lib.hid hX
          have HF := Lib.hid hf
          have hga : decide (k < n) = true := by simp; exact hlt
          have HLT := Lib.hid hlt
          obtain ⟨w5, hw5⟩ : ∃ w5, Hid (w5 = wr.alloc (.cells #[.int .i64 x.kind, .int .i64 x.term, .int .i64 x.vote, .int .i64 x.at_, .slice Al ml cl, .slice Ab nb cb] 62 (0, 0))) := ⟨_, show _ = _ from rfl⟩
          have HF5 : Hid (Fr No wr w5) := (show Fr No wr w5 from by rw [hw5.out]; exact (Fr.refl _ _).alloc _)
          clear hcell hr hrow hrb hnb hml hx hK hS hX hf
          go_wp2_with fail
          rw [← hw5.out]
          refine ((HS.out.fr HF5.out (fun _ _ _ h => h)).stepped HX.out (HF.out.then HF5.out) ((HS.out.fr HF5.out (fun _ _ _ h => h)).do_ HK.out (by have := HL60.out; omega) (HFEW.out x HXL.out) (HKV.out.fr HF5.out (fun _ _ _ h => h)) (fun q hq hx => by rcases HX.out q hx with h1 | h1; exact h1; (have := hq.2; omega)))).mono ?_
          rintro e w6 ⟨rfl, h6⟩
          have HA6 : Hid (LoopA w (.pointer (some ⟨bp, 0, none⟩)) (.pointer (some ⟨dp, 0, none⟩)) (k + 1) 0 n0 w6) := (show LoopA _ _ _ _ _ _ _ from ⟨_, HK.out.do_ (by have := HL60.out; omega) (HFEW.out x HXL.out), h6⟩)
          clear h6 c0 c1 c2 c3 c4 c5
          go_wp2_with fail
          go_roundw
          case rel => exact ⟨k + 1, by have := HLT.out; omega, by go_num, HA6⟩
          case measure => have := HLT.out; simp [intOf]; omega
        · have hkn : k = n := by omega
          subst hkn
          obtain ⟨X0, hK, hway⟩ := HR.out
          have HB0 : Hid (LoopB w (.pointer (some ⟨bp, 0, none⟩)) (.pointer (some ⟨dp, 0, none⟩)) X0.s 0 wr) := (show LoopB _ _ _ _ _ _ from ⟨X0, Sv.zero, 0, n0, hK.more HL60.out, hway, rfl, fun h => absurd h (by decide)⟩)
          have ht1 : -4 < syncs.tmod 4 := Int.lt_tmod_of_pos _ (by decide)
          have ht2 : syncs.tmod 4 < 4 := Int.tmod_lt_of_pos _ (by decide)
          obtain ⟨m, hm, hm1⟩ : ∃ m : Nat, wrap64 (1 + (wrap64 (syncs.tmod 4 + 4)).tmod 4) = (m : Int) ∧ 1 ≤ m ∧ m ≤ 4 := by
            have h1 : wrap64 (syncs.tmod 4 + 4) = syncs.tmod 4 + 4 := by unfold wrap64; omega
            have h2 : 0 ≤ (syncs.tmod 4 + 4).tmod 4 := Int.tmod_nonneg _ (by omega)
            have h3 : (syncs.tmod 4 + 4).tmod 4 < 4 := Int.tmod_lt_of_pos _ (by decide)
            refine ⟨(1 + (syncs.tmod 4 + 4).tmod 4).toNat, ?_, by omega, by omega⟩
            rw [h1]
            unfold wrap64
            omega
          obtain ⟨hm1, hm2⟩ := hm1
          have HM := Lib.hid hm
          have HS0 : Hid (Sm 60 X0.s) := (show Sm _ _ from hK.sm.more HL60.out)
          clear hlt hk hK hway ht1 ht2 hm
          go_wp2_with fail
          rw [HM.out]
          go_loopw [57] (fun i wr => ∃ q : Nat, q ≤ m ∧ i = .int .i64 q ∧ Hid (LoopB w (.pointer (some ⟨bp, 0, none⟩)) (.pointer (some ⟨dp, 0, none⟩)) X0.s q wr)) (fun i _ => m - (intOf i).toNat)
          case atStart => exact ⟨0, Nat.zero_le _, rfl, HB0⟩
          case round =>
            obtain ⟨q, hq, rfl, HQ⟩ := hrel
            by_cases hlq : q < m
            · obtain ⟨x, last, h, nn, hK, hway, hxs, hlast⟩ := HQ.out
              have HK := Lib.hid hK
              have HW := Lib.hid hway
              have HXS := Lib.hid hxs
              have hgq : decide (q < m) = true := by simp; exact hlq
              have HLQ := Lib.hid hlq
              clear hK hway hxs hlast
              go_wp2_with fail
              refine (HW.out.step (fun X hS _ => hS.sync (HK.out.fine (by decide)))).mono ?_
              rintro e w6 ⟨rfl, h6⟩
              have HB6 : Hid (LoopB w (.pointer (some ⟨bp, 0, none⟩)) (.pointer (some ⟨dp, 0, none⟩)) X0.s (q + 1) w6) := (show LoopB _ _ _ _ _ _ from ⟨_, _, _, _, HK.out.sync, h6, HXS.out, fun _ => HXS.out⟩)
              clear h6
              go_wp2_with fail
              go_roundw
              case rel => exact ⟨q + 1, by have := HLQ.out; omega, by go_num, HB6⟩
              case measure => have := HLQ.out; simp [intOf]; omega
            · have hqm : q = m := by omega
              subst hqm
              obtain ⟨w0r, hw0r⟩ : ∃ w0r, w0r = wr := ⟨_, rfl⟩
              subst hw0r
              obtain ⟨x, last, h, nn, hK, hway, hxs, hlast⟩ := HQ.out
              obtain rfl : last = X0.s := hlast (by omega)
              have HK := Lib.hid hK
              obtain ⟨X, hS, hX, hf⟩ := hway
              have HS := Lib.hid hS
              have HX := Lib.hid hX
              have HF := Lib.hid hf
              have HXS := Lib.hid hxs
              clear hlq hq hK hS hX hf hxs hlast
              go_wp2_with fail
              refine (HS.out.saved (s := X0.s) (HK.out.sm.ok (by decide)).1).mono ?_
              rw [HXS.out]
              rintro e w7 ⟨v7, rfl, hkv7, hf7⟩
              obtain ⟨t7, o7, b7, e7, As7, ns7, cs7, Al7, nl7, cl7, rfl⟩ := hkv7.sh
              obtain ⟨wb, hwb⟩ : ∃ b, b = w7.heap.size := ⟨_, rfl⟩
              have HWB := Lib.hid hwb
              obtain ⟨w8, hw8⟩ : ∃ w8, Hid (w8 = w7.alloc (.cells #[.int .i64 t7, .int .i64 o7, .int .i64 b7, .int .i64 e7, .slice As7 ns7 cs7, .slice Al7 nl7 cl7] 68 (0, 0))) := ⟨_, show _ = _ from rfl⟩
              have hf8 : Fr No w7 w8 := by rw [hw8.out]; exact (Fr.refl _ _).alloc _
              have hs8 : SIs w8 wb t7 o7 b7 e7 (.slice As7 ns7 cs7) (.slice Al7 nl7 cl7) := by rw [hw8.out, hwb]; exact blk_new _ _
              have HSI8 := Lib.hid hs8
              have HKV8 : Hid (KV SvK w8 (fun k => w0r.heap.size ≤ k ∧ k < w7.heap.size) (.agg #[.int .i64 t7, .int .i64 o7, .int .i64 b7, .int .i64 e7, .slice As7 ns7 cs7, .slice Al7 nl7 cl7]) X0.s) := (show KV _ _ _ _ _ from hkv7.bound.fr hf8 (fun _ _ _ h => h))
              have HF8 : Hid (Fr No w w8) := (show Fr No w w8 from (HF.out.then hf7).then hf8)
              have HFr8 : Hid (Fr No w0r w8) := (show Fr No w0r w8 from hf7.then hf8)
              have HC0 : Hid (LoopC w8 X (.pointer (some ⟨dp, 0, none⟩)) X0.s w8) := (show LoopC _ _ _ _ _ from ⟨_, x, h, nn, x.mark, HK.out.reopen HS0.out, X, HS.out.fr (hf7.then hf8) (fun _ _ _ h => h), fun k hk => .inl hk, Fr.refl _ _⟩)
              have HXL : Hid (∀ k, X k → k < w0r.heap.size) := (show ∀ k, _ → _ from HS.out.lt)
              have HW7 : Hid (w0r.heap.size ≤ w7.heap.size) := (show _ ≤ _ from hf7.size)
              clear hkv7 hf7 hf8 hs8 hwb
              go_wp2_with fail
              rw [← hw8.out, ← HWB.out]
              have HSM : Hid (∀ W, Fr X w8 W → SIs W wb t7 o7 b7 e7 (.slice As7 ns7 cs7) (.slice Al7 nl7 cl7)) := (show ∀ W, _ → _ from fun W hW => hW.heap HSI8.out (fun hx => by have := HXL.out wb hx; have := HWB.out; have := HW7.out; omega))
              go_loopw [64] (fun i wr => ∃ q : Nat, q ≤ 3 ∧ i = .int .i64 q ∧ Hid (LoopC w8 X (.pointer (some ⟨dp, 0, none⟩)) X0.s wr)) (fun i _ => 3 - (intOf i).toNat)
              case atStart => exact ⟨0, by omega, rfl, HC0⟩
              case round =>
                obtain ⟨q, hq, rfl, HQ3⟩ := hrel
                by_cases hlq : q < 3
                · obtain ⟨p, x, h, nn, m, hK, hway⟩ := HQ3.out
                  obtain ⟨s0, cs, hH⟩ := hK.good.held
                  have HK := Lib.hid hK
                  have HW := Lib.hid hway
                  have HH := Lib.hid hH
                  have HLQ := Lib.hid hlq
                  clear hK hway hH
                  go_wp2_with fail
                  refine (HW.out.reopen (s := X0.s) HH.out).mono ?_
                  rintro e w10 ⟨py, rfl, ⟨yb, rfl⟩, h10⟩
                  have H10 : Hid (StWay w8 X w10 (.pointer (some ⟨yb, 0, none⟩)) (.pointer (some ⟨dp, 0, none⟩)) ⟨x.d, X0.s, h, nn, m⟩) := (show StWay _ _ _ _ _ _ from h10)
                  clear h10
                  go_upto_region 21 with fail
                  obtain ⟨Y, hS, hY, hfY⟩ := H10.out
                  obtain ⟨r0, r1, r2, r3, r4, r5⟩ := s_cells (HSM.out w10 hfY)
                  have HS10 : Hid (w10.drew.cell? ⟨wb, 0, none⟩ = some (.int .i64 t7) ∧ w10.drew.cell? ⟨wb, 1, none⟩ = some (.int .i64 o7) ∧ w10.drew.cell? ⟨wb, 2, none⟩ = some (.int .i64 b7) ∧ w10.drew.cell? ⟨wb, 3, none⟩ = some (.int .i64 e7) ∧ w10.drew.cell? ⟨wb, 4, none⟩ = some (.slice As7 ns7 cs7) ∧ w10.drew.cell? ⟨wb, 5, none⟩ = some (.slice Al7 nl7 cl7)) := (show _ ∧ _ ∧ _ ∧ _ ∧ _ ∧ _ from ⟨r0, r1, r2, r3, r4, r5⟩)
                  refine wp_seq_region (fun W => W.cell? ⟨wb, 0, none⟩ = some (.int .i64 t7) ∧ W.cell? ⟨wb, 1, none⟩ = some (.int .i64 o7) ∧ W.cell? ⟨wb, 2, none⟩ = some (.int .i64 b7) ∧ W.cell? ⟨wb, 3, none⟩ = some (.int .i64 e7) ∧ W.cell? ⟨wb, 4, none⟩ = some (.slice As7 ns7 cs7) ∧ W.cell? ⟨wb, 5, none⟩ = some (.slice Al7 nl7 cl7)) [8, 10] [9] [] [0, 1, 2, 3, 4, 5, 6, 7, 9, 8, 10, 11, 12] (by kernel_rfl) (by kernel_rfl) rfl (by kernel_rfl) (fun _ _ _ _ _ h => h) ?_
                  have hSd : StIs w10.drew Y (.pointer (some ⟨yb, 0, none⟩)) (.pointer (some ⟨dp, 0, none⟩)) ⟨x.d, X0.s, h, nn, m⟩ := hS.fr (Fr.refl No _).drew (fun _ _ _ h => h)
                  have HSd := Lib.hid hSd
                  have HFY : Hid (Fr X w8 w10) := (show Fr X w8 w10 from hfY)
                  clear r0 r1 r2 r3 r4 r5 hS hY hfY hSd
                  repeat (first
                    | (refine sq_off (a' := ?_) rfl rfl (by rfl) (fun _ => (HS10).out) ?ha ?_; (case ha => simp only [Act.put, List.setIfInBounds_toArray, List.set_cons_zero, List.set_cons_succ]; rfl))
                    | (refine sq_any (v := ?_) (a' := ?_) rfl rfl rfl (by rfl) (fun W => ?hr) ?ha ?_; (case hr => go_simp; first | done | rfl); (case ha => simp only [Act.put, List.setIfInBounds_toArray, List.set_cons_zero, List.set_cons_succ]; rfl))
                    | (refine sq_load (v := ?_) (a' := ?_) rfl rfl rfl (by rfl) (fun W hSW => ?hr) (HS10).out ?ha ?_; (case hr => (try dsimp only at hSW); go_simp; first | done | rfl); (case ha => simp only [Act.put, List.setIfInBounds_toArray, List.set_cons_zero, List.set_cons_succ]; rfl)))
                  refine sq_call rfl rfl (by rfl) rfl Try.func43 rfl rfl [.pointer (some ⟨yb, 0, none⟩)] rfl ?_
                  refine (HSd.out.saved (s := X0.s) (HK.out.sm.ok (by decide)).1).mono ?_
                  rintro e w11 ⟨v11, rfl, hkv11, hf11⟩
                  have HKV11 := Lib.hid hkv11
                  have HF11 : Hid (Fr No w10 w11) := (show Fr No w10 w11 from (show Fr No w10 w10.drew from (Fr.refl No _).drew).then hf11)
                  have HS11 : Hid (w11.cell? ⟨wb, 0, none⟩ = some (.int .i64 t7) ∧ w11.cell? ⟨wb, 1, none⟩ = some (.int .i64 o7) ∧ w11.cell? ⟨wb, 2, none⟩ = some (.int .i64 b7) ∧ w11.cell? ⟨wb, 3, none⟩ = some (.int .i64 e7) ∧ w11.cell? ⟨wb, 4, none⟩ = some (.slice As7 ns7 cs7) ∧ w11.cell? ⟨wb, 5, none⟩ = some (.slice Al7 nl7 cl7)) := (show _ ∧ _ ∧ _ ∧ _ ∧ _ ∧ _ from by
                    obtain ⟨r0, r1, r2, r3, r4, r5⟩ := HS10.out
                    exact ⟨hf11.cell r0 (fun h => h), hf11.cell r1 (fun h => h), hf11.cell r2 (fun h => h), hf11.cell r3 (fun h => h), hf11.cell r4 (fun h => h), hf11.cell r5 (fun h => h)⟩)
                  refine ⟨_, rfl, fun _ => HS11.out, ?_⟩
                  simp only [Act.put, List.setIfInBounds_toArray, List.set_cons_zero, List.set_cons_succ]
                  clear hkv11 hf11
                  repeat (first
                    | (refine sq_off (a' := ?_) rfl rfl (by rfl) (fun _ => (HS11).out) ?ha ?_; (case ha => simp only [Act.put, List.setIfInBounds_toArray, List.set_cons_zero, List.set_cons_succ]; rfl))
                    | (refine sq_any (v := ?_) (a' := ?_) rfl rfl rfl (by rfl) (fun W => ?hr) ?ha ?_; (case hr => go_simp; first | done | rfl); (case ha => simp only [Act.put, List.setIfInBounds_toArray, List.set_cons_zero, List.set_cons_succ]; rfl))
                    | (refine sq_load (v := ?_) (a' := ?_) rfl rfl rfl (by rfl) (fun W hSW => ?hr) (HS11).out ?ha ?_; (case hr => (try dsimp only at hSW); go_simp; first | done | rfl); (case ha => simp only [Act.put, List.setIfInBounds_toArray, List.set_cons_zero, List.set_cons_succ]; rfl)))
                  refine sq_call rfl rfl (by rfl) rfl Try.func48 rfl rfl [v11, .agg #[.int .i64 t7, .int .i64 o7, .int .i64 b7, .int .i64 e7, .slice As7 ns7 cs7, .slice Al7 nl7 cl7]] rfl ?_
                  refine (refssame_any (w := w11) HKV11.out ((HKV8.out.fr HFY.out (fun k _ hk hx => by have := HXL.out k hx; have := hk.1; omega)).fr HF11.out (fun _ _ _ h => h)) (HK.out.sm.ok (by decide)).1.1 (HK.out.sm.ok (by decide)).1.1).mono ?_
                  rw [show It.same (itSv X0.s) (itSv X0.s) = true from (It.same_iff _ _).2 rfl]
                  rintro e w12 ⟨rfl, hf12⟩
                  have HS12 : Hid (w12.cell? ⟨wb, 0, none⟩ = some (.int .i64 t7) ∧ w12.cell? ⟨wb, 1, none⟩ = some (.int .i64 o7) ∧ w12.cell? ⟨wb, 2, none⟩ = some (.int .i64 b7) ∧ w12.cell? ⟨wb, 3, none⟩ = some (.int .i64 e7) ∧ w12.cell? ⟨wb, 4, none⟩ = some (.slice As7 ns7 cs7) ∧ w12.cell? ⟨wb, 5, none⟩ = some (.slice Al7 nl7 cl7)) := (show _ ∧ _ ∧ _ ∧ _ ∧ _ ∧ _ from by
                    obtain ⟨r0, r1, r2, r3, r4, r5⟩ := HS11.out
                    exact ⟨hf12.cell r0 (fun h => h), hf12.cell r1 (fun h => h), hf12.cell r2 (fun h => h), hf12.cell r3 (fun h => h), hf12.cell r4 (fun h => h), hf12.cell r5 (fun h => h)⟩)
                  have H12 : Hid (StWay w8 X w12 (.pointer (some ⟨yb, 0, none⟩)) (.pointer (some ⟨dp, 0, none⟩)) ⟨x.d, X0.s, h, nn, m⟩) := (show StWay _ _ _ _ _ _ from H10.out.no (HF11.out.then hf12))
                  refine ⟨_, rfl, fun _ => HS12.out, ?_⟩
                  simp only [Act.put, List.setIfInBounds_toArray, List.set_cons_zero, List.set_cons_succ]
                  clear hf12
                  repeat (first
                    | (refine sq_off (a' := ?_) rfl rfl (by rfl) (fun _ => (HS12).out) ?ha ?_; (case ha => simp only [Act.put, List.setIfInBounds_toArray, List.set_cons_zero, List.set_cons_succ]; rfl))
                    | (refine sq_any (v := ?_) (a' := ?_) rfl rfl rfl (by rfl) (fun W => ?hr) ?ha ?_; (case hr => go_simp; first | done | rfl); (case ha => simp only [Act.put, List.setIfInBounds_toArray, List.set_cons_zero, List.set_cons_succ]; rfl))
                    | (refine sq_load (v := ?_) (a' := ?_) rfl rfl rfl (by rfl) (fun W hSW => ?hr) (HS12).out ?ha ?_; (case hr => (try dsimp only at hSW); go_simp; first | done | rfl); (case ha => simp only [Act.put, List.setIfInBounds_toArray, List.set_cons_zero, List.set_cons_succ]; rfl)))
                  refine sq_done ?_
                  go_wp2_with fail
                  refine (H12.out.step (fun X hS _ => hS.sync (HK.out.fine (by decide)))).mono ?_
                  rintro e w13 ⟨rfl, h13⟩
                  have H13 := Lib.hid h13
                  have HK13 := Lib.hid HK.out.sync
                  clear h13
                  go_wp2_with fail
                  refine (H13.out.disk (d' := (St.synced ⟨x.d, X0.s, h, nn, m⟩).d.crash 0 0) (fun O R hD => crash_any hD (Nat.le_trans (HK13.out.fine (by decide)).2.2.2.2 (by decide)) 0 0 (by decide))).mono ?_
                  rintro e w14 ⟨rfl, h14⟩
                  have HC14 : Hid (LoopC w8 X (.pointer (some ⟨dp, 0, none⟩)) X0.s w14) := (show LoopC _ _ _ _ _ from ⟨_, _, _, _, _, (HK13.out.crash HS0.out 0 0).1, h14⟩)
                  clear h14
                  go_wp2_with fail
                  go_roundw
                  case rel => exact ⟨q + 1, by have := HLQ.out; omega, by go_num, HC14⟩
                  case measure => have := HLQ.out; simp [intOf]; omega
                · have hq3 : q = 3 := by omega
                  subst hq3
                  obtain ⟨p, x, h, nn, m, hK, hway⟩ := HQ3.out
                  obtain ⟨Y, hS, hY, hfY⟩ := hway
                  have HEND : Hid (Fr No w wr) := (show Fr No w wr from HF8.out.trans hfY (fun _ _ h => h) (fun k hk hx => by rcases HX.out k hx with h1 | h1; exact h1; omega))
                  clear hlq hq hK hS hY hfY
                  go_wp2_with fail
                  go_ret
                  exact (show Told _ _ _ _ from ⟨rfl, HEND.out⟩)
    · by_cases hz0 : size < 4096
      · have hga1 : decide (size < 4096) = true := by simp; omega
        go_wp2_with fail
        go_ret
        exact (show Told _ _ _ _ from ⟨rfl, HF2.out⟩)
      · have hga1 : decide (size < 4096) = false := by simp; omega
        have hga2 : decide (20000 < size) = true := by simp; omega
        go_wp2_with fail
        go_ret
        exact (show Told _ _ _ _ from ⟨rfl, HF2.out⟩)
end Go.Proofs.Ytbaohngnpgappaa
