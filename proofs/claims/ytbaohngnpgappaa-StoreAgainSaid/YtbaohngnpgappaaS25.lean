/- The chapter's example, walked. -/
import Derived.Test.YtbaohngnpgappaaS24
import Derived.Lib.SlBytesConst
set_option linter.unusedVariables false
set_option linter.unusedSimpArgs false
namespace Go.Proofs.Ytbaohngnpgappaa
open Go.RowKit
theorem StIs.stepped {w0 w : World} {X X0 : Nat → Prop} {p pd v : Value} {x x' : St} (hS : StIs w X p pd x) (h2 : ∀ k, X k → X0 k ∨ w0.heap.size ≤ k) (h3 : Fr X0 w0 w) {f : FuncId} {args : Array Value} (hc : Calls Try.prog f args w (StPost w X p pd v x')) :
    Calls Try.prog f args w (fun e w' => e = .returned v ∧ StWay w0 X0 w' p pd x') := by
  refine hc.mono ?_
  rintro e w' ⟨X', rfl, h4, h5, h6⟩
  refine ⟨rfl, X', h4, fun k hk => ?_, h3.trans h6 (fun _ _ h => h) (fun k hk hx => ?_)⟩
  · rcases h5 k hk with h7 | h7
    · exact h2 k h7
    · exact .inr (Nat.le_trans h3.size h7)
  · rcases h2 k hx with h7 | h7
    · exact h7
    · omega
theorem field5 (W : World) (a b c d : Int) (A A' : Option Addr) (n c1 n' c1' : Nat) : (Instr.field 68 (.agg #[.int .i64 a, .int .i64 b, .int .i64 c, .int .i64 d, .slice A n c1, .slice A' n' c1']) 5).run Try.prog W = .ok (.slice A' n' c1') W := by
  unfold Instr.field
  simp [asAgg, part, go_sem]
theorem kv_ex1 (w : World) : KV ChK w No (.agg #[.int .i64 1, .int .i64 3, .int .i64 1, .int .i64 0, .slice none 0 0, .slice none 0 0]) exC1 :=
  ⟨_, rfl, ⟨_, _, rfl, Row.nil _ _ _ _ _ (Nat.zero_le _), Rds.nil _ _ _ _ _ (Nat.zero_le _), ex_few1.i.1, ex_few1.i.2.1, ex_few1.i.2.2.1, ex_few1.i.2.2.2⟩⟩
theorem kv_ex3 (w : World) : KV SvK w No (.agg #[.int .i64 3, .int .i64 1, .int .i64 0, .int .i64 0, .slice none 0 0, .slice none 0 0]) exS1 :=
  ⟨_, rfl, ⟨_, _, rfl, Rds.nil _ _ _ _ _ (Nat.zero_le _), Row.nil _ _ _ _ _ (Nat.zero_le _), ex_i64 (by decide) (by decide), ex_i64 (by decide) (by decide), ex_i64 (by decide) (by decide), ex_i64 (by decide) (by decide)⟩⟩
set_option maxRecDepth 100000 in
set_option maxHeartbeats 4000000 in
theorem slive_any (w : World) : Calls Try.prog 38 #[] w (Told (.bool true) w) := by
  obtain ⟨x1, x3, n, hd1, hd2, hs3, K0, K1, K2, K3⟩ := ex_run
  have HD1 := Lib.hid hd1
  have HD2 := Lib.hid hd2
  have HS3 := Lib.hid hs3
  have HK0 := Lib.hid K0
  have HK1 := Lib.hid K1
  have HK2 := Lib.hid K2
  have HK3 := Lib.hid K3
  clear hd1 hd2 hs3 K0 K1 K2 K3
  go_enter Try.func38, Try.ntmps38
  go_wp2_with fail
  refine (new_any 5000 w).mono ?_
  rw [show clampI 5000 = 5000 from by unfold clampI; decide]
  rintro e w1 ⟨pd, O, rfl, hD, hO, hf1⟩
  obtain ⟨dp, rfl⟩ := hD.ptr
  have HD := Lib.hid hD
  have HO := Lib.hid hO
  have HF1 := Lib.hid hf1
  clear hD hO hf1
  go_wp2_with fail
  refine (format_any (w := w1) (d := Dk.new 5000) HD.out (by show 4096 ≤ (List.replicate 5000 (0 : UInt8)).length; rw [List.length_replicate]; omega) (Nat.zero_le _)).mono ?_
  rintro e w2 ⟨px, rfl, ⟨bp, rfl⟩, h2⟩
  have H2 : Hid (StWay w No w2 (.pointer (some ⟨bp, 0, none⟩)) (.pointer (some ⟨dp, 0, none⟩)) (fmtS (Dk.new 5000))) := (show StWay _ _ _ _ _ _ from StWay.of_new HF1.out HO.out h2)
  clear h2
  go_wp2_with fail
  refine (H2.out.step (fun X hS _ => hS.do_ HK0.out (by omega) ex_few1 (kv_ex1 w2) (fun _ h => h.elim))).mono ?_
  rw [HD1.out]
  rintro e w3 ⟨rfl, h3⟩
  have H3 := Lib.hid h3
  simp only
  clear h3
  go_wp2_with fail
  refine (H3.out.step (fun X hS _ => hS.sync (HK1.out.fine (by omega)))).mono ?_
  rintro e w4 ⟨rfl, h4⟩
  obtain ⟨X4, hS4, hX4, hf4⟩ := h4
  have HS4 := Lib.hid hS4
  have HX4 := Lib.hid hX4
  have HF4 := Lib.hid hf4
  clear hS4 hX4 hf4
  obtain ⟨q, hq⟩ : ∃ q, q = w4.heap.size := ⟨_, rfl⟩
  have HQ := Lib.hid hq
  obtain ⟨w5, hw5⟩ : ∃ w5, Hid (w5 = (w4.alloc (.cells #[.int .u8 97] 5 (1, 2))).alloc (.cells #[.int .i64 3, .slice (some ⟨q, 0, none⟩) 1 1] 64)) := ⟨_, show _ = _ from rfl⟩
  have kc := fun (W : World) (C : Array Value) (n c : Nat) => Lib.run_convert_bytes_const (P := Try.prog) W 22 5 C n c Try.underlying22 Try.underlying5
  have hf5 : Fr No w4 w5 := by rw [hw5.out]; exact ((Fr.refl _ _).alloc _).alloc _
  have hb5 : w5.heap[q]? = some (.cells #[.int .u8 97] 5 (1, 2)) := by rw [hw5.out, hq]; exact Fr.heap (S := No) ((Fr.refl _ _).alloc _) (blk_new _ _) (fun h => h)
  have hb6 : w5.heap[q + 1]? = some (.cells #[.int .i64 3, .slice (some ⟨q, 0, none⟩) 1 1] 64 (0, 0)) := by rw [hw5.out, hq]; exact blk_new' (by simp)
  have HKV5 : Hid (KV ChK w5 (fun k => q ≤ k) (.agg #[.int .i64 2, .int .i64 0, .int .i64 0, .int .i64 1, .slice (some ⟨q + 1, 0, none⟩) 1 1, .slice none 0 0]) exC2) := (show KV _ _ _ _ _ from by
    have hrb : Rb w5 (fun k => q ≤ k) (.slice (some ⟨q, 0, none⟩) 1 1) [97] := by
      refine ⟨_, 1, rfl, Nat.le_refl _, by decide, fun j y hj => ⟨q, 0, rfl, Nat.le_refl _, ?_⟩⟩
      rw [Nat.zero_add, blk_cell hb5]
      rcases j with _ | j
      · cases hj; rfl
      · simp at hj
    refine ⟨_, rfl, ⟨_, _, rfl, ⟨_, 1, rfl, Nat.le_refl _, by decide, fun j y hj => ?_⟩, Rds.nil _ _ _ _ _ (Nat.zero_le _), ex_few2.i.1, ex_few2.i.2.1, ex_few2.i.2.2.1, ex_few2.i.2.2.2⟩⟩
    rcases j with _ | j
    · cases hj
      refine ⟨q + 1, 0, [.int .i64 3, .slice (some ⟨q, 0, none⟩) 1 1], rfl, Nat.le_succ _, ⟨_, rfl, hrb, ex_i64 (by decide) (by decide)⟩, fun i u hu => ?_⟩
      rw [show 0 + 0 * EnK.sz + i = i from by simp, blk_cell hb6, List.getElem?_toArray]
      exact hu
    · simp [exC2] at hj)
  have HF5 := Lib.hid hf5
  clear hq hf5 hb5 hb6
  go_wp2_with fail
  rw [← HQ.out, ← hw5.out]
  clear kc
  refine ((HS4.out.fr HF5.out (fun _ _ _ h => h)).stepped HX4.out (HF4.out.then HF5.out) ((HS4.out.fr HF5.out (fun _ _ _ h => h)).do_ HK2.out (by omega) ex_few2 HKV5.out (fun k hk hx => by have := HS4.out.lt k hx; have := HQ.out; omega))).mono ?_
  rw [HD2.out]
  rintro e w6 ⟨rfl, h6⟩
  have H6 := Lib.hid h6
  simp only
  clear h6
  go_wp2_with fail
  obtain ⟨X6, hS6, hX6, hf6⟩ := H6.out
  refine (hS6.saved (s := exS2) (HK3.out.sm.ok (by omega)).1).mono ?_
  rw [HS3.out]
  rintro e w7 ⟨v7, rfl, hkv7, hf7⟩
  obtain ⟨t7, o7, b7, e7, As7, ns7, cs7, Al7, nl7, cl7, rfl⟩ := hkv7.sh
  have hnl7 : nl7 = 1 := by
    obtain ⟨cs, he, ⟨ws, wl, rfl, _, hen, _⟩⟩ := hkv7
    simp only [Value.agg.injEq, Array.mk.injEq, List.cons.injEq, and_true] at he
    obtain ⟨_, _, _, _, _, e6⟩ := he
    subst e6
    obtain ⟨_, _, he, _, _⟩ := hen.shape
    injection he with _ he _
  subst hnl7
  have H7 : Hid (StWay w No w7 (.pointer (some ⟨bp, 0, none⟩)) (.pointer (some ⟨dp, 0, none⟩)) x3) := (show StWay _ _ _ _ _ _ from H6.out.no hf7)
  have kf := fun (W : World) => field5 W t7 o7 b7 e7 As7 Al7 ns7 cs7 1 cl7
  clear hS6 hX6 hf6 hkv7 hf7
  obtain ⟨kp, hkp⟩ : ∃ kp : Nat, kp = 18446744073709551615 := ⟨_, rfl⟩
  have hkb : kp < 18446744073709551616 := by omega
  have HKB := Lib.hid hkb
  have HKP : Hid (Value.int .u64 18446744073709551615 = .int .u64 (kp : Int)) := (show _ = _ from by rw [hkp]; rfl)
  clear hkb hkp
  go_wp2_with fail
  rw [HKP.out]
  refine (H7.out.disk (d' := x3.d.crash kp 3) (fun O R hD => crash_any hD (Nat.le_trans (HK3.out.fine (by decide)).2.2.2.2 (by decide)) kp 3 HKB.out)).mono ?_
  rintro e w8 ⟨rfl, h8⟩
  have H8 := Lib.hid h8
  obtain ⟨hK9, s09, cs9, hH9⟩ := HK3.out.crash (last := exS1) ((sm_zero.next ex_few1 ex_next1).more (by decide)) kp 3
  have HK9 := Lib.hid hK9
  have HH9 := Lib.hid hH9
  clear h8 hK9 hH9 kf
  go_wp2_with fail
  refine (H8.out.reopen (s := exS1) HH9.out).mono ?_
  rintro e w9 ⟨py, rfl, ⟨by_, rfl⟩, h9⟩
  have H9 := Lib.hid h9
  clear h9
  go_wp2_with fail
  obtain ⟨X9, hS9, hX9, hf9⟩ := H9.out
  refine (hS9.saved (s := exS1) (HK9.out.sm.ok (by omega)).1).mono ?_
  rintro e w10 ⟨v10, rfl, hkv10, hf10⟩
  have H10 : Hid (StWay w No w10 (.pointer (some ⟨by_, 0, none⟩)) (.pointer (some ⟨dp, 0, none⟩)) ⟨x3.d.crash kp 3, exS1, x1.half, x1.at_, x3.mark⟩) := (show StWay _ _ _ _ _ _ from H9.out.no hf10)
  have HKV10 := Lib.hid hkv10
  clear hS9 hX9 hf9 hkv10 hf10
  go_wp2_with fail
  refine (refssame_any (w := w10) HKV10.out (kv_ex3 w10) (by show 0 ≤ 1048576; omega) (by show 0 ≤ 1048576; omega)).mono ?_
  rw [show It.same (itSv exS1) (itSv exS1) = true from (It.same_iff _ _).2 rfl]
  rintro e w11 ⟨rfl, hf11⟩
  have H11 : Hid (Fr No w w11) := (show Fr No w w11 from (H10.out.no hf11).fresh (fun _ h => h.elim))
  clear hf11
  go_wp2_with fail
  go_ret
  exact (show Told _ _ _ _ from ⟨rfl, H11.out⟩)
end Go.Proofs.Ytbaohngnpgappaa
