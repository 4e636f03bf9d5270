/- The document's Same of what is saved. -/
import Derived.Test.YtbaohngnpgappaaS5
set_option linter.unusedVariables false
set_option linter.unusedSimpArgs false
namespace Go.Proofs.Ytbaohngnpgappaa
open Go.RowKit
theorem KV.sh {w : World} {F : Nat → Prop} {v : Value} {s : Sv} (h : KV SvK w F v s) : ∃ (t vo ba bt : Int) (A : Option Addr) (n c : Nat) (A' : Option Addr) (n' c' : Nat), v = .agg #[.int .i64 t, .int .i64 vo, .int .i64 ba, .int .i64 bt, .slice A n c, .slice A' n' c'] := by
  obtain ⟨cs, rfl, ⟨vs, vl, rfl, hb, hl, _⟩⟩ := h
  obtain ⟨A, c, rfl, _⟩ := hb.shape
  obtain ⟨A', c', rfl, _⟩ := hl.shape
  exact ⟨_, _, _, _, _, _, _, _, _, _, rfl⟩
theorem KV.fr {α : Type} {K : Kind α} {S : Nat → Prop} {w w' : World} {F : Nat → Prop} {v : Value} {s : α} (h : KV K w F v s) (hf : Fr S w w') (hs : ∀ k, k < w.heap.size → F k → ¬ S k) : KV K w' F v s := by
  obtain ⟨cs, rfl, hr⟩ := h
  exact ⟨cs, rfl, K.mono (fun k hk => hk.1) (K.move (fun k hk hl => hf.block k hl (hs k hl hk.1)) (K.bound hr))⟩
theorem KV.mono {α : Type} {K : Kind α} {w : World} {F F' : Nat → Prop} {v : Value} {s : α} (h : KV K w F v s) (hs : ∀ k, F k → F' k) : KV K w F' v s := by
  obtain ⟨cs, rfl, hr⟩ := h
  exact ⟨cs, rfl, K.mono hs hr⟩
theorem KV.bound {α : Type} {K : Kind α} {w : World} {F : Nat → Prop} {v : Value} {s : α} (h : KV K w F v s) : KV K w (fun k => F k ∧ k < w.heap.size) v s := by
  obtain ⟨cs, rfl, hr⟩ := h
  exact ⟨cs, rfl, K.bound hr⟩
theorem ItV.fr {S : Nat → Prop} {w w' : World} {F : Nat → Prop} {v : Value} {x : It} (h : ItV w F v x) (hf : Fr S w w') (hs : ∀ k, k < w.heap.size → F k → ¬ S k) : ItV w' F v x := by
  obtain ⟨cs, rfl, hr⟩ := h
  exact ⟨cs, rfl, itR_mono (fun k hk => hk.1) _ _ (itR_move (fun q hq hl => hf.block q hl (hs q hl hq.1)) _ _ (itR_bound _ _ hr))⟩
set_option maxHeartbeats 1000000 in
theorem refssame_any {w : World} {F F' : Nat → Prop} {va vb : Value} {a b : Sv} (ha : KV SvK w F va a) (hb : KV SvK w F' vb b) (hn : a.l.length ≤ 1048576) (hm : b.l.length ≤ 1048576) : Calls Try.prog 48 #[va, vb] w (Told (.bool (It.same (itSv a) (itSv b))) w) := by
  obtain ⟨at_, av, ab, abt, A1, n1, c1, A2, n2, c2, rfl⟩ := ha.sh
  obtain ⟨bt_, bv, bb, bbt, A3, n3, c3, A4, n4, c4, rfl⟩ := hb.sh
  have HA0 := Lib.hid ha
  have HB0 := Lib.hid hb
  have HN : Hid (a.l.length ≤ 1048576 ∧ b.l.length ≤ 1048576) := (show _ ∧ _ from ⟨hn, hm⟩)
  obtain ⟨xb, hxb⟩ : ∃ b, b = w.heap.size := ⟨_, rfl⟩
  obtain ⟨w1, hw1⟩ : ∃ w1, Hid (w1 = (w.alloc (.cells #[.int .i64 at_, .int .i64 av, .int .i64 ab, .int .i64 abt, .slice A1 n1 c1, .slice A2 n2 c2] 68 (0, 0))).alloc (.cells #[.int .i64 bt_, .int .i64 bv, .int .i64 bb, .int .i64 bbt, .slice A3 n3 c3, .slice A4 n4 c4] 68 (0, 0))) := ⟨_, show _ = _ from rfl⟩
  have hf1 : Fr No w w1 := by rw [hw1.out]; exact ((Fr.refl _ _).alloc _).alloc _
  have hx1 : SIs w1 xb at_ av ab abt (.slice A1 n1 c1) (.slice A2 n2 c2) := by rw [hw1.out, hxb]; exact Fr.heap (S := No) ((Fr.refl _ _).alloc _) (blk_new _ _) (fun h => h)
  have hy1 : SIs w1 (xb + 1) bt_ bv bb bbt (.slice A3 n3 c3) (.slice A4 n4 c4) := by rw [hw1.out, hxb]; exact blk_new' (by simp)
  have HF1 := Lib.hid hf1
  have HXB := Lib.hid hxb
  obtain ⟨b0, b1, b2, b3, b4, b5⟩ := s_cells hx1
  obtain ⟨d0, d1, d2, d3, d4, d5⟩ := s_cells hy1
  clear hf1 hxb hx1 hy1 ha hb hn hm
  go_enter Try.func48, Try.ntmps48
  go_upto_region 1 with fail
  rw [← HXB.out, ← hw1.out]
  refine wp_seq_region (fun W => W.cell? ⟨xb, 0, none⟩ = some (.int .i64 at_) ∧ W.cell? ⟨xb, 1, none⟩ = some (.int .i64 av) ∧ W.cell? ⟨xb, 2, none⟩ = some (.int .i64 ab) ∧ W.cell? ⟨xb, 3, none⟩ = some (.int .i64 abt) ∧ W.cell? ⟨xb, 4, none⟩ = some (.slice A1 n1 c1) ∧ W.cell? ⟨xb, 5, none⟩ = some (.slice A2 n2 c2) ∧ W.cell? ⟨xb + 1, 0, none⟩ = some (.int .i64 bt_) ∧ W.cell? ⟨xb + 1, 1, none⟩ = some (.int .i64 bv) ∧ W.cell? ⟨xb + 1, 2, none⟩ = some (.int .i64 bb) ∧ W.cell? ⟨xb + 1, 3, none⟩ = some (.int .i64 bbt) ∧ W.cell? ⟨xb + 1, 4, none⟩ = some (.slice A3 n3 c3) ∧ W.cell? ⟨xb + 1, 5, none⟩ = some (.slice A4 n4 c4)) [1, 3, 4] [0, 2] [] [0, 2, 1, 3, 4, 5] (by kernel_rfl) (by kernel_rfl) rfl (by kernel_rfl) (fun _ _ _ _ _ h => h) ?_
  have HS : Hid (w1.drew.cell? ⟨xb, 0, none⟩ = some (.int .i64 at_) ∧ w1.drew.cell? ⟨xb, 1, none⟩ = some (.int .i64 av) ∧ w1.drew.cell? ⟨xb, 2, none⟩ = some (.int .i64 ab) ∧ w1.drew.cell? ⟨xb, 3, none⟩ = some (.int .i64 abt) ∧ w1.drew.cell? ⟨xb, 4, none⟩ = some (.slice A1 n1 c1) ∧ w1.drew.cell? ⟨xb, 5, none⟩ = some (.slice A2 n2 c2) ∧ w1.drew.cell? ⟨xb + 1, 0, none⟩ = some (.int .i64 bt_) ∧ w1.drew.cell? ⟨xb + 1, 1, none⟩ = some (.int .i64 bv) ∧ w1.drew.cell? ⟨xb + 1, 2, none⟩ = some (.int .i64 bb) ∧ w1.drew.cell? ⟨xb + 1, 3, none⟩ = some (.int .i64 bbt) ∧ w1.drew.cell? ⟨xb + 1, 4, none⟩ = some (.slice A3 n3 c3) ∧ w1.drew.cell? ⟨xb + 1, 5, none⟩ = some (.slice A4 n4 c4)) := (show _ ∧ _ from ⟨b0, b1, b2, b3, b4, b5, d0, d1, d2, d3, d4, d5⟩)
  clear b0 b1 b2 b3 b4 b5 d0 d1 d2 d3 d4 d5
  repeat (first
    | (refine sq_off (a' := ?_) rfl rfl (by rfl) (fun _ => (HS).out) ?ha ?_; (case ha => simp only [Act.put, List.setIfInBounds_toArray, List.set_cons_zero, List.set_cons_succ]; rfl))
    | (refine sq_any (v := ?_) (a' := ?_) rfl rfl rfl (by rfl) (fun W => ?hr) ?ha ?_; (case hr => go_simp; first | done | rfl); (case ha => simp only [Act.put, List.setIfInBounds_toArray, List.set_cons_zero, List.set_cons_succ]; rfl))
    | (refine sq_load (v := ?_) (a' := ?_) rfl rfl rfl (by rfl) (fun W hSW => ?hr) (HS).out ?ha ?_; (case hr => (try dsimp only at hSW); go_simp; first | done | rfl); (case ha => simp only [Act.put, List.setIfInBounds_toArray, List.set_cons_zero, List.set_cons_succ]; rfl)))
  have HFd : Hid (Fr No w w1.drew) := (show Fr No w w1.drew from HF1.out.drew)
  have stepS : ∀ (W W' : World), Fr No W W' → (W.cell? ⟨xb, 0, none⟩ = some (.int .i64 at_) ∧ W.cell? ⟨xb, 1, none⟩ = some (.int .i64 av) ∧ W.cell? ⟨xb, 2, none⟩ = some (.int .i64 ab) ∧ W.cell? ⟨xb, 3, none⟩ = some (.int .i64 abt) ∧ W.cell? ⟨xb, 4, none⟩ = some (.slice A1 n1 c1) ∧ W.cell? ⟨xb, 5, none⟩ = some (.slice A2 n2 c2) ∧ W.cell? ⟨xb + 1, 0, none⟩ = some (.int .i64 bt_) ∧ W.cell? ⟨xb + 1, 1, none⟩ = some (.int .i64 bv) ∧ W.cell? ⟨xb + 1, 2, none⟩ = some (.int .i64 bb) ∧ W.cell? ⟨xb + 1, 3, none⟩ = some (.int .i64 bbt) ∧ W.cell? ⟨xb + 1, 4, none⟩ = some (.slice A3 n3 c3) ∧ W.cell? ⟨xb + 1, 5, none⟩ = some (.slice A4 n4 c4)) → (W'.cell? ⟨xb, 0, none⟩ = some (.int .i64 at_) ∧ W'.cell? ⟨xb, 1, none⟩ = some (.int .i64 av) ∧ W'.cell? ⟨xb, 2, none⟩ = some (.int .i64 ab) ∧ W'.cell? ⟨xb, 3, none⟩ = some (.int .i64 abt) ∧ W'.cell? ⟨xb, 4, none⟩ = some (.slice A1 n1 c1) ∧ W'.cell? ⟨xb, 5, none⟩ = some (.slice A2 n2 c2) ∧ W'.cell? ⟨xb + 1, 0, none⟩ = some (.int .i64 bt_) ∧ W'.cell? ⟨xb + 1, 1, none⟩ = some (.int .i64 bv) ∧ W'.cell? ⟨xb + 1, 2, none⟩ = some (.int .i64 bb) ∧ W'.cell? ⟨xb + 1, 3, none⟩ = some (.int .i64 bbt) ∧ W'.cell? ⟨xb + 1, 4, none⟩ = some (.slice A3 n3 c3) ∧ W'.cell? ⟨xb + 1, 5, none⟩ = some (.slice A4 n4 c4)) := by
    rintro W W' hf ⟨q0, q1, q2, q3, q4, q5, q6, q7, q8, q9, qa, qb⟩
    exact ⟨hf.cell q0 (fun h => h), hf.cell q1 (fun h => h), hf.cell q2 (fun h => h), hf.cell q3 (fun h => h), hf.cell q4 (fun h => h), hf.cell q5 (fun h => h), hf.cell q6 (fun h => h), hf.cell q7 (fun h => h), hf.cell q8 (fun h => h), hf.cell q9 (fun h => h), hf.cell qa (fun h => h), hf.cell qb (fun h => h)⟩
  have HST := Lib.hid stepS
  clear stepS
  refine sq_call rfl rfl (by rfl) rfl Try.func42 rfl rfl [.agg #[.int .i64 at_, .int .i64 av, .int .i64 ab, .int .i64 abt, .slice A1 n1 c1, .slice A2 n2 c2]] rfl ?_
  refine (refsitem_any (w := w1.drew) (HA0.out.fr HFd.out (fun _ _ _ h => h)) HN.out.1).mono ?_
  rintro e w2 ⟨v2, rfl, hi2, hf2⟩
  refine ⟨_, rfl, fun _ => HST.out _ _ hf2 HS.out, ?_⟩
  simp only [Act.put, List.setIfInBounds_toArray, List.set_cons_zero, List.set_cons_succ]
  refine sq_call rfl rfl (by rfl) rfl Try.func42 rfl rfl [.agg #[.int .i64 bt_, .int .i64 bv, .int .i64 bb, .int .i64 bbt, .slice A3 n3 c3, .slice A4 n4 c4]] rfl ?_
  refine (refsitem_any (w := w2) (HB0.out.fr (HFd.out.then hf2) (fun _ _ _ h => h)) HN.out.2).mono ?_
  rintro e w3 ⟨v3, rfl, hi3, hf3⟩
  refine ⟨_, rfl, fun _ => HST.out _ _ hf3 (HST.out _ _ hf2 HS.out), ?_⟩
  simp only [Act.put, List.setIfInBounds_toArray, List.set_cons_zero, List.set_cons_succ]
  refine sq_call rfl rfl (by rfl) rfl Try.func44 rfl rfl [v2, v3] rfl ?_
  refine (refsame_any (itSv a) (itSv b) w3 _ _ v2 v3 (ItV.fr hi2 hf3 (fun _ _ _ h => h)) hi3).mono ?_
  rintro e w4 ⟨rfl, hf4⟩
  refine ⟨_, rfl, fun _ => HST.out _ _ hf4 (HST.out _ _ hf3 (HST.out _ _ hf2 HS.out)), ?_⟩
  simp only [Act.put, List.setIfInBounds_toArray, List.set_cons_zero, List.set_cons_succ]
  have HEND : Hid (Told (.bool (It.same (itSv a) (itSv b))) w (.returned (.bool (It.same (itSv a) (itSv b)))) w4) := (show Told _ _ _ _ from ⟨rfl, ((HFd.out.then hf2).then hf3).then hf4⟩)
  repeat (first
    | (refine sq_off (a' := ?_) rfl rfl (by rfl) (fun _ => (HS).out) ?ha ?_; (case ha => simp only [Act.put, List.setIfInBounds_toArray, List.set_cons_zero, List.set_cons_succ]; rfl))
    | (refine sq_any (v := ?_) (a' := ?_) rfl rfl rfl (by rfl) (fun W => ?hr) ?ha ?_; (case hr => go_simp; first | done | rfl); (case ha => simp only [Act.put, List.setIfInBounds_toArray, List.set_cons_zero, List.set_cons_succ]; rfl))
    | (refine sq_load (v := ?_) (a' := ?_) rfl rfl rfl (by rfl) (fun W hSW => ?hr) (HS).out ?ha ?_; (case hr => (try dsimp only at hSW); go_simp; first | done | rfl); (case ha => simp only [Act.put, List.setIfInBounds_toArray, List.set_cons_zero, List.set_cons_succ]; rfl)))
  refine sq_done ?_
  clear hi2 hi3 hf2 hf3 hf4
  go_wp2_with fail
  go_returns
  exact HEND.out
end Go.Proofs.Ytbaohngnpgappaa
