/- store's Next: what is saved behind a snapshot; behind any change. -/
import Derived.Test.YtbaohngnpgappaaS9
set_option linter.unusedVariables false
set_option linter.unusedSimpArgs false
namespace Go.Proofs.Ytbaohngnpgappaa
open Go.RowKit

set_option maxRecDepth 100000 in
set_option maxHeartbeats 4000000 in
theorem next3 {w : World} {F F' : Nat → Prop} {vs vc : Value} {s : Sv} {c : Ch} (hs : KV SvK w F vs s) (hc : KV ChK w F' vc c) (hok : s.ok) (hlim : c.lim) (hk : c.kind = 3) : Calls Try.prog 60 #[vs, vc] w (SNextPost (New w) w (nextS s c)) := by
  obtain ⟨st, sv, sb, sbt, sn, sl⟩ := s
  obtain ⟨ck, ct, cv, ca, cl_, cb_⟩ := c
  have HKV := Lib.hid hs
  obtain ⟨cs0, rfl, ⟨vs, vl, rfl, hbs, hrow, i1, i2, i3, i4⟩⟩ := hs
  obtain ⟨cc0, rfl, ⟨vcl, vcb, rfl, hcl, hcb, j1, j2, j3, j4⟩⟩ := hc
  obtain ⟨As, cs, rfl, hsc1, hsc2⟩ := hbs.shape
  obtain ⟨Al, cl, rfl, hlc1, hlc2⟩ := hrow.shape
  obtain ⟨Ac, cc, rfl, hcc1, hcc2⟩ := hcl.shape
  obtain ⟨Ad, cd, rfl, hdc1, hdc2⟩ := hcb.shape
  simp only at hbs hrow i1 i2 i3 i4 hcl hcb j1 j2 j3 j4 hsc1 hlc1 hcc1 hdc1 ⊢
  simp only at hk
  subst hk
  obtain ⟨hok1, hsb0, hsb1⟩ := hok
  simp only at hsb0 hsb1
  have hnl' : sl.length ≤ 1048576 := hok1.1
  have HI : Hid (I64 st ∧ I64 sv ∧ I64 sb ∧ I64 sbt ∧ I64 3 ∧ I64 ct ∧ I64 cv ∧ I64 ca) := (show _ ∧ _ from ⟨i1, i2, i3, i4, j1, j2, j3, j4⟩)
  have HOK := Lib.hid hok1
  have HLIM : Hid (cl_.length ≤ 1048576 ∧ (∀ x ∈ cl_, x.2.length ≤ 140737488355328) ∧ cb_.length ≤ 140737488355328) := (show _ ∧ _ from hlim)
  have HCL : Hid (Row EnK w (fun k => F' k ∧ k < w.heap.size) (.slice Ac cl_.length cc) cl_) := (show Row _ _ _ _ _ from hcl.bound (by decide))
  have HCB : Hid (Rb w (fun k => F' k ∧ k < w.heap.size) (.slice Ad cb_.length cd) cb_) := (show Rb _ _ _ _ from hcb.bound)
  unfold I64 at i1 i2 i3 i4 j1 j2 j3 j4
  obtain ⟨ns, hns⟩ : ∃ n, n = sn.length := ⟨_, rfl⟩
  obtain ⟨nl, hnl⟩ : ∃ n, n = sl.length := ⟨_, rfl⟩
  obtain ⟨nc, hnc⟩ : ∃ n, n = cl_.length := ⟨_, rfl⟩
  obtain ⟨nd, hnd⟩ : ∃ n, n = cb_.length := ⟨_, rfl⟩
  rw [← hns, ← hnl] at HKV
  rw [← hnc] at HCL
  rw [← hnd] at HCB
  rw [← hnl] at hnl'
  rw [← hns, ← hnl, ← hnc, ← hnd]
  have HNS := Lib.hid hns
  have HNL := Lib.hid hnl
  have HNC := Lib.hid hnc
  have HND := Lib.hid hnd
  obtain ⟨xs, hxs⟩ : ∃ b, b = w.heap.size := ⟨_, rfl⟩
  rw [← hxs] at HCL HCB
  obtain ⟨w1, hw1⟩ : ∃ w1, Hid (w1 = ((w.alloc (.cells #[.int .i64 st, .int .i64 sv, .int .i64 sb, .int .i64 sbt, .slice As ns cs, .slice Al nl cl] 68 (0, 0))).alloc (.cells #[.int .i64 3, .int .i64 ct, .int .i64 cv, .int .i64 ca, .slice Ac nc cc, .slice Ad nd cd] 62 (0, 0))).alloc (.cells #[.int .i64 0, .int .i64 0, .int .i64 0, .int .i64 0, .slice none 0 0, .slice none 0 0] 68 (0, 0))) := ⟨_, show _ = _ from rfl⟩
  have hf1 : Fr No w w1 := by rw [hw1.out]; exact (((Fr.refl _ _).alloc _).alloc _).alloc _
  have hx1 : SIs w1 xs st sv sb sbt (.slice As ns cs) (.slice Al nl cl) := by
    rw [hw1.out, hxs]
    refine Fr.heap (S := No) ((Fr.refl _ _).alloc _) ?_ (fun h => h)
    exact Fr.heap (S := No) ((Fr.refl _ _).alloc _) (blk_new _ _) (fun h => h)
  have hy1 : CIs w1 (xs + 1) 3 ct cv ca (.slice Ac nc cc) (.slice Ad nd cd) := by
    rw [hw1.out, hxs]
    exact Fr.heap (S := No) ((Fr.refl _ _).alloc _) (blk_new' (by simp)) (fun h => h)
  have hr1 : SIs w1 (xs + 2) 0 0 0 0 (.slice none 0 0) (.slice none 0 0) := by rw [hw1.out, hxs]; exact blk_new' (by simp)
  have hs1 : w1.heap.size = xs + 3 := by rw [hw1.out, hxs]; simp
  obtain ⟨b0, b1, b2, b3, b4, b5⟩ := s_cells hx1
  have HF1 := Lib.hid hf1
  have HX1 := Lib.hid hx1
  have HY1 := Lib.hid hy1
  have HR1 := Lib.hid hr1
  have HS1 := Lib.hid hs1
  have HXS := Lib.hid hxs
  clear hbs hrow hcl hcb hok1 hlim hns hnl hnc hnd hsc1 hsc2 hlc1 hlc2 hcc1 hcc2 hdc1 hdc2 hf1 hx1 hy1 hr1 hs1 hxs
  go_enter Try.func60, Try.ntmps60
  go_wp2_with fail
  rw [← HXS.out, ← hw1.out]
  go_wp2_with fail
  refine (sclone_any (w := w1) (HKV.out.fr HF1.out (fun _ _ _ h => h)) HOK.out).mono ?_
  rintro e w2 ⟨v2, rfl, ⟨cs2, rfl, ⟨vs2, vl2, rfl, hb2, hl2, _⟩⟩, hf2⟩
  obtain ⟨As2, cs2, rfl, _, _⟩ := hb2.shape
  obtain ⟨Al2, cl2, rfl, _, _⟩ := hl2.shape
  simp only at hb2 hl2 ⊢
  rw [← HNS.out] at hb2 ⊢
  rw [← HNL.out] at hl2 ⊢
  have hx2 : SIs w2 xs st sv sb sbt (.slice As ns cs) (.slice Al nl cl) := hf2.heap HX1.out (fun h => h)
  clear b0 b1 b2 b3 b4 b5
  obtain ⟨b0, b1, b2, b3, b4, b5⟩ := s_cells hx2
  have z0 := s_free hx2 0
  have z1 := s_free hx2 1
  have z2 := s_free hx2 2
  have z3 := s_free hx2 3
  have z4 := s_free hx2 4
  have z5 := s_free hx2 5
  have HB2 := Lib.hid hb2
  have HL2 := Lib.hid hl2
  have HF2 : Hid (Fr No w1 w2) := (show Fr No w1 w2 from hf2)
  have HX2 := Lib.hid hx2
  clear hb2 hl2 hf2 hx2
  go_upto_region 3 with fail
  obtain ⟨w3, hw3⟩ : ∃ w3, Hid (w3 = back6 w2 xs st sv sb sbt (.slice As2 ns cs2) (.slice Al2 nl cl2)) := ⟨_, show _ = _ from rfl⟩
  unfold back6 at hw3
  rw [← hw3.out]
  have HC : Hid (Cloned w w3 xs st sv sb sbt sn sl (.slice As2 ns cs2) (.slice Al2 nl cl2) 3 ct cv ca cl_ cb_ (.slice Ac nc cc) (.slice Ad nd cd) F') := (show Cloned _ _ _ _ _ _ _ _ _ _ _ _ _ _ _ _ _ _ _ _ from by
    have hf3 : Fr (fun q => q = xs) w2 w3 := by rw [hw3.out]; exact back6_fr w2 xs st sv sb sbt (.slice As2 ns cs2) (.slice Al2 nl cl2)
    have hsz := HS1.out
    have hf13 : Fr (fun q => q = xs) w1 w3 := HF2.out.trans hf3 (fun _ _ h => h.elim) (fun _ _ h => h)
    exact {
      s := by rw [hw3.out]; exact back6_s HX2.out
      c := hf13.heap HY1.out (fun h => by have h' : xs + 1 = xs := h; omega)
      r := hf13.heap HR1.out (fun h => by have h' : xs + 2 = xs := h; omega)
      snap := (HB2.out.fr hf3 (fun k _ hk h => by have h' : k = xs := h; have hk' : w1.heap.size ≤ k := hk; omega)).mono (fun k hk => by have hk' : w1.heap.size ≤ k := hk; show xs + 2 < k; omega)
      ents := (HL2.out.fr (by decide) hf3 (fun k _ hk h => by have h' : k = xs := h; have hk' : w1.heap.size ≤ k := hk; omega)).mono (fun k hk => by have hk' : w1.heap.size ≤ k := hk; show xs + 2 < k; omega)
      cl := HCL.out.fr (by decide) (HF1.out.trans hf13 (U := fun q => q = xs) (fun _ _ h => h.elim) (fun _ _ h => h)) (fun k _ hk h => by have h' : k = xs := h; have := hk.2; omega)
      cb := HCB.out.fr (HF1.out.trans hf13 (U := fun q => q = xs) (fun _ _ h => h.elim) (fun _ _ h => h)) (fun k _ hk h => by have h' : k = xs := h; have := hk.2; omega)
      fr := HF1.out.trans hf13 (fun _ _ h => h) (fun q hq h => by have h' : q = xs := h; have := HXS.out; omega)
      at_ := HXS.out
      i64 := HI.out })
  obtain ⟨b0', b1', b2', b3', b4', b5'⟩ := s_cells HC.out.s
  obtain ⟨d0, d1, d2, d3, d4, d5⟩ := c_cells HC.out.c
  obtain ⟨r0, r1, r2, r3, r4, r5⟩ := s_cells HC.out.r
  have y0 := s_free HC.out.s 0
  have y1 := s_free HC.out.s 1
  have y2 := s_free HC.out.s 2
  have y3 := s_free HC.out.s 3
  have y4 := s_free HC.out.s 4
  have y5 := s_free HC.out.s 5
  have q0 := s_free HC.out.r 0
  have q1 := s_free HC.out.r 1
  have q2 := s_free HC.out.r 2
  have q3 := s_free HC.out.r 3
  have q4 := s_free HC.out.r 4
  have q5 := s_free HC.out.r 5
  clear b0 b1 b2 b3 b4 b5 z0 z1 z2 z3 z4 z5 HB2 HL2 HF2 HX2 HX1 HY1 HR1 HF1 HCL HCB HKV hw3
  by_cases h1 : sb ≤ ca
  · by_cases h2 : ca ≤ 1099511627776
    · by_cases h3 : ca ≤ sb + (nl : Int)
      · by_cases h4 : sb < ca
        · obtain ⟨m, hm⟩ : ∃ m : Nat, ca - sb - 1 = (m : Int) := ⟨(ca - sb - 1).toNat, by omega⟩
          have hmn : m < nl := by omega
          have hml : m < sl.length := by rw [← HNL.out]; exact hmn
          obtain ⟨m1, hm1⟩ : ∃ k, k = m + 1 := ⟨_, rfl⟩
          have HM : Hid (ca - sb - 1 = (m : Int) ∧ (ca - sb - 1).toNat = m ∧ ca - sb = (m1 : Int) ∧ (ca - sb).toNat = m1) := (show _ ∧ _ from ⟨hm, by omega, by omega, by omega⟩)
          have hm1n : m1 ≤ nl := by omega
          obtain ⟨b1, o1, _, cs9, he9, _, _, _, ⟨vb9, hcs9, _, _⟩, hcell9⟩ := HC.out.ents.at_ m hml
          rw [← HNL.out] at he9
          cases he9
          obtain ⟨x, hx⟩ : ∃ x, x = sl[m] := ⟨_, rfl⟩
          have HXM : Hid (sl[m]? = some x) := (show _ = _ from by rw [hx]; exact List.getElem?_eq_getElem hml)
          rw [← hx] at hcs9
          obtain ⟨xt, xb⟩ := x
          simp only at hcs9
          subst hcs9
          have c9 := hcell9 0 _ rfl
          simp only [show EnK.sz = 2 from rfl, Nat.add_zero] at c9
          clear hcell9 hx hm hm1
          by_cases h5 : xt = ct
          · have HSOME : Hid (nextS ⟨st, sv, sb, sbt, sn, sl⟩ ⟨3, ct, cv, ca, cl_, cb_⟩ = some ⟨st, sv, ca, ct, cb_, sl.drop m1⟩) := (show _ = _ from next3_drop (s := ⟨st, sv, sb, sbt, sn, sl⟩) (c := ⟨3, ct, cv, ca, cl_, cb_⟩) rfl h1 h2 (.inl ⟨(keep_iff _ _).2 (.inr ⟨h4, by simp only; rw [← HNL.out]; exact h3, by simp only; rw [HM.out.2.1, HXM.out, ← h5]; rfl⟩), HM.out.2.2.2.symm⟩))
            subst h5
            go_wp2_with (with_reducible refine halt_dst 103 rfl ?_)
            refine wpListG_run (v := .int .i64 (m : Int)) (w' := w3) (by rfl) ?hr ?_
            case hr => rw [← HM.out.1]; go_simp; first | done | rfl | (rw [IntKind.wrap_i64]; omega)
            go_wp2_with (with_reducible refine halt_dst 115 rfl ?_)
            refine wpListG_run (v := .int .i64 (m1 : Int)) (w' := w3) (by rfl) ?hr ?_
            case hr => rw [← HM.out.2.2.1]; go_simp; first | done | rfl | (rw [IntKind.wrap_i64]; omega)
            obtain ⟨A7, hcut, hdrop⟩ := row_cut (K := EnK) (P := Try.prog) 60 64 Try.underlying60 (show _ = some 2 from by kernel_rfl) (some ⟨b1, o1, none⟩) nl cl2 (m1) (by omega)
            have HDR := Lib.hid hdrop
            clear hdrop
            obtain ⟨n7, hn7⟩ : ∃ n, n = nl - (m1) := ⟨_, rfl⟩
            obtain ⟨c7, hc7⟩ : ∃ n, n = cl2 - (m1) := ⟨_, rfl⟩
            rw [← hn7, ← hc7] at HDR hcut
            clear hn7 hc7
            go_upto_region 23 with fail
            clear hcut
            obtain ⟨w4, hw4⟩ : ∃ w4, Hid (w4 = w3.setCell ⟨xs, 5, none⟩ (.slice A7 n7 c7)) := ⟨_, show _ = _ from rfl⟩
            rw [← hw4.out]
            have hx4 : SIs w4 xs st sv sb sbt (.slice As2 ns cs2) (.slice A7 n7 c7) := by rw [hw4.out]; exact s_vl HC.out.s _
            have hf4 : Fr (fun q => q = xs) w3 w4 := by rw [hw4.out]; exact Fr.one _ _
            have HC4 : Hid (CIs w4 (xs + 1) 3 xt cv ca (.slice Ac nc cc) (.slice Ad nd cd)) := (show CIs _ _ _ _ _ _ _ _ from hf4.heap HC.out.c (fun h => by have h' : xs + 1 = xs := h; omega))
            have HF4 := Lib.hid hf4
            have HX4 := Lib.hid hx4
            clear b0' b1' b2' b3' b4' b5' d0 d1 d2 d3 d4 d5 r0 r1 r2 r3 r4 r5 y0 y1 y2 y3 y4 y5 q0 q1 q2 q3 q4 q5 hf4 hx4
            obtain ⟨d0, d1, d2, d3, d4, d5⟩ := c_cells HC4.out
            refine wp_seq_region (fun W => W.cell? ⟨xs + 1, 1, none⟩ = some (.int .i64 xt) ∧ W.cell? ⟨xs + 1, 3, none⟩ = some (.int .i64 ca) ∧ W.cell? ⟨xs + 1, 5, none⟩ = some (.slice Ad nd cd)) [2, 8, 10, 12] [1, 4, 6] [12] [0, 1, 3, 4, 5, 6, 2, 7, 8, 9, 10, 11, 12] (by kernel_rfl) (by kernel_rfl) rfl (by kernel_rfl) (fun _ _ _ _ _ h => h) ?_
            have HS : Hid (w4.drew.cell? ⟨xs + 1, 1, none⟩ = some (.int .i64 xt) ∧ w4.drew.cell? ⟨xs + 1, 3, none⟩ = some (.int .i64 ca) ∧ w4.drew.cell? ⟨xs + 1, 5, none⟩ = some (.slice Ad nd cd)) := (show _ ∧ _ from ⟨d1, d3, d5⟩)
            clear d0 d1 d2 d3 d4 d5
            repeat (first
              | (refine sq_off (a' := ?_) rfl rfl (by rfl) (fun _ => (HS).out) ?ha ?_; (case ha => simp only [Act.put, List.setIfInBounds_toArray, List.set_cons_zero, List.set_cons_succ]; rfl))
              | (refine sq_any (v := ?_) (a' := ?_) rfl rfl rfl (by rfl) (fun W => ?hr) ?ha ?_; (case hr => go_simp; first | done | rfl); (case ha => simp only [Act.put, List.setIfInBounds_toArray, List.set_cons_zero, List.set_cons_succ]; rfl))
              | (refine sq_load (v := ?_) (a' := ?_) rfl rfl rfl (by rfl) (fun W hSW => ?hr) (HS).out ?ha ?_; (case hr => (try dsimp only at hSW); go_simp; first | done | rfl); (case ha => simp only [Act.put, List.setIfInBounds_toArray, List.set_cons_zero, List.set_cons_succ]; rfl)))
            refine sq_call rfl rfl (by rfl) rfl Try.func64 rfl rfl [.slice Ad nd cd] rfl ?_
            refine (clone8 (w := w4.drew) (HC.out.cb.fr HF4.out.drew (fun k _ hk h => by have h' : k = xs := h; have := hk.2; omega)) HLIM.out.2.2).mono ?_
            rw [← HND.out]
            rintro e w5 ⟨v5, rfl, hown5, hf5⟩
            obtain ⟨A5, c5, rfl, _, _⟩ := hown5.shape
            have HF45 : Hid (Fr No w4 w5) := (show Fr No w4 w5 from (Fr.refl _ _).drew.then hf5)
            have HW5 : Hid (xs + 2 < w4.heap.size) := (show _ < _ from Nat.lt_of_lt_of_le (heap_lt HC.out.r) HF4.out.size)
            have HRD5 : Hid (Rb w5 (fun k => xs + 2 < k) (.slice A5 nd c5) cb_) := (show Rb _ _ _ _ from by
              have h := hown5
              rw [HND.out] at h ⊢
              exact h.reads.mono (fun k hk => by have hk' : w4.heap.size ≤ k := hk; have := HW5.out; show xs + 2 < k; omega))
            have HS5 : Hid (w5.cell? ⟨xs + 1, 1, none⟩ = some (.int .i64 xt) ∧ w5.cell? ⟨xs + 1, 3, none⟩ = some (.int .i64 ca) ∧ w5.cell? ⟨xs + 1, 5, none⟩ = some (.slice Ad nd cd)) := (show _ ∧ _ from ⟨hf5.cell HS.out.1 (fun h => h), hf5.cell HS.out.2.1 (fun h => h), hf5.cell HS.out.2.2 (fun h => h)⟩)
            refine ⟨_, rfl, fun _ => HS5.out, ?_⟩
            simp only [Act.put, List.setIfInBounds_toArray, List.set_cons_zero, List.set_cons_succ]
            clear hown5 hf5
            have hx5 : SIs w5 xs st sv sb sbt (.slice As2 ns cs2) (.slice A7 n7 c7) := HF45.out.heap HX4.out (fun h => h)
            obtain ⟨u0, u1, u2, u3, u4, u5⟩ := s_cells hx5
            have z2 := s_free hx5 2
            have z3 := s_free hx5 3
            have z4 := s_free hx5 4
            have HX5 := Lib.hid hx5
            clear hx5
            repeat (first
              | (refine sq_off (a' := ?_) rfl rfl (by rfl) (fun _ => (HS5).out) ?ha ?_; (case ha => simp only [Act.put, List.setIfInBounds_toArray, List.set_cons_zero, List.set_cons_succ]; rfl))
              | (refine sq_any (v := ?_) (a' := ?_) rfl rfl rfl (by rfl) (fun W => ?hr) ?ha ?_; (case hr => go_simp; first | done | rfl); (case ha => simp only [Act.put, List.setIfInBounds_toArray, List.set_cons_zero, List.set_cons_succ]; rfl))
              | (refine sq_load (v := ?_) (a' := ?_) rfl rfl rfl (by rfl) (fun W hSW => ?hr) (HS5).out ?ha ?_; (case hr => (try dsimp only at hSW); go_simp; first | done | rfl); (case ha => simp only [Act.put, List.setIfInBounds_toArray, List.set_cons_zero, List.set_cons_succ]; rfl)))
            obtain ⟨w6, hw6⟩ : ∃ w6, Hid (w6 = w5.setCell ⟨xs, 4, none⟩ (.slice A5 nd c5)) := ⟨_, show _ = _ from rfl⟩
            have hf56 : Fr (fun q => q = xs) w5 w6 := by rw [hw6.out]; exact Fr.one _ _
            have HS6 : Hid (w6.cell? ⟨xs + 1, 1, none⟩ = some (.int .i64 xt) ∧ w6.cell? ⟨xs + 1, 3, none⟩ = some (.int .i64 ca) ∧ w6.cell? ⟨xs + 1, 5, none⟩ = some (.slice Ad nd cd)) := (show _ ∧ _ from ⟨hf56.cell HS5.out.1 (fun h => by have h' : xs + 1 = xs := h; omega), hf56.cell HS5.out.2.1 (fun h => by have h' : xs + 1 = xs := h; omega), hf56.cell HS5.out.2.2 (fun h => by have h' : xs + 1 = xs := h; omega)⟩)
            refine sq_store (w1 := w6) rfl rfl (by rfl) rfl ?hr (fun _ => HS6.out) ?_
            case hr => rw [hw6.out]; go_simp; first | done | rfl | (constructor <;> rfl)
            have hx6 : SIs w6 xs st sv sb sbt (.slice A5 nd c5) (.slice A7 n7 c7) := by rw [hw6.out]; exact s_vs HX5.out _
            have HX6 := Lib.hid hx6
            have HF56 := Lib.hid hf56
            clear u0 u1 u2 u3 u4 u5 z2 z3 z4 hf56
            obtain ⟨u0, u1, u2, u3, u4, u5⟩ := s_cells hx6
            have z2 := s_free hx6 2
            have z3 := s_free hx6 3
            clear hx6
            repeat (first
              | (refine sq_off (a' := ?_) rfl rfl (by rfl) (fun _ => (HS6).out) ?ha ?_; (case ha => simp only [Act.put, List.setIfInBounds_toArray, List.set_cons_zero, List.set_cons_succ]; rfl))
              | (refine sq_any (v := ?_) (a' := ?_) rfl rfl rfl (by rfl) (fun W => ?hr) ?ha ?_; (case hr => go_simp; first | done | rfl); (case ha => simp only [Act.put, List.setIfInBounds_toArray, List.set_cons_zero, List.set_cons_succ]; rfl))
              | (refine sq_load (v := ?_) (a' := ?_) rfl rfl rfl (by rfl) (fun W hSW => ?hr) (HS6).out ?ha ?_; (case hr => (try dsimp only at hSW); go_simp; first | done | rfl); (case ha => simp only [Act.put, List.setIfInBounds_toArray, List.set_cons_zero, List.set_cons_succ]; rfl)))
            obtain ⟨w7, hw7⟩ : ∃ w7, Hid (w7 = w6.setCell ⟨xs, 2, none⟩ (.int .i64 ca)) := ⟨_, show _ = _ from rfl⟩
            have hf67 : Fr (fun q => q = xs) w6 w7 := by rw [hw7.out]; exact Fr.one _ _
            have HS7 : Hid (w7.cell? ⟨xs + 1, 1, none⟩ = some (.int .i64 xt) ∧ w7.cell? ⟨xs + 1, 3, none⟩ = some (.int .i64 ca) ∧ w7.cell? ⟨xs + 1, 5, none⟩ = some (.slice Ad nd cd)) := (show _ ∧ _ from ⟨hf67.cell HS6.out.1 (fun h => by have h' : xs + 1 = xs := h; omega), hf67.cell HS6.out.2.1 (fun h => by have h' : xs + 1 = xs := h; omega), hf67.cell HS6.out.2.2 (fun h => by have h' : xs + 1 = xs := h; omega)⟩)
            refine sq_store (w1 := w7) rfl rfl (by rfl) rfl ?hr (fun _ => HS7.out) ?_
            case hr => rw [hw7.out]; go_simp; first | done | rfl | (constructor <;> rfl)
            have hx7 : SIs w7 xs st sv ca sbt (.slice A5 nd c5) (.slice A7 n7 c7) := by rw [hw7.out]; exact (s_set HX6.out).2.2.1 _
            have HX7 := Lib.hid hx7
            have HF57 : Hid (Fr (fun q => q = xs) w5 w7) := (show Fr _ _ _ from HF56.out.then hf67)
            clear u0 u1 u2 u3 u4 u5 z2 z3 hf67
            obtain ⟨u0, u1, u2, u3, u4, u5⟩ := s_cells hx7
            have z3 := s_free hx7 3
            clear hx7
            repeat (first
              | (refine sq_off (a' := ?_) rfl rfl (by rfl) (fun _ => (HS7).out) ?ha ?_; (case ha => simp only [Act.put, List.setIfInBounds_toArray, List.set_cons_zero, List.set_cons_succ]; rfl))
              | (refine sq_any (v := ?_) (a' := ?_) rfl rfl rfl (by rfl) (fun W => ?hr) ?ha ?_; (case hr => go_simp; first | done | rfl); (case ha => simp only [Act.put, List.setIfInBounds_toArray, List.set_cons_zero, List.set_cons_succ]; rfl))
              | (refine sq_load (v := ?_) (a' := ?_) rfl rfl rfl (by rfl) (fun W hSW => ?hr) (HS7).out ?ha ?_; (case hr => (try dsimp only at hSW); go_simp; first | done | rfl); (case ha => simp only [Act.put, List.setIfInBounds_toArray, List.set_cons_zero, List.set_cons_succ]; rfl)))
            obtain ⟨w8, hw8⟩ : ∃ w8, Hid (w8 = w7.setCell ⟨xs, 3, none⟩ (.int .i64 xt)) := ⟨_, show _ = _ from rfl⟩
            refine sq_store (w1 := w8) rfl rfl (by rfl) rfl ?hr (fun h => absurd (by decide) h) ?_
            case hr => rw [hw8.out]; go_simp; first | done | rfl | (constructor <;> rfl)
            refine sq_done ?_
            have hx8 : SIs w8 xs st sv ca xt (.slice A5 nd c5) (.slice A7 n7 c7) := by rw [hw8.out]; exact (s_set HX7.out).2.2.2 _
            have HF58 : Hid (Fr (fun q => q = xs) w5 w8) := (show Fr _ _ _ from by rw [hw8.out]; exact HF57.out.then (Fr.one _ _))
            have HF8 : Hid (Fr (fun q => q = xs) w3 w8) := (show Fr _ _ _ from HF4.out.then (HF45.out.trans HF58.out (fun _ _ h => h.elim) (fun _ _ h => h)))
            have HR8 : Hid (SIs w8 (xs + 2) 0 0 0 0 (.slice none 0 0) (.slice none 0 0)) := (show SIs _ _ _ _ _ _ _ _ from HF8.out.heap HC.out.r (fun h => by have h' : xs + 2 = xs := h; omega))
            clear u0 u1 u2 u3 u4 u5 z3
            obtain ⟨b0', b1', b2', b3', b4', b5'⟩ := s_cells hx8
            obtain ⟨r0, r1, r2, r3, r4, r5⟩ := s_cells HR8.out
            have q0 := s_free HR8.out 0
            have q1 := s_free HR8.out 1
            have q2 := s_free HR8.out 2
            have q3 := s_free HR8.out 3
            have q4 := s_free HR8.out 4
            have q5 := s_free HR8.out 5
            clear hx8
            go_wp2_with fail
            obtain ⟨w9, hw9⟩ : ∃ w9, Hid (w9 = (((((w8.setCell ⟨xs + 2, 0, none⟩ (.int .i64 st)).setCell ⟨xs + 2, 1, none⟩ (.int .i64 sv)).setCell ⟨xs + 2, 2, none⟩ (.int .i64 ca)).setCell ⟨xs + 2, 3, none⟩ (.int .i64 xt)).setCell ⟨xs + 2, 4, none⟩ (.slice A5 nd c5)).setCell ⟨xs + 2, 5, none⟩ (.slice A7 n7 c7)) := ⟨_, show _ = _ from rfl⟩
            rw [← hw9.out]
            have HX9 : Hid (SIs w9 (xs + 2) st sv ca xt (.slice A5 nd c5) (.slice A7 n7 c7)) := (show SIs _ _ _ _ _ _ _ _ from by rw [hw9.out]; exact back6_s HR8.out)
            have HF9 : Hid (Fr (fun q => q = xs + 2) w8 w9) := (show Fr _ _ _ from by rw [hw9.out]; exact back6_fr w8 (xs + 2) st sv ca xt (.slice A5 nd c5) (.slice A7 n7 c7))
            clear b0' b1' b2' b3' b4' b5' r0 r1 r2 r3 r4 r5 q0 q1 q2 q3 q4 q5
            obtain ⟨y0, y1, y2, y3, y4, y5⟩ := s_cells HX9.out
            (try simp only [Exit.inBlock, Exit.then])
            refine bodyPost_ret (by simp [results, Try.results60, go_sem, y0, y1, y2, y3, y4, y5]; try rfl) rfl ?_
            have HF39 : Hid (Fr (fun q => q = xs ∨ q = xs + 2) w3 w9) := (show Fr _ _ _ from (HF8.out).trans HF9.out (fun _ _ h => .inl h) (fun _ _ h => .inr h))
            rw [HSOME.out]
            refine (show SNextPost _ _ _ _ _ from ⟨_, rfl, ⟨_, rfl, ⟨_, _, rfl, ?_, ?_, HC.out.i64.1, HC.out.i64.2.1, HC.out.i64.2.2.2.2.2.2.2, HC.out.i64.2.2.2.2.2.1⟩⟩, HC.out.fr.trans HF39.out (fun _ _ h => h) (fun q hq h => by have := HXS.out; rcases h with h | h <;> omega)⟩)
            · refine (HRD5.out.fr (HF58.out.trans HF9.out (U := fun q => q = xs ∨ q = xs + 2) (fun _ _ h => .inl h) (fun _ _ h => .inr h)) (fun k _ hk h => by have hk' : xs + 2 < k := hk; rcases h with h | h <;> omega)).mono (fun k hk => by have hk' : xs + 2 < k := hk; have := HXS.out; show w.heap.size ≤ k; omega)
            · refine HDR.out _ _ _ ((HC.out.ents.fr (by decide) HF39.out (fun k _ hk h => by have hk' : xs + 2 < k := hk; rcases h with h | h <;> omega)).mono (fun k hk => by have hk' : xs + 2 < k := hk; have := HXS.out; show w.heap.size ≤ k; omega))
          · have HSOME : Hid (nextS ⟨st, sv, sb, sbt, sn, sl⟩ ⟨3, ct, cv, ca, cl_, cb_⟩ = some ⟨st, sv, ca, ct, cb_, sl.drop nl⟩) := (show _ = _ from next3_drop (s := ⟨st, sv, sb, sbt, sn, sl⟩) (c := ⟨3, ct, cv, ca, cl_, cb_⟩) rfl h1 h2 (.inr ⟨fun h => by
              rcases (keep_iff _ _).1 h with ⟨h6, _⟩ | ⟨_, _, h6⟩
              · simp only at h6; omega
              · simp only at h6
                rw [HM.out.2.1, HXM.out] at h6
                exact h5 (Option.some.inj h6), HNL.out⟩))
            go_wp2_with (with_reducible refine halt_dst 103 rfl ?_)
            refine wpListG_run (v := .int .i64 (m : Int)) (w' := w3) (by rfl) ?hr ?_
            case hr => rw [← HM.out.1]; go_simp; first | done | rfl | (rw [IntKind.wrap_i64]; omega)
            obtain ⟨A7, hcut, hdrop⟩ := row_cut (K := EnK) (P := Try.prog) 60 64 Try.underlying60 (show _ = some 2 from by kernel_rfl) (some ⟨b1, o1, none⟩) nl cl2 (nl) (by omega)
            have HDR := Lib.hid hdrop
            clear hdrop
            obtain ⟨n7, hn7⟩ : ∃ n, n = nl - (nl) := ⟨_, rfl⟩
            obtain ⟨c7, hc7⟩ : ∃ n, n = cl2 - (nl) := ⟨_, rfl⟩
            rw [← hn7, ← hc7] at HDR hcut
            clear hn7 hc7
            go_upto_region 23 with fail
            clear hcut
            obtain ⟨w4, hw4⟩ : ∃ w4, Hid (w4 = w3.setCell ⟨xs, 5, none⟩ (.slice A7 n7 c7)) := ⟨_, show _ = _ from rfl⟩
            rw [← hw4.out]
            have hx4 : SIs w4 xs st sv sb sbt (.slice As2 ns cs2) (.slice A7 n7 c7) := by rw [hw4.out]; exact s_vl HC.out.s _
            have hf4 : Fr (fun q => q = xs) w3 w4 := by rw [hw4.out]; exact Fr.one _ _
            have HC4 : Hid (CIs w4 (xs + 1) 3 ct cv ca (.slice Ac nc cc) (.slice Ad nd cd)) := (show CIs _ _ _ _ _ _ _ _ from hf4.heap HC.out.c (fun h => by have h' : xs + 1 = xs := h; omega))
            have HF4 := Lib.hid hf4
            have HX4 := Lib.hid hx4
            clear b0' b1' b2' b3' b4' b5' d0 d1 d2 d3 d4 d5 r0 r1 r2 r3 r4 r5 y0 y1 y2 y3 y4 y5 q0 q1 q2 q3 q4 q5 hf4 hx4
            obtain ⟨d0, d1, d2, d3, d4, d5⟩ := c_cells HC4.out
            refine wp_seq_region (fun W => W.cell? ⟨xs + 1, 1, none⟩ = some (.int .i64 ct) ∧ W.cell? ⟨xs + 1, 3, none⟩ = some (.int .i64 ca) ∧ W.cell? ⟨xs + 1, 5, none⟩ = some (.slice Ad nd cd)) [2, 8, 10, 12] [1, 4, 6] [12] [0, 1, 3, 4, 5, 6, 2, 7, 8, 9, 10, 11, 12] (by kernel_rfl) (by kernel_rfl) rfl (by kernel_rfl) (fun _ _ _ _ _ h => h) ?_
            have HS : Hid (w4.drew.cell? ⟨xs + 1, 1, none⟩ = some (.int .i64 ct) ∧ w4.drew.cell? ⟨xs + 1, 3, none⟩ = some (.int .i64 ca) ∧ w4.drew.cell? ⟨xs + 1, 5, none⟩ = some (.slice Ad nd cd)) := (show _ ∧ _ from ⟨d1, d3, d5⟩)
            clear d0 d1 d2 d3 d4 d5
            repeat (first
              | (refine sq_off (a' := ?_) rfl rfl (by rfl) (fun _ => (HS).out) ?ha ?_; (case ha => simp only [Act.put, List.setIfInBounds_toArray, List.set_cons_zero, List.set_cons_succ]; rfl))
              | (refine sq_any (v := ?_) (a' := ?_) rfl rfl rfl (by rfl) (fun W => ?hr) ?ha ?_; (case hr => go_simp; first | done | rfl); (case ha => simp only [Act.put, List.setIfInBounds_toArray, List.set_cons_zero, List.set_cons_succ]; rfl))
              | (refine sq_load (v := ?_) (a' := ?_) rfl rfl rfl (by rfl) (fun W hSW => ?hr) (HS).out ?ha ?_; (case hr => (try dsimp only at hSW); go_simp; first | done | rfl); (case ha => simp only [Act.put, List.setIfInBounds_toArray, List.set_cons_zero, List.set_cons_succ]; rfl)))
            refine sq_call rfl rfl (by rfl) rfl Try.func64 rfl rfl [.slice Ad nd cd] rfl ?_
            refine (clone8 (w := w4.drew) (HC.out.cb.fr HF4.out.drew (fun k _ hk h => by have h' : k = xs := h; have := hk.2; omega)) HLIM.out.2.2).mono ?_
            rw [← HND.out]
            rintro e w5 ⟨v5, rfl, hown5, hf5⟩
            obtain ⟨A5, c5, rfl, _, _⟩ := hown5.shape
            have HF45 : Hid (Fr No w4 w5) := (show Fr No w4 w5 from (Fr.refl _ _).drew.then hf5)
            have HW5 : Hid (xs + 2 < w4.heap.size) := (show _ < _ from Nat.lt_of_lt_of_le (heap_lt HC.out.r) HF4.out.size)
            have HRD5 : Hid (Rb w5 (fun k => xs + 2 < k) (.slice A5 nd c5) cb_) := (show Rb _ _ _ _ from by
              have h := hown5
              rw [HND.out] at h ⊢
              exact h.reads.mono (fun k hk => by have hk' : w4.heap.size ≤ k := hk; have := HW5.out; show xs + 2 < k; omega))
            have HS5 : Hid (w5.cell? ⟨xs + 1, 1, none⟩ = some (.int .i64 ct) ∧ w5.cell? ⟨xs + 1, 3, none⟩ = some (.int .i64 ca) ∧ w5.cell? ⟨xs + 1, 5, none⟩ = some (.slice Ad nd cd)) := (show _ ∧ _ from ⟨hf5.cell HS.out.1 (fun h => h), hf5.cell HS.out.2.1 (fun h => h), hf5.cell HS.out.2.2 (fun h => h)⟩)
            refine ⟨_, rfl, fun _ => HS5.out, ?_⟩
            simp only [Act.put, List.setIfInBounds_toArray, List.set_cons_zero, List.set_cons_succ]
            clear hown5 hf5
            have hx5 : SIs w5 xs st sv sb sbt (.slice As2 ns cs2) (.slice A7 n7 c7) := HF45.out.heap HX4.out (fun h => h)
            obtain ⟨u0, u1, u2, u3, u4, u5⟩ := s_cells hx5
            have z2 := s_free hx5 2
            have z3 := s_free hx5 3
            have z4 := s_free hx5 4
            have HX5 := Lib.hid hx5
            clear hx5
            repeat (first
              | (refine sq_off (a' := ?_) rfl rfl (by rfl) (fun _ => (HS5).out) ?ha ?_; (case ha => simp only [Act.put, List.setIfInBounds_toArray, List.set_cons_zero, List.set_cons_succ]; rfl))
              | (refine sq_any (v := ?_) (a' := ?_) rfl rfl rfl (by rfl) (fun W => ?hr) ?ha ?_; (case hr => go_simp; first | done | rfl); (case ha => simp only [Act.put, List.setIfInBounds_toArray, List.set_cons_zero, List.set_cons_succ]; rfl))
              | (refine sq_load (v := ?_) (a' := ?_) rfl rfl rfl (by rfl) (fun W hSW => ?hr) (HS5).out ?ha ?_; (case hr => (try dsimp only at hSW); go_simp; first | done | rfl); (case ha => simp only [Act.put, List.setIfInBounds_toArray, List.set_cons_zero, List.set_cons_succ]; rfl)))
            obtain ⟨w6, hw6⟩ : ∃ w6, Hid (w6 = w5.setCell ⟨xs, 4, none⟩ (.slice A5 nd c5)) := ⟨_, show _ = _ from rfl⟩
            have hf56 : Fr (fun q => q = xs) w5 w6 := by rw [hw6.out]; exact Fr.one _ _
            have HS6 : Hid (w6.cell? ⟨xs + 1, 1, none⟩ = some (.int .i64 ct) ∧ w6.cell? ⟨xs + 1, 3, none⟩ = some (.int .i64 ca) ∧ w6.cell? ⟨xs + 1, 5, none⟩ = some (.slice Ad nd cd)) := (show _ ∧ _ from ⟨hf56.cell HS5.out.1 (fun h => by have h' : xs + 1 = xs := h; omega), hf56.cell HS5.out.2.1 (fun h => by have h' : xs + 1 = xs := h; omega), hf56.cell HS5.out.2.2 (fun h => by have h' : xs + 1 = xs := h; omega)⟩)
            refine sq_store (w1 := w6) rfl rfl (by rfl) rfl ?hr (fun _ => HS6.out) ?_
            case hr => rw [hw6.out]; go_simp; first | done | rfl | (constructor <;> rfl)
            have hx6 : SIs w6 xs st sv sb sbt (.slice A5 nd c5) (.slice A7 n7 c7) := by rw [hw6.out]; exact s_vs HX5.out _
            have HX6 := Lib.hid hx6
            have HF56 := Lib.hid hf56
            clear u0 u1 u2 u3 u4 u5 z2 z3 z4 hf56
            obtain ⟨u0, u1, u2, u3, u4, u5⟩ := s_cells hx6
            have z2 := s_free hx6 2
            have z3 := s_free hx6 3
            clear hx6
            repeat (first
              | (refine sq_off (a' := ?_) rfl rfl (by rfl) (fun _ => (HS6).out) ?ha ?_; (case ha => simp only [Act.put, List.setIfInBounds_toArray, List.set_cons_zero, List.set_cons_succ]; rfl))
              | (refine sq_any (v := ?_) (a' := ?_) rfl rfl rfl (by rfl) (fun W => ?hr) ?ha ?_; (case hr => go_simp; first | done | rfl); (case ha => simp only [Act.put, List.setIfInBounds_toArray, List.set_cons_zero, List.set_cons_succ]; rfl))
              | (refine sq_load (v := ?_) (a' := ?_) rfl rfl rfl (by rfl) (fun W hSW => ?hr) (HS6).out ?ha ?_; (case hr => (try dsimp only at hSW); go_simp; first | done | rfl); (case ha => simp only [Act.put, List.setIfInBounds_toArray, List.set_cons_zero, List.set_cons_succ]; rfl)))
            obtain ⟨w7, hw7⟩ : ∃ w7, Hid (w7 = w6.setCell ⟨xs, 2, none⟩ (.int .i64 ca)) := ⟨_, show _ = _ from rfl⟩
            have hf67 : Fr (fun q => q = xs) w6 w7 := by rw [hw7.out]; exact Fr.one _ _
            have HS7 : Hid (w7.cell? ⟨xs + 1, 1, none⟩ = some (.int .i64 ct) ∧ w7.cell? ⟨xs + 1, 3, none⟩ = some (.int .i64 ca) ∧ w7.cell? ⟨xs + 1, 5, none⟩ = some (.slice Ad nd cd)) := (show _ ∧ _ from ⟨hf67.cell HS6.out.1 (fun h => by have h' : xs + 1 = xs := h; omega), hf67.cell HS6.out.2.1 (fun h => by have h' : xs + 1 = xs := h; omega), hf67.cell HS6.out.2.2 (fun h => by have h' : xs + 1 = xs := h; omega)⟩)
            refine sq_store (w1 := w7) rfl rfl (by rfl) rfl ?hr (fun _ => HS7.out) ?_
            case hr => rw [hw7.out]; go_simp; first | done | rfl | (constructor <;> rfl)
            have hx7 : SIs w7 xs st sv ca sbt (.slice A5 nd c5) (.slice A7 n7 c7) := by rw [hw7.out]; exact (s_set HX6.out).2.2.1 _
            have HX7 := Lib.hid hx7
            have HF57 : Hid (Fr (fun q => q = xs) w5 w7) := (show Fr _ _ _ from HF56.out.then hf67)
            clear u0 u1 u2 u3 u4 u5 z2 z3 hf67
            obtain ⟨u0, u1, u2, u3, u4, u5⟩ := s_cells hx7
            have z3 := s_free hx7 3
            clear hx7
            repeat (first
              | (refine sq_off (a' := ?_) rfl rfl (by rfl) (fun _ => (HS7).out) ?ha ?_; (case ha => simp only [Act.put, List.setIfInBounds_toArray, List.set_cons_zero, List.set_cons_succ]; rfl))
              | (refine sq_any (v := ?_) (a' := ?_) rfl rfl rfl (by rfl) (fun W => ?hr) ?ha ?_; (case hr => go_simp; first | done | rfl); (case ha => simp only [Act.put, List.setIfInBounds_toArray, List.set_cons_zero, List.set_cons_succ]; rfl))
              | (refine sq_load (v := ?_) (a' := ?_) rfl rfl rfl (by rfl) (fun W hSW => ?hr) (HS7).out ?ha ?_; (case hr => (try dsimp only at hSW); go_simp; first | done | rfl); (case ha => simp only [Act.put, List.setIfInBounds_toArray, List.set_cons_zero, List.set_cons_succ]; rfl)))
            obtain ⟨w8, hw8⟩ : ∃ w8, Hid (w8 = w7.setCell ⟨xs, 3, none⟩ (.int .i64 ct)) := ⟨_, show _ = _ from rfl⟩
            refine sq_store (w1 := w8) rfl rfl (by rfl) rfl ?hr (fun h => absurd (by decide) h) ?_
            case hr => rw [hw8.out]; go_simp; first | done | rfl | (constructor <;> rfl)
            refine sq_done ?_
            have hx8 : SIs w8 xs st sv ca ct (.slice A5 nd c5) (.slice A7 n7 c7) := by rw [hw8.out]; exact (s_set HX7.out).2.2.2 _
            have HF58 : Hid (Fr (fun q => q = xs) w5 w8) := (show Fr _ _ _ from by rw [hw8.out]; exact HF57.out.then (Fr.one _ _))
            have HF8 : Hid (Fr (fun q => q = xs) w3 w8) := (show Fr _ _ _ from HF4.out.then (HF45.out.trans HF58.out (fun _ _ h => h.elim) (fun _ _ h => h)))
            have HR8 : Hid (SIs w8 (xs + 2) 0 0 0 0 (.slice none 0 0) (.slice none 0 0)) := (show SIs _ _ _ _ _ _ _ _ from HF8.out.heap HC.out.r (fun h => by have h' : xs + 2 = xs := h; omega))
            clear u0 u1 u2 u3 u4 u5 z3
            obtain ⟨b0', b1', b2', b3', b4', b5'⟩ := s_cells hx8
            obtain ⟨r0, r1, r2, r3, r4, r5⟩ := s_cells HR8.out
            have q0 := s_free HR8.out 0
            have q1 := s_free HR8.out 1
            have q2 := s_free HR8.out 2
            have q3 := s_free HR8.out 3
            have q4 := s_free HR8.out 4
            have q5 := s_free HR8.out 5
            clear hx8
            go_wp2_with fail
            obtain ⟨w9, hw9⟩ : ∃ w9, Hid (w9 = (((((w8.setCell ⟨xs + 2, 0, none⟩ (.int .i64 st)).setCell ⟨xs + 2, 1, none⟩ (.int .i64 sv)).setCell ⟨xs + 2, 2, none⟩ (.int .i64 ca)).setCell ⟨xs + 2, 3, none⟩ (.int .i64 ct)).setCell ⟨xs + 2, 4, none⟩ (.slice A5 nd c5)).setCell ⟨xs + 2, 5, none⟩ (.slice A7 n7 c7)) := ⟨_, show _ = _ from rfl⟩
            rw [← hw9.out]
            have HX9 : Hid (SIs w9 (xs + 2) st sv ca ct (.slice A5 nd c5) (.slice A7 n7 c7)) := (show SIs _ _ _ _ _ _ _ _ from by rw [hw9.out]; exact back6_s HR8.out)
            have HF9 : Hid (Fr (fun q => q = xs + 2) w8 w9) := (show Fr _ _ _ from by rw [hw9.out]; exact back6_fr w8 (xs + 2) st sv ca ct (.slice A5 nd c5) (.slice A7 n7 c7))
            clear b0' b1' b2' b3' b4' b5' r0 r1 r2 r3 r4 r5 q0 q1 q2 q3 q4 q5
            obtain ⟨y0, y1, y2, y3, y4, y5⟩ := s_cells HX9.out
            (try simp only [Exit.inBlock, Exit.then])
            refine bodyPost_ret (by simp [results, Try.results60, go_sem, y0, y1, y2, y3, y4, y5]; try rfl) rfl ?_
            have HF39 : Hid (Fr (fun q => q = xs ∨ q = xs + 2) w3 w9) := (show Fr _ _ _ from (HF8.out).trans HF9.out (fun _ _ h => .inl h) (fun _ _ h => .inr h))
            rw [HSOME.out]
            refine (show SNextPost _ _ _ _ _ from ⟨_, rfl, ⟨_, rfl, ⟨_, _, rfl, ?_, ?_, HC.out.i64.1, HC.out.i64.2.1, HC.out.i64.2.2.2.2.2.2.2, HC.out.i64.2.2.2.2.2.1⟩⟩, HC.out.fr.trans HF39.out (fun _ _ h => h) (fun q hq h => by have := HXS.out; rcases h with h | h <;> omega)⟩)
            · refine (HRD5.out.fr (HF58.out.trans HF9.out (U := fun q => q = xs ∨ q = xs + 2) (fun _ _ h => .inl h) (fun _ _ h => .inr h)) (fun k _ hk h => by have hk' : xs + 2 < k := hk; rcases h with h | h <;> omega)).mono (fun k hk => by have hk' : xs + 2 < k := hk; have := HXS.out; show w.heap.size ≤ k; omega)
            · refine HDR.out _ _ _ ((HC.out.ents.fr (by decide) HF39.out (fun k _ hk h => by have hk' : xs + 2 < k := hk; rcases h with h | h <;> omega)).mono (fun k hk => by have hk' : xs + 2 < k := hk; have := HXS.out; show w.heap.size ≤ k; omega))
        · obtain rfl : ca = sb := by omega
          by_cases h5 : sbt = ct
          · have HSOME : Hid (nextS ⟨st, sv, ca, sbt, sn, sl⟩ ⟨3, ct, cv, ca, cl_, cb_⟩ = some ⟨st, sv, ca, ct, cb_, sl.drop 0⟩) := (show _ = _ from next3_drop (s := ⟨st, sv, ca, sbt, sn, sl⟩) (c := ⟨3, ct, cv, ca, cl_, cb_⟩) rfl h1 h2 (.inl ⟨(keep_iff _ _).2 (.inl ⟨rfl, h5.symm⟩), by simp only; omega⟩))
            subst h5
            go_wp2_with (with_reducible refine halt_dst 115 rfl ?_)
            refine wpListG_run (v := .int .i64 ((0 : Nat) : Int)) (w' := w3) (by rfl) ?hr ?_
            case hr => go_simp; first | done | rfl | (rw [IntKind.wrap_i64]; omega)
            have HDR : Hid (∀ (W : World) (G : Nat → Prop) (xs : List En), Row EnK W G (.slice Al2 nl cl2) xs → Row EnK W G (.slice Al2 nl cl2) (xs.drop 0)) := (show ∀ (W : World) (G : Nat → Prop) (xs : List En), Row EnK W G (.slice Al2 nl cl2) xs → Row EnK W G (.slice Al2 nl cl2) (xs.drop 0) from fun _ _ _ h => h)
            go_upto_region 23 with fail
            obtain ⟨w4, hw4⟩ : ∃ w4, Hid (w4 = w3.setCell ⟨xs, 5, none⟩ (.slice Al2 nl cl2)) := ⟨_, show _ = _ from rfl⟩
            rw [← hw4.out]
            have hx4 : SIs w4 xs st sv ca sbt (.slice As2 ns cs2) (.slice Al2 nl cl2) := by rw [hw4.out]; exact s_vl HC.out.s _
            have hf4 : Fr (fun q => q = xs) w3 w4 := by rw [hw4.out]; exact Fr.one _ _
            have HC4 : Hid (CIs w4 (xs + 1) 3 sbt cv ca (.slice Ac nc cc) (.slice Ad nd cd)) := (show CIs _ _ _ _ _ _ _ _ from hf4.heap HC.out.c (fun h => by have h' : xs + 1 = xs := h; omega))
            have HF4 := Lib.hid hf4
            have HX4 := Lib.hid hx4
            clear b0' b1' b2' b3' b4' b5' d0 d1 d2 d3 d4 d5 r0 r1 r2 r3 r4 r5 y0 y1 y2 y3 y4 y5 q0 q1 q2 q3 q4 q5 hf4 hx4
            obtain ⟨d0, d1, d2, d3, d4, d5⟩ := c_cells HC4.out
            refine wp_seq_region (fun W => W.cell? ⟨xs + 1, 1, none⟩ = some (.int .i64 sbt) ∧ W.cell? ⟨xs + 1, 3, none⟩ = some (.int .i64 ca) ∧ W.cell? ⟨xs + 1, 5, none⟩ = some (.slice Ad nd cd)) [2, 8, 10, 12] [1, 4, 6] [12] [0, 1, 3, 4, 5, 6, 2, 7, 8, 9, 10, 11, 12] (by kernel_rfl) (by kernel_rfl) rfl (by kernel_rfl) (fun _ _ _ _ _ h => h) ?_
            have HS : Hid (w4.drew.cell? ⟨xs + 1, 1, none⟩ = some (.int .i64 sbt) ∧ w4.drew.cell? ⟨xs + 1, 3, none⟩ = some (.int .i64 ca) ∧ w4.drew.cell? ⟨xs + 1, 5, none⟩ = some (.slice Ad nd cd)) := (show _ ∧ _ from ⟨d1, d3, d5⟩)
            clear d0 d1 d2 d3 d4 d5
            repeat (first
              | (refine sq_off (a' := ?_) rfl rfl (by rfl) (fun _ => (HS).out) ?ha ?_; (case ha => simp only [Act.put, List.setIfInBounds_toArray, List.set_cons_zero, List.set_cons_succ]; rfl))
              | (refine sq_any (v := ?_) (a' := ?_) rfl rfl rfl (by rfl) (fun W => ?hr) ?ha ?_; (case hr => go_simp; first | done | rfl); (case ha => simp only [Act.put, List.setIfInBounds_toArray, List.set_cons_zero, List.set_cons_succ]; rfl))
              | (refine sq_load (v := ?_) (a' := ?_) rfl rfl rfl (by rfl) (fun W hSW => ?hr) (HS).out ?ha ?_; (case hr => (try dsimp only at hSW); go_simp; first | done | rfl); (case ha => simp only [Act.put, List.setIfInBounds_toArray, List.set_cons_zero, List.set_cons_succ]; rfl)))
            refine sq_call rfl rfl (by rfl) rfl Try.func64 rfl rfl [.slice Ad nd cd] rfl ?_
            refine (clone8 (w := w4.drew) (HC.out.cb.fr HF4.out.drew (fun k _ hk h => by have h' : k = xs := h; have := hk.2; omega)) HLIM.out.2.2).mono ?_
            rw [← HND.out]
            rintro e w5 ⟨v5, rfl, hown5, hf5⟩
            obtain ⟨A5, c5, rfl, _, _⟩ := hown5.shape
            have HF45 : Hid (Fr No w4 w5) := (show Fr No w4 w5 from (Fr.refl _ _).drew.then hf5)
            have HW5 : Hid (xs + 2 < w4.heap.size) := (show _ < _ from Nat.lt_of_lt_of_le (heap_lt HC.out.r) HF4.out.size)
            have HRD5 : Hid (Rb w5 (fun k => xs + 2 < k) (.slice A5 nd c5) cb_) := (show Rb _ _ _ _ from by
              have h := hown5
              rw [HND.out] at h ⊢
              exact h.reads.mono (fun k hk => by have hk' : w4.heap.size ≤ k := hk; have := HW5.out; show xs + 2 < k; omega))
            have HS5 : Hid (w5.cell? ⟨xs + 1, 1, none⟩ = some (.int .i64 sbt) ∧ w5.cell? ⟨xs + 1, 3, none⟩ = some (.int .i64 ca) ∧ w5.cell? ⟨xs + 1, 5, none⟩ = some (.slice Ad nd cd)) := (show _ ∧ _ from ⟨hf5.cell HS.out.1 (fun h => h), hf5.cell HS.out.2.1 (fun h => h), hf5.cell HS.out.2.2 (fun h => h)⟩)
            refine ⟨_, rfl, fun _ => HS5.out, ?_⟩
            simp only [Act.put, List.setIfInBounds_toArray, List.set_cons_zero, List.set_cons_succ]
            clear hown5 hf5
            have hx5 : SIs w5 xs st sv ca sbt (.slice As2 ns cs2) (.slice Al2 nl cl2) := HF45.out.heap HX4.out (fun h => h)
            obtain ⟨u0, u1, u2, u3, u4, u5⟩ := s_cells hx5
            have z2 := s_free hx5 2
            have z3 := s_free hx5 3
            have z4 := s_free hx5 4
            have HX5 := Lib.hid hx5
            clear hx5
            repeat (first
              | (refine sq_off (a' := ?_) rfl rfl (by rfl) (fun _ => (HS5).out) ?ha ?_; (case ha => simp only [Act.put, List.setIfInBounds_toArray, List.set_cons_zero, List.set_cons_succ]; rfl))
              | (refine sq_any (v := ?_) (a' := ?_) rfl rfl rfl (by rfl) (fun W => ?hr) ?ha ?_; (case hr => go_simp; first | done | rfl); (case ha => simp only [Act.put, List.setIfInBounds_toArray, List.set_cons_zero, List.set_cons_succ]; rfl))
              | (refine sq_load (v := ?_) (a' := ?_) rfl rfl rfl (by rfl) (fun W hSW => ?hr) (HS5).out ?ha ?_; (case hr => (try dsimp only at hSW); go_simp; first | done | rfl); (case ha => simp only [Act.put, List.setIfInBounds_toArray, List.set_cons_zero, List.set_cons_succ]; rfl)))
            obtain ⟨w6, hw6⟩ : ∃ w6, Hid (w6 = w5.setCell ⟨xs, 4, none⟩ (.slice A5 nd c5)) := ⟨_, show _ = _ from rfl⟩
            have hf56 : Fr (fun q => q = xs) w5 w6 := by rw [hw6.out]; exact Fr.one _ _
            have HS6 : Hid (w6.cell? ⟨xs + 1, 1, none⟩ = some (.int .i64 sbt) ∧ w6.cell? ⟨xs + 1, 3, none⟩ = some (.int .i64 ca) ∧ w6.cell? ⟨xs + 1, 5, none⟩ = some (.slice Ad nd cd)) := (show _ ∧ _ from ⟨hf56.cell HS5.out.1 (fun h => by have h' : xs + 1 = xs := h; omega), hf56.cell HS5.out.2.1 (fun h => by have h' : xs + 1 = xs := h; omega), hf56.cell HS5.out.2.2 (fun h => by have h' : xs + 1 = xs := h; omega)⟩)
            refine sq_store (w1 := w6) rfl rfl (by rfl) rfl ?hr (fun _ => HS6.out) ?_
            case hr => rw [hw6.out]; go_simp; first | done | rfl | (constructor <;> rfl)
            have hx6 : SIs w6 xs st sv ca sbt (.slice A5 nd c5) (.slice Al2 nl cl2) := by rw [hw6.out]; exact s_vs HX5.out _
            have HX6 := Lib.hid hx6
            have HF56 := Lib.hid hf56
            clear u0 u1 u2 u3 u4 u5 z2 z3 z4 hf56
            obtain ⟨u0, u1, u2, u3, u4, u5⟩ := s_cells hx6
            have z2 := s_free hx6 2
            have z3 := s_free hx6 3
            clear hx6
            repeat (first
              | (refine sq_off (a' := ?_) rfl rfl (by rfl) (fun _ => (HS6).out) ?ha ?_; (case ha => simp only [Act.put, List.setIfInBounds_toArray, List.set_cons_zero, List.set_cons_succ]; rfl))
              | (refine sq_any (v := ?_) (a' := ?_) rfl rfl rfl (by rfl) (fun W => ?hr) ?ha ?_; (case hr => go_simp; first | done | rfl); (case ha => simp only [Act.put, List.setIfInBounds_toArray, List.set_cons_zero, List.set_cons_succ]; rfl))
              | (refine sq_load (v := ?_) (a' := ?_) rfl rfl rfl (by rfl) (fun W hSW => ?hr) (HS6).out ?ha ?_; (case hr => (try dsimp only at hSW); go_simp; first | done | rfl); (case ha => simp only [Act.put, List.setIfInBounds_toArray, List.set_cons_zero, List.set_cons_succ]; rfl)))
            obtain ⟨w7, hw7⟩ : ∃ w7, Hid (w7 = w6.setCell ⟨xs, 2, none⟩ (.int .i64 ca)) := ⟨_, show _ = _ from rfl⟩
            have hf67 : Fr (fun q => q = xs) w6 w7 := by rw [hw7.out]; exact Fr.one _ _
            have HS7 : Hid (w7.cell? ⟨xs + 1, 1, none⟩ = some (.int .i64 sbt) ∧ w7.cell? ⟨xs + 1, 3, none⟩ = some (.int .i64 ca) ∧ w7.cell? ⟨xs + 1, 5, none⟩ = some (.slice Ad nd cd)) := (show _ ∧ _ from ⟨hf67.cell HS6.out.1 (fun h => by have h' : xs + 1 = xs := h; omega), hf67.cell HS6.out.2.1 (fun h => by have h' : xs + 1 = xs := h; omega), hf67.cell HS6.out.2.2 (fun h => by have h' : xs + 1 = xs := h; omega)⟩)
            refine sq_store (w1 := w7) rfl rfl (by rfl) rfl ?hr (fun _ => HS7.out) ?_
            case hr => rw [hw7.out]; go_simp; first | done | rfl | (constructor <;> rfl)
            have hx7 : SIs w7 xs st sv ca sbt (.slice A5 nd c5) (.slice Al2 nl cl2) := by rw [hw7.out]; exact (s_set HX6.out).2.2.1 _
            have HX7 := Lib.hid hx7
            have HF57 : Hid (Fr (fun q => q = xs) w5 w7) := (show Fr _ _ _ from HF56.out.then hf67)
            clear u0 u1 u2 u3 u4 u5 z2 z3 hf67
            obtain ⟨u0, u1, u2, u3, u4, u5⟩ := s_cells hx7
            have z3 := s_free hx7 3
            clear hx7
            repeat (first
              | (refine sq_off (a' := ?_) rfl rfl (by rfl) (fun _ => (HS7).out) ?ha ?_; (case ha => simp only [Act.put, List.setIfInBounds_toArray, List.set_cons_zero, List.set_cons_succ]; rfl))
              | (refine sq_any (v := ?_) (a' := ?_) rfl rfl rfl (by rfl) (fun W => ?hr) ?ha ?_; (case hr => go_simp; first | done | rfl); (case ha => simp only [Act.put, List.setIfInBounds_toArray, List.set_cons_zero, List.set_cons_succ]; rfl))
              | (refine sq_load (v := ?_) (a' := ?_) rfl rfl rfl (by rfl) (fun W hSW => ?hr) (HS7).out ?ha ?_; (case hr => (try dsimp only at hSW); go_simp; first | done | rfl); (case ha => simp only [Act.put, List.setIfInBounds_toArray, List.set_cons_zero, List.set_cons_succ]; rfl)))
            obtain ⟨w8, hw8⟩ : ∃ w8, Hid (w8 = w7.setCell ⟨xs, 3, none⟩ (.int .i64 sbt)) := ⟨_, show _ = _ from rfl⟩
            refine sq_store (w1 := w8) rfl rfl (by rfl) rfl ?hr (fun h => absurd (by decide) h) ?_
            case hr => rw [hw8.out]; go_simp; first | done | rfl | (constructor <;> rfl)
            refine sq_done ?_
            have hx8 : SIs w8 xs st sv ca sbt (.slice A5 nd c5) (.slice Al2 nl cl2) := by rw [hw8.out]; exact (s_set HX7.out).2.2.2 _
            have HF58 : Hid (Fr (fun q => q = xs) w5 w8) := (show Fr _ _ _ from by rw [hw8.out]; exact HF57.out.then (Fr.one _ _))
            have HF8 : Hid (Fr (fun q => q = xs) w3 w8) := (show Fr _ _ _ from HF4.out.then (HF45.out.trans HF58.out (fun _ _ h => h.elim) (fun _ _ h => h)))
            have HR8 : Hid (SIs w8 (xs + 2) 0 0 0 0 (.slice none 0 0) (.slice none 0 0)) := (show SIs _ _ _ _ _ _ _ _ from HF8.out.heap HC.out.r (fun h => by have h' : xs + 2 = xs := h; omega))
            clear u0 u1 u2 u3 u4 u5 z3
            obtain ⟨b0', b1', b2', b3', b4', b5'⟩ := s_cells hx8
            obtain ⟨r0, r1, r2, r3, r4, r5⟩ := s_cells HR8.out
            have q0 := s_free HR8.out 0
            have q1 := s_free HR8.out 1
            have q2 := s_free HR8.out 2
            have q3 := s_free HR8.out 3
            have q4 := s_free HR8.out 4
            have q5 := s_free HR8.out 5
            clear hx8
            go_wp2_with fail
            obtain ⟨w9, hw9⟩ : ∃ w9, Hid (w9 = (((((w8.setCell ⟨xs + 2, 0, none⟩ (.int .i64 st)).setCell ⟨xs + 2, 1, none⟩ (.int .i64 sv)).setCell ⟨xs + 2, 2, none⟩ (.int .i64 ca)).setCell ⟨xs + 2, 3, none⟩ (.int .i64 sbt)).setCell ⟨xs + 2, 4, none⟩ (.slice A5 nd c5)).setCell ⟨xs + 2, 5, none⟩ (.slice Al2 nl cl2)) := ⟨_, show _ = _ from rfl⟩
            rw [← hw9.out]
            have HX9 : Hid (SIs w9 (xs + 2) st sv ca sbt (.slice A5 nd c5) (.slice Al2 nl cl2)) := (show SIs _ _ _ _ _ _ _ _ from by rw [hw9.out]; exact back6_s HR8.out)
            have HF9 : Hid (Fr (fun q => q = xs + 2) w8 w9) := (show Fr _ _ _ from by rw [hw9.out]; exact back6_fr w8 (xs + 2) st sv ca sbt (.slice A5 nd c5) (.slice Al2 nl cl2))
            clear b0' b1' b2' b3' b4' b5' r0 r1 r2 r3 r4 r5 q0 q1 q2 q3 q4 q5
            obtain ⟨y0, y1, y2, y3, y4, y5⟩ := s_cells HX9.out
            (try simp only [Exit.inBlock, Exit.then])
            refine bodyPost_ret (by simp [results, Try.results60, go_sem, y0, y1, y2, y3, y4, y5]; try rfl) rfl ?_
            have HF39 : Hid (Fr (fun q => q = xs ∨ q = xs + 2) w3 w9) := (show Fr _ _ _ from (HF8.out).trans HF9.out (fun _ _ h => .inl h) (fun _ _ h => .inr h))
            rw [HSOME.out]
            refine (show SNextPost _ _ _ _ _ from ⟨_, rfl, ⟨_, rfl, ⟨_, _, rfl, ?_, ?_, HC.out.i64.1, HC.out.i64.2.1, HC.out.i64.2.2.2.2.2.2.2, HC.out.i64.2.2.2.2.2.1⟩⟩, HC.out.fr.trans HF39.out (fun _ _ h => h) (fun q hq h => by have := HXS.out; rcases h with h | h <;> omega)⟩)
            · refine (HRD5.out.fr (HF58.out.trans HF9.out (U := fun q => q = xs ∨ q = xs + 2) (fun _ _ h => .inl h) (fun _ _ h => .inr h)) (fun k _ hk h => by have hk' : xs + 2 < k := hk; rcases h with h | h <;> omega)).mono (fun k hk => by have hk' : xs + 2 < k := hk; have := HXS.out; show w.heap.size ≤ k; omega)
            · refine HDR.out _ _ _ ((HC.out.ents.fr (by decide) HF39.out (fun k _ hk h => by have hk' : xs + 2 < k := hk; rcases h with h | h <;> omega)).mono (fun k hk => by have hk' : xs + 2 < k := hk; have := HXS.out; show w.heap.size ≤ k; omega))
          · have HSOME : Hid (nextS ⟨st, sv, ca, sbt, sn, sl⟩ ⟨3, ct, cv, ca, cl_, cb_⟩ = some ⟨st, sv, ca, ct, cb_, sl.drop nl⟩) := (show _ = _ from next3_drop (s := ⟨st, sv, ca, sbt, sn, sl⟩) (c := ⟨3, ct, cv, ca, cl_, cb_⟩) rfl h1 h2 (.inr ⟨fun h => by
              rcases (keep_iff _ _).1 h with ⟨_, h6⟩ | ⟨h6, _⟩
              · simp only at h6; exact h5 h6.symm
              · simp only at h6; omega, HNL.out⟩))
            obtain ⟨A7, hcut, hdrop⟩ := row_cut (K := EnK) (P := Try.prog) 60 64 Try.underlying60 (show _ = some 2 from by kernel_rfl) Al2 nl cl2 (nl) (by omega)
            have HDR := Lib.hid hdrop
            clear hdrop
            obtain ⟨n7, hn7⟩ : ∃ n, n = nl - (nl) := ⟨_, rfl⟩
            obtain ⟨c7, hc7⟩ : ∃ n, n = cl2 - (nl) := ⟨_, rfl⟩
            rw [← hn7, ← hc7] at HDR hcut
            clear hn7 hc7
            go_upto_region 23 with fail
            clear hcut
            obtain ⟨w4, hw4⟩ : ∃ w4, Hid (w4 = w3.setCell ⟨xs, 5, none⟩ (.slice A7 n7 c7)) := ⟨_, show _ = _ from rfl⟩
            rw [← hw4.out]
            have hx4 : SIs w4 xs st sv ca sbt (.slice As2 ns cs2) (.slice A7 n7 c7) := by rw [hw4.out]; exact s_vl HC.out.s _
            have hf4 : Fr (fun q => q = xs) w3 w4 := by rw [hw4.out]; exact Fr.one _ _
            have HC4 : Hid (CIs w4 (xs + 1) 3 ct cv ca (.slice Ac nc cc) (.slice Ad nd cd)) := (show CIs _ _ _ _ _ _ _ _ from hf4.heap HC.out.c (fun h => by have h' : xs + 1 = xs := h; omega))
            have HF4 := Lib.hid hf4
            have HX4 := Lib.hid hx4
            clear b0' b1' b2' b3' b4' b5' d0 d1 d2 d3 d4 d5 r0 r1 r2 r3 r4 r5 y0 y1 y2 y3 y4 y5 q0 q1 q2 q3 q4 q5 hf4 hx4
            obtain ⟨d0, d1, d2, d3, d4, d5⟩ := c_cells HC4.out
            refine wp_seq_region (fun W => W.cell? ⟨xs + 1, 1, none⟩ = some (.int .i64 ct) ∧ W.cell? ⟨xs + 1, 3, none⟩ = some (.int .i64 ca) ∧ W.cell? ⟨xs + 1, 5, none⟩ = some (.slice Ad nd cd)) [2, 8, 10, 12] [1, 4, 6] [12] [0, 1, 3, 4, 5, 6, 2, 7, 8, 9, 10, 11, 12] (by kernel_rfl) (by kernel_rfl) rfl (by kernel_rfl) (fun _ _ _ _ _ h => h) ?_
            have HS : Hid (w4.drew.cell? ⟨xs + 1, 1, none⟩ = some (.int .i64 ct) ∧ w4.drew.cell? ⟨xs + 1, 3, none⟩ = some (.int .i64 ca) ∧ w4.drew.cell? ⟨xs + 1, 5, none⟩ = some (.slice Ad nd cd)) := (show _ ∧ _ from ⟨d1, d3, d5⟩)
            clear d0 d1 d2 d3 d4 d5
            repeat (first
              | (refine sq_off (a' := ?_) rfl rfl (by rfl) (fun _ => (HS).out) ?ha ?_; (case ha => simp only [Act.put, List.setIfInBounds_toArray, List.set_cons_zero, List.set_cons_succ]; rfl))
              | (refine sq_any (v := ?_) (a' := ?_) rfl rfl rfl (by rfl) (fun W => ?hr) ?ha ?_; (case hr => go_simp; first | done | rfl); (case ha => simp only [Act.put, List.setIfInBounds_toArray, List.set_cons_zero, List.set_cons_succ]; rfl))
              | (refine sq_load (v := ?_) (a' := ?_) rfl rfl rfl (by rfl) (fun W hSW => ?hr) (HS).out ?ha ?_; (case hr => (try dsimp only at hSW); go_simp; first | done | rfl); (case ha => simp only [Act.put, List.setIfInBounds_toArray, List.set_cons_zero, List.set_cons_succ]; rfl)))
            refine sq_call rfl rfl (by rfl) rfl Try.func64 rfl rfl [.slice Ad nd cd] rfl ?_
            refine (clone8 (w := w4.drew) (HC.out.cb.fr HF4.out.drew (fun k _ hk h => by have h' : k = xs := h; have := hk.2; omega)) HLIM.out.2.2).mono ?_
            rw [← HND.out]
            rintro e w5 ⟨v5, rfl, hown5, hf5⟩
            obtain ⟨A5, c5, rfl, _, _⟩ := hown5.shape
            have HF45 : Hid (Fr No w4 w5) := (show Fr No w4 w5 from (Fr.refl _ _).drew.then hf5)
            have HW5 : Hid (xs + 2 < w4.heap.size) := (show _ < _ from Nat.lt_of_lt_of_le (heap_lt HC.out.r) HF4.out.size)
            have HRD5 : Hid (Rb w5 (fun k => xs + 2 < k) (.slice A5 nd c5) cb_) := (show Rb _ _ _ _ from by
              have h := hown5
              rw [HND.out] at h ⊢
              exact h.reads.mono (fun k hk => by have hk' : w4.heap.size ≤ k := hk; have := HW5.out; show xs + 2 < k; omega))
            have HS5 : Hid (w5.cell? ⟨xs + 1, 1, none⟩ = some (.int .i64 ct) ∧ w5.cell? ⟨xs + 1, 3, none⟩ = some (.int .i64 ca) ∧ w5.cell? ⟨xs + 1, 5, none⟩ = some (.slice Ad nd cd)) := (show _ ∧ _ from ⟨hf5.cell HS.out.1 (fun h => h), hf5.cell HS.out.2.1 (fun h => h), hf5.cell HS.out.2.2 (fun h => h)⟩)
            refine ⟨_, rfl, fun _ => HS5.out, ?_⟩
            simp only [Act.put, List.setIfInBounds_toArray, List.set_cons_zero, List.set_cons_succ]
            clear hown5 hf5
            have hx5 : SIs w5 xs st sv ca sbt (.slice As2 ns cs2) (.slice A7 n7 c7) := HF45.out.heap HX4.out (fun h => h)
            obtain ⟨u0, u1, u2, u3, u4, u5⟩ := s_cells hx5
            have z2 := s_free hx5 2
            have z3 := s_free hx5 3
            have z4 := s_free hx5 4
            have HX5 := Lib.hid hx5
            clear hx5
            repeat (first
              | (refine sq_off (a' := ?_) rfl rfl (by rfl) (fun _ => (HS5).out) ?ha ?_; (case ha => simp only [Act.put, List.setIfInBounds_toArray, List.set_cons_zero, List.set_cons_succ]; rfl))
              | (refine sq_any (v := ?_) (a' := ?_) rfl rfl rfl (by rfl) (fun W => ?hr) ?ha ?_; (case hr => go_simp; first | done | rfl); (case ha => simp only [Act.put, List.setIfInBounds_toArray, List.set_cons_zero, List.set_cons_succ]; rfl))
              | (refine sq_load (v := ?_) (a' := ?_) rfl rfl rfl (by rfl) (fun W hSW => ?hr) (HS5).out ?ha ?_; (case hr => (try dsimp only at hSW); go_simp; first | done | rfl); (case ha => simp only [Act.put, List.setIfInBounds_toArray, List.set_cons_zero, List.set_cons_succ]; rfl)))
            obtain ⟨w6, hw6⟩ : ∃ w6, Hid (w6 = w5.setCell ⟨xs, 4, none⟩ (.slice A5 nd c5)) := ⟨_, show _ = _ from rfl⟩
            have hf56 : Fr (fun q => q = xs) w5 w6 := by rw [hw6.out]; exact Fr.one _ _
            have HS6 : Hid (w6.cell? ⟨xs + 1, 1, none⟩ = some (.int .i64 ct) ∧ w6.cell? ⟨xs + 1, 3, none⟩ = some (.int .i64 ca) ∧ w6.cell? ⟨xs + 1, 5, none⟩ = some (.slice Ad nd cd)) := (show _ ∧ _ from ⟨hf56.cell HS5.out.1 (fun h => by have h' : xs + 1 = xs := h; omega), hf56.cell HS5.out.2.1 (fun h => by have h' : xs + 1 = xs := h; omega), hf56.cell HS5.out.2.2 (fun h => by have h' : xs + 1 = xs := h; omega)⟩)
            refine sq_store (w1 := w6) rfl rfl (by rfl) rfl ?hr (fun _ => HS6.out) ?_
            case hr => rw [hw6.out]; go_simp; first | done | rfl | (constructor <;> rfl)
            have hx6 : SIs w6 xs st sv ca sbt (.slice A5 nd c5) (.slice A7 n7 c7) := by rw [hw6.out]; exact s_vs HX5.out _
            have HX6 := Lib.hid hx6
            have HF56 := Lib.hid hf56
            clear u0 u1 u2 u3 u4 u5 z2 z3 z4 hf56
            obtain ⟨u0, u1, u2, u3, u4, u5⟩ := s_cells hx6
            have z2 := s_free hx6 2
            have z3 := s_free hx6 3
            clear hx6
            repeat (first
              | (refine sq_off (a' := ?_) rfl rfl (by rfl) (fun _ => (HS6).out) ?ha ?_; (case ha => simp only [Act.put, List.setIfInBounds_toArray, List.set_cons_zero, List.set_cons_succ]; rfl))
              | (refine sq_any (v := ?_) (a' := ?_) rfl rfl rfl (by rfl) (fun W => ?hr) ?ha ?_; (case hr => go_simp; first | done | rfl); (case ha => simp only [Act.put, List.setIfInBounds_toArray, List.set_cons_zero, List.set_cons_succ]; rfl))
              | (refine sq_load (v := ?_) (a' := ?_) rfl rfl rfl (by rfl) (fun W hSW => ?hr) (HS6).out ?ha ?_; (case hr => (try dsimp only at hSW); go_simp; first | done | rfl); (case ha => simp only [Act.put, List.setIfInBounds_toArray, List.set_cons_zero, List.set_cons_succ]; rfl)))
            obtain ⟨w7, hw7⟩ : ∃ w7, Hid (w7 = w6.setCell ⟨xs, 2, none⟩ (.int .i64 ca)) := ⟨_, show _ = _ from rfl⟩
            have hf67 : Fr (fun q => q = xs) w6 w7 := by rw [hw7.out]; exact Fr.one _ _
            have HS7 : Hid (w7.cell? ⟨xs + 1, 1, none⟩ = some (.int .i64 ct) ∧ w7.cell? ⟨xs + 1, 3, none⟩ = some (.int .i64 ca) ∧ w7.cell? ⟨xs + 1, 5, none⟩ = some (.slice Ad nd cd)) := (show _ ∧ _ from ⟨hf67.cell HS6.out.1 (fun h => by have h' : xs + 1 = xs := h; omega), hf67.cell HS6.out.2.1 (fun h => by have h' : xs + 1 = xs := h; omega), hf67.cell HS6.out.2.2 (fun h => by have h' : xs + 1 = xs := h; omega)⟩)
            refine sq_store (w1 := w7) rfl rfl (by rfl) rfl ?hr (fun _ => HS7.out) ?_
            case hr => rw [hw7.out]; go_simp; first | done | rfl | (constructor <;> rfl)
            have hx7 : SIs w7 xs st sv ca sbt (.slice A5 nd c5) (.slice A7 n7 c7) := by rw [hw7.out]; exact (s_set HX6.out).2.2.1 _
            have HX7 := Lib.hid hx7
            have HF57 : Hid (Fr (fun q => q = xs) w5 w7) := (show Fr _ _ _ from HF56.out.then hf67)
            clear u0 u1 u2 u3 u4 u5 z2 z3 hf67
            obtain ⟨u0, u1, u2, u3, u4, u5⟩ := s_cells hx7
            have z3 := s_free hx7 3
            clear hx7
            repeat (first
              | (refine sq_off (a' := ?_) rfl rfl (by rfl) (fun _ => (HS7).out) ?ha ?_; (case ha => simp only [Act.put, List.setIfInBounds_toArray, List.set_cons_zero, List.set_cons_succ]; rfl))
              | (refine sq_any (v := ?_) (a' := ?_) rfl rfl rfl (by rfl) (fun W => ?hr) ?ha ?_; (case hr => go_simp; first | done | rfl); (case ha => simp only [Act.put, List.setIfInBounds_toArray, List.set_cons_zero, List.set_cons_succ]; rfl))
              | (refine sq_load (v := ?_) (a' := ?_) rfl rfl rfl (by rfl) (fun W hSW => ?hr) (HS7).out ?ha ?_; (case hr => (try dsimp only at hSW); go_simp; first | done | rfl); (case ha => simp only [Act.put, List.setIfInBounds_toArray, List.set_cons_zero, List.set_cons_succ]; rfl)))
            obtain ⟨w8, hw8⟩ : ∃ w8, Hid (w8 = w7.setCell ⟨xs, 3, none⟩ (.int .i64 ct)) := ⟨_, show _ = _ from rfl⟩
            refine sq_store (w1 := w8) rfl rfl (by rfl) rfl ?hr (fun h => absurd (by decide) h) ?_
            case hr => rw [hw8.out]; go_simp; first | done | rfl | (constructor <;> rfl)
            refine sq_done ?_
            have hx8 : SIs w8 xs st sv ca ct (.slice A5 nd c5) (.slice A7 n7 c7) := by rw [hw8.out]; exact (s_set HX7.out).2.2.2 _
            have HF58 : Hid (Fr (fun q => q = xs) w5 w8) := (show Fr _ _ _ from by rw [hw8.out]; exact HF57.out.then (Fr.one _ _))
            have HF8 : Hid (Fr (fun q => q = xs) w3 w8) := (show Fr _ _ _ from HF4.out.then (HF45.out.trans HF58.out (fun _ _ h => h.elim) (fun _ _ h => h)))
            have HR8 : Hid (SIs w8 (xs + 2) 0 0 0 0 (.slice none 0 0) (.slice none 0 0)) := (show SIs _ _ _ _ _ _ _ _ from HF8.out.heap HC.out.r (fun h => by have h' : xs + 2 = xs := h; omega))
            clear u0 u1 u2 u3 u4 u5 z3
            obtain ⟨b0', b1', b2', b3', b4', b5'⟩ := s_cells hx8
            obtain ⟨r0, r1, r2, r3, r4, r5⟩ := s_cells HR8.out
            have q0 := s_free HR8.out 0
            have q1 := s_free HR8.out 1
            have q2 := s_free HR8.out 2
            have q3 := s_free HR8.out 3
            have q4 := s_free HR8.out 4
            have q5 := s_free HR8.out 5
            clear hx8
            go_wp2_with fail
            obtain ⟨w9, hw9⟩ : ∃ w9, Hid (w9 = (((((w8.setCell ⟨xs + 2, 0, none⟩ (.int .i64 st)).setCell ⟨xs + 2, 1, none⟩ (.int .i64 sv)).setCell ⟨xs + 2, 2, none⟩ (.int .i64 ca)).setCell ⟨xs + 2, 3, none⟩ (.int .i64 ct)).setCell ⟨xs + 2, 4, none⟩ (.slice A5 nd c5)).setCell ⟨xs + 2, 5, none⟩ (.slice A7 n7 c7)) := ⟨_, show _ = _ from rfl⟩
            rw [← hw9.out]
            have HX9 : Hid (SIs w9 (xs + 2) st sv ca ct (.slice A5 nd c5) (.slice A7 n7 c7)) := (show SIs _ _ _ _ _ _ _ _ from by rw [hw9.out]; exact back6_s HR8.out)
            have HF9 : Hid (Fr (fun q => q = xs + 2) w8 w9) := (show Fr _ _ _ from by rw [hw9.out]; exact back6_fr w8 (xs + 2) st sv ca ct (.slice A5 nd c5) (.slice A7 n7 c7))
            clear b0' b1' b2' b3' b4' b5' r0 r1 r2 r3 r4 r5 q0 q1 q2 q3 q4 q5
            obtain ⟨y0, y1, y2, y3, y4, y5⟩ := s_cells HX9.out
            (try simp only [Exit.inBlock, Exit.then])
            refine bodyPost_ret (by simp [results, Try.results60, go_sem, y0, y1, y2, y3, y4, y5]; try rfl) rfl ?_
            have HF39 : Hid (Fr (fun q => q = xs ∨ q = xs + 2) w3 w9) := (show Fr _ _ _ from (HF8.out).trans HF9.out (fun _ _ h => .inl h) (fun _ _ h => .inr h))
            rw [HSOME.out]
            refine (show SNextPost _ _ _ _ _ from ⟨_, rfl, ⟨_, rfl, ⟨_, _, rfl, ?_, ?_, HC.out.i64.1, HC.out.i64.2.1, HC.out.i64.2.2.2.2.2.2.2, HC.out.i64.2.2.2.2.2.1⟩⟩, HC.out.fr.trans HF39.out (fun _ _ h => h) (fun q hq h => by have := HXS.out; rcases h with h | h <;> omega)⟩)
            · refine (HRD5.out.fr (HF58.out.trans HF9.out (U := fun q => q = xs ∨ q = xs + 2) (fun _ _ h => .inl h) (fun _ _ h => .inr h)) (fun k _ hk h => by have hk' : xs + 2 < k := hk; rcases h with h | h <;> omega)).mono (fun k hk => by have hk' : xs + 2 < k := hk; have := HXS.out; show w.heap.size ≤ k; omega)
            · refine HDR.out _ _ _ ((HC.out.ents.fr (by decide) HF39.out (fun k _ hk h => by have hk' : xs + 2 < k := hk; rcases h with h | h <;> omega)).mono (fun k hk => by have hk' : xs + 2 < k := hk; have := HXS.out; show w.heap.size ≤ k; omega))
      · have HSOME : Hid (nextS ⟨st, sv, sb, sbt, sn, sl⟩ ⟨3, ct, cv, ca, cl_, cb_⟩ = some ⟨st, sv, ca, ct, cb_, sl.drop nl⟩) := (show _ = _ from next3_drop (s := ⟨st, sv, sb, sbt, sn, sl⟩) (c := ⟨3, ct, cv, ca, cl_, cb_⟩) rfl h1 h2 (.inr ⟨fun h => by
            have hl9 := HNL.out
            rcases (keep_iff _ _).1 h with ⟨h6, _⟩ | ⟨_, h6, _⟩
            · simp only at h6; omega
            · simp only at h6; omega, HNL.out⟩))
        obtain ⟨A7, hcut, hdrop⟩ := row_cut (K := EnK) (P := Try.prog) 60 64 Try.underlying60 (show _ = some 2 from by kernel_rfl) Al2 nl cl2 (nl) (by omega)
        have HDR := Lib.hid hdrop
        clear hdrop
        obtain ⟨n7, hn7⟩ : ∃ n, n = nl - (nl) := ⟨_, rfl⟩
        obtain ⟨c7, hc7⟩ : ∃ n, n = cl2 - (nl) := ⟨_, rfl⟩
        rw [← hn7, ← hc7] at HDR hcut
        clear hn7 hc7
        go_upto_region 23 with fail
        clear hcut
        obtain ⟨w4, hw4⟩ : ∃ w4, Hid (w4 = w3.setCell ⟨xs, 5, none⟩ (.slice A7 n7 c7)) := ⟨_, show _ = _ from rfl⟩
        rw [← hw4.out]
        have hx4 : SIs w4 xs st sv sb sbt (.slice As2 ns cs2) (.slice A7 n7 c7) := by rw [hw4.out]; exact s_vl HC.out.s _
        have hf4 : Fr (fun q => q = xs) w3 w4 := by rw [hw4.out]; exact Fr.one _ _
        have HC4 : Hid (CIs w4 (xs + 1) 3 ct cv ca (.slice Ac nc cc) (.slice Ad nd cd)) := (show CIs _ _ _ _ _ _ _ _ from hf4.heap HC.out.c (fun h => by have h' : xs + 1 = xs := h; omega))
        have HF4 := Lib.hid hf4
        have HX4 := Lib.hid hx4
        clear b0' b1' b2' b3' b4' b5' d0 d1 d2 d3 d4 d5 r0 r1 r2 r3 r4 r5 y0 y1 y2 y3 y4 y5 q0 q1 q2 q3 q4 q5 hf4 hx4
        obtain ⟨d0, d1, d2, d3, d4, d5⟩ := c_cells HC4.out
        refine wp_seq_region (fun W => W.cell? ⟨xs + 1, 1, none⟩ = some (.int .i64 ct) ∧ W.cell? ⟨xs + 1, 3, none⟩ = some (.int .i64 ca) ∧ W.cell? ⟨xs + 1, 5, none⟩ = some (.slice Ad nd cd)) [2, 8, 10, 12] [1, 4, 6] [12] [0, 1, 3, 4, 5, 6, 2, 7, 8, 9, 10, 11, 12] (by kernel_rfl) (by kernel_rfl) rfl (by kernel_rfl) (fun _ _ _ _ _ h => h) ?_
        have HS : Hid (w4.drew.cell? ⟨xs + 1, 1, none⟩ = some (.int .i64 ct) ∧ w4.drew.cell? ⟨xs + 1, 3, none⟩ = some (.int .i64 ca) ∧ w4.drew.cell? ⟨xs + 1, 5, none⟩ = some (.slice Ad nd cd)) := (show _ ∧ _ from ⟨d1, d3, d5⟩)
        clear d0 d1 d2 d3 d4 d5
        repeat (first
          | (refine sq_off (a' := ?_) rfl rfl (by rfl) (fun _ => (HS).out) ?ha ?_; (case ha => simp only [Act.put, List.setIfInBounds_toArray, List.set_cons_zero, List.set_cons_succ]; rfl))
          | (refine sq_any (v := ?_) (a' := ?_) rfl rfl rfl (by rfl) (fun W => ?hr) ?ha ?_; (case hr => go_simp; first | done | rfl); (case ha => simp only [Act.put, List.setIfInBounds_toArray, List.set_cons_zero, List.set_cons_succ]; rfl))
          | (refine sq_load (v := ?_) (a' := ?_) rfl rfl rfl (by rfl) (fun W hSW => ?hr) (HS).out ?ha ?_; (case hr => (try dsimp only at hSW); go_simp; first | done | rfl); (case ha => simp only [Act.put, List.setIfInBounds_toArray, List.set_cons_zero, List.set_cons_succ]; rfl)))
        refine sq_call rfl rfl (by rfl) rfl Try.func64 rfl rfl [.slice Ad nd cd] rfl ?_
        refine (clone8 (w := w4.drew) (HC.out.cb.fr HF4.out.drew (fun k _ hk h => by have h' : k = xs := h; have := hk.2; omega)) HLIM.out.2.2).mono ?_
        rw [← HND.out]
        rintro e w5 ⟨v5, rfl, hown5, hf5⟩
        obtain ⟨A5, c5, rfl, _, _⟩ := hown5.shape
        have HF45 : Hid (Fr No w4 w5) := (show Fr No w4 w5 from (Fr.refl _ _).drew.then hf5)
        have HW5 : Hid (xs + 2 < w4.heap.size) := (show _ < _ from Nat.lt_of_lt_of_le (heap_lt HC.out.r) HF4.out.size)
        have HRD5 : Hid (Rb w5 (fun k => xs + 2 < k) (.slice A5 nd c5) cb_) := (show Rb _ _ _ _ from by
          have h := hown5
          rw [HND.out] at h ⊢
          exact h.reads.mono (fun k hk => by have hk' : w4.heap.size ≤ k := hk; have := HW5.out; show xs + 2 < k; omega))
        have HS5 : Hid (w5.cell? ⟨xs + 1, 1, none⟩ = some (.int .i64 ct) ∧ w5.cell? ⟨xs + 1, 3, none⟩ = some (.int .i64 ca) ∧ w5.cell? ⟨xs + 1, 5, none⟩ = some (.slice Ad nd cd)) := (show _ ∧ _ from ⟨hf5.cell HS.out.1 (fun h => h), hf5.cell HS.out.2.1 (fun h => h), hf5.cell HS.out.2.2 (fun h => h)⟩)
        refine ⟨_, rfl, fun _ => HS5.out, ?_⟩
        simp only [Act.put, List.setIfInBounds_toArray, List.set_cons_zero, List.set_cons_succ]
        clear hown5 hf5
        have hx5 : SIs w5 xs st sv sb sbt (.slice As2 ns cs2) (.slice A7 n7 c7) := HF45.out.heap HX4.out (fun h => h)
        obtain ⟨u0, u1, u2, u3, u4, u5⟩ := s_cells hx5
        have z2 := s_free hx5 2
        have z3 := s_free hx5 3
        have z4 := s_free hx5 4
        have HX5 := Lib.hid hx5
        clear hx5
        repeat (first
          | (refine sq_off (a' := ?_) rfl rfl (by rfl) (fun _ => (HS5).out) ?ha ?_; (case ha => simp only [Act.put, List.setIfInBounds_toArray, List.set_cons_zero, List.set_cons_succ]; rfl))
          | (refine sq_any (v := ?_) (a' := ?_) rfl rfl rfl (by rfl) (fun W => ?hr) ?ha ?_; (case hr => go_simp; first | done | rfl); (case ha => simp only [Act.put, List.setIfInBounds_toArray, List.set_cons_zero, List.set_cons_succ]; rfl))
          | (refine sq_load (v := ?_) (a' := ?_) rfl rfl rfl (by rfl) (fun W hSW => ?hr) (HS5).out ?ha ?_; (case hr => (try dsimp only at hSW); go_simp; first | done | rfl); (case ha => simp only [Act.put, List.setIfInBounds_toArray, List.set_cons_zero, List.set_cons_succ]; rfl)))
        obtain ⟨w6, hw6⟩ : ∃ w6, Hid (w6 = w5.setCell ⟨xs, 4, none⟩ (.slice A5 nd c5)) := ⟨_, show _ = _ from rfl⟩
        have hf56 : Fr (fun q => q = xs) w5 w6 := by rw [hw6.out]; exact Fr.one _ _
        have HS6 : Hid (w6.cell? ⟨xs + 1, 1, none⟩ = some (.int .i64 ct) ∧ w6.cell? ⟨xs + 1, 3, none⟩ = some (.int .i64 ca) ∧ w6.cell? ⟨xs + 1, 5, none⟩ = some (.slice Ad nd cd)) := (show _ ∧ _ from ⟨hf56.cell HS5.out.1 (fun h => by have h' : xs + 1 = xs := h; omega), hf56.cell HS5.out.2.1 (fun h => by have h' : xs + 1 = xs := h; omega), hf56.cell HS5.out.2.2 (fun h => by have h' : xs + 1 = xs := h; omega)⟩)
        refine sq_store (w1 := w6) rfl rfl (by rfl) rfl ?hr (fun _ => HS6.out) ?_
        case hr => rw [hw6.out]; go_simp; first | done | rfl | (constructor <;> rfl)
        have hx6 : SIs w6 xs st sv sb sbt (.slice A5 nd c5) (.slice A7 n7 c7) := by rw [hw6.out]; exact s_vs HX5.out _
        have HX6 := Lib.hid hx6
        have HF56 := Lib.hid hf56
        clear u0 u1 u2 u3 u4 u5 z2 z3 z4 hf56
        obtain ⟨u0, u1, u2, u3, u4, u5⟩ := s_cells hx6
        have z2 := s_free hx6 2
        have z3 := s_free hx6 3
        clear hx6
        repeat (first
          | (refine sq_off (a' := ?_) rfl rfl (by rfl) (fun _ => (HS6).out) ?ha ?_; (case ha => simp only [Act.put, List.setIfInBounds_toArray, List.set_cons_zero, List.set_cons_succ]; rfl))
          | (refine sq_any (v := ?_) (a' := ?_) rfl rfl rfl (by rfl) (fun W => ?hr) ?ha ?_; (case hr => go_simp; first | done | rfl); (case ha => simp only [Act.put, List.setIfInBounds_toArray, List.set_cons_zero, List.set_cons_succ]; rfl))
          | (refine sq_load (v := ?_) (a' := ?_) rfl rfl rfl (by rfl) (fun W hSW => ?hr) (HS6).out ?ha ?_; (case hr => (try dsimp only at hSW); go_simp; first | done | rfl); (case ha => simp only [Act.put, List.setIfInBounds_toArray, List.set_cons_zero, List.set_cons_succ]; rfl)))
        obtain ⟨w7, hw7⟩ : ∃ w7, Hid (w7 = w6.setCell ⟨xs, 2, none⟩ (.int .i64 ca)) := ⟨_, show _ = _ from rfl⟩
        have hf67 : Fr (fun q => q = xs) w6 w7 := by rw [hw7.out]; exact Fr.one _ _
        have HS7 : Hid (w7.cell? ⟨xs + 1, 1, none⟩ = some (.int .i64 ct) ∧ w7.cell? ⟨xs + 1, 3, none⟩ = some (.int .i64 ca) ∧ w7.cell? ⟨xs + 1, 5, none⟩ = some (.slice Ad nd cd)) := (show _ ∧ _ from ⟨hf67.cell HS6.out.1 (fun h => by have h' : xs + 1 = xs := h; omega), hf67.cell HS6.out.2.1 (fun h => by have h' : xs + 1 = xs := h; omega), hf67.cell HS6.out.2.2 (fun h => by have h' : xs + 1 = xs := h; omega)⟩)
        refine sq_store (w1 := w7) rfl rfl (by rfl) rfl ?hr (fun _ => HS7.out) ?_
        case hr => rw [hw7.out]; go_simp; first | done | rfl | (constructor <;> rfl)
        have hx7 : SIs w7 xs st sv ca sbt (.slice A5 nd c5) (.slice A7 n7 c7) := by rw [hw7.out]; exact (s_set HX6.out).2.2.1 _
        have HX7 := Lib.hid hx7
        have HF57 : Hid (Fr (fun q => q = xs) w5 w7) := (show Fr _ _ _ from HF56.out.then hf67)
        clear u0 u1 u2 u3 u4 u5 z2 z3 hf67
        obtain ⟨u0, u1, u2, u3, u4, u5⟩ := s_cells hx7
        have z3 := s_free hx7 3
        clear hx7
        repeat (first
          | (refine sq_off (a' := ?_) rfl rfl (by rfl) (fun _ => (HS7).out) ?ha ?_; (case ha => simp only [Act.put, List.setIfInBounds_toArray, List.set_cons_zero, List.set_cons_succ]; rfl))
          | (refine sq_any (v := ?_) (a' := ?_) rfl rfl rfl (by rfl) (fun W => ?hr) ?ha ?_; (case hr => go_simp; first | done | rfl); (case ha => simp only [Act.put, List.setIfInBounds_toArray, List.set_cons_zero, List.set_cons_succ]; rfl))
          | (refine sq_load (v := ?_) (a' := ?_) rfl rfl rfl (by rfl) (fun W hSW => ?hr) (HS7).out ?ha ?_; (case hr => (try dsimp only at hSW); go_simp; first | done | rfl); (case ha => simp only [Act.put, List.setIfInBounds_toArray, List.set_cons_zero, List.set_cons_succ]; rfl)))
        obtain ⟨w8, hw8⟩ : ∃ w8, Hid (w8 = w7.setCell ⟨xs, 3, none⟩ (.int .i64 ct)) := ⟨_, show _ = _ from rfl⟩
        refine sq_store (w1 := w8) rfl rfl (by rfl) rfl ?hr (fun h => absurd (by decide) h) ?_
        case hr => rw [hw8.out]; go_simp; first | done | rfl | (constructor <;> rfl)
        refine sq_done ?_
        have hx8 : SIs w8 xs st sv ca ct (.slice A5 nd c5) (.slice A7 n7 c7) := by rw [hw8.out]; exact (s_set HX7.out).2.2.2 _
        have HF58 : Hid (Fr (fun q => q = xs) w5 w8) := (show Fr _ _ _ from by rw [hw8.out]; exact HF57.out.then (Fr.one _ _))
        have HF8 : Hid (Fr (fun q => q = xs) w3 w8) := (show Fr _ _ _ from HF4.out.then (HF45.out.trans HF58.out (fun _ _ h => h.elim) (fun _ _ h => h)))
        have HR8 : Hid (SIs w8 (xs + 2) 0 0 0 0 (.slice none 0 0) (.slice none 0 0)) := (show SIs _ _ _ _ _ _ _ _ from HF8.out.heap HC.out.r (fun h => by have h' : xs + 2 = xs := h; omega))
        clear u0 u1 u2 u3 u4 u5 z3
        obtain ⟨b0', b1', b2', b3', b4', b5'⟩ := s_cells hx8
        obtain ⟨r0, r1, r2, r3, r4, r5⟩ := s_cells HR8.out
        have q0 := s_free HR8.out 0
        have q1 := s_free HR8.out 1
        have q2 := s_free HR8.out 2
        have q3 := s_free HR8.out 3
        have q4 := s_free HR8.out 4
        have q5 := s_free HR8.out 5
        clear hx8
        go_wp2_with fail
        obtain ⟨w9, hw9⟩ : ∃ w9, Hid (w9 = (((((w8.setCell ⟨xs + 2, 0, none⟩ (.int .i64 st)).setCell ⟨xs + 2, 1, none⟩ (.int .i64 sv)).setCell ⟨xs + 2, 2, none⟩ (.int .i64 ca)).setCell ⟨xs + 2, 3, none⟩ (.int .i64 ct)).setCell ⟨xs + 2, 4, none⟩ (.slice A5 nd c5)).setCell ⟨xs + 2, 5, none⟩ (.slice A7 n7 c7)) := ⟨_, show _ = _ from rfl⟩
        rw [← hw9.out]
        have HX9 : Hid (SIs w9 (xs + 2) st sv ca ct (.slice A5 nd c5) (.slice A7 n7 c7)) := (show SIs _ _ _ _ _ _ _ _ from by rw [hw9.out]; exact back6_s HR8.out)
        have HF9 : Hid (Fr (fun q => q = xs + 2) w8 w9) := (show Fr _ _ _ from by rw [hw9.out]; exact back6_fr w8 (xs + 2) st sv ca ct (.slice A5 nd c5) (.slice A7 n7 c7))
        clear b0' b1' b2' b3' b4' b5' r0 r1 r2 r3 r4 r5 q0 q1 q2 q3 q4 q5
        obtain ⟨y0, y1, y2, y3, y4, y5⟩ := s_cells HX9.out
        (try simp only [Exit.inBlock, Exit.then])
        refine bodyPost_ret (by simp [results, Try.results60, go_sem, y0, y1, y2, y3, y4, y5]; try rfl) rfl ?_
        have HF39 : Hid (Fr (fun q => q = xs ∨ q = xs + 2) w3 w9) := (show Fr _ _ _ from (HF8.out).trans HF9.out (fun _ _ h => .inl h) (fun _ _ h => .inr h))
        rw [HSOME.out]
        refine (show SNextPost _ _ _ _ _ from ⟨_, rfl, ⟨_, rfl, ⟨_, _, rfl, ?_, ?_, HC.out.i64.1, HC.out.i64.2.1, HC.out.i64.2.2.2.2.2.2.2, HC.out.i64.2.2.2.2.2.1⟩⟩, HC.out.fr.trans HF39.out (fun _ _ h => h) (fun q hq h => by have := HXS.out; rcases h with h | h <;> omega)⟩)
        · refine (HRD5.out.fr (HF58.out.trans HF9.out (U := fun q => q = xs ∨ q = xs + 2) (fun _ _ h => .inl h) (fun _ _ h => .inr h)) (fun k _ hk h => by have hk' : xs + 2 < k := hk; rcases h with h | h <;> omega)).mono (fun k hk => by have hk' : xs + 2 < k := hk; have := HXS.out; show w.heap.size ≤ k; omega)
        · refine HDR.out _ _ _ ((HC.out.ents.fr (by decide) HF39.out (fun k _ hk h => by have hk' : xs + 2 < k := hk; rcases h with h | h <;> omega)).mono (fun k hk => by have hk' : xs + 2 < k := hk; have := HXS.out; show w.heap.size ≤ k; omega))
    · have HNONE : Hid (nextS ⟨st, sv, sb, sbt, sn, sl⟩ ⟨3, ct, cv, ca, cl_, cb_⟩ = none) := (show _ = _ from next3_none rfl (.inr (by simp only; omega)))
      go_wp2_with fail
      obtain ⟨w9, hw9⟩ : ∃ w9, Hid (w9 = (((((w3.setCell ⟨xs + 2, 0, none⟩ (.int .i64 0)).setCell ⟨xs + 2, 1, none⟩ (.int .i64 0)).setCell ⟨xs + 2, 2, none⟩ (.int .i64 0)).setCell ⟨xs + 2, 3, none⟩ (.int .i64 0)).setCell ⟨xs + 2, 4, none⟩ (.slice none 0 0)).setCell ⟨xs + 2, 5, none⟩ (.slice none 0 0)) := ⟨_, show _ = _ from rfl⟩
      rw [← hw9.out]
      have HX9 : Hid (SIs w9 (xs + 2) 0 0 0 0 (.slice none 0 0) (.slice none 0 0)) := (show SIs _ _ _ _ _ _ _ _ from by rw [hw9.out]; exact back6_s HC.out.r)
      have HF9 : Hid (Fr (fun q => q = xs + 2) w3 w9) := (show Fr _ _ _ from by rw [hw9.out]; exact back6_fr w3 (xs + 2) 0 0 0 0 (.slice none 0 0) (.slice none 0 0))
      clear b0' b1' b2' b3' b4' b5' d0 d1 d2 d3 d4 d5 r0 r1 r2 r3 r4 r5 y0 y1 y2 y3 y4 y5 q0 q1 q2 q3 q4 q5
      obtain ⟨y0, y1, y2, y3, y4, y5⟩ := s_cells HX9.out
      (try simp only [Exit.inBlock, Exit.then])
      refine bodyPost_ret (by simp [results, Try.results60, go_sem, y0, y1, y2, y3, y4, y5]; try rfl) rfl ?_
      rw [HNONE.out]
      exact (show SNextPost _ _ _ _ _ from ⟨_, rfl, kv_zero _ _, HC.out.fr.trans HF9.out (fun _ _ h => h) (fun q hq h => by have h' : q = xs + 2 := h; have := HXS.out; omega)⟩)
  · have HNONE : Hid (nextS ⟨st, sv, sb, sbt, sn, sl⟩ ⟨3, ct, cv, ca, cl_, cb_⟩ = none) := (show _ = _ from next3_none rfl (.inl (by simp only; omega)))
    go_wp2_with fail
    obtain ⟨w9, hw9⟩ : ∃ w9, Hid (w9 = (((((w3.setCell ⟨xs + 2, 0, none⟩ (.int .i64 0)).setCell ⟨xs + 2, 1, none⟩ (.int .i64 0)).setCell ⟨xs + 2, 2, none⟩ (.int .i64 0)).setCell ⟨xs + 2, 3, none⟩ (.int .i64 0)).setCell ⟨xs + 2, 4, none⟩ (.slice none 0 0)).setCell ⟨xs + 2, 5, none⟩ (.slice none 0 0)) := ⟨_, show _ = _ from rfl⟩
    rw [← hw9.out]
    have HX9 : Hid (SIs w9 (xs + 2) 0 0 0 0 (.slice none 0 0) (.slice none 0 0)) := (show SIs _ _ _ _ _ _ _ _ from by rw [hw9.out]; exact back6_s HC.out.r)
    have HF9 : Hid (Fr (fun q => q = xs + 2) w3 w9) := (show Fr _ _ _ from by rw [hw9.out]; exact back6_fr w3 (xs + 2) 0 0 0 0 (.slice none 0 0) (.slice none 0 0))
    clear b0' b1' b2' b3' b4' b5' d0 d1 d2 d3 d4 d5 r0 r1 r2 r3 r4 r5 y0 y1 y2 y3 y4 y5 q0 q1 q2 q3 q4 q5
    obtain ⟨y0, y1, y2, y3, y4, y5⟩ := s_cells HX9.out
    (try simp only [Exit.inBlock, Exit.then])
    refine bodyPost_ret (by simp [results, Try.results60, go_sem, y0, y1, y2, y3, y4, y5]; try rfl) rfl ?_
    rw [HNONE.out]
    exact (show SNextPost _ _ _ _ _ from ⟨_, rfl, kv_zero _ _, HC.out.fr.trans HF9.out (fun _ _ h => h) (fun q hq h => by have h' : q = xs + 2 := h; have := HXS.out; omega)⟩)
theorem snext_any {w : World} {F F' : Nat → Prop} {vs vc : Value} {s : Sv} {c : Ch} (hs : KV SvK w F vs s) (hc : KV ChK w F' vc c) (hok : s.ok) (hlim : c.lim) : Calls Try.prog 60 #[vs, vc] w (SNextPost (New w) w (nextS s c)) := by
  by_cases h1 : c.kind = 1
  · exact next1 hs hc hok hlim h1
  by_cases h2 : c.kind = 2
  · exact next2 hs hc hok hlim h2
  by_cases h3 : c.kind = 3
  · exact next3 hs hc hok hlim h3
  exact next0 hs hc hok hlim ⟨h1, h2, h3⟩
end Go.Proofs.Ytbaohngnpgappaa
