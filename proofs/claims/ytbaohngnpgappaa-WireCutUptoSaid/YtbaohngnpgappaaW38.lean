/- WireOne: its walk. -/
import Derived.Test.YtbaohngnpgappaaW37
import Derived.Test.YtbaohngnpgappaaW29
set_option linter.unusedVariables false
set_option linter.unusedSimpArgs false
namespace Go.Proofs.Ytbaohngnpgappaa
open Go.RowKit
theorem check_of {x : It} (h : x.ok = true) (hd : x.deep ≤ 40) : checkI x = 0 := by
  unfold checkI
  rw [if_pos h, if_neg (by omega)]
theorem readI_ok {L : List UInt8} (h : (readI L).2.2 = 0) : (readI L).1.ok = true ∧ (readI L).1.fit ∧ (readI L).1.deep ≤ 40 ∧ L = (readI L).1.enc ++ L.drop (readI L).2.1 ∧ (readI L).2.1 = (readI L).1.enc.length := by
  unfold readI at h ⊢
  simp only at h ⊢
  by_cases he : (itemR L 41 ⟨0, 0, 0⟩).2.e ≠ 0
  · rw [if_pos he] at h
    exact absurd h he
  · rw [if_neg he]
    have h1 := item_back (L := L) 41 ⟨0, 0, 0⟩ (Classical.not_not.1 he) rfl (Nat.zero_le _) (Nat.zero_le _) (Nat.le_refl _)
    obtain ⟨a1, a2, a3, a4, a5, _⟩ := h1
    refine ⟨a1, a2, a3, ?_, by rw [a5]; exact Nat.zero_add _⟩
    rw [List.drop_zero] at a4
    exact a4
theorem readI_err {L : List UInt8} (h : (readI L).2.2 ≠ 0) : (readI L).2.1 = 0 ∧ (readI L).1 = .mk 0 0 [] [] := by
  unfold readI at h ⊢
  simp only at h ⊢
  by_cases he : (itemR L 41 ⟨0, 0, 0⟩).2.e ≠ 0
  · rw [if_pos he]; exact ⟨rfl, rfl⟩
  · rw [if_neg he] at h
    exact absurd rfl h
theorem enc_pos (x : It) : 1 ≤ x.enc.length := by cases x; rw [It.enc, List.length_cons]; omega
set_option maxRecDepth 100000 in
set_option maxHeartbeats 4000000 in
theorem wone_any {w : World} {F : Nat → Prop} {v : Value} {b : List UInt8} (h : Rb w F v b) : Calls Try.prog 14 #[v] w (Told (.bool true) w) := by
  obtain ⟨A, c, rfl, hc1, hc2⟩ := h.shape
  have hl2 : (b.length : Int) ≤ 9223372036854775807 := by simp only [maxLen] at hc2; omega
  have H : Hid (Rb w (fun k => F k ∧ k < w.heap.size) (.slice A b.length c) b) := (show Rb _ _ _ _ from h.bound)
  obtain ⟨N, hn⟩ : ∃ n, n = b.length := ⟨_, rfl⟩
  have HN := Lib.hid hn
  rw [← hn] at hc1 hl2 H ⊢
  clear h hc2 hn
  go_enter Try.func14, Try.ntmps14
  go_wp2_with fail
  refine (wlive_any w).mono ?_
  rintro e w1 ⟨rfl, hf1⟩
  have HF1 := Lib.hid hf1
  clear hf1
  by_cases hbig : (100000 : Int) < (N : Int)
  · go_wp2_with fail
    go_ret
    exact (show Told _ _ _ _ from ⟨rfl, HF1.out⟩)
  · have hNB : N ≤ 100000 := by omega
    go_wp2_with fail
    obtain ⟨x, n, E, hR⟩ : ∃ (x : It) (n : Nat) (E : Int), readI b = (x, n, E) := ⟨_, _, _, rfl⟩
    refine (wread_any (L := b) (F := fun k => F k ∧ k < w.heap.size) (H.out.fr HF1.out (fun _ _ _ h => h)) (by rw [← HN.out]; omega)).mono ?_
    rw [hR]
    rintro e w2 ⟨vv, rfl, hiv, hf2⟩
    have HF2 : Hid (Fr No w w2) := (show Fr No w w2 from HF1.out.then hf2)
    have HOK : Hid (E = 0 → x.ok = true ∧ x.fit ∧ x.deep ≤ 40 ∧ b = x.enc ++ b.drop n ∧ n = x.enc.length) := (show E = 0 → _ from fun he => by
      have h1 := readI_ok (L := b) (by rw [hR]; exact he)
      rw [hR] at h1
      exact h1)
    have HER : Hid (E ≠ 0 → n = 0) := (show E ≠ 0 → n = 0 from fun he => by
      have h1 := readI_err (L := b) (by rw [hR]; exact he)
      rw [hR] at h1
      exact h1.1)
    obtain ⟨cs, rfl, hir⟩ := hiv
    simp only at hir
    obtain ⟨xk, xn, xt, xl⟩ := x
    have hir0 := hir
    obtain ⟨vx, rfl, hxrow, hxfit⟩ := itR_row hir
    obtain ⟨A2, c2, rfl, _, _⟩ := hxrow.shape
    have HIR := Lib.hid hir0
    clear hir hir0 hxrow hxfit hf2 hR
    unfold str at *
    simp only [] at *
    go_upto_region 5 with fail
    obtain ⟨w3, hw3⟩ : ∃ w3, Hid (w3 = w2.alloc (.cells #[.int .i64 xk, .int .i64 xn, .string ⟨xt.toArray⟩, .slice A2 xl.length c2] 48 (0, 0))) := ⟨_, show _ = _ from rfl⟩
    rw [← hw3.out]
    have hf3 : Fr No w2 w3 := by rw [hw3.out]; exact (Fr.refl _ _).alloc _
    have hx3 : VIs w3 w2.heap.size xk xn xt (.slice A2 xl.length c2) := by rw [hw3.out]; exact blk_new _ _
    have HF3 : Hid (Fr No w w3) := (show Fr No w w3 from HF2.out.then hf3)
    have HI3 : Hid (ItR w3 (fun _ => True) (.mk xk xn xt xl) [.int .i64 xk, .int .i64 xn, .string ⟨xt.toArray⟩, .slice A2 xl.length c2]) := (show ItR _ _ _ _ from itR_mono (fun _ _ => trivial) _ _ (itR_move (fun q _ hq => hf3.block q hq (fun h => h)) _ _ HIR.out))
    have HX3 := Lib.hid hx3
    clear hf3 hx3
    by_cases hE : E = 0
    · subst hE
      obtain ⟨hok, hfit, hdp, hbe, hnl⟩ := HOK.out rfl
      have hep := enc_pos (It.mk xk xn xt xl)
      have hnN : n ≤ N := by
        have h1 := congrArg List.length hbe
        rw [List.length_append, ← hnl, ← HN.out] at h1
        omega
      have hn1 : 1 ≤ n := by omega
      have HCK : Hid (checkI (.mk xk xn xt xl) = 0) := (show _ = _ from check_of hok hdp)
      have HSZ : Hid (It.size (.mk xk xn xt xl) ≤ 1048576) := (show _ ≤ _ from by have := It.size_enc _ hok; omega)
      have HTX : Hid ((It.mk xk xn xt xl).texts ∧ (It.mk xk xn xt xl).enc.length ≤ 70368744177664) := (show _ ∧ _ from ⟨It.texts_enc _ hok (by omega), by omega⟩)
      obtain ⟨X, hX⟩ : ∃ X, Hid (X = encodeI (.mk xk xn xt xl)) := ⟨_, show _ = _ from rfl⟩
      have HXE : Hid (X = b.take n) := (show _ = _ from by
        rw [hX.out, encodeI, if_pos HCK.out, hbe, hnl, List.take_left])
      have hi1 : ¬ ((n : Int) < 1) := by omega
      have hi2 : ¬ ((N : Int) < (n : Int)) := by omega
      have hnb : n ≤ 100000 := by omega
      clear hok hfit hdp hbe hnl hep
      obtain ⟨k0, k1, k2, k3⟩ := v_cells HX3.out
      go_wp2_with (with_reducible refine halt_dst 28 rfl ?_)
      refine wpListG_run (by rfl) (v := .bool false) (w' := w3) ?hr ?_
      case hr => go_simp; first | done | omega
      go_wp2_with (with_reducible refine halt_dst 33 rfl ?_)
      refine wpListG_run (by rfl) (v := .bool false) (w' := w3) ?hr ?_
      case hr => go_simp; first | done | omega
      go_wp2_with fail
      refine (check_any (v := .mk xk xn xt xl) ⟨_, rfl, HI3.out⟩ HSZ.out).mono ?_
      rw [HCK.out]
      rintro e w4 ⟨rfl, hf4⟩
      have HX4 : Hid (VIs w4 w2.heap.size xk xn xt (.slice A2 xl.length c2)) := (show VIs _ _ _ _ _ _ from hf4.heap HX3.out (fun h => h))
      have HF4 : Hid (Fr No w w4) := (show Fr No w w4 from HF3.out.then hf4)
      have HI4 : Hid (ItR w4 (fun _ => True) (.mk xk xn xt xl) [.int .i64 xk, .int .i64 xn, .string ⟨xt.toArray⟩, .slice A2 xl.length c2]) := (show ItR _ _ _ _ from itR_move (fun q _ hq => hf4.block q hq (fun h => h)) _ _ HI3.out)
      clear hf4 k0 k1 k2 k3
      obtain ⟨k0, k1, k2, k3⟩ := v_cells HX4.out
      go_wp2_with fail
      refine (encode_any (v := .mk xk xn xt xl) ⟨_, rfl, HI4.out⟩ HSZ.out (fun _ => HTX.out)).mono ?_
      rw [HCK.out, ← hX.out]
      rintro e w5 ⟨v5, rfl, hown5, hf5⟩
      have HF5 : Hid (Fr No w w5) := (show Fr No w w5 from HF4.out.then hf5)
      have HR5 : Hid (Rb w5 (New w4) v5 X) := (show Rb _ _ _ _ from hown5.reads)
      obtain ⟨A5, c5, rfl, _, _⟩ := hown5.shape
      have hcut := cut0_run (P := Try.prog) 22 5 Try.underlying22 sz5 A N c (n : Int) (by omega) (by omega)
      rw [Int.toNat_natCast] at hcut
      have HRT : Hid (Rb w5 (fun k => F k ∧ k < w.heap.size) (.slice A n c) X) := (show Rb _ _ _ _ from by
        have h1 := H.out.fr HF5.out (fun _ _ _ h => h)
        rw [HN.out] at h1
        obtain ⟨_, _, he, _, _, h5⟩ := h1.take_ n (by rw [← HN.out]; exact hnN)
        cases he
        rw [HXE.out]
        exact h5)
      clear hown5 hf5 k0 k1 k2 k3
      go_wp2_with fail
      refine (samebytes_yes HR5.out HRT.out rfl).mono ?_
      rintro e w' ⟨rfl, rfl⟩
      go_wp2_with fail
      go_ret
      exact (show Told _ _ _ _ from ⟨rfl, HF5.out⟩)
    · have hn0 : n = 0 := HER.out hE
      subst hn0
      go_wp2_with fail
      go_ret
      exact (show Told _ _ _ _ from ⟨rfl, HF3.out⟩)
end Go.Proofs.Ytbaohngnpgappaa
