/- Whether two items are the same: wire's Same. -/
import Derived.Test.YtbaohngnpgappaaW4
set_option linter.unusedVariables false
set_option linter.unusedSimpArgs false
namespace Go.Proofs.Ytbaohngnpgappaa
open Go.RowKit
set_option maxHeartbeats 2000000 in
theorem equalfunc_any {l l' : List It} (ih : ∀ x ∈ l, ∀ (u : It) (w : World) (F1 F2 : Nat → Prop) (v1 v2 : Value), ItV w F1 v1 x → ItV w F2 v2 u → Calls Try.prog 45 #[v1, v2] w (Told (.bool (It.same x u)) w))
    {w : World} {F1 F2 : Nat → Prop} {v1 v2 : Value} (h1 : Row ItK w F1 v1 l) (h2 : Row ItK w F2 v2 l') : Calls Try.prog 82 #[v1, v2, .func (.func 45) #[] #[]] w (Told (.bool (It.sames l l')) w) := by
  obtain ⟨A, c, rfl, hc1, hc2⟩ := h1.shape
  obtain ⟨A', c', rfl, hc1', hc2'⟩ := h2.shape
  have hl2 : (l.length : Int) ≤ 9223372036854775807 := by simp only [maxLen] at hc2; omega
  have HR := Lib.hid h1
  have HR' := Lib.hid h2
  have IH := Lib.hid ih
  obtain ⟨C, hC⟩ : ∃ C, Hid (C = It.sames l l') := ⟨_, rfl⟩
  rw [← hC.out]
  clear h1 h2 ih hc2 hc2'
  by_cases hll : l.length = l'.length
  · rw [← hll]
    have HLL := Lib.hid hll
    clear hll
    go_enter Try.func82, Try.ntmps82
    go_wp2_with fail
    go_loopw [17] (fun i wr => ∃ (j : Nat), j ≤ l.length ∧ i = .int .i64 j ∧ Hid (Fr No w wr ∧ (∀ (i : Nat) (x y : It), i < j → l[i]? = some x → l'[i]? = some y → It.same x y = true))) (fun i _ => l.length - (intOf i).toNat)
    case atStart => exact ⟨0, Nat.zero_le _, rfl, (show _ ∧ _ from ⟨Fr.refl _ w, fun _ _ _ h => absurd h (Nat.not_lt_zero _)⟩)⟩
    case round =>
      obtain ⟨j, hj, rfl, HX⟩ := hrel
      by_cases hlt : j < l.length
      · have hlt' : j < l'.length := by rw [← HLL.out]; exact hlt
        obtain ⟨b1, o1, _, cs, he, _, _, _, hrx, hcell⟩ := (HR.out.fr (by decide) HX.out.1 (fun _ _ _ h => h)).at_ j hlt
        cases he
        obtain ⟨x, hx⟩ : ∃ x, x = l[j] := ⟨_, rfl⟩
        have HXJ1 : Hid (l[j]? = some x) := (show _ = _ from by rw [hx]; exact List.getElem?_eq_getElem hlt)
        have hmem1 : Hid (x ∈ l) := (show x ∈ l from by rw [hx]; exact List.getElem_mem hlt)
        rw [← hx] at hrx
        obtain ⟨xk, xn, xs, xl⟩ := x
        obtain ⟨vl, rfl, hrow, hfit⟩ := itR_row hrx
        obtain ⟨A1, c1, rfl, _, _⟩ := hrow.shape
        have e10 := hcell 0 _ rfl
        have e11 := hcell 1 _ rfl
        have e12 := hcell 2 _ rfl
        have e13 := hcell 3 _ rfl
        simp only [show ItK.sz = 4 from rfl, Nat.add_zero, str] at e10 e11 e12 e13
        have HRX1 := Lib.hid hrx
        clear hcell hrow hfit hrx hx
        obtain ⟨b2, o2, _, cs, he, _, _, _, hrx, hcell⟩ := (HR'.out.fr (by decide) HX.out.1 (fun _ _ _ h => h)).at_ j hlt'
        cases he
        obtain ⟨y, hx⟩ : ∃ x, x = l'[j] := ⟨_, rfl⟩
        have HXJ2 : Hid (l'[j]? = some y) := (show _ = _ from by rw [hx]; exact List.getElem?_eq_getElem hlt')
        have hmem2 : Hid (y ∈ l') := (show y ∈ l' from by rw [hx]; exact List.getElem_mem hlt')
        rw [← hx] at hrx
        obtain ⟨yk, yn, ys, yl⟩ := y
        obtain ⟨vl, rfl, hrow, hfit⟩ := itR_row hrx
        obtain ⟨A2, c2, rfl, _, _⟩ := hrow.shape
        have e20 := hcell 0 _ rfl
        have e21 := hcell 1 _ rfl
        have e22 := hcell 2 _ rfl
        have e23 := hcell 3 _ rfl
        simp only [show ItK.sz = 4 from rfl, Nat.add_zero, str] at e20 e21 e22 e23
        have HRX2 := Lib.hid hrx
        clear hcell hrow hfit hrx hx
        obtain ⟨D, hD⟩ : ∃ D, Hid (D = It.same (.mk xk xn xs xl) (.mk yk yn ys yl)) := ⟨_, rfl⟩
        have g0 := cell_alloc e20 (.cells #[.int .i64 xk, .int .i64 xn, .string ⟨xs.toArray⟩, .slice A1 xl.length c1] 48 (0, 0))
        have g1 := cell_alloc e21 (.cells #[.int .i64 xk, .int .i64 xn, .string ⟨xs.toArray⟩, .slice A1 xl.length c1] 48 (0, 0))
        have g2 := cell_alloc e22 (.cells #[.int .i64 xk, .int .i64 xn, .string ⟨xs.toArray⟩, .slice A1 xl.length c1] 48 (0, 0))
        have g3 := cell_alloc e23 (.cells #[.int .i64 xk, .int .i64 xn, .string ⟨xs.toArray⟩, .slice A1 xl.length c1] 48 (0, 0))
        go_wp2_with fail
        obtain ⟨w4, hw4⟩ : ∃ w4, Hid (w4 = (wr.alloc (.cells #[.int .i64 xk, .int .i64 xn, .string ⟨xs.toArray⟩, .slice A1 xl.length c1] 48 (0, 0))).alloc (.cells #[.int .i64 yk, .int .i64 yn, .string ⟨ys.toArray⟩, .slice A2 yl.length c2] 48 (0, 0))) := ⟨_, rfl⟩
        rw [← hw4.out]
        have hf4 : Fr No wr w4 := by rw [hw4.out]; exact ((Fr.refl _ _).alloc _).alloc _
        refine (IH.out _ hmem1.out (.mk yk yn ys yl) w4 F1 F2 _ _ ⟨[.int .i64 xk, .int .i64 xn, .string ⟨xs.toArray⟩, .slice A1 xl.length c1], rfl, itR_move (w := wr) (w' := w4) (fun k _ hl => hf4.block k hl (fun h => h)) _ _ HRX1.out⟩ ⟨[.int .i64 yk, .int .i64 yn, .string ⟨ys.toArray⟩, .slice A2 yl.length c2], rfl, itR_move (w := wr) (w' := w4) (fun k _ hl => hf4.block k hl (fun h => h)) _ _ HRX2.out⟩).mono ?_
        rw [← hD.out]
        rintro e w5 ⟨rfl, hf5⟩
        have HF5 : Hid (Fr No w w5) := (show Fr No w w5 from (HX.out.1.then hf4).then hf5)
        clear hf5 hf4 e10 e11 e12 e13 e20 e21 e22 e23 g0 g1 g2 g3
        cases D
        · go_wp2_with fail
          go_ret
          refine (show Told _ _ _ _ from ⟨?_, HF5.out⟩)
          have h1 : It.sames l l' = false := by
            cases h : It.sames l l'
            · rfl
            · have := (It.sames_iff.1 h).2 j _ _ HXJ1.out HXJ2.out
              rw [← hD.out] at this; cases this
          rw [hC.out, h1]; rfl
        · have HX2 : Hid (Fr No w w5 ∧ (∀ (i : Nat) (x y : It), i < j + 1 → l[i]? = some x → l'[i]? = some y → It.same x y = true)) := by
            refine (show _ ∧ _ from ⟨HF5.out, fun i x y hi hx hy => ?_⟩)
            rcases Nat.lt_or_ge i j with h | h
            · exact HX.out.2 i x y h hx hy
            · have : i = j := by omega
              subst this
              rw [HXJ1.out] at hx
              rw [HXJ2.out] at hy
              cases hx; cases hy
              exact hD.out.symm
          go_wp2_with fail
          go_roundw
          case rel => exact ⟨j + 1, by omega, by go_num, HX2⟩
          case measure => simp [intOf]; omega
      · have hjl : j = l.length := by omega
        subst hjl
        clear hlt
        go_wp2_with fail
        go_ret
        refine (show Told _ _ _ _ from ⟨?_, HX.out.1⟩)
        have h1 : It.sames l l' = true := It.sames_iff.2 ⟨HLL.out, fun i x y hx hy => HX.out.2 i x y (List.getElem?_eq_some_iff.1 hx).1 hx hy⟩
        rw [hC.out, h1]; rfl
  · have h1 : It.sames l l' = false := by
      cases h : It.sames l l'
      · rfl
      · exact absurd (It.sames_iff.1 h).1 hll
    have hll2 : ¬ ((l.length : Int) = (l'.length : Int)) := by omega
    have H1 := Lib.hid h1
    clear hll h1
    go_enter Try.func82, Try.ntmps82
    go_wp2_with fail
    go_ret
    exact (show Told _ _ _ _ from ⟨by rw [hC.out, H1.out]; rfl, Fr.refl _ w⟩)
set_option maxHeartbeats 2000000 in
theorem same_any : ∀ (v : It) (u : It) (w : World) (F1 F2 : Nat → Prop) (v1 v2 : Value), ItV w F1 v1 v → ItV w F2 v2 u → Calls Try.prog 45 #[v1, v2] w (Told (.bool (It.same v u)) w) := by
  refine It.ind fun k n s l ih u w F1 F2 v1 v2 hv hu => ?_
  obtain ⟨k', n', s', l'⟩ := u
  obtain ⟨cs, rfl, hr⟩ := hv
  obtain ⟨vl, rfl, hrow, hfit⟩ := itR_row hr
  obtain ⟨A, c, rfl, hc1, hc2⟩ := hrow.shape
  obtain ⟨cs, rfl, hr'⟩ := hu
  obtain ⟨vl, rfl, hrow', hfit'⟩ := itR_row hr'
  obtain ⟨A', c', rfl, hc1', hc2'⟩ := hrow'.shape
  have hl2 : (l.length : Int) ≤ 9223372036854775807 := by simp only [maxLen] at hc2; omega
  have HR := Lib.hid hrow
  have HR' := Lib.hid hrow'
  have IH := Lib.hid ih
  obtain ⟨C, hC⟩ : ∃ C, Hid (C = It.same (.mk k n s l) (.mk k' n' s' l')) := ⟨_, rfl⟩
  rw [← hC.out]
  clear hr hrow hc2 ih hfit hr' hrow' hc2' hfit'
  unfold str
  by_cases hk : k = k'
  · subst hk
    by_cases hn : n = n'
    · subst hn
      by_cases hs : s = s'
      · subst hs
        obtain ⟨D, hD⟩ : ∃ D, Hid (D = It.sames l l') := ⟨_, rfl⟩
        have hCD : Hid (C = D) := (show C = D from by rw [hC.out, hD.out, It.same]; simp)
        go_enter Try.func45, Try.ntmps45
        go_wp2_with fail
        obtain ⟨w4, hw4⟩ : ∃ w4, Hid (w4 = (w.alloc (.cells #[.int .i64 k, .int .i64 n, .string ⟨s.toArray⟩, .slice A l.length c] 48 (0, 0))).alloc (.cells #[.int .i64 k, .int .i64 n, .string ⟨s.toArray⟩, .slice A' l'.length c'] 48 (0, 0))) := ⟨_, rfl⟩
        rw [← hw4.out]
        have hf4 : Fr No w w4 := by rw [hw4.out]; exact ((Fr.refl _ _).alloc _).alloc _
        refine (equalfunc_any IH.out (HR.out.fr (by decide) hf4 (fun _ _ _ h => h)) (HR'.out.fr (by decide) hf4 (fun _ _ _ h => h))).mono ?_
        rw [← hD.out]
        rintro e w5 ⟨rfl, hf5⟩
        have HF5 : Hid (Fr No w w5) := (show Fr No w w5 from hf4.then hf5)
        clear hf5 hf4
        go_wp2_with fail
        go_ret
        exact (show Told _ _ _ _ from ⟨by rw [hCD.out]; rfl, HF5.out⟩)
      · have hs2 := str_ne hs
        have HS := Lib.hid hs
        clear hs
        go_enter Try.func45, Try.ntmps45
        go_wp2_with fail
        go_ret
        exact (show Told _ _ _ _ from ⟨by rw [hC.out, It.same]; simp [HS.out], ((Fr.refl _ w).alloc _).alloc _⟩)
    · skip
      go_enter Try.func45, Try.ntmps45
      go_wp2_with fail
      go_ret
      exact (show Told _ _ _ _ from ⟨by rw [hC.out, It.same]; simp [hn], ((Fr.refl _ w).alloc _).alloc _⟩)
  · skip
    go_enter Try.func45, Try.ntmps45
    go_wp2_with fail
    go_ret
    exact (show Told _ _ _ _ from ⟨by rw [hC.out, It.same]; simp [hk], ((Fr.refl _ w).alloc _).alloc _⟩)
end Go.Proofs.Ytbaohngnpgappaa
