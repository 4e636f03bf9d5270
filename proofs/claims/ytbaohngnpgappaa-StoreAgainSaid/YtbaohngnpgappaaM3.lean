/- Joined texts: W4, W5, W6, W7, W8, W9, W10, W11, W12, W13, W14. -/
import Derived.Test.YtbaohngnpgappaaM2
import Derived.Test.YtbaohngnpgappaaM0
import Derived.Handy
import Derived.Lib.UnsafeStr
set_option linter.unusedVariables false
set_option linter.unusedSimpArgs false
namespace Go.Proofs.Ytbaohngnpgappaa
open Go.RowKit
mutual
def It.same : It → It → Bool
  | .mk k n s l, .mk k' n' s' l' => decide (k = k') && decide (n = n') && decide (s = s') && It.sames l l'
def It.sames : List It → List It → Bool
  | [], [] => true
  | x :: r, y :: t => It.same x y && It.sames r t
  | _, _ => false
end
theorem It.sames_iff : ∀ {l l' : List It}, It.sames l l' = true ↔ l.length = l'.length ∧ ∀ (j : Nat) (x y : It), l[j]? = some x → l'[j]? = some y → It.same x y = true := by
  intro l
  induction l with
  | nil =>
    intro l'
    cases l' with
    | nil => simp [It.sames]
    | cons y t => simp [It.sames]
  | cons x r ih =>
    intro l'
    cases l' with
    | nil => simp [It.sames]
    | cons y t =>
      rw [It.sames, Bool.and_eq_true, ih]
      constructor
      · rintro ⟨h1, h2, h3⟩
        refine ⟨by simp [h2], fun j a b ha hb => ?_⟩
        rcases j with _ | j
        · cases ha; cases hb; exact h1
        · exact h3 j a b ha hb
      · rintro ⟨h1, h2⟩
        exact ⟨h2 0 x y rfl rfl, by simpa using h1, fun j a b ha hb => h2 (j + 1) a b ha hb⟩
theorem str_ne {s s' : List UInt8} (h : s ≠ s') : (⟨s.toArray⟩ : ByteArray) ≠ ⟨s'.toArray⟩ := by
  intro e
  injection e with e
  exact h (by simpa using e)
set_option maxHeartbeats 2000000 in
theorem refsame_any : ∀ (v : It) (u : It) (w : World) (F1 F2 : Nat → Prop) (v1 v2 : Value), ItV w F1 v1 v → ItV w F2 v2 u → Calls Try.prog 44 #[v1, v2] w (Told (.bool (It.same v u)) w) := by
  refine It.ind fun k n s l ih u w F1 F2 v1 v2 hv hu => ?_
  obtain ⟨k', n', s', l'⟩ := u
  obtain ⟨cs, rfl, hr⟩ := hv
  obtain ⟨vl, rfl, hrow, hfit⟩ := itR_row hr
  obtain ⟨A, c, rfl, hc1, hc2⟩ := hrow.shape
  obtain ⟨cs, rfl, hr'⟩ := hu
  obtain ⟨vl, rfl, hrow', hfit'⟩ := itR_row hr'
  obtain ⟨A', c', rfl, hc1', hc2'⟩ := hrow'.shape
  have hl2 : (l.length : Int) ≤ 9223372036854775807 := by simp only [maxLen] at hc2; omega
  have HR := Lib.hid hrow
  have HR' := Lib.hid hrow'
  have IH := Lib.hid ih
  obtain ⟨C, hC⟩ : ∃ C, Hid (C = It.same (.mk k n s l) (.mk k' n' s' l')) := ⟨_, rfl⟩
  rw [← hC.out]
  clear hr hrow hc2 ih hfit hr' hrow' hc2' hfit'
  unfold str
  by_cases hk : k = k'
  · subst hk
    by_cases hn : n = n'
    · subst hn
      by_cases hs : s = s'
      · subst hs
        by_cases hll : l.length = l'.length
        · rw [← hll]
          have HLL := Lib.hid hll
          clear hll
          go_enter Try.func44, Try.ntmps44
          go_wp2_with fail
          go_loopw [37] (fun i wr => ∃ (j : Nat), j ≤ l.length ∧ i = .int .i64 j ∧ Hid (Fr No w wr ∧ (∀ (i : Nat) (x y : It), i < j → l[i]? = some x → l'[i]? = some y → It.same x y = true) ∧ wr.heap[w.heap.size]? = some (.cells #[.int .i64 k, .int .i64 n, .string ⟨s.toArray⟩, .slice A l.length c] 48 (0, 0)) ∧ wr.heap[w.heap.size + 1]? = some (.cells #[.int .i64 k, .int .i64 n, .string ⟨s.toArray⟩, .slice A' l.length c'] 48 (0, 0)))) (fun i _ => l.length - (intOf i).toNat)
          case atStart => exact ⟨0, Nat.zero_le _, rfl, (show _ ∧ _ from ⟨((Fr.refl _ w).alloc _).alloc _, fun _ _ _ h => absurd h (Nat.not_lt_zero _), blk_alloc (blk_new _ _) _, blk_new' (by simp)⟩)⟩
          case round =>
            obtain ⟨j, hj, rfl, HX⟩ := hrel
            by_cases hlt : j < l.length
            · have hlt' : j < l'.length := by rw [← HLL.out]; exact hlt
              obtain ⟨b1, o1, _, cs, he, _, _, _, hrx, hcell⟩ := (HR.out.fr (by decide) HX.out.1 (fun _ _ _ h => h)).at_ j hlt
              cases he
              obtain ⟨x, hx⟩ : ∃ x, x = l[j] := ⟨_, rfl⟩
              have HXJ1 : Hid (l[j]? = some x) := (show _ = _ from by rw [hx]; exact List.getElem?_eq_getElem hlt)
              have hmem1 : Hid (x ∈ l) := (show x ∈ l from by rw [hx]; exact List.getElem_mem hlt)
              rw [← hx] at hrx
              obtain ⟨xk, xn, xs, xl⟩ := x
              obtain ⟨vl, rfl, hrow, hfit⟩ := itR_row hrx
              obtain ⟨A1, c1, rfl, _, _⟩ := hrow.shape
              have e10 := hcell 0 _ rfl
              have e11 := hcell 1 _ rfl
              have e12 := hcell 2 _ rfl
              have e13 := hcell 3 _ rfl
              simp only [show ItK.sz = 4 from rfl, Nat.add_zero, str] at e10 e11 e12 e13
              have HRX1 := Lib.hid hrx
              clear hcell hrow hfit hrx hx
              obtain ⟨b2, o2, _, cs, he, _, _, _, hrx, hcell⟩ := (HR'.out.fr (by decide) HX.out.1 (fun _ _ _ h => h)).at_ j hlt'
              cases he
              obtain ⟨y, hx⟩ : ∃ x, x = l'[j] := ⟨_, rfl⟩
              have HXJ2 : Hid (l'[j]? = some y) := (show _ = _ from by rw [hx]; exact List.getElem?_eq_getElem hlt')
              have hmem2 : Hid (y ∈ l') := (show y ∈ l' from by rw [hx]; exact List.getElem_mem hlt')
              rw [← hx] at hrx
              obtain ⟨yk, yn, ys, yl⟩ := y
              obtain ⟨vl, rfl, hrow, hfit⟩ := itR_row hrx
              obtain ⟨A2, c2, rfl, _, _⟩ := hrow.shape
              have e20 := hcell 0 _ rfl
              have e21 := hcell 1 _ rfl
              have e22 := hcell 2 _ rfl
              have e23 := hcell 3 _ rfl
              simp only [show ItK.sz = 4 from rfl, Nat.add_zero, str] at e20 e21 e22 e23
              have HRX2 := Lib.hid hrx
              clear hcell hrow hfit hrx hx
              have d1 := blk_cell HX.out.2.2.1 3
              have d2 := blk_cell HX.out.2.2.2 3
              simp only [List.getElem?_toArray, List.getElem?_cons_zero, List.getElem?_cons_succ] at d1 d2
              go_wp2_with fail
              refine wp_seq_region (fun W => W.cell? ⟨w.heap.size, 3, none⟩ = some (.slice (some ⟨b1, o1, none⟩) l.length c) ∧ W.cell? ⟨w.heap.size + 1, 3, none⟩ = some (.slice (some ⟨b2, o2, none⟩) l.length c') ∧ W.cell? ⟨b1, o1 + j * 4, none⟩ = some (.int .i64 xk) ∧ W.cell? ⟨b1, o1 + j * 4 + 1, none⟩ = some (.int .i64 xn) ∧ W.cell? ⟨b1, o1 + j * 4 + 2, none⟩ = some (.string ⟨xs.toArray⟩) ∧ W.cell? ⟨b1, o1 + j * 4 + 3, none⟩ = some (.slice A1 xl.length c1) ∧ W.cell? ⟨b2, o2 + j * 4, none⟩ = some (.int .i64 yk) ∧ W.cell? ⟨b2, o2 + j * 4 + 1, none⟩ = some (.int .i64 yn) ∧ W.cell? ⟨b2, o2 + j * 4 + 2, none⟩ = some (.string ⟨ys.toArray⟩) ∧ W.cell? ⟨b2, o2 + j * 4 + 3, none⟩ = some (.slice A2 yl.length c2)) [10] [1, 4, 6, 9] [] [0, 1, 2, 3, 4, 5, 6, 7, 8, 9, 10, 11] (by kernel_rfl) (by kernel_rfl) rfl (by kernel_rfl) (fun _ _ _ _ _ h => h) ?_
              have HS : Hid (wr.drew.cell? ⟨w.heap.size, 3, none⟩ = some (.slice (some ⟨b1, o1, none⟩) l.length c) ∧ wr.drew.cell? ⟨w.heap.size + 1, 3, none⟩ = some (.slice (some ⟨b2, o2, none⟩) l.length c') ∧ wr.drew.cell? ⟨b1, o1 + j * 4, none⟩ = some (.int .i64 xk) ∧ wr.drew.cell? ⟨b1, o1 + j * 4 + 1, none⟩ = some (.int .i64 xn) ∧ wr.drew.cell? ⟨b1, o1 + j * 4 + 2, none⟩ = some (.string ⟨xs.toArray⟩) ∧ wr.drew.cell? ⟨b1, o1 + j * 4 + 3, none⟩ = some (.slice A1 xl.length c1) ∧ wr.drew.cell? ⟨b2, o2 + j * 4, none⟩ = some (.int .i64 yk) ∧ wr.drew.cell? ⟨b2, o2 + j * 4 + 1, none⟩ = some (.int .i64 yn) ∧ wr.drew.cell? ⟨b2, o2 + j * 4 + 2, none⟩ = some (.string ⟨ys.toArray⟩) ∧ wr.drew.cell? ⟨b2, o2 + j * 4 + 3, none⟩ = some (.slice A2 yl.length c2)) := (show _ ∧ _ from ⟨d1, d2, e10, e11, e12, e13, e20, e21, e22, e23⟩)
              clear d1 d2 e10 e11 e12 e13 e20 e21 e22 e23
              repeat (first
                | (refine sq_off (a' := ?_) rfl rfl (by rfl) (fun _ => (HS).out) ?ha ?_; (case ha => simp only [Act.put, List.setIfInBounds_toArray, List.set_cons_zero, List.set_cons_succ]; rfl))
                | (refine sq_any (v := ?_) (a' := ?_) rfl rfl rfl (by rfl) (fun W => ?hr) ?ha ?_; (case hr => go_simp; first | done | rfl); (case ha => simp only [Act.put, List.setIfInBounds_toArray, List.set_cons_zero, List.set_cons_succ]; rfl))
                | (refine sq_load (v := ?_) (a' := ?_) rfl rfl rfl (by rfl) (fun W hSW => ?hr) (HS).out ?ha ?_; (case hr => (try dsimp only at hSW); go_simp; first | done | rfl); (case ha => simp only [Act.put, List.setIfInBounds_toArray, List.set_cons_zero, List.set_cons_succ]; rfl)))
              refine sq_call rfl rfl (by rfl) rfl Try.func44 rfl rfl [.agg #[.int .i64 xk, .int .i64 xn, .string ⟨xs.toArray⟩, .slice A1 xl.length c1], .agg #[.int .i64 yk, .int .i64 yn, .string ⟨ys.toArray⟩, .slice A2 yl.length c2]] rfl ?_
              refine (IH.out _ hmem1.out (.mk yk yn ys yl) wr.drew F1 F2 _ _ ⟨[.int .i64 xk, .int .i64 xn, .string ⟨xs.toArray⟩, .slice A1 xl.length c1], rfl, itR_move (w := wr) (w' := wr.drew) (fun _ _ _ => rfl) _ _ HRX1.out⟩ ⟨[.int .i64 yk, .int .i64 yn, .string ⟨ys.toArray⟩, .slice A2 yl.length c2], rfl, itR_move (w := wr) (w' := wr.drew) (fun _ _ _ => rfl) _ _ HRX2.out⟩).mono ?_
              obtain ⟨D, hD⟩ : ∃ D, Hid (D = It.same (.mk xk xn xs xl) (.mk yk yn ys yl)) := ⟨_, rfl⟩
              rw [← hD.out]
              rintro e w5 ⟨rfl, hf5⟩
              have HF5 := Lib.hid (((Fr.refl No wr).drew).then hf5)
              clear hf5
              refine ⟨_, rfl, fun _ => ?_, ?_⟩
              · obtain ⟨q0, q1, q2, q3, q4, q5, q6, q7, q8, q9⟩ := HS.out
                exact ⟨HF5.out.cell q0 (fun h => h), HF5.out.cell q1 (fun h => h), HF5.out.cell q2 (fun h => h), HF5.out.cell q3 (fun h => h), HF5.out.cell q4 (fun h => h), HF5.out.cell q5 (fun h => h), HF5.out.cell q6 (fun h => h), HF5.out.cell q7 (fun h => h), HF5.out.cell q8 (fun h => h), HF5.out.cell q9 (fun h => h)⟩
              simp only [Act.put, List.setIfInBounds_toArray, List.set_cons_zero, List.set_cons_succ]
              repeat (first
                | (refine sq_off (a' := ?_) rfl rfl (by rfl) (fun _ => (HS).out) ?ha ?_; (case ha => simp only [Act.put, List.setIfInBounds_toArray, List.set_cons_zero, List.set_cons_succ]; rfl))
                | (refine sq_any (v := ?_) (a' := ?_) rfl rfl rfl (by rfl) (fun W => ?hr) ?ha ?_; (case hr => go_simp; first | done | rfl); (case ha => simp only [Act.put, List.setIfInBounds_toArray, List.set_cons_zero, List.set_cons_succ]; rfl))
                | (refine sq_load (v := ?_) (a' := ?_) rfl rfl rfl (by rfl) (fun W hSW => ?hr) (HS).out ?ha ?_; (case hr => (try dsimp only at hSW); go_simp; first | done | rfl); (case ha => simp only [Act.put, List.setIfInBounds_toArray, List.set_cons_zero, List.set_cons_succ]; rfl)))
              refine sq_done ?_
              cases D
              · go_wp2_with fail
                go_ret
                refine (show Told _ _ _ _ from ⟨?_, HX.out.1.then HF5.out⟩)
                have h1 : It.sames l l' = false := by
                  cases h : It.sames l l'
                  · rfl
                  · have := (It.sames_iff.1 h).2 j _ _ HXJ1.out HXJ2.out
                    rw [← hD.out] at this; cases this
                rw [hC.out, It.same, h1]; simp
              · have HX2 : Hid (Fr No w w5 ∧ (∀ (i : Nat) (x y : It), i < j + 1 → l[i]? = some x → l'[i]? = some y → It.same x y = true) ∧ w5.heap[w.heap.size]? = some (.cells #[.int .i64 k, .int .i64 n, .string ⟨s.toArray⟩, .slice (some ⟨b1, o1, none⟩) l.length c] 48 (0, 0)) ∧ w5.heap[w.heap.size + 1]? = some (.cells #[.int .i64 k, .int .i64 n, .string ⟨s.toArray⟩, .slice (some ⟨b2, o2, none⟩) l.length c'] 48 (0, 0))) := by
                  refine (show _ ∧ _ from ⟨HX.out.1.then HF5.out, fun i x y hi hx hy => ?_, HF5.out.heap HX.out.2.2.1 (fun h => h), HF5.out.heap HX.out.2.2.2 (fun h => h)⟩)
                  rcases Nat.lt_or_ge i j with h | h
                  · exact HX.out.2.1 i x y h hx hy
                  · have : i = j := by omega
                    subst this
                    rw [HXJ1.out] at hx
                    rw [HXJ2.out] at hy
                    cases hx; cases hy
                    exact hD.out.symm
                go_wp2_with fail
                go_roundw
                case rel => exact ⟨j + 1, by omega, by go_num, HX2⟩
                case measure => simp [intOf]; omega
            · have hjl : j = l.length := by omega
              subst hjl
              clear hlt
              go_wp2_with fail
              go_ret
              refine (show Told _ _ _ _ from ⟨?_, HX.out.1⟩)
              have h1 : It.sames l l' = true := It.sames_iff.2 ⟨HLL.out, fun i x y hx hy => HX.out.2.1 i x y (List.getElem?_eq_some_iff.1 hx).1 hx hy⟩
              rw [hC.out, It.same, h1]; simp
        · have h1 : It.sames l l' = false := by
            cases h : It.sames l l'
            · rfl
            · exact absurd (It.sames_iff.1 h).1 hll
          have hll2 : ¬ ((l.length : Int) = (l'.length : Int)) := by omega
          have H1 := Lib.hid h1
          clear hll h1
          go_enter Try.func44, Try.ntmps44
          go_wp2_with fail
          go_ret
          exact (show Told _ _ _ _ from ⟨by rw [hC.out, It.same, H1.out]; simp, ((Fr.refl _ w).alloc _).alloc _⟩)
      · have hs2 := str_ne hs
        have HS := Lib.hid hs
        clear hs
        go_enter Try.func44, Try.ntmps44
        go_wp2_with fail
        go_ret
        exact (show Told _ _ _ _ from ⟨by rw [hC.out, It.same]; simp [HS.out], ((Fr.refl _ w).alloc _).alloc _⟩)
    · go_enter Try.func44, Try.ntmps44
      go_wp2_with fail
      go_ret
      exact (show Told _ _ _ _ from ⟨by rw [hC.out, It.same]; simp [hn], ((Fr.refl _ w).alloc _).alloc _⟩)
  · go_enter Try.func44, Try.ntmps44
    go_wp2_with fail
    go_ret
    exact (show Told _ _ _ _ from ⟨by rw [hC.out, It.same]; simp [hk], ((Fr.refl _ w).alloc _).alloc _⟩)
end Go.Proofs.Ytbaohngnpgappaa
namespace Go.Proofs.Ytbaohngnpgappaa
open Go.RowKit
set_option maxHeartbeats 2000000 in
theorem equalfunc_any {l l' : List It} (ih : ∀ x ∈ l, ∀ (u : It) (w : World) (F1 F2 : Nat → Prop) (v1 v2 : Value), ItV w F1 v1 x → ItV w F2 v2 u → Calls Try.prog 45 #[v1, v2] w (Told (.bool (It.same x u)) w))
    {w : World} {F1 F2 : Nat → Prop} {v1 v2 : Value} (h1 : Row ItK w F1 v1 l) (h2 : Row ItK w F2 v2 l') : Calls Try.prog 82 #[v1, v2, .func (.func 45) #[] #[]] w (Told (.bool (It.sames l l')) w) := by
  obtain ⟨A, c, rfl, hc1, hc2⟩ := h1.shape
  obtain ⟨A', c', rfl, hc1', hc2'⟩ := h2.shape
  have hl2 : (l.length : Int) ≤ 9223372036854775807 := by simp only [maxLen] at hc2; omega
  have HR := Lib.hid h1
  have HR' := Lib.hid h2
  have IH := Lib.hid ih
  obtain ⟨C, hC⟩ : ∃ C, Hid (C = It.sames l l') := ⟨_, rfl⟩
  rw [← hC.out]
  clear h1 h2 ih hc2 hc2'
  by_cases hll : l.length = l'.length
  · rw [← hll]
    have HLL := Lib.hid hll
    clear hll
    go_enter Try.func82, Try.ntmps82
    go_wp2_with fail
    go_loopw [17] (fun i wr => ∃ (j : Nat), j ≤ l.length ∧ i = .int .i64 j ∧ Hid (Fr No w wr ∧ (∀ (i : Nat) (x y : It), i < j → l[i]? = some x → l'[i]? = some y → It.same x y = true))) (fun i _ => l.length - (intOf i).toNat)
    case atStart => exact ⟨0, Nat.zero_le _, rfl, (show _ ∧ _ from ⟨Fr.refl _ w, fun _ _ _ h => absurd h (Nat.not_lt_zero _)⟩)⟩
    case round =>
      obtain ⟨j, hj, rfl, HX⟩ := hrel
      by_cases hlt : j < l.length
      · have hlt' : j < l'.length := by rw [← HLL.out]; exact hlt
        obtain ⟨b1, o1, _, cs, he, _, _, _, hrx, hcell⟩ := (HR.out.fr (by decide) HX.out.1 (fun _ _ _ h => h)).at_ j hlt
        cases he
        obtain ⟨x, hx⟩ : ∃ x, x = l[j] := ⟨_, rfl⟩
        have HXJ1 : Hid (l[j]? = some x) := (show _ = _ from by rw [hx]; exact List.getElem?_eq_getElem hlt)
        have hmem1 : Hid (x ∈ l) := (show x ∈ l from by rw [hx]; exact List.getElem_mem hlt)
        rw [← hx] at hrx
        obtain ⟨xk, xn, xs, xl⟩ := x
        obtain ⟨vl, rfl, hrow, hfit⟩ := itR_row hrx
        obtain ⟨A1, c1, rfl, _, _⟩ := hrow.shape
        have e10 := hcell 0 _ rfl
        have e11 := hcell 1 _ rfl
        have e12 := hcell 2 _ rfl
        have e13 := hcell 3 _ rfl
        simp only [show ItK.sz = 4 from rfl, Nat.add_zero, str] at e10 e11 e12 e13
        have HRX1 := Lib.hid hrx
        clear hcell hrow hfit hrx hx
        obtain ⟨b2, o2, _, cs, he, _, _, _, hrx, hcell⟩ := (HR'.out.fr (by decide) HX.out.1 (fun _ _ _ h => h)).at_ j hlt'
        cases he
        obtain ⟨y, hx⟩ : ∃ x, x = l'[j] := ⟨_, rfl⟩
        have HXJ2 : Hid (l'[j]? = some y) := (show _ = _ from by rw [hx]; exact List.getElem?_eq_getElem hlt')
        have hmem2 : Hid (y ∈ l') := (show y ∈ l' from by rw [hx]; exact List.getElem_mem hlt')
        rw [← hx] at hrx
        obtain ⟨yk, yn, ys, yl⟩ := y
        obtain ⟨vl, rfl, hrow, hfit⟩ := itR_row hrx
        obtain ⟨A2, c2, rfl, _, _⟩ := hrow.shape
        have e20 := hcell 0 _ rfl
        have e21 := hcell 1 _ rfl
        have e22 := hcell 2 _ rfl
        have e23 := hcell 3 _ rfl
        simp only [show ItK.sz = 4 from rfl, Nat.add_zero, str] at e20 e21 e22 e23
        have HRX2 := Lib.hid hrx
        clear hcell hrow hfit hrx hx
        obtain ⟨D, hD⟩ : ∃ D, Hid (D = It.same (.mk xk xn xs xl) (.mk yk yn ys yl)) := ⟨_, rfl⟩
        have g0 := cell_alloc e20 (.cells #[.int .i64 xk, .int .i64 xn, .string ⟨xs.toArray⟩, .slice A1 xl.length c1] 48 (0, 0))
        have g1 := cell_alloc e21 (.cells #[.int .i64 xk, .int .i64 xn, .string ⟨xs.toArray⟩, .slice A1 xl.length c1] 48 (0, 0))
        have g2 := cell_alloc e22 (.cells #[.int .i64 xk, .int .i64 xn, .string ⟨xs.toArray⟩, .slice A1 xl.length c1] 48 (0, 0))
        have g3 := cell_alloc e23 (.cells #[.int .i64 xk, .int .i64 xn, .string ⟨xs.toArray⟩, .slice A1 xl.length c1] 48 (0, 0))
        go_wp2_with fail
        obtain ⟨w4, hw4⟩ : ∃ w4, Hid (w4 = (wr.alloc (.cells #[.int .i64 xk, .int .i64 xn, .string ⟨xs.toArray⟩, .slice A1 xl.length c1] 48 (0, 0))).alloc (.cells #[.int .i64 yk, .int .i64 yn, .string ⟨ys.toArray⟩, .slice A2 yl.length c2] 48 (0, 0))) := ⟨_, rfl⟩
        rw [← hw4.out]
        have hf4 : Fr No wr w4 := by rw [hw4.out]; exact ((Fr.refl _ _).alloc _).alloc _
        refine (IH.out _ hmem1.out (.mk yk yn ys yl) w4 F1 F2 _ _ ⟨[.int .i64 xk, .int .i64 xn, .string ⟨xs.toArray⟩, .slice A1 xl.length c1], rfl, itR_move (w := wr) (w' := w4) (fun k _ hl => hf4.block k hl (fun h => h)) _ _ HRX1.out⟩ ⟨[.int .i64 yk, .int .i64 yn, .string ⟨ys.toArray⟩, .slice A2 yl.length c2], rfl, itR_move (w := wr) (w' := w4) (fun k _ hl => hf4.block k hl (fun h => h)) _ _ HRX2.out⟩).mono ?_
        rw [← hD.out]
        rintro e w5 ⟨rfl, hf5⟩
        have HF5 : Hid (Fr No w w5) := (show Fr No w w5 from (HX.out.1.then hf4).then hf5)
        clear hf5 hf4 e10 e11 e12 e13 e20 e21 e22 e23 g0 g1 g2 g3
        cases D
        · go_wp2_with fail
          go_ret
          refine (show Told _ _ _ _ from ⟨?_, HF5.out⟩)
          have h1 : It.sames l l' = false := by
            cases h : It.sames l l'
            · rfl
            · have := (It.sames_iff.1 h).2 j _ _ HXJ1.out HXJ2.out
              rw [← hD.out] at this; cases this
          rw [hC.out, h1]; rfl
        · have HX2 : Hid (Fr No w w5 ∧ (∀ (i : Nat) (x y : It), i < j + 1 → l[i]? = some x → l'[i]? = some y → It.same x y = true)) := by
            refine (show _ ∧ _ from ⟨HF5.out, fun i x y hi hx hy => ?_⟩)
            rcases Nat.lt_or_ge i j with h | h
            · exact HX.out.2 i x y h hx hy
            · have : i = j := by omega
              subst this
              rw [HXJ1.out] at hx
              rw [HXJ2.out] at hy
              cases hx; cases hy
              exact hD.out.symm
          go_wp2_with fail
          go_roundw
          case rel => exact ⟨j + 1, by omega, by go_num, HX2⟩
          case measure => simp [intOf]; omega
      · have hjl : j = l.length := by omega
        subst hjl
        clear hlt
        go_wp2_with fail
        go_ret
        refine (show Told _ _ _ _ from ⟨?_, HX.out.1⟩)
        have h1 : It.sames l l' = true := It.sames_iff.2 ⟨HLL.out, fun i x y hx hy => HX.out.2 i x y (List.getElem?_eq_some_iff.1 hx).1 hx hy⟩
        rw [hC.out, h1]; rfl
  · have h1 : It.sames l l' = false := by
      cases h : It.sames l l'
      · rfl
      · exact absurd (It.sames_iff.1 h).1 hll
    have hll2 : ¬ ((l.length : Int) = (l'.length : Int)) := by omega
    have H1 := Lib.hid h1
    clear hll h1
    go_enter Try.func82, Try.ntmps82
    go_wp2_with fail
    go_ret
    exact (show Told _ _ _ _ from ⟨by rw [hC.out, H1.out]; rfl, Fr.refl _ w⟩)
set_option maxHeartbeats 2000000 in
theorem same_any : ∀ (v : It) (u : It) (w : World) (F1 F2 : Nat → Prop) (v1 v2 : Value), ItV w F1 v1 v → ItV w F2 v2 u → Calls Try.prog 45 #[v1, v2] w (Told (.bool (It.same v u)) w) := by
  refine It.ind fun k n s l ih u w F1 F2 v1 v2 hv hu => ?_
  obtain ⟨k', n', s', l'⟩ := u
  obtain ⟨cs, rfl, hr⟩ := hv
  obtain ⟨vl, rfl, hrow, hfit⟩ := itR_row hr
  obtain ⟨A, c, rfl, hc1, hc2⟩ := hrow.shape
  obtain ⟨cs, rfl, hr'⟩ := hu
  obtain ⟨vl, rfl, hrow', hfit'⟩ := itR_row hr'
  obtain ⟨A', c', rfl, hc1', hc2'⟩ := hrow'.shape
  have hl2 : (l.length : Int) ≤ 9223372036854775807 := by simp only [maxLen] at hc2; omega
  have HR := Lib.hid hrow
  have HR' := Lib.hid hrow'
  have IH := Lib.hid ih
  obtain ⟨C, hC⟩ : ∃ C, Hid (C = It.same (.mk k n s l) (.mk k' n' s' l')) := ⟨_, rfl⟩
  rw [← hC.out]
  clear hr hrow hc2 ih hfit hr' hrow' hc2' hfit'
  unfold str
  by_cases hk : k = k'
  · subst hk
    by_cases hn : n = n'
    · subst hn
      by_cases hs : s = s'
      · subst hs
        obtain ⟨D, hD⟩ : ∃ D, Hid (D = It.sames l l') := ⟨_, rfl⟩
        have hCD : Hid (C = D) := (show C = D from by rw [hC.out, hD.out, It.same]; simp)
        go_enter Try.func45, Try.ntmps45
        go_wp2_with fail
        obtain ⟨w4, hw4⟩ : ∃ w4, Hid (w4 = (w.alloc (.cells #[.int .i64 k, .int .i64 n, .string ⟨s.toArray⟩, .slice A l.length c] 48 (0, 0))).alloc (.cells #[.int .i64 k, .int .i64 n, .string ⟨s.toArray⟩, .slice A' l'.length c'] 48 (0, 0))) := ⟨_, rfl⟩
        rw [← hw4.out]
        have hf4 : Fr No w w4 := by rw [hw4.out]; exact ((Fr.refl _ _).alloc _).alloc _
        refine (equalfunc_any IH.out (HR.out.fr (by decide) hf4 (fun _ _ _ h => h)) (HR'.out.fr (by decide) hf4 (fun _ _ _ h => h))).mono ?_
        rw [← hD.out]
        rintro e w5 ⟨rfl, hf5⟩
        have HF5 : Hid (Fr No w w5) := (show Fr No w w5 from hf4.then hf5)
        clear hf5 hf4
        go_wp2_with fail
        go_ret
        exact (show Told _ _ _ _ from ⟨by rw [hCD.out]; rfl, HF5.out⟩)
      · have hs2 := str_ne hs
        have HS := Lib.hid hs
        clear hs
        go_enter Try.func45, Try.ntmps45
        go_wp2_with fail
        go_ret
        exact (show Told _ _ _ _ from ⟨by rw [hC.out, It.same]; simp [HS.out], ((Fr.refl _ w).alloc _).alloc _⟩)
    · skip
      go_enter Try.func45, Try.ntmps45
      go_wp2_with fail
      go_ret
      exact (show Told _ _ _ _ from ⟨by rw [hC.out, It.same]; simp [hn], ((Fr.refl _ w).alloc _).alloc _⟩)
  · skip
    go_enter Try.func45, Try.ntmps45
    go_wp2_with fail
    go_ret
    exact (show Told _ _ _ _ from ⟨by rw [hC.out, It.same]; simp [hk], ((Fr.refl _ w).alloc _).alloc _⟩)
end Go.Proofs.Ytbaohngnpgappaa
namespace Go.Proofs.Ytbaohngnpgappaa
open Go.RowKit
theorem xor32 (a b : Nat) (ha : a < 4294967296) (hb : b < 4294967296) : bits .xor .u32 (a : Int) (b : Int) = ((a ^^^ b : Nat) : Int) := by
  have hx : a ^^^ b < 2 ^ 32 := Nat.xor_lt_two_pow (by omega) (by omega)
  have h1 : (BitVec.ofInt 32 (a : Int)).toNat = a := by
    rw [BitVec.ofInt_natCast, BitVec.toNat_ofNat]; exact Nat.mod_eq_of_lt (by omega)
  have h2 : (BitVec.ofInt 32 (b : Int)).toNat = b := by
    rw [BitVec.ofInt_natCast, BitVec.toNat_ofNat]; exact Nat.mod_eq_of_lt (by omega)
  show IntKind.u32.wrap ((BitVec.ofInt 32 (a : Int) ^^^ BitVec.ofInt 32 (b : Int)).toNat : Int) = _
  rw [BitVec.toNat_xor, h1, h2, IntKind.wrap_u32]
  omega
theorem wraps_u32 (n : Int) (h₀ : 0 ≤ n) (h₁ : n < 2 ^ 32) : IntKind.u32.wrap n = n := by rw [IntKind.wrap_u32]; omega
theorem and1_32 (a : Nat) (ha : a < 4294967296) : bits .and .u32 (a : Int) 1 = ((a % 2 : Nat) : Int) := by
  have h := (bits_nat .u32 32 (by decide) wraps_u32 a 1 (by omega) (by decide)).1
  rw [Nat.and_one_is_mod] at h
  exact h
def crcBit (s : Nat) : Nat := if s % 2 = 1 then (s / 2) ^^^ 3988292384 else s / 2
def crcBits : Nat → Nat → Nat
  | 0, s => s
  | k + 1, s => crcBit (crcBits k s)
def crcByte (s : Nat) (c : UInt8) : Nat := crcBits 8 (s ^^^ c.toNat)
def crcAll (l : List UInt8) : Nat := l.foldl crcByte 4294967295
def crc (l : List UInt8) : Nat := crcAll l ^^^ 4294967295
theorem xor_lt32 {a b : Nat} (ha : a < 4294967296) (hb : b < 4294967296) : a ^^^ b < 4294967296 := Nat.xor_lt_two_pow (n := 32) ha hb
theorem crcBit_lt {s : Nat} (h : s < 4294967296) : crcBit s < 4294967296 := by
  unfold crcBit
  split
  · exact xor_lt32 (by omega) (by decide)
  · omega
theorem crcBits_lt {s : Nat} (h : s < 4294967296) : ∀ k, crcBits k s < 4294967296 := by
  intro k
  induction k with
  | zero => exact h
  | succ k ih => exact crcBit_lt ih
theorem crcByte_lt {s : Nat} {c : UInt8} (h : s < 4294967296) : crcByte s c < 4294967296 := crcBits_lt (xor_lt32 h (by have := c.toNat_lt; omega)) 8
theorem crcAll_lt (l : List UInt8) : crcAll l < 4294967296 := by
  unfold crcAll
  suffices h : ∀ (l : List UInt8) (s : Nat), s < 4294967296 → l.foldl crcByte s < 4294967296 from h l _ (by decide)
  intro l
  induction l with
  | nil => exact fun s h => h
  | cons x r ih => exact fun s h => ih _ (crcByte_lt h)
theorem crcAll_snoc {l : List UInt8} {k : Nat} {x : UInt8} (h : l[k]? = some x) : crcAll (l.take (k + 1)) = crcByte (crcAll (l.take k)) x := by
  unfold crcAll
  rw [List.take_add_one, h, List.foldl_append]; rfl
set_option maxHeartbeats 1000000 in
theorem sum_any {w : World} {F : Nat → Prop} {v : Value} {l : List UInt8} (h : Rb w F v l) : Calls Try.prog 55 #[v] w fun e w' => e = .returned (.int .u32 (crc l : Int)) ∧ w = w' := by
  obtain ⟨A, c, rfl, hc1, hc2⟩ := h.shape
  have hl2 : (l.length : Int) ≤ 9223372036854775807 := by simp only [maxLen] at hc2; omega
  have H := Lib.hid h
  obtain ⟨C, hC⟩ : ∃ C, Hid (C = crc l) := ⟨_, rfl⟩
  rw [← hC.out]
  clear h hc2
  go_enter Try.func55, Try.ntmps55
  go_wp2_with fail
  go_loopw [3, 8] (fun s i wr => ∃ (k S : Nat), k ≤ l.length ∧ i = .int .i64 k ∧ s = .int .u32 (S : Int) ∧ S < 4294967296 ∧ Hid (S = crcAll (l.take k)) ∧ wr = w) (fun _ i _ => l.length - (intOf i).toNat)
  case atStart => exact ⟨0, 4294967295, Nat.zero_le _, rfl, rfl, by decide, (show _ = _ from rfl), rfl⟩
  case round =>
    obtain ⟨k, S, hk, rfl, rfl, hS, HS, rfl⟩ := hrel
    by_cases hlt : k < l.length
    · obtain ⟨x, hx⟩ : ∃ x, Hid (l[k]? = some x) := ⟨_, List.getElem?_eq_getElem hlt⟩
      obtain ⟨b, o, he, _, _, hxc⟩ := byte_at H.out hx.out
      subst he
      have g1 := x.toNat_lt
      obtain ⟨T, hT⟩ : ∃ T, Hid (T = S ^^^ x.toNat) := ⟨_, rfl⟩
      have hT4 : T < 4294967296 := by rw [hT.out]; exact xor_lt32 hS (by omega)
      have hx32 : Hid (bits .xor .u32 (S : Int) (x.toNat : Int) = (T : Int)) := (show _ = _ from by rw [hT.out]; exact xor32 _ _ hS (by omega))
      go_wp2_with (with_reducible refine halt_dst 15 rfl ?_)
      refine wpListG_run (by rfl) (v := .int .u32 (T : Int)) (w' := wr) ?hr ?_
      case hr => go_simp; (try rw [hx32.out])
      go_wp2_with fail
      go_loopw [3, 16] (fun s i wx => ∃ (j U : Nat), j ≤ 8 ∧ i = .int .i64 j ∧ s = .int .u32 (U : Int) ∧ U < 4294967296 ∧ Hid (U = crcBits j T) ∧ wx = wr) (fun _ i _ => 8 - (intOf i).toNat)
      case atStart => exact ⟨0, T, Nat.zero_le _, rfl, rfl, hT4, (show _ = _ from rfl), rfl⟩
      case round =>
        obtain ⟨j, U, hj, rfl, rfl, hU, HU, rfl⟩ := hrel
        by_cases hjt : (j : Int) < 8
        · obtain ⟨Q, hQ⟩ : ∃ Q, Hid (Q = U / 2) := ⟨_, rfl⟩
          have hQ4 : Q < 4294967296 := by rw [hQ.out]; omega
          have hsh : Hid ((U : Int) / 2 = (Q : Int)) := (show _ = _ from by rw [hQ.out]; simp)
          rcases Nat.mod_two_eq_zero_or_one U with hodd | hodd
          · have hbit : Hid (bits .and .u32 (U : Int) 1 = 0) := (show _ = _ from by rw [and1_32 U hU, hodd]; rfl)
            have hnext : Hid (crcBit U = Q) := (show _ = _ from by unfold crcBit; rw [hodd, hQ.out]; rfl)
            clear hodd
            go_wp2_with (with_reducible refine halt_dst 19 rfl ?_)
            refine wpListG_run (by rfl) (v := .int .u32 (Q : Int)) (w' := wr) ?hr ?_
            case hr => go_simp; (try rw [hsh.out])
            go_wp2_with (with_reducible refine halt_dst 21 rfl ?_)
            refine wpListG_run (by rfl) (v := .int .u32 0) (w' := wr) ?hr ?_
            case hr => go_simp; (try rw [hbit.out])
            go_wp2_with (with_reducible refine halt_dst 22 rfl ?_)
            refine wpListG_run (by rfl) (v := .int .u32 0) (w' := wr) ?hr ?_
            case hr => go_simp; first | done | rfl | decide
            go_wp2_with (with_reducible refine halt_dst 23 rfl ?_)
            refine wpListG_run (by rfl) (v := .int .u32 0) (w' := wr) ?hr ?_
            case hr => go_simp; first | done | rfl | decide
            go_wp2_with (with_reducible refine halt_dst 24 rfl ?_)
            have hxo : Hid (bits .xor .u32 (Q : Int) 0 = (Q : Int)) := (show _ = _ from (xor32 Q 0 hQ4 (by decide)).trans (by rw [Nat.xor_zero]))
            refine wpListG_run (by rfl) (v := .int .u32 (Q : Int)) (w' := wr) ?hr ?_
            case hr => go_simp; (try rw [hxo.out])
            have HU2 : Hid (Q = crcBits (j + 1) T) := (show _ = _ from by rw [crcBits, ← HU.out, hnext.out])
            go_wp2_with fail
            go_roundw
            case rel => exact ⟨j + 1, _, by omega, by go_num, rfl, by rw [HU2.out]; exact crcBits_lt hT4 _, HU2, by trivial⟩
            case measure => simp [intOf]; omega
          · have hbit : Hid (bits .and .u32 (U : Int) 1 = 1) := (show _ = _ from by rw [and1_32 U hU, hodd]; rfl)
            have hnext : Hid (crcBit U = Q ^^^ 3988292384) := (show _ = _ from by unfold crcBit; rw [hodd, hQ.out]; rfl)
            clear hodd
            go_wp2_with (with_reducible refine halt_dst 19 rfl ?_)
            refine wpListG_run (by rfl) (v := .int .u32 (Q : Int)) (w' := wr) ?hr ?_
            case hr => go_simp; (try rw [hsh.out])
            go_wp2_with (with_reducible refine halt_dst 21 rfl ?_)
            refine wpListG_run (by rfl) (v := .int .u32 1) (w' := wr) ?hr ?_
            case hr => go_simp; (try rw [hbit.out])
            go_wp2_with (with_reducible refine halt_dst 22 rfl ?_)
            refine wpListG_run (by rfl) (v := .int .u32 4294967295) (w' := wr) ?hr ?_
            case hr => go_simp; first | done | rfl | decide
            go_wp2_with (with_reducible refine halt_dst 23 rfl ?_)
            refine wpListG_run (by rfl) (v := .int .u32 3988292384) (w' := wr) ?hr ?_
            case hr => go_simp; first | done | rfl | decide
            go_wp2_with (with_reducible refine halt_dst 24 rfl ?_)
            have hxo : Hid (bits .xor .u32 (Q : Int) 3988292384 = ((Q ^^^ 3988292384 : Nat) : Int)) := (show _ = _ from xor32 Q 3988292384 hQ4 (by decide))
            refine wpListG_run (by rfl) (v := .int .u32 ((Q ^^^ 3988292384 : Nat) : Int)) (w' := wr) ?hr ?_
            case hr => go_simp; (try rw [hxo.out])
            have HU2 : Hid (Q ^^^ 3988292384 = crcBits (j + 1) T) := (show _ = _ from by rw [crcBits, ← HU.out, hnext.out])
            go_wp2_with fail
            go_roundw
            case rel => exact ⟨j + 1, _, by omega, by go_num, rfl, by rw [HU2.out]; exact crcBits_lt hT4 _, HU2, by trivial⟩
            case measure => simp [intOf]; omega
        · have hj8 : j = 8 := by omega
          subst hj8
          clear hjt
          have HS2 : Hid (U = crcAll (l.take (k + 1))) := (show _ = _ from by rw [crcAll_snoc hx.out, ← HS.out, HU.out, hT.out]; rfl)
          go_wp2_with fail
          go_roundw
          case rel => exact ⟨k + 1, U, by omega, by go_num, rfl, hU, HS2, by trivial⟩
          case measure => simp [intOf]; omega
    · have hkl : k = l.length := by omega
      subst hkl
      clear hlt
      have hxo : Hid (C = S ^^^ 4294967295) := (show _ = _ from by rw [hC.out, crc, HS.out, List.take_length])
      go_wp2_with (with_reducible refine halt_dst 28 rfl ?_)
      refine wpListG_run (by rfl) (v := .int .u32 (C : Int)) (w' := wr) ?hr ?_
      case hr =>
        go_simp
        show bits .xor .u32 ((4294967295 : Nat) : Int) (S : Int) = (C : Int)
        rw [xor32 _ _ (by decide) hS, hxo.out, Nat.xor_comm]
      go_wp2_with fail
      go_ret
      exact ⟨rfl, rfl⟩
end Go.Proofs.Ytbaohngnpgappaa
namespace Go.Proofs.Ytbaohngnpgappaa
open Go.RowKit
def hiB (n : Nat) : List UInt8 := if h : n = 0 then [] else hiB (n / 128) ++ [UInt8.ofNat (n % 128 + 128)]
termination_by n
decreasing_by omega
def countB (n : Nat) : List UInt8 := hiB (n / 128) ++ [UInt8.ofNat (n % 128)]
theorem hiB_zero : hiB 0 = [] := by rw [hiB]; simp
theorem hiB_pos {n : Nat} (h : 0 < n) : hiB n = hiB (n / 128) ++ [UInt8.ofNat (n % 128 + 128)] := by rw [hiB, dif_neg (by omega)]
theorem and127 (n : Nat) (h : n < 4611686018427387904) : bits .and .i64 (n : Int) 127 = ((n % 128 : Nat) : Int) := by
  have h1 := bits_mask .i64 63 (by decide) (fun n h0 h1 => by rw [IntKind.wrap_i64]; omega) 7 (by decide) (n : Int) (by omega) (by omega)
  have e : ((2 : Int) ^ 7 - 1) = 127 := by decide
  have e2 : ((2 : Int) ^ 7) = 128 := by decide
  rw [e, e2] at h1
  rw [h1]; omega
theorem or128 : ∀ m : Fin 256, bits .or .u8 ((m.val : Nat) : Int) 128 = ((m.val % 128 + 128 : Nat) : Int) := by decide +kernel
def AddPost (w : World) (v : Value) (l : List UInt8) (e : Ending) (w' : World) : Prop :=
  ∃ v', e = .returned v' ∧ Ow w' (fun k => v.ownBlock = some k ∨ w.heap.size ≤ k) 5 1 v' l.length (l.map enc8) ∧ Fr (fun k => v.ownBlock = some k) w w'
theorem slice5 (g a : Nat) (ha : a ≤ 4) (W : World) : (Instr.sliceAt 141 (.pointer (some ⟨g, 0, none⟩)) (some (.int .i64 (a : Int))) none none).run Try.prog W = .ok (.slice (some ⟨g, a, none⟩) (5 - a) (5 - a)) W := by
  have harr : Try.prog.arrayLen 141 = 5 := by kernel_rfl
  have helem : Try.prog.elem 141 = 5 := by kernel_rfl
  have hu : Try.prog.underlying 141 = some (.array (Try.prog.arrayLen 141) (Try.prog.elem 141)) := by rw [harr, helem]; kernel_rfl
  obtain ⟨i, hi, hs⟩ := Option.map_eq_some_iff.1 sz5
  rw [run_sliceAt_array_l W 141 _ hu .i64 a (by omega) (by rw [harr]; omega), helem]
  simp [sizeOf, typeInfo, hi, hs, slicedAt, Result.andThen, harr, add_none]
  intro h
  omega
theorem drop_set {α : Type} {l : List α} {a : Nat} {r : α} (h : a < l.length) : (l.set a r).drop a = r :: l.drop (a + 1) := by
  rw [List.drop_eq_getElem_cons (by rw [List.length_set]; exact h), List.getElem_set_self, List.drop_set_of_lt (by omega)]
set_option maxRecDepth 100000 in
set_option maxHeartbeats 1000000 in
theorem count_any {w : World} {O : Nat → Prop} {v : Value} {b : List UInt8} {n : Nat} (h : Ow w O 5 1 v b.length (b.map enc8)) (hn : n < 34359738368) (hb : b.length ≤ 70368744177664) : Calls Try.prog 99 #[v, .int .i64 n] w (AddPost w v (b ++ countB n)) := by
  obtain ⟨A, c, rfl, hc1, hc2⟩ := h.shape
  have H := Lib.hid h
  clear h hc2
  have hm : Hid (bits .and .i64 (n : Int) 127 = ((n % 128 : Nat) : Int)) := (show _ = _ from and127 n (by omega))
  obtain ⟨N, hN⟩ : ∃ N, Hid (N = n % 128) := ⟨_, rfl⟩
  have hN2 : (N : Int) < 128 := by rw [hN.out]; omega
  rw [← hN.out] at hm
  go_enter Try.func99, Try.ntmps99
  go_wp2_with (with_reducible refine halt_dst 9 rfl ?_)
  refine wpListG_run (by rfl) (v := .int .i64 (N : Int)) (w' := w.alloc (.cells #[.int .u8 0, .int .u8 0, .int .u8 0, .int .u8 0, .int .u8 0] 141 (0, 0))) ?hr ?_
  case hr => go_simp; (try rw [hm.out])
  obtain ⟨Q, hQ⟩ : ∃ Q, Hid (Q = n / 128) := ⟨_, rfl⟩
  have hsh : (n : Int) / 128 = (Q : Int) := by rw [hQ.out]; simp
  go_wp2_with fail
  have hstart : ∃ gs : List UInt8, Hid (gs.length = 5 ∧ (w.alloc (.cells #[.int .u8 0, .int .u8 0, .int .u8 0, .int .u8 0, .int .u8 (N : Int)] 141 (0, 0))).heap[w.heap.size]? = some (.cells (gs.map enc8).toArray 141 (0, 0)) ∧ hiB Q ++ gs.drop 4 = countB n ∧ Fr No w (w.alloc (.cells #[.int .u8 0, .int .u8 0, .int .u8 0, .int .u8 0, .int .u8 (N : Int)] 141 (0, 0)))) := by
    refine ⟨[0, 0, 0, 0, UInt8.ofNat N], (show _ ∧ _ from ⟨rfl, ?_, ?_, (Fr.refl _ _).alloc _⟩)⟩
    · rw [blk_new]
      have e : enc8 (UInt8.ofNat N) = .int .u8 (N : Int) := by unfold enc8; rw [UInt8.toNat_ofNat']; congr 1; omega
      simp only [List.map_cons, List.map_nil, e]
      rfl
    · rw [countB, hN.out, hQ.out]; rfl
  obtain ⟨gs0, HG0⟩ := hstart
  have hQ35 : Hid (Q < 128 ^ 4) := (show Q < 128 ^ 4 from by rw [hQ.out]; omega)
  go_loopw [1, 6] (fun m i wr => ∃ (M a : Nat) (gs : List UInt8), m = .int .i64 M ∧ i = .int .i64 a ∧ a ≤ 4 ∧ Hid (M < 128 ^ a) ∧ Hid (gs.length = 5 ∧ wr.heap[w.heap.size]? = some (.cells (gs.map enc8).toArray 141 (0, 0)) ∧ hiB M ++ gs.drop a = countB n ∧ Fr No w wr)) (fun m _ _ => (intOf m).toNat)
  case atStart => exact ⟨Q, 4, gs0, rfl, rfl, Nat.le_refl _, hQ35, HG0⟩
  case round =>
    obtain ⟨M, a, gs, rfl, rfl, ha, hMa, HG⟩ := hrel
    by_cases hM : (0 : Int) < M
    · obtain ⟨a', rfl⟩ : ∃ a', a = a' + 1 := by
        rcases a with _ | a
        · have := hMa.out; simp at this; omega
        · exact ⟨a, rfl⟩
      have hM35 : (M : Int) ≤ 34359738368 := by
        have h1 := hMa.out
        have h2 : 128 ^ (a' + 1) ≤ 128 ^ 4 := Nat.pow_le_pow_right (by decide) ha
        have h3 : (128 : Nat) ^ 4 = 268435456 := by decide
        omega
      obtain ⟨R, hR⟩ : ∃ R, Hid (R = M % 128 + 128) := ⟨_, rfl⟩
      have hR2 : (R : Int) < 256 := by rw [hR.out]; omega
      obtain ⟨P, hP⟩ : ∃ P, Hid (P = M % 256) := ⟨_, rfl⟩
      have hPw : Hid (IntKind.u8.wrap (M : Int) = (P : Int)) := (show _ = _ from by rw [hP.out, IntKind.wrap_u8]; simp)
      have hor : Hid (bits .or .u8 (P : Int) 128 = (R : Int)) := (show _ = _ from by
        have h1 := or128 ⟨P, by rw [hP.out]; omega⟩
        simp only at h1
        rw [h1, hR.out, hP.out]
        congr 2
        omega)
      obtain ⟨Q2, hQ2⟩ : ∃ Q2, Hid (Q2 = M / 128) := ⟨_, rfl⟩
      have hsh2 : (M : Int) / 128 = (Q2 : Int) := by rw [hQ2.out]; simp
      have hgl := HG.out.1
      have hblk := HG.out.2.1
      obtain ⟨old, g1⟩ : ∃ old, wr.cell? ⟨w.heap.size, a', none⟩ = some old := ⟨enc8 (gs[a']'(by omega)), by rw [blk_cell hblk, List.getElem?_toArray, List.getElem?_map, List.getElem?_eq_getElem (by omega)]; rfl⟩
      have g2 := blk_free hblk a'
      have ha5 : (a' : Int) < 5 := by omega
      have ha6 : a' ≤ 3 := by omega
      have HG2 : Hid ((gs.set a' (UInt8.ofNat R)).length = 5 ∧ (wr.setCell ⟨w.heap.size, a', none⟩ (.int .u8 (R : Int))).heap[w.heap.size]? = some (.cells ((gs.set a' (UInt8.ofNat R)).map enc8).toArray 141 (0, 0)) ∧ hiB Q2 ++ (gs.set a' (UInt8.ofNat R)).drop a' = countB n ∧ Fr No w (wr.setCell ⟨w.heap.size, a', none⟩ (.int .u8 (R : Int)))) := by
        refine (show _ ∧ _ from ⟨by rw [List.length_set]; exact hgl, ?_, ?_, HG.out.2.2.2.setCell _ _ (fun h => by simp at h)⟩)
        · have e : enc8 (UInt8.ofNat R) = .int .u8 (R : Int) := by unfold enc8; rw [UInt8.toNat_ofNat']; congr 1; omega
          rw [blk_set hblk, List.map_set, e, List.setIfInBounds_toArray]
        · rw [drop_set (by omega), ← HG.out.2.2.1, hiB_pos (n := M) (by omega), hQ2.out, hR.out]
          simp
      have hM2 : Hid (Q2 < 128 ^ a') := (show _ < _ from by
        have h1 := hMa.out
        rw [Nat.pow_succ] at h1
        rw [hQ2.out]
        exact Nat.div_lt_of_lt_mul (by rw [Nat.mul_comm]; exact h1))
      have hlt : Hid (Q2 < M) := (show Q2 < M from by rw [hQ2.out]; omega)
      clear hblk hgl
      go_wp2_with (with_reducible refine halt_dst 22 rfl ?_)
      refine wpListG_run (by rfl) (v := .int .u8 (P : Int)) (w' := wr) ?hr ?_
      case hr => go_simp; (try rw [hPw.out])
      refine wpListG_run (by rfl) (v := .int .u8 (R : Int)) (w' := wr) ?hr2 ?_
      case hr2 => go_simp; (try rw [hor.out])
      go_wp2_with fail
      go_roundw
      case rel => exact ⟨Q2, a', _, rfl, by go_num, by omega, hM2, HG2⟩
      case measure => have := hlt.out; simp [intOf]; omega
    · have hM0 : M = 0 := by omega
      subst hM0
      clear hM
      have hsl := slice5 w.heap.size a ha
      go_wp2_with (with_reducible refine halt_dst 27 rfl ?_)
      refine wpListG_run (by rfl) (v := .slice (some ⟨w.heap.size, a, none⟩) (5 - a) (5 - a)) (w' := wr) ?hr ?_
      case hr =>
        unfold execOp
        simp [Act.eval]
        rw [hsl wr]
        rfl
      have hblk := HG.out.2.1
      have hgl := HG.out.1
      have hdl : (gs.drop a).length = 5 - a := by rw [List.length_drop, hgl]
      have HG' := HG.out.2.2.2
      have hown : Ow wr (fun k => (Value.slice A b.length c).ownBlock = some k) 5 1 (.slice A b.length c) b.length (b.map enc8) := H.out.just.fr HG' (fun _ _ _ h => h)
      refine wpList_app rfl (.tmp 25) (.tmp 27) 22 5 rfl _ 1 1 Try.underlying22 info5 rfl (by omega) (by omega) (.slice A b.length c) b.length (b.map enc8) rfl (some ⟨w.heap.size, a, none⟩) (5 - a) (5 - a) rfl hown ((gs.drop a).map enc8) (by rw [List.length_map, hdl]; omega) ?hnews (one8 _) (by omega) ?_
      case hnews =>
        intro j u hj
        refine ⟨_, rfl, ?_⟩
        rw [add_none, blk_cell hblk, List.getElem?_toArray]
        rw [List.getElem?_map, List.getElem?_drop] at hj
        rw [List.getElem?_map]
        exact hj
      intro v6 w6 hown6 hfr6
      have hfin : AddPost w (.slice A b.length c) (b ++ countB n) (.returned v6) w6 := by
        have he : gs.drop a = countB n := by have := HG.out.2.2.1; rw [hiB_zero, List.nil_append] at this; exact this
        refine ⟨v6, rfl, ?_, HG'.trans hfr6 (fun _ _ h => h.elim) (fun _ _ h => h)⟩
        rw [← List.map_append, he] at hown6
        rw [List.length_append, ← he, hdl, he]
        refine hown6.mono (fun k hk => hk.imp (fun h => h) (fun h => by have := HG'.size; omega))
      have HFIN := Lib.hid hfin
      clear hown6 hfr6 hown hblk hgl hdl HG' hfin hsl
      go_wp2_with fail
      go_ret
      exact HFIN.out
end Go.Proofs.Ytbaohngnpgappaa
namespace Go.Proofs.Ytbaohngnpgappaa
open Go.RowKit
def byteOf (n : Int) : UInt8 := UInt8.ofNat (n % 256).toNat
theorem byteOf_enc (n : Int) : enc8 (byteOf n) = .int .u8 (IntKind.u8.wrap n) := by
  unfold enc8 byteOf
  rw [IntKind.wrap_u8, UInt8.toNat_ofNat']
  congr 1
  omega
def num8 (n : Int) : List UInt8 := (List.range 8).map fun j => byteOf (n / 2 ^ (56 - 8 * j))
mutual
def It.enc : It → List UInt8
  | .mk k n s l => byteOf k :: (if k = 1 then num8 n else if k = 2 then countB s.length ++ s else countB l.length ++ It.encs l)
def It.encs : List It → List UInt8
  | [] => []
  | x :: r => It.enc x ++ It.encs r
end
theorem It.encs_app (a b : List It) : It.encs (a ++ b) = It.encs a ++ It.encs b := by
  induction a with
  | nil => rfl
  | cons x r ih => simp only [List.cons_append, It.encs, ih, List.append_assoc]
mutual
def It.texts : It → Prop
  | .mk _ _ s l => s.length < 34359738368 ∧ It.textss l
def It.textss : List It → Prop
  | [] => True
  | x :: r => It.texts x ∧ It.textss r
end
/-- A row of bytes that grows. -/
structure Grow (w : World) (v0 v : Value) (L : List UInt8) (wr : World) : Prop where
  own : Ow wr (fun k => v0.ownBlock = some k ∨ w.heap.size ≤ k) 5 1 v L.length (L.map enc8)
  fr : Fr (fun k => v0.ownBlock = some k) w wr
theorem Grow.start {w w1 : World} {v0 : Value} {O : Nat → Prop} {L : List UInt8} (h : Ow w O 5 1 v0 L.length (L.map enc8)) (hf : Fr No w w1) : Grow w1 v0 v0 L w1 :=
  ⟨(h.just.fr hf (fun _ _ _ h => h)).mono (fun k hk => .inl hk), Fr.refl _ _⟩
theorem Grow.quiet {w wr w' : World} {v0 v : Value} {L : List UInt8} (h : Grow w v0 v L wr) (hf : Fr No wr w') : Grow w v0 v L w' := ⟨h.own.fr hf (fun _ _ _ h => h), h.fr.trans hf (fun _ _ h => h) (fun _ _ h => h.elim)⟩
theorem Grow.app {w wr w6 : World} {v0 v v6 : Value} {L news : List UInt8} {m : Nat} (h : Grow w v0 v L wr) (ho : Ow w6 (fun k => v.ownBlock = some k ∨ k = wr.heap.size) 5 1 v6 (L.length + m) (L.map enc8 ++ news.map enc8)) (hf : Fr (fun k => v.ownBlock = some k) wr w6) (hm : m = news.length) : Grow w v0 v6 (L ++ news) w6 := by
  subst hm
  refine ⟨?_, h.fr.trans hf (fun _ _ h => h) (fun k hk hv => ?_)⟩
  · rw [List.length_append, List.map_append]
    refine ho.mono (fun k hk => ?_)
    rcases hk with hk | hk
    · exact h.own.2 k hk
    · exact .inr (by rw [hk]; exact h.fr.size)
  · rcases h.own.2 k hv with h1 | h1
    · exact h1
    · omega
theorem Grow.call {w wr w' : World} {v0 v : Value} {L L' : List UInt8} {e : Ending} (h : Grow w v0 v L wr) (hp : AddPost wr v L' e w') : ∃ v', e = .returned v' ∧ Grow w v0 v' L' w' := by
  obtain ⟨v', he, ho, hf⟩ := hp
  refine ⟨v', he, ho.mono (fun k hk => ?_), h.fr.trans hf (fun _ _ h => h) (fun k hk hv => ?_)⟩
  · rcases hk with hk | hk
    · exact h.own.2 k hk
    · exact .inr (Nat.le_trans h.fr.size hk)
  · rcases h.own.2 k hv with h1 | h1
    · exact h1
    · omega
theorem Grow.post {w w1 wr : World} {v0 v : Value} {L : List UInt8} (h : Grow w1 v0 v L wr) (hf : Fr No w w1) : AddPost w v0 L (.returned v) wr :=
  ⟨v, rfl, h.own.mono (fun k hk => hk.imp id (Nat.le_trans hf.size)), hf.trans h.fr (fun _ _ h => h.elim) (fun _ _ h => h)⟩
theorem num8_len (n : Int) : (num8 n).length = 8 := by simp [num8]
theorem num8_step (n : Int) {j : Nat} (h : j < 8) : (num8 n).take (j + 1) = (num8 n).take j ++ [byteOf (n / 2 ^ (56 - 8 * j))] := by
  rw [List.take_add_one]
  unfold num8
  rw [List.getElem?_map, List.getElem?_range h]
  rfl
end Go.Proofs.Ytbaohngnpgappaa
namespace Go.Proofs.Ytbaohngnpgappaa
open Go.RowKit
theorem It.oks_mem {x : It} : ∀ {l : List It}, It.oks l = true → x ∈ l → x.ok = true := by
  intro l
  induction l with
  | nil => intro _ h; cases h
  | cons y r ih =>
    intro h hx
    rw [It.oks, Bool.and_eq_true] at h
    rcases List.mem_cons.1 hx with rfl | hx
    · exact h.1
    · exact ih h.2 hx
theorem It.textss_mem {x : It} : ∀ {l : List It}, It.textss l → x ∈ l → x.texts := by
  intro l
  induction l with
  | nil => intro _ h; cases h
  | cons y r ih =>
    intro h hx
    rw [It.textss] at h
    rcases List.mem_cons.1 hx with rfl | hx
    · exact h.1
    · exact ih h.2 hx
set_option maxRecDepth 100000 in
set_option maxHeartbeats 4000000 in
theorem add_any : ∀ (x : It) (w : World) (O F : Nat → Prop) (v vv : Value) (b : List UInt8), Ow w O 5 1 v b.length (b.map enc8) → ItV w F vv x → (∀ k, F k → ¬ v.ownBlock = some k) → x.size ≤ 1048576 → x.ok = true → x.texts → b.length + x.enc.length ≤ 70368744177664 →
    Calls Try.prog 75 #[v, vv] w (AddPost w v (b ++ x.enc)) := by
  refine It.ind fun k n s l ih w O F v vv b how hv hF hsz hok htx hlen => ?_
  obtain ⟨cs, rfl, hr⟩ := hv
  obtain ⟨vl, rfl, hrow, hfit⟩ := itR_row hr
  obtain ⟨A, c, rfl, hc1, hc2⟩ := hrow.shape
  obtain ⟨Av, cv, rfl, _, _⟩ := how.shape
  have hl2 : (l.length : Int) ≤ 1048576 := by
    rw [It.size] at hsz
    have hll := It.sizes_len l
    omega
  obtain ⟨w1, hw1⟩ : ∃ w1, Hid (w1 = w.alloc (.cells #[.int .i64 k, .int .i64 n, .string ⟨s.toArray⟩, .slice A l.length c] 48 (0, 0))) := ⟨_, rfl⟩
  have hf1 : Fr No w w1 := by rw [hw1.out]; exact (Fr.refl _ _).alloc _
  have hs1 : w1.heap.size = w.heap.size + 1 := by rw [hw1.out]; simp
  have hblk : w1.heap[w.heap.size]? = some (.cells #[.int .i64 k, .int .i64 n, .string ⟨s.toArray⟩, .slice A l.length c] 48 (0, 0)) := by rw [hw1.out]; exact blk_new _ _
  obtain ⟨v, hvd⟩ : ∃ v, Hid (v = Value.slice Av b.length cv) := ⟨_, rfl⟩
  rw [← hvd.out] at how hF ⊢
  have hbox : Hid (∀ {v' : Value} {L : List UInt8} {wr : World}, Grow w1 v v' L wr → wr.heap[w.heap.size]? = some (.cells #[.int .i64 k, .int .i64 n, .string ⟨s.toArray⟩, .slice A l.length c] 48 (0, 0))) := (show ∀ {v' : Value} {L : List UInt8} {wr : World}, Grow w1 v v' L wr → wr.heap[w.heap.size]? = some (.cells #[.int .i64 k, .int .i64 n, .string ⟨s.toArray⟩, .slice A l.length c] 48 (0, 0)) from fun hg => hg.fr.heap hblk (fun h => by have := (how.just.bound.2 _ h).2; omega))
  have HG : Hid (Grow w1 v v b w1) := (show Grow _ _ _ _ _ from Grow.start how hf1)
  have HR : Hid (Row ItK w F (.slice A l.length c) l) := (show Row _ _ _ _ _ from hrow)
  have HFF := Lib.hid hF
  have HF1 := Lib.hid hf1
  have HS1 := Lib.hid hs1
  have IH := Lib.hid ih
  have HOK : Hid (headOk k n s l = true ∧ It.oks l = true) := (show _ ∧ _ from by rw [It.ok, Bool.and_eq_true] at hok; exact hok)
  have HTX : Hid (s.length < 34359738368 ∧ It.textss l) := (show _ ∧ _ from by rw [It.texts] at htx; exact htx)
  have HSZ : Hid (It.sizes l ≤ 1048575) := (show It.sizes l ≤ 1048575 from by rw [It.size] at hsz; omega)
  have hb46 : b.length ≤ 70368744177664 := by omega
  obtain ⟨E, hE⟩ : ∃ E, Hid (E = (It.mk k n s l).enc) := ⟨_, rfl⟩
  rw [← hE.out] at hlen ⊢
  have c0 := blk_cell hblk 0
  simp only [List.getElem?_toArray, List.getElem?_cons_zero] at c0
  unfold str at *
  have hkk : k = 1 ∨ k = 2 ∨ k = 3 := by have h1 := HOK.out.1; unfold headOk at h1; simp at h1; omega
  clear hr hrow hc2 hsz hok htx ih hfit how hF hf1 hblk hs1
  rcases hkk with rfl | rfl | rfl
  · have hE1 : Hid (E = byteOf 1 :: num8 n) := (show _ = _ from by rw [hE.out, It.enc, if_pos rfl])
    go_enter Try.func75, Try.ntmps75
    go_wp2_with (with_reducible refine halt_dst 13 rfl ?_)
    rw [← hw1.out, ← HS1.out]
    refine wpList_app rfl (.tmp 8) (.tmp 12) 22 5 rfl _ 1 1 Try.underlying22 info5 rfl (by omega) (by omega) _ b.length (b.map enc8) rfl (some ⟨w1.heap.size, 0, none⟩) 1 1 rfl ((HG.out.quiet ((Fr.refl No w1).alloc (.cells #[.int .u8 1] 5 (0, 0)))).own) [enc8 (byteOf 1)] rfl ?hnews (one8 [(byteOf 1)]) (by omega) ?_
    case hnews =>
      intro j u hj
      refine ⟨_, rfl, ?_⟩
      rw [add_none, Nat.zero_add, blk_cell (blk_new w1 _), List.getElem?_toArray]
      exact hj
    intro va1 wa1 hown hfr
    have HA1 : Hid (Grow w1 v va1 (b ++ [(byteOf 1)]) wa1) := (show Grow _ _ _ _ _ from (HG.out.quiet ((Fr.refl No w1).alloc (.cells #[.int .u8 1] 5 (0, 0)))).app hown hfr rfl)
    clear hown hfr
    have hb1 := hbox.out HA1.out
    have d0 := blk_cell hb1 0
    simp only [List.getElem?_toArray, List.getElem?_cons_zero] at d0
    have HB1 := Lib.hid hb1
    clear hb1 c0
    go_wp2_with fail
    go_loopw [0, 18] (fun vv i wr => ∃ (j : Nat), j ≤ 8 ∧ i = .int .i64 j ∧ Hid (Grow w1 v vv (b ++ [byteOf 1] ++ (num8 n).take j) wr)) (fun _ i _ => 8 - (intOf i).toNat)
    case atStart => exact ⟨0, Nat.zero_le _, rfl, (show Grow _ _ _ _ _ from by rw [List.take_zero, List.append_nil]; exact HA1.out)⟩
    case round =>
      obtain ⟨j, hj, rfl, HJ⟩ := hrel
      by_cases hj8 : (j : Int) < 8
      · have hb2 := hbox.out HJ.out
        have d1 := blk_cell hb2 1
        simp only [List.getElem?_toArray, List.getElem?_cons_zero, List.getElem?_cons_succ] at d1
        obtain ⟨L, hL⟩ : ∃ L, Hid (L = b ++ [byteOf 1] ++ (num8 n).take j) := ⟨_, rfl⟩
        have hLl : L.length ≤ 70368744177700 := by rw [hL.out]; simp [num8_len]; omega
        rw [← hL.out] at HJ
        obtain ⟨B, hB⟩ : ∃ B, Hid (B = byteOf (n / 2 ^ (56 - 8 * j))) := ⟨_, rfl⟩
        obtain ⟨z, hz⟩ : ∃ z : Int, Hid (z = IntKind.u8.wrap (n / 2 ^ (56 - 8 * j))) := ⟨_, rfl⟩
        have henc : Hid (enc8 B = .int .u8 z) := (show _ = _ from by rw [hB.out, hz.out]; exact byteOf_enc _)
        clear hb2 d0
        go_wp2_with (with_reducible refine halt_dst 28 rfl ?_)
        refine wpListG_run (by rfl) (v := .int .u8 z) (w' := wr) ?hr ?_
        case hr => go_simp; (try rw [hz.out])
        go_wp2_with (with_reducible refine halt_dst 30 rfl ?_)
        refine wpList_app rfl (.tmp 21) (.tmp 29) 22 5 rfl _ 1 1 Try.underlying22 info5 rfl (by omega) (by omega) _ L.length (L.map enc8) rfl (some ⟨wr.heap.size, 0, none⟩) 1 1 rfl ((HJ.out.quiet ((Fr.refl No wr).alloc (.cells #[.int .u8 z] 5 (0, 0)))).own) [enc8 B] rfl ?hnews (one8 [B]) (by omega) ?_
        case hnews =>
          intro j u hj
          refine ⟨_, rfl, ?_⟩
          rw [add_none, Nat.zero_add, blk_cell (blk_new wr _), List.getElem?_toArray]
          rw [henc.out] at hj
          exact hj
        intro va2 wa2 hown hfr
        have HA2 : Hid (Grow w1 v va2 (L ++ [B]) wa2) := (show Grow _ _ _ _ _ from (HJ.out.quiet ((Fr.refl No wr).alloc (.cells #[.int .u8 z] 5 (0, 0)))).app hown hfr rfl)
        clear hown hfr
        have HJ2 : Hid (Grow w1 v va2 (b ++ [byteOf 1] ++ (num8 n).take (j + 1)) wa2) := (show Grow _ _ _ _ _ from by
          rw [num8_step n (by omega), ← List.append_assoc, ← hL.out, ← hB.out]
          exact HA2.out)
        clear d1
        go_wp2_with fail
        go_roundw
        case rel => exact ⟨j + 1, by omega, by go_num, HJ2⟩
        case measure => simp [intOf]; omega
      · have hj9 : j = 8 := by omega
        subst hj9
        clear hj8
        go_wp2_with fail
        go_ret
        have hend := HJ.out.post HF1.out
        rw [List.take_of_length_le (by rw [num8_len]; omega), List.append_assoc] at hend
        rw [hE1.out]
        exact hend
  · have hE2 : Hid (E = byteOf 2 :: (countB s.length ++ s)) := (show _ = _ from by rw [hE.out, It.enc, if_neg (by decide), if_pos rfl])
    have hElen : E.length = 1 + (countB s.length).length + s.length := by rw [hE2.out]; simp; omega
    go_enter Try.func75, Try.ntmps75
    go_wp2_with (with_reducible refine halt_dst 13 rfl ?_)
    rw [← hw1.out, ← HS1.out]
    refine wpList_app rfl (.tmp 8) (.tmp 12) 22 5 rfl _ 1 1 Try.underlying22 info5 rfl (by omega) (by omega) _ b.length (b.map enc8) rfl (some ⟨w1.heap.size, 0, none⟩) 1 1 rfl ((HG.out.quiet ((Fr.refl No w1).alloc (.cells #[.int .u8 2] 5 (0, 0)))).own) [enc8 (byteOf 2)] rfl ?hnews (one8 [(byteOf 2)]) (by omega) ?_
    case hnews =>
      intro j u hj
      refine ⟨_, rfl, ?_⟩
      rw [add_none, Nat.zero_add, blk_cell (blk_new w1 _), List.getElem?_toArray]
      exact hj
    intro va1 wa1 hown hfr
    have HA1 : Hid (Grow w1 v va1 (b ++ [(byteOf 2)]) wa1) := (show Grow _ _ _ _ _ from (HG.out.quiet ((Fr.refl No w1).alloc (.cells #[.int .u8 2] 5 (0, 0)))).app hown hfr rfl)
    clear hown hfr
    have hb1 := hbox.out HA1.out
    have d0 := blk_cell hb1 0
    have d2 := blk_cell hb1 2
    simp only [List.getElem?_toArray, List.getElem?_cons_zero, List.getElem?_cons_succ] at d0 d2
    have HB1 := Lib.hid hb1
    clear hb1 c0
    go_wp2_with fail
    have HS : Hid (wa1.drew.cell? ⟨w.heap.size, 2, none⟩ = some (.string ⟨s.toArray⟩)) := (show _ = _ from d2)
    refine wp_seq_region (fun W => W.cell? ⟨w.heap.size, 2, none⟩ = some (.string ⟨s.toArray⟩)) [4, 7] [2, 6] [] [0, 1, 2, 3, 5, 6, 4, 7, 8] (by kernel_rfl) (by kernel_rfl) rfl (by kernel_rfl) (fun _ _ _ _ _ h => h) ?_
    repeat (first
      | (refine sq_off (a' := ?_) rfl rfl (by rfl) (fun _ => (HS).out) ?ha ?_; (case ha => simp only [Act.put, List.setIfInBounds_toArray, List.set_cons_zero, List.set_cons_succ]; rfl))
      | (refine sq_any (v := ?_) (a' := ?_) rfl rfl rfl (by rfl) (fun W => ?hr) ?ha ?_; (case hr => go_simp; first | done | rfl); (case ha => simp only [Act.put, List.setIfInBounds_toArray, List.set_cons_zero, List.set_cons_succ]; rfl))
      | (refine sq_load (v := ?_) (a' := ?_) rfl rfl rfl (by rfl) (fun W hSW => ?hr) (HS).out ?ha ?_; (case hr => (try dsimp only at hSW); go_simp; first | done | rfl); (case ha => simp only [Act.put, List.setIfInBounds_toArray, List.set_cons_zero, List.set_cons_succ]; rfl)))
    refine sq_call rfl rfl (by rfl) rfl Try.func99 rfl rfl [va1, .int .i64 s.length] rfl ?_
    have hbl : (b ++ [byteOf 2]).length ≤ 70368744177664 := by rw [List.length_append]; simp; omega
    have HAD : Hid (Grow w1 v va1 (b ++ [byteOf 2]) wa1.drew) := (show Grow _ _ _ _ _ from HA1.out.quiet ((Fr.refl No _).drew))
    refine (count_any (w := wa1.drew) HAD.out.own HTX.out.1 hbl).mono ?_
    intro e w2 hpost
    obtain ⟨v2, rfl, hg2⟩ := HAD.out.call hpost
    have hb2 := hbox.out hg2
    have f2 := blk_cell hb2 2
    simp only [List.getElem?_toArray, List.getElem?_cons_zero, List.getElem?_cons_succ] at f2
    have HG2 := Lib.hid hg2
    clear hpost hb2 hg2
    refine ⟨_, rfl, fun _ => f2, ?_⟩
    simp only [Act.put, List.setIfInBounds_toArray, List.set_cons_zero, List.set_cons_succ]
    refine sq_apps rfl rfl (by rfl) (.tmp 38) (.tmp 40) 22 9 5 rfl Try.underlying22 Try.underlying9 info5 v2 (b ++ [byteOf 2] ++ countB s.length).length ((b ++ [byteOf 2] ++ countB s.length).map enc8) rfl ⟨s.toArray⟩ rfl HG2.out.own (by
      show _ + s.toArray.size ≤ _
      rw [List.size_toArray, List.length_append, List.length_append]
      simp only [List.length_singleton]
      omega) ?_
    intro v3 w3 hown3 hfr3
    rw [strCells_is] at hown3
    have hg3 := HG2.out.app hown3 hfr3 (show s.toArray.size = s.length from List.size_toArray)
    have HG3 := Lib.hid hg3
    have hb3 := hbox.out hg3
    have f3 := blk_cell hb3 2
    simp only [List.getElem?_toArray, List.getElem?_cons_zero, List.getElem?_cons_succ] at f3
    clear hown3 hfr3 hg3 hb3
    refine ⟨fun _ => f3, ?_⟩
    simp only [Act.put, List.setIfInBounds_toArray, List.set_cons_zero, List.set_cons_succ]
    repeat (first
      | (refine sq_off (a' := ?_) rfl rfl (by rfl) (fun _ => (HS).out) ?ha ?_; (case ha => simp only [Act.put, List.setIfInBounds_toArray, List.set_cons_zero, List.set_cons_succ]; rfl))
      | (refine sq_any (v := ?_) (a' := ?_) rfl rfl rfl (by rfl) (fun W => ?hr) ?ha ?_; (case hr => go_simp; first | done | rfl); (case ha => simp only [Act.put, List.setIfInBounds_toArray, List.set_cons_zero, List.set_cons_succ]; rfl))
      | (refine sq_load (v := ?_) (a' := ?_) rfl rfl rfl (by rfl) (fun W hSW => ?hr) (HS).out ?ha ?_; (case hr => (try dsimp only at hSW); go_simp; first | done | rfl); (case ha => simp only [Act.put, List.setIfInBounds_toArray, List.set_cons_zero, List.set_cons_succ]; rfl)))
    refine sq_done ?_
    clear d0 d2 f2 f3
    go_wp2_with fail
    go_ret
    have hend := HG3.out.post HF1.out
    rw [hE2.out]
    rw [show b ++ [byteOf 2] ++ countB s.length ++ s = b ++ byteOf 2 :: (countB s.length ++ s) from by simp] at hend
    exact hend
  · have hE3 : Hid (E = byteOf 3 :: (countB l.length ++ It.encs l)) := (show _ = _ from by rw [hE.out, It.enc, if_neg (by decide), if_neg (by decide)])
    have hElen : E.length = 1 + (countB l.length).length + (It.encs l).length := by rw [hE3.out]; simp; omega
    have HRB : Hid (Row ItK w (fun k => F k ∧ k < w.heap.size) (.slice A l.length c) l) := (show Row _ _ _ _ _ from HR.out.bound (by decide))
    go_enter Try.func75, Try.ntmps75
    go_wp2_with (with_reducible refine halt_dst 13 rfl ?_)
    rw [← hw1.out, ← HS1.out]
    refine wpList_app rfl (.tmp 8) (.tmp 12) 22 5 rfl _ 1 1 Try.underlying22 info5 rfl (by omega) (by omega) _ b.length (b.map enc8) rfl (some ⟨w1.heap.size, 0, none⟩) 1 1 rfl ((HG.out.quiet ((Fr.refl No w1).alloc (.cells #[.int .u8 3] 5 (0, 0)))).own) [enc8 (byteOf 3)] rfl ?hnews (one8 [(byteOf 3)]) (by omega) ?_
    case hnews =>
      intro j u hj
      refine ⟨_, rfl, ?_⟩
      rw [add_none, Nat.zero_add, blk_cell (blk_new w1 _), List.getElem?_toArray]
      exact hj
    intro va1 wa1 hown hfr
    have HA1 : Hid (Grow w1 v va1 (b ++ [(byteOf 3)]) wa1) := (show Grow _ _ _ _ _ from (HG.out.quiet ((Fr.refl No w1).alloc (.cells #[.int .u8 3] 5 (0, 0)))).app hown hfr rfl)
    clear hown hfr
    have hb1 := hbox.out HA1.out
    have d0 := blk_cell hb1 0
    have d3 := blk_cell hb1 3
    simp only [List.getElem?_toArray, List.getElem?_cons_zero, List.getElem?_cons_succ] at d0 d3
    clear hb1 c0
    go_wp2_with fail
    have hbl : (b ++ [byteOf 3]).length ≤ 70368744177664 := by rw [List.length_append]; simp; omega
    refine (count_any (w := wa1) HA1.out.own (by omega) hbl).mono ?_
    intro e w2 hpost
    obtain ⟨v2, rfl, hg2⟩ := HA1.out.call hpost
    have hb2 := hbox.out hg2
    have f3 := blk_cell hb2 3
    simp only [List.getElem?_toArray, List.getElem?_cons_zero, List.getElem?_cons_succ] at f3
    have HG2 := Lib.hid hg2
    clear hpost hb2 hg2 d0 d3
    go_wp2_with fail
    go_loopw [0, 52] (fun vv i wr => ∃ (j : Nat), j ≤ l.length ∧ i = .int .i64 j ∧ Hid (Grow w1 v vv (b ++ [byteOf 3] ++ countB l.length ++ It.encs (l.take j)) wr)) (fun _ i _ => l.length - (intOf i).toNat)
    case atStart => exact ⟨0, Nat.zero_le _, rfl, (show Grow _ _ _ _ _ from by rw [List.take_zero, It.encs, List.append_nil]; exact HG2.out)⟩
    case round =>
      obtain ⟨j, hj, rfl, HJ⟩ := hrel
      by_cases hlt : j < l.length
      · obtain ⟨b1, o1, _, cs, he, _, _, _, hrx, hcell⟩ := ((HRB.out.fr (by decide) HF1.out (fun _ _ _ h => h)).fr (by decide) HJ.out.fr (fun k _ hk h => HFF.out k hk.1 h)).at_ j hlt
        cases he
        obtain ⟨x, hx⟩ : ∃ x, x = l[j] := ⟨_, rfl⟩
        have HXJ : Hid (l[j]? = some x) := (show _ = _ from by rw [hx]; exact List.getElem?_eq_getElem hlt)
        have hmem : Hid (x ∈ l) := (show x ∈ l from by rw [hx]; exact List.getElem_mem hlt)
        have hsplit : Hid (It.encs l = It.encs (l.take j) ++ x.enc ++ It.encs (l.drop (j + 1))) := (show _ = _ from by
          have h1 : l = l.take j ++ x :: l.drop (j + 1) := by rw [hx, ← List.drop_eq_getElem_cons hlt, List.take_append_drop]
          rw [congrArg It.encs h1, It.encs_app, It.encs, List.append_assoc])
        rw [← hx] at hrx
        have hsx := It.sizes_mem hmem.out
        obtain ⟨xk, xn, xs, xl⟩ := x
        obtain ⟨vl, rfl, hrow, hfit⟩ := itR_row hrx
        obtain ⟨A2, c2, rfl, _, _⟩ := hrow.shape
        have c0 := hcell 0 _ rfl
        have c1 := hcell 1 _ rfl
        have c2' := hcell 2 _ rfl
        have c3 := hcell 3 _ rfl
        simp only [show ItK.sz = 4 from rfl, Nat.add_zero, str] at c0 c1 c2' c3
        have HRX := Lib.hid hrx
        have hxs : Hid ((It.mk xk xn xs xl).size ≤ 1048576) := (show _ ≤ _ from by have := HSZ.out; omega)
        obtain ⟨L, hL⟩ : ∃ L, Hid (L = b ++ [byteOf 3] ++ countB l.length ++ It.encs (l.take j)) := ⟨_, rfl⟩
        have hLl : Hid (L.length + (It.mk xk xn xs xl).enc.length ≤ 70368744177664) := (show _ ≤ _ from by
          have h1 := congrArg List.length hsplit.out
          rw [List.length_append, List.length_append] at h1
          rw [hL.out, List.length_append, List.length_append, List.length_append, List.length_singleton]
          omega)
        rw [← hL.out] at HJ
        clear hcell hrow hfit hrx hx hsx
        obtain ⟨X, hX⟩ : ∃ X, Hid (X = (It.mk xk xn xs xl).enc) := ⟨_, rfl⟩
        go_wp2_with fail
        obtain ⟨wB, hwB⟩ : ∃ wB, Hid (wB = wr.alloc (.cells #[.int .i64 xk, .int .i64 xn, .string ⟨xs.toArray⟩, .slice A2 xl.length c2] 48 (0, 0))) := ⟨_, rfl⟩
        rw [← hwB.out]
        have hfB : Fr No wr wB := by rw [hwB.out]; exact (Fr.refl _ _).alloc _
        have HJB : Hid (Grow w1 v u0 L wB) := (show Grow _ _ _ _ _ from HJ.out.quiet hfB)
        refine (IH.out _ hmem.out wB _ (fun k => F k ∧ k < w.heap.size) u0 _ L HJB.out.own ⟨[.int .i64 xk, .int .i64 xn, .string ⟨xs.toArray⟩, .slice A2 xl.length c2], rfl, itR_move (w := wr) (w' := wB) (fun k _ hl => hfB.block k hl (fun h => h)) _ _ HRX.out⟩ (fun k hk hv => by
          rcases HJB.out.own.2 k hv with h1 | h1
          · exact HFF.out k hk.1 h1
          · have := HS1.out; omega) hxs.out (It.oks_mem HOK.out.2 hmem.out) (It.textss_mem HTX.out.2 hmem.out) hLl.out).mono ?_
        rw [← hX.out]
        intro e w5 hpost
        obtain ⟨v5, rfl, hg5⟩ := HJB.out.call hpost
        have HJ2 : Hid (Grow w1 v v5 (b ++ [byteOf 3] ++ countB l.length ++ It.encs (l.take (j + 1))) w5) := (show Grow _ _ _ _ _ from by
          rw [List.take_add_one, HXJ.out, It.encs_app, ← List.append_assoc, ← hL.out]
          simp only [Option.toList, It.encs, List.append_nil]
          rw [← hX.out]
          exact hg5)
        clear hpost hg5 hfB c0 c1 c2' c3
        go_wp2_with fail
        go_roundw
        case rel => exact ⟨j + 1, by omega, by go_num, HJ2⟩
        case measure => simp [intOf]; omega
      · have hjl : j = l.length := by omega
        subst hjl
        clear hlt
        go_wp2_with fail
        go_ret
        have hend := HJ.out.post HF1.out
        rw [List.take_length] at hend
        rw [hE3.out]
        rw [show b ++ [byteOf 3] ++ countB l.length ++ It.encs l = b ++ byteOf 3 :: (countB l.length ++ It.encs l) from by simp] at hend
        exact hend
end Go.Proofs.Ytbaohngnpgappaa
namespace Go.Proofs.Ytbaohngnpgappaa
open Go.RowKit
/-- What Encode tells: the bytes, or why there are none. -/
def encodeI (v : It) : List UInt8 := if checkI v = 0 then v.enc else []
def EncPost (w : World) (l : List UInt8) (c : Int) (e : Ending) (w' : World) : Prop :=
  ∃ v', e = .returned (.tuple #[v', .int .i64 c]) ∧ Ow w' (New w) 5 1 v' l.length (l.map enc8) ∧ Fr No w w'
set_option maxHeartbeats 1000000 in
theorem encode_any {v : It} {w : World} {F : Nat → Prop} {vv : Value} (hv : ItV w F vv v) (hsz : v.size ≤ 1048576) (htx : checkI v = 0 → v.texts ∧ v.enc.length ≤ 70368744177664) : Calls Try.prog 35 #[vv] w (EncPost w (encodeI v) (checkI v)) := by
  obtain ⟨cs, rfl, hr⟩ := hv
  obtain ⟨k, n, s, l⟩ := v
  obtain ⟨vl, rfl, hrow, hfit⟩ := itR_row hr
  obtain ⟨A, c, rfl, hc1, hc2⟩ := hrow.shape
  have HR : Hid (ItR w (fun k => F k ∧ k < w.heap.size) (.mk k n s l) [.int .i64 k, .int .i64 n, .string ⟨s.toArray⟩, .slice A l.length c]) := (show ItR _ _ _ _ from itR_bound _ _ hr)
  have HS := Lib.hid hsz
  have HT := Lib.hid htx
  clear hr hrow hc2 hfit hsz htx
  obtain ⟨C, hC⟩ : ∃ C, Hid (C = checkI (.mk k n s l)) := ⟨_, rfl⟩
  obtain ⟨X, hX⟩ : ∃ X, Hid (X = encodeI (.mk k n s l)) := ⟨_, rfl⟩
  rw [← hC.out, ← hX.out]
  unfold str at *
  obtain ⟨w1, hw1⟩ : ∃ w1, Hid (w1 = w.alloc (.cells #[.int .i64 k, .int .i64 n, .string ⟨s.toArray⟩, .slice A l.length c] 48 (0, 0))) := ⟨_, rfl⟩
  have hf1 : Fr No w w1 := by rw [hw1.out]; exact (Fr.refl _ _).alloc _
  have hblk : w1.heap[w.heap.size]? = some (.cells #[.int .i64 k, .int .i64 n, .string ⟨s.toArray⟩, .slice A l.length c] 48 (0, 0)) := by rw [hw1.out]; exact blk_new _ _
  have HBLK := Lib.hid hblk
  have HF1 := Lib.hid hf1
  clear hblk hf1
  go_enter Try.func35, Try.ntmps35
  go_wp2_with fail
  rw [← hw1.out]
  refine (check_any (v := .mk k n s l) (F := fun k => F k ∧ k < w.heap.size) ⟨[.int .i64 k, .int .i64 n, .string ⟨s.toArray⟩, .slice A l.length c], rfl, itR_move (w := w) (w' := w1) (fun k hk hl => HF1.out.block k hl (fun h => h)) _ _ HR.out⟩ HS.out).mono ?_
  rw [← hC.out]
  rintro e w2 ⟨rfl, hf2⟩
  have HF2 : Hid (Fr No w w2) := (show Fr No w w2 from HF1.out.then hf2)
  have hb2 := hf2.heap HBLK.out (fun h => h)
  have c0 := blk_cell hb2 0
  have c1 := blk_cell hb2 1
  have c2 := blk_cell hb2 2
  have c3 := blk_cell hb2 3
  simp only [List.getElem?_toArray, List.getElem?_cons_zero, List.getElem?_cons_succ] at c0 c1 c2 c3
  clear hf2 hb2
  by_cases h0 : C = 0
  · have hok : Hid ((It.mk k n s l).ok = true ∧ checkI (.mk k n s l) = 0) := (show _ ∧ _ from by
      have h1 := hC.out
      rw [h0] at h1
      refine ⟨?_, h1.symm⟩
      unfold checkI at h1
      by_cases hk : (It.mk k n s l).ok = true
      · exact hk
      · rw [if_neg hk] at h1; cases h1)
    have hXe : Hid (X = (It.mk k n s l).enc) := (show _ = _ from by rw [hX.out, encodeI, if_pos hok.out.2])
    subst h0
    go_wp2_with fail
    refine (add_any (.mk k n s l) w2 No (fun k => F k ∧ k < w.heap.size) (.slice none 0 0) _ [] (Ow.nil _ _ _ _) ⟨[.int .i64 k, .int .i64 n, .string ⟨s.toArray⟩, .slice A l.length c], rfl, itR_move (w := w) (w' := w2) (fun k hk hl => HF2.out.block k hl (fun h => h)) _ _ HR.out⟩ (fun k _ h => by simp [Value.ownBlock] at h) HS.out hok.out.1 (HT.out hok.out.2).1 (by simpa using (HT.out hok.out.2).2)).mono ?_
    rintro e w3 ⟨v3, rfl, hown, hfr⟩
    rw [List.nil_append, ← hXe.out] at hown
    have HEND : Hid (EncPost w X 0 (.returned (.tuple #[v3, .int .i64 0])) w3) := (show EncPost _ _ _ _ _ from ⟨v3, rfl, hown.mono (fun k hk => by
      rcases hk with hk | hk
      · simp [Value.ownBlock] at hk
      · exact Nat.le_trans HF2.out.size hk), HF2.out.trans hfr (fun _ _ h => h) (fun k _ h => by simp [Value.ownBlock] at h)⟩)
    clear hown hfr c0 c1 c2 c3
    go_wp2_with fail
    go_ret2
    exact HEND.out
  · have hXe : Hid (X = []) := (show _ = _ from by
      rw [hX.out, encodeI, if_neg (by rw [← hC.out]; exact h0)])
    clear c0 c1 c2 c3
    go_wp2_with fail
    go_ret2
    rw [hXe.out]
    exact (show EncPost _ _ _ _ _ from ⟨_, rfl, Ow.nil _ _ _ _, HF2.out⟩)
end Go.Proofs.Ytbaohngnpgappaa
namespace Go.Proofs.Ytbaohngnpgappaa
open Go.RowKit
theorem num1_any (n : Int) (w : World) : Calls Try.prog 72 #[.int .i64 n] w (Told (.agg #[.int .i64 1, .int .i64 n, .string ⟨#[]⟩, .slice none 0 0]) w) := by
  go_enter Try.func72, Try.ntmps72
  go_wp2_with fail
  go_returns
  exact (show Told _ _ _ _ from ⟨rfl, (Fr.refl _ _).alloc _⟩)
theorem text1_any (s : List UInt8) (w : World) : Calls Try.prog 73 #[.string ⟨s.toArray⟩] w (Told (.agg #[.int .i64 2, .int .i64 0, .string ⟨s.toArray⟩, .slice none 0 0]) w) := by
  go_enter Try.func73, Try.ntmps73
  go_wp2_with fail
  go_returns
  exact (show Told _ _ _ _ from ⟨rfl, (Fr.refl _ _).alloc _⟩)
theorem list1_any (A : Option Addr) (n c : Nat) (w : World) : Calls Try.prog 37 #[.slice A n c] w (Told (.agg #[.int .i64 3, .int .i64 0, .string ⟨#[]⟩, .slice A n c]) w) := by
  go_enter Try.func37, Try.ntmps37
  go_wp2_with fail
  go_returns
  exact (show Told _ _ _ _ from ⟨rfl, (Fr.refl _ _).alloc _⟩)
end Go.Proofs.Ytbaohngnpgappaa
namespace Go.Proofs.Ytbaohngnpgappaa
open Go.RowKit
theorem ow_zeros_big (W : World) {m g : Nat} (hn : m ≤ 140737488355328) (h : W.heap[g]? = some (.cells (madeCells #[.int .u8 0] m) 5 (0, 0))) : Ow W (fun k => k = g) 5 1 (.slice (some ⟨g, 0, none⟩) m m) m ((List.replicate m (0 : UInt8)).map enc8) := by
  refine ⟨⟨by simp, .inr ⟨_, m, _, rfl, Nat.zero_le _, h, Nat.le_refl _, by simp only [maxLen]; omega, by simp [madeCells], ?_⟩⟩, fun k hk => (Option.some.inj hk).symm⟩
  apply List.ext_getElem
  · simp [madeCells]
  · intro i h1 h2
    simp [madeCells, Nat.mod_one, enc8]
/-- Four bytes, the greatest first; the least first. -/
def be4 (n : Nat) : List UInt8 := (List.range 4).map fun j => byteOf ((n : Int) / 2 ^ (24 - 8 * j))
def le4 (n : Nat) : List UInt8 := (List.range 4).map fun j => byteOf ((n : Int) / 2 ^ (8 * j))
def sealB (b : List UInt8) : List UInt8 := be4 b.length ++ b ++ le4 (crc (be4 b.length ++ b))
theorem set_app {α : Type} {a r : List α} {x y : α} (j : Nat) (h : j = a.length) : (a ++ x :: r).set j y = a ++ y :: r := by
  subst h
  rw [List.set_append_right _ _ (Nat.le_refl _), Nat.sub_self]; rfl
theorem be4_step (n : Nat) {j : Nat} (h : j < 4) : (be4 n).take (j + 1) = (be4 n).take j ++ [byteOf ((n : Int) / 2 ^ (24 - 8 * j))] := by
  rw [List.take_add_one]
  unfold be4
  rw [List.getElem?_map, List.getElem?_range h]
  rfl
theorem le4_step (n : Nat) {j : Nat} (h : j < 4) : (le4 n).take (j + 1) = (le4 n).take j ++ [byteOf ((n : Int) / 2 ^ (8 * j))] := by
  rw [List.take_add_one]
  unfold le4
  rw [List.getElem?_map, List.getElem?_range h]
  rfl
theorem be4_len (n : Nat) : (be4 n).length = 4 := by simp [be4]
theorem le4_len (n : Nat) : (le4 n).length = 4 := by simp [le4]
theorem sealB_len (b : List UInt8) : (sealB b).length = b.length + 8 := by unfold sealB; rw [List.length_append, List.length_append, be4_len, le4_len]; omega
set_option maxRecDepth 100000 in
set_option maxHeartbeats 2000000 in
theorem seal_any {w : World} {F : Nat → Prop} {v : Value} {b : List UInt8} (h : Rb w F v b) (hb : b.length ≤ 70368744177664) : Calls Try.prog 57 #[v] w (TellsB w (sealB b)) := by
  obtain ⟨A, c, rfl, hc1, hc2⟩ := h.shape
  have H : Hid (Rb w (fun k => F k ∧ k < w.heap.size) (.slice A b.length c) b) := (show Rb _ _ _ _ from h.bound)
  clear h hc2
  obtain ⟨N, hN⟩ : ∃ N, N = b.length + 8 := ⟨_, rfl⟩
  have hmk := fun (W : World) => run_make_row' (P := Try.prog) 22 5 (.int .u8 0) 1 Try.underlying22 info5 rfl .i64 .i64 N (by omega) (by omega) W
  have hNi : (b.length : Int) + 8 = (N : Int) := by omega
  have hN63 : (N : Int) ≤ 70368744177672 := by omega
  have HN := Lib.hid hN
  clear hN
  go_enter Try.func57, Try.ntmps57
  go_wp2_with fail
  have HR0 : Hid (Ow (w.alloc (.cells (madeCells #[.int .u8 0] N) 5 (0, 0))) (fun k => k = w.heap.size) 5 1 (.slice (some ⟨w.heap.size, 0, none⟩) N N) N (((be4 b.length).take 0 ++ List.replicate (N - 0) (0 : UInt8)).map enc8) ∧ Fr No w (w.alloc (.cells (madeCells #[.int .u8 0] N) 5 (0, 0)))) := by
    refine (show _ ∧ _ from ⟨?_, (Fr.refl _ _).alloc _⟩)
    rw [List.take_zero, List.nil_append, Nat.sub_zero]
    exact ow_zeros_big _ (m := N) (by omega) (blk_new _ _)
  go_loopw [11] (fun i wr => ∃ j : Nat, j ≤ 4 ∧ i = .int .i64 j ∧ Hid (Ow wr (fun k => k = w.heap.size) 5 1 (.slice (some ⟨w.heap.size, 0, none⟩) N N) N (((be4 b.length).take j ++ List.replicate (N - j) (0 : UInt8)).map enc8) ∧ Fr No w wr)) (fun i _ => 4 - (intOf i).toNat)
  case atStart => exact ⟨0, Nat.zero_le _, rfl, HR0⟩
  case round =>
    obtain ⟨j, hj, rfl, HR⟩ := hrel
    by_cases hj4 : (j : Int) < 4
    · obtain ⟨B, hB⟩ : ∃ B, Hid (B = byteOf ((b.length : Int) / 2 ^ (24 - 8 * j))) := ⟨_, rfl⟩
      obtain ⟨z, hz⟩ : ∃ z : Int, Hid (z = IntKind.u8.wrap ((b.length : Int) / 2 ^ (24 - 8 * j))) := ⟨_, rfl⟩
      have henc : Hid (enc8 B = .int .u8 z) := (show _ = _ from by rw [hB.out, hz.out]; exact byteOf_enc _)
      obtain ⟨g, c7, cur, he3, hg, hblk7, _, _, hcs7, _⟩ := HR.out.1.form (by omega)
      cases he3
      have hcur : j < cur.size := by omega
      obtain ⟨old, g1⟩ : ∃ old, wr.cell? ⟨w.heap.size, j, none⟩ = some old := ⟨cur[j], by rw [blk_cell hblk7, Array.getElem?_eq_getElem hcur]⟩
      have g2 : wr.frozen? ⟨w.heap.size, j, none⟩ = false := blk_free hblk7 _
      have hjN : (j : Int) < (N : Int) := by omega
      have HR2 : Hid (Ow (wr.setCell ⟨w.heap.size, j, none⟩ (.int .u8 z)) (fun k => k = w.heap.size) 5 1 (.slice (some ⟨w.heap.size, 0, none⟩) N N) N (((be4 b.length).take (j + 1) ++ List.replicate (N - (j + 1)) (0 : UInt8)).map enc8) ∧ Fr No w (wr.setCell ⟨w.heap.size, j, none⟩ (.int .u8 z))) := by
        refine (show _ ∧ _ from ⟨?_, HR.out.2.setCell _ _ (fun h => by simp at h)⟩)
        have h1 := HR.out.1.set j (.int .u8 z)
        rw [← henc.out, ← List.map_set, show N - j = (N - (j + 1)) + 1 from by omega, List.replicate_succ, set_app j (by rw [List.length_take, be4_len]; omega)] at h1
        rw [be4_step _ (by omega), ← hB.out, List.append_assoc, ← henc.out]
        exact h1
      clear hblk7 hcs7
      go_wp2_with (with_reducible refine halt_dst 22 rfl ?_)
      refine wpListG_run (by rfl) (v := .int .u8 z) (w' := wr) ?hr ?_
      case hr => go_simp; (try rw [hz.out])
      go_wp2_with fail
      go_roundw
      case rel => exact ⟨j + 1, by omega, by go_num, HR2⟩
      case measure => simp [intOf]; omega
    · have hj5 : j = 4 := by omega
      subst hj5
      clear hj4
      obtain ⟨R, hR⟩ : ∃ R, Hid (R = (be4 b.length).take 4 ++ List.replicate (N - 4) (0 : UInt8)) := ⟨_, rfl⟩
      have hRl : Hid (R.length = N) := (show _ = _ from by rw [hR.out, List.length_append, List.length_take, be4_len, List.length_replicate]; omega)
      rw [← hR.out] at HR
      obtain ⟨A4, hcut, hA4⟩ := cut_run (P := Try.prog) 22 5 Try.underlying22 sz5 (some ⟨w.heap.size, 0, none⟩) N N 4 (by omega)
      have HA4 := Lib.hid hA4
      obtain ⟨_, _, he, _, _, hnews⟩ := (H.out.fr HR.out.2 (fun _ _ _ h => h)).news
      cases he
      have HNW := Lib.hid hnews
      clear hA4 hnews
      go_wp2_with (with_reducible refine halt_dst 28 rfl ?_)
      refine wpList_cpy rfl (.tmp 26) (.tmp 27) 22 22 5 rfl Try.underlying22 sz5 _ _ _ rfl _ _ _ rfl (.slice (some ⟨w.heap.size, 0, none⟩) N N) N (R.map enc8) HR.out.1 4 (by omega) (by omega) (by intro _ g c h; cases h; rfl) (b.map enc8) (by rw [List.length_map]; omega) HNW.out (one8 _) ?_
      intro w4 hown4 hfr4
      rw [splice_map] at hown4
      obtain ⟨M, hM⟩ : ∃ M, Hid (M = be4 b.length ++ b) := ⟨_, rfl⟩
      have hMl : Hid (M.length = b.length + 4) := (show _ = _ from by rw [hM.out, List.length_append, be4_len]; omega)
      have hsp : splice R 4 b = M ++ List.replicate 4 (0 : UInt8) := by
        rw [hR.out, hM.out, List.take_of_length_le (by rw [be4_len]; omega), show N - 4 = b.length + 4 from by have := HN.out; omega]
        unfold splice
        rw [List.take_append_of_le_length (by rw [be4_len]; omega), List.take_of_length_le (by rw [be4_len]; omega), List.drop_append, List.drop_eq_nil_of_le (by rw [be4_len]; omega), be4_len, List.nil_append, List.drop_replicate]
        rw [show b.length + 4 - (4 + b.length - 4) = 4 from by omega]
        simp
      rw [hsp] at hown4
      have HO4 : Hid (Ow w4 (fun k => k = w.heap.size) 5 1 (.slice (some ⟨w.heap.size, 0, none⟩) N N) N ((M ++ List.replicate 4 (0 : UInt8)).map enc8) ∧ Fr No w w4) := (show _ ∧ _ from ⟨hown4.mono (fun k hk => (Option.some.inj hk).symm), HR.out.2.news hfr4 (fun k hk => by have h : w.heap.size = k := Option.some.inj hk; omega)⟩)
      clear hown4 hfr4 hsp
      go_wp2_with fail
      have hrd : Rb w4 (fun k => k = w.heap.size) (.slice (some ⟨w.heap.size, 0, none⟩) (b.length + 4) N) M := by
        have h1 : Rb w4 (fun k => k = w.heap.size) (.slice (some ⟨w.heap.size, 0, none⟩) N N) (M ++ List.replicate 4 (0 : UInt8)) := by
          have hl : (M ++ List.replicate 4 (0 : UInt8)).length = N := by rw [List.length_append, hMl.out, List.length_replicate, HN.out]
          have h2 := HO4.out.1
          have h3 := Ow.reads (l := M ++ List.replicate 4 (0 : UInt8)) (by rw [hl]; exact h2)
          exact h3
        obtain ⟨_, _, he, _, _, h⟩ := h1.take_ (b.length + 4) (by rw [List.length_append, hMl.out]; omega)
        have hl : (M ++ List.replicate 4 (0 : UInt8)).length = N := by rw [List.length_append, hMl.out, List.length_replicate, HN.out]
        rw [hl] at he
        cases he
        rw [List.take_append_of_le_length (by rw [hMl.out]; omega), List.take_of_length_le (by rw [hMl.out]; omega)] at h
        exact h
      refine (sum_any hrd).mono ?_
      obtain ⟨C, hC⟩ : ∃ C, Hid (C = crc M) := ⟨_, rfl⟩
      rw [← hC.out]
      rintro e w' ⟨rfl, rfl⟩
      clear hrd
      go_wp2_with fail
      have HS0 : Hid (Ow w4 (fun k => k = w.heap.size) 5 1 (.slice (some ⟨w.heap.size, 0, none⟩) N N) N ((M ++ (le4 C).take 0 ++ List.replicate (4 - 0) (0 : UInt8)).map enc8) ∧ Fr No w w4) := (show _ ∧ _ from by rw [List.take_zero, List.append_nil, Nat.sub_zero]; exact HO4.out)
      go_loopw [35] (fun i wx => ∃ j : Nat, j ≤ 4 ∧ i = .int .i64 j ∧ Hid (Ow wx (fun k => k = w.heap.size) 5 1 (.slice (some ⟨w.heap.size, 0, none⟩) N N) N ((M ++ (le4 C).take j ++ List.replicate (4 - j) (0 : UInt8)).map enc8) ∧ Fr No w wx)) (fun i _ => 4 - (intOf i).toNat)
      case atStart => exact ⟨0, Nat.zero_le _, rfl, HS0⟩
      case round =>
        obtain ⟨j, hj, rfl, HX⟩ := hrel
        by_cases hj4 : (j : Int) < 4
        · obtain ⟨B, hB⟩ : ∃ B, Hid (B = byteOf ((C : Int) / 2 ^ (8 * j))) := ⟨_, rfl⟩
          obtain ⟨z, hz⟩ : ∃ z : Int, Hid (z = IntKind.u8.wrap ((C : Int) / 2 ^ (8 * j))) := ⟨_, rfl⟩
          have henc : Hid (enc8 B = .int .u8 z) := (show _ = _ from by rw [hB.out, hz.out]; exact byteOf_enc _)
          obtain ⟨g, c7, cur, he3, hg, hblk7, _, _, hcs7, _⟩ := HX.out.1.form (by omega)
          cases he3
          have hcur : b.length + 4 + j < cur.size := by omega
          obtain ⟨old, g1⟩ : ∃ old, wr.cell? ⟨w.heap.size, b.length + 4 + j, none⟩ = some old := ⟨cur[b.length + 4 + j], by rw [blk_cell hblk7, Array.getElem?_eq_getElem hcur]⟩
          have g2 : wr.frozen? ⟨w.heap.size, b.length + 4 + j, none⟩ = false := blk_free hblk7 _
          have hjN : (b.length : Int) + 4 + (j : Int) < (N : Int) := by omega
          have HX2 : Hid (Ow (wr.setCell ⟨w.heap.size, b.length + 4 + j, none⟩ (.int .u8 z)) (fun k => k = w.heap.size) 5 1 (.slice (some ⟨w.heap.size, 0, none⟩) N N) N ((M ++ (le4 C).take (j + 1) ++ List.replicate (4 - (j + 1)) (0 : UInt8)).map enc8) ∧ Fr No w (wr.setCell ⟨w.heap.size, b.length + 4 + j, none⟩ (.int .u8 z))) := by
            refine (show _ ∧ _ from ⟨?_, HX.out.2.setCell _ _ (fun h => by simp at h)⟩)
            have h1 := HX.out.1.set (b.length + 4 + j) (.int .u8 z)
            rw [← henc.out, ← List.map_set, show 4 - j = (4 - (j + 1)) + 1 from by omega, List.replicate_succ, set_app (b.length + 4 + j) (by rw [List.length_append, List.length_take, le4_len, hMl.out]; omega)] at h1
            rw [le4_step _ (by omega), ← hB.out, ← List.append_assoc, List.append_assoc _ [B], ← henc.out]
            exact h1
          clear hblk7 hcs7
          go_wp2_with (with_reducible refine halt_dst 48 rfl ?_)
          refine wpListG_run (by rfl) (v := .int .u8 z) (w' := wr) ?hr ?_
          case hr => go_simp; (try rw [hz.out])
          go_wp2_with fail
          go_roundw
          case rel => exact ⟨j + 1, by omega, by go_num, HX2⟩
          case measure => simp [intOf]; omega
        · have hj5 : j = 4 := by omega
          subst hj5
          clear hj4
          go_wp2_with fail
          go_ret
          have h1 := HX.out.1
          rw [List.take_of_length_le (by rw [le4_len]; omega), Nat.sub_self, List.replicate_zero, List.append_nil] at h1
          have hs : sealB b = M ++ le4 C := by rw [sealB, hC.out, hM.out]
          refine (show TellsB _ _ _ _ from ⟨_, rfl, ?_, HX.out.2⟩)
          rw [sealB_len, ← HN.out, hs]
          exact h1.mono (fun k hk => Nat.le_of_eq hk.symm)
end Go.Proofs.Ytbaohngnpgappaa
namespace Go.Proofs.Ytbaohngnpgappaa
open Go.RowKit
theorem enc_one : encodeI (.mk 1 1 [] []) = [1, 0, 0, 0, 0, 0, 0, 0, 1] ∧ checkI (.mk 1 1 [] []) = 0 := by constructor <;> decide +kernel
theorem enc_two : encodeI (.mk 3 0 [] [.mk 2 0 [97, 98] [], .mk 3 0 [] []]) = [3, 2, 2, 2, 97, 98, 3, 0] ∧ checkI (.mk 3 0 [] [.mk 2 0 [97, 98] [], .mk 3 0 [] []]) = 0 := by constructor <;> decide +kernel
theorem crc_nine : crc [49, 50, 51, 52, 53, 54, 55, 56, 57] = 3421780262 := by decide +kernel
end Go.Proofs.Ytbaohngnpgappaa
namespace Go.Proofs.Ytbaohngnpgappaa
open Go.RowKit
theorem blk_freeze {w : World} {a : Addr} {n : Nat} {cs : Array Value} {t : TypeId} {fr : Nat × Nat} (h : w.heap[a.block]? = some (.cells cs t fr)) : ∃ fz, (w.freeze a n).heap[a.block]? = some (.cells cs t fz) := by
  unfold World.freeze
  split
  · exact ⟨_, h⟩
  · simp [Array.getElem?_modify, h]
theorem nine_rb {w : World} {b : Nat} {fz : Nat × Nat} (h : w.heap[b]? = some (.cells #[.int .u8 49, .int .u8 50, .int .u8 51, .int .u8 52, .int .u8 53, .int .u8 54, .int .u8 55, .int .u8 56, .int .u8 57] 5 fz)) : Rb w (fun k => k = b) (.slice (some ⟨b, 0, none⟩) 9 9) [49, 50, 51, 52, 53, 54, 55, 56, 57] := by
  refine ⟨_, 9, rfl, Nat.le_refl _, by decide, fun j x hj => ⟨b, 0, rfl, rfl, ?_⟩⟩
  rw [blk_cell h, Nat.zero_add]
  rcases j with _ | _ | _ | _ | _ | _ | _ | _ | _ | j <;> simp at hj <;> subst hj <;> rfl
set_option maxRecDepth 100000 in
set_option maxHeartbeats 2000000 in
theorem wlive_any (w : World) : Calls Try.prog 33 #[] w (Told (.bool true) w) := by
  go_enter Try.func33, Try.ntmps33
  go_wp2_with fail
  refine (num1_any 1 _).mono ?_
  rintro e w1 ⟨rfl, hf1⟩
  have HF1 := Lib.hid hf1
  clear hf1
  go_wp2_with fail
  have hi1 : ItV w1 No (.agg #[.int .i64 1, .int .i64 1, .string ⟨#[]⟩, .slice none 0 0]) (.mk 1 1 [] []) := ⟨_, rfl, itR_of_row (s := []) (Row.nil _ _ _ _ _ (Nat.zero_le _)) ⟨by unfold I64; omega, by unfold I64; omega, Nat.zero_le _⟩⟩
  refine (encode_any hi1 (by decide +kernel) (fun _ => ⟨by simp [It.texts, It.textss], by decide +kernel⟩)).mono ?_
  rw [enc_one.1, enc_one.2]
  rintro e w2 ⟨v2, rfl, hown2, hf2⟩
  obtain ⟨A2, c2, rfl, _, _⟩ := hown2.shape
  have HF2 := Lib.hid (HF1.out.then hf2)
  have HO2 := Lib.hid hown2.bound
  clear hown2 hf2 hi1
  go_wp2_with fail
  refine (text1_any [97, 98] _).mono ?_
  rintro e w3 ⟨rfl, hf3⟩
  have HF3 := Lib.hid hf3
  clear hf3
  go_wp2_with fail
  refine (list1_any none 0 0 _).mono ?_
  rintro e w4 ⟨rfl, hf4⟩
  have HF4 := Lib.hid (HF3.out.then hf4)
  clear hf4
  go_wp2_with fail
  obtain ⟨w5, hw5⟩ : ∃ w5, Hid (w5 = w4.alloc (.cells #[.int .i64 2, .int .i64 0, .string ⟨#[97, 98]⟩, .slice none 0 0, .int .i64 3, .int .i64 0, .string ⟨#[]⟩, .slice none 0 0] 48 (0, 0))) := ⟨_, rfl⟩
  rw [← hw5.out]
  have hf5 : Fr No w4 w5 := by rw [hw5.out]; exact (Fr.refl _ _).alloc _
  have hb5 : w5.heap[w4.heap.size]? = some (.cells #[.int .i64 2, .int .i64 0, .string ⟨#[97, 98]⟩, .slice none 0 0, .int .i64 3, .int .i64 0, .string ⟨#[]⟩, .slice none 0 0] 48 (0, 0)) := by rw [hw5.out]; exact blk_new _ _
  have HF5 := Lib.hid (HF4.out.then hf5)
  have HB5 := Lib.hid hb5
  clear hf5 hb5
  refine (list1_any _ 2 2 _).mono ?_
  rintro e w6 ⟨rfl, hf6⟩
  have hrow : Row ItK w6 (fun k => k < w6.heap.size) (.slice (some ⟨w4.heap.size, 0, none⟩) 2 2) [.mk 2 0 [97, 98] [], .mk 3 0 [] []] := by
    have hb6 := hf6.heap HB5.out (fun h => h)
    refine ⟨_, 2, rfl, Nat.le_refl _, by decide, fun j x hj => ?_⟩
    rcases j with _ | _ | j
    · cases hj
      refine ⟨_, 0, _, rfl, heap_lt hb6, itR_of_row (s := [97, 98]) (Row.nil _ _ _ none 0 (Nat.zero_le _)) ⟨by unfold I64; omega, by unfold I64; omega, by decide⟩, fun i u hu => ?_⟩
      rw [blk_cell hb6]
      rcases i with _ | _ | _ | _ | i
      · exact hu
      · exact hu
      · exact hu
      · exact hu
      · simp at hu
    · cases hj
      refine ⟨_, 0, _, rfl, heap_lt hb6, itR_of_row (s := []) (Row.nil _ _ _ none 0 (Nat.zero_le _)) ⟨by unfold I64; omega, by unfold I64; omega, by decide⟩, fun i u hu => ?_⟩
      rw [blk_cell hb6]
      rcases i with _ | _ | _ | _ | i
      · exact hu
      · exact hu
      · exact hu
      · exact hu
      · simp at hu
    · simp at hj
  have hi2 : ItV w6 (fun k => k < w6.heap.size) (.agg #[.int .i64 3, .int .i64 0, .string ⟨#[]⟩, .slice (some ⟨w4.heap.size, 0, none⟩) 2 2]) (.mk 3 0 [] [.mk 2 0 [97, 98] [], .mk 3 0 [] []]) := ⟨_, rfl, itR_of_row (s := []) hrow ⟨by unfold I64; omega, by unfold I64; omega, Nat.zero_le _⟩⟩
  have HI2 := Lib.hid hi2
  have HF6 := Lib.hid hf6
  clear hf6 hrow hi2
  go_wp2_with fail
  refine (encode_any HI2.out (by decide +kernel) (fun _ => ⟨by simp [It.texts, It.textss], by decide +kernel⟩)).mono ?_
  rw [enc_two.1, enc_two.2]
  rintro e w7 ⟨v7, rfl, hown7, hf7⟩
  obtain ⟨A7, c7, rfl, _, _⟩ := hown7.shape
  have HF7 : Hid (Fr No w2 w7) := (show Fr No w2 w7 from (HF5.out.then HF6.out).then hf7)
  have HO7 := Lib.hid hown7
  clear hown7 hf7
  have hr2 : Rb w7 (fun k => New w1 k ∧ k < w2.heap.size) (.slice A2 9 c2) [1, 0, 0, 0, 0, 0, 0, 0, 1] := HO2.out.reads.fr HF7.out (fun _ _ _ h => h)
  go_wp2_with (with_reducible refine halt_dst 19 rfl ?_)
  refine wpListG_str (by rfl) rfl Try.underlying22 Try.underlying5 Try.underlying9 hr2 ?_
  go_wp2_with (with_reducible refine halt_dst 27 rfl ?_)
  refine wpListG_str (by rfl) rfl Try.underlying22 Try.underlying5 Try.underlying9 (l := [3, 2, 2, 2, 97, 98, 3, 0]) HO7.out.reads ?_
  go_wp2_with (with_reducible refine halt_dst 36 rfl ?_)
  obtain ⟨w8, hw8⟩ : ∃ w8, Hid (w8 = (w7.alloc (.cells #[.int .u8 49, .int .u8 50, .int .u8 51, .int .u8 52, .int .u8 53, .int .u8 54, .int .u8 55, .int .u8 56, .int .u8 57] 5 (0, 0))).freeze ⟨w7.heap.size, 9, none⟩ 1) := ⟨_, rfl⟩
  have hf8 : Fr No w7 w8 := by rw [hw8.out]; exact Fr.ofBelow (Go.Lib.below_freeze (((Fr.refl No w7).alloc _).toBelow (fun _ _ h => h)) (p := ⟨w7.heap.size, 9, none⟩) (Nat.le_refl _) 1)
  refine wpListG_run (by rfl) (v := .slice (some ⟨w7.heap.size, 0, none⟩) 9 9) (w' := w8) ?hr ?_
  case hr =>
    rw [hw8.out]
    unfold execOp
    simp [convert, run_underlying Try.underlying22, Act.eval, markStringish, shape, freeze, Sem.run]
    have hsh : (w7.alloc (.cells #[.int .u8 49, .int .u8 50, .int .u8 51, .int .u8 52, .int .u8 53, .int .u8 54, .int .u8 55, .int .u8 56, .int .u8 57] 5 (0, 0))).shape? w7.heap.size = some (5, 9) := by unfold World.shape?; rw [blk_new]; rfl
    rw [hsh]; rfl
  have hl9 : Rb w8 (fun k => k = w7.heap.size) (.slice (some ⟨w7.heap.size, 0, none⟩) 9 9) [49, 50, 51, 52, 53, 54, 55, 56, 57] := by
    obtain ⟨fz, hb⟩ := blk_freeze (a := ⟨w7.heap.size, 9, none⟩) (n := 1) (blk_new w7 (.cells #[.int .u8 49, .int .u8 50, .int .u8 51, .int .u8 52, .int .u8 53, .int .u8 54, .int .u8 55, .int .u8 56, .int .u8 57] 5 (0, 0)))
    rw [← hw8.out] at hb
    exact nine_rb hb
  go_wp2_with fail
  refine (sum_any hl9).mono ?_
  rw [crc_nine]
  rintro e w' ⟨rfl, rfl⟩
  clear hl9
  go_wp2_with fail
  refine (seal_any (F := No) (Rds.nil _ _ _ _ _ (Nat.zero_le _)) (by decide)).mono ?_
  rintro e w9 ⟨v9, rfl, hown9, hf9⟩
  rw [sealB_len, List.length_nil, Nat.zero_add] at hown9
  obtain ⟨A9, c9, rfl, _, _⟩ := hown9.shape
  have HF9 : Hid (Fr No w w9) := (show Fr No w w9 from ((HF2.out.then HF7.out).then hf8).then hf9)
  clear hown9 hf9
  go_wp2_with fail
  go_ret
  exact (show Told _ _ _ _ from ⟨rfl, HF9.out⟩)
end Go.Proofs.Ytbaohngnpgappaa
