/- Whether two items are the same: the document's Same, and wire's. -/
import Derived.Test.YtbaohngnpgappaaW3
set_option linter.unusedVariables false
set_option linter.unusedSimpArgs false
namespace Go.Proofs.Ytbaohngnpgappaa
open Go.RowKit
mutual
def It.same : It → It → Bool
  | .mk k n s l, .mk k' n' s' l' => decide (k = k') && decide (n = n') && decide (s = s') && It.sames l l'
def It.sames : List It → List It → Bool
  | [], [] => true
  | x :: r, y :: t => It.same x y && It.sames r t
  | _, _ => false
end
theorem It.sames_iff : ∀ {l l' : List It}, It.sames l l' = true ↔ l.length = l'.length ∧ ∀ (j : Nat) (x y : It), l[j]? = some x → l'[j]? = some y → It.same x y = true := by
  intro l
  induction l with
  | nil =>
    intro l'
    cases l' with
    | nil => simp [It.sames]
    | cons y t => simp [It.sames]
  | cons x r ih =>
    intro l'
    cases l' with
    | nil => simp [It.sames]
    | cons y t =>
      rw [It.sames, Bool.and_eq_true, ih]
      constructor
      · rintro ⟨h1, h2, h3⟩
        refine ⟨by simp [h2], fun j a b ha hb => ?_⟩
        rcases j with _ | j
        · cases ha; cases hb; exact h1
        · exact h3 j a b ha hb
      · rintro ⟨h1, h2⟩
        exact ⟨h2 0 x y rfl rfl, by simpa using h1, fun j a b ha hb => h2 (j + 1) a b ha hb⟩
theorem str_ne {s s' : List UInt8} (h : s ≠ s') : (⟨s.toArray⟩ : ByteArray) ≠ ⟨s'.toArray⟩ := by
  intro e
  injection e with e
  exact h (by simpa using e)
set_option maxHeartbeats 2000000 in
theorem refsame_any : ∀ (v : It) (u : It) (w : World) (F1 F2 : Nat → Prop) (v1 v2 : Value), ItV w F1 v1 v → ItV w F2 v2 u → Calls Try.prog 44 #[v1, v2] w (Told (.bool (It.same v u)) w) := by
  refine It.ind fun k n s l ih u w F1 F2 v1 v2 hv hu => ?_
  obtain ⟨k', n', s', l'⟩ := u
  obtain ⟨cs, rfl, hr⟩ := hv
  obtain ⟨vl, rfl, hrow, hfit⟩ := itR_row hr
  obtain ⟨A, c, rfl, hc1, hc2⟩ := hrow.shape
  obtain ⟨cs, rfl, hr'⟩ := hu
  obtain ⟨vl, rfl, hrow', hfit'⟩ := itR_row hr'
  obtain ⟨A', c', rfl, hc1', hc2'⟩ := hrow'.shape
  have hl2 : (l.length : Int) ≤ 9223372036854775807 := by simp only [maxLen] at hc2; omega
  have HR := Lib.hid hrow
  have HR' := Lib.hid hrow'
  have IH := Lib.hid ih
  obtain ⟨C, hC⟩ : ∃ C, Hid (C = It.same (.mk k n s l) (.mk k' n' s' l')) := ⟨_, rfl⟩
  rw [← hC.out]
  clear hr hrow hc2 ih hfit hr' hrow' hc2' hfit'
  unfold str
  by_cases hk : k = k'
  · subst hk
    by_cases hn : n = n'
    · subst hn
      by_cases hs : s = s'
      · subst hs
        by_cases hll : l.length = l'.length
        · rw [← hll]
          have HLL := Lib.hid hll
          clear hll
          go_enter Try.func44, Try.ntmps44
          go_wp2_with fail
          go_loopw [37] (fun i wr => ∃ (j : Nat), j ≤ l.length ∧ i = .int .i64 j ∧ Hid (Fr No w wr ∧ (∀ (i : Nat) (x y : It), i < j → l[i]? = some x → l'[i]? = some y → It.same x y = true) ∧ wr.heap[w.heap.size]? = some (.cells #[.int .i64 k, .int .i64 n, .string ⟨s.toArray⟩, .slice A l.length c] 48 (0, 0)) ∧ wr.heap[w.heap.size + 1]? = some (.cells #[.int .i64 k, .int .i64 n, .string ⟨s.toArray⟩, .slice A' l.length c'] 48 (0, 0)))) (fun i _ => l.length - (intOf i).toNat)
          case atStart => exact ⟨0, Nat.zero_le _, rfl, (show _ ∧ _ from ⟨((Fr.refl _ w).alloc _).alloc _, fun _ _ _ h => absurd h (Nat.not_lt_zero _), blk_alloc (blk_new _ _) _, blk_new' (by simp)⟩)⟩
          case round =>
            obtain ⟨j, hj, rfl, HX⟩ := hrel
            by_cases hlt : j < l.length
            · have hlt' : j < l'.length := by rw [← HLL.out]; exact hlt
              obtain ⟨b1, o1, _, cs, he, _, _, _, hrx, hcell⟩ := (HR.out.fr (by decide) HX.out.1 (fun _ _ _ h => h)).at_ j hlt
              cases he
              obtain ⟨x, hx⟩ : ∃ x, x = l[j] := ⟨_, rfl⟩
              have HXJ1 : Hid (l[j]? = some x) := (show _ = _ from by rw [hx]; exact List.getElem?_eq_getElem hlt)
              have hmem1 : Hid (x ∈ l) := (show x ∈ l from by rw [hx]; exact List.getElem_mem hlt)
              rw [← hx] at hrx
              obtain ⟨xk, xn, xs, xl⟩ := x
              obtain ⟨vl, rfl, hrow, hfit⟩ := itR_row hrx
              obtain ⟨A1, c1, rfl, _, _⟩ := hrow.shape
              have e10 := hcell 0 _ rfl
              have e11 := hcell 1 _ rfl
              have e12 := hcell 2 _ rfl
              have e13 := hcell 3 _ rfl
              simp only [show ItK.sz = 4 from rfl, Nat.add_zero, str] at e10 e11 e12 e13
              have HRX1 := Lib.hid hrx
              clear hcell hrow hfit hrx hx
              obtain ⟨b2, o2, _, cs, he, _, _, _, hrx, hcell⟩ := (HR'.out.fr (by decide) HX.out.1 (fun _ _ _ h => h)).at_ j hlt'
              cases he
              obtain ⟨y, hx⟩ : ∃ x, x = l'[j] := ⟨_, rfl⟩
              have HXJ2 : Hid (l'[j]? = some y) := (show _ = _ from by rw [hx]; exact List.getElem?_eq_getElem hlt')
              have hmem2 : Hid (y ∈ l') := (show y ∈ l' from by rw [hx]; exact List.getElem_mem hlt')
              rw [← hx] at hrx
              obtain ⟨yk, yn, ys, yl⟩ := y
              obtain ⟨vl, rfl, hrow, hfit⟩ := itR_row hrx
              obtain ⟨A2, c2, rfl, _, _⟩ := hrow.shape
              have e20 := hcell 0 _ rfl
              have e21 := hcell 1 _ rfl
              have e22 := hcell 2 _ rfl
              have e23 := hcell 3 _ rfl
              simp only [show ItK.sz = 4 from rfl, Nat.add_zero, str] at e20 e21 e22 e23
              have HRX2 := Lib.hid hrx
              clear hcell hrow hfit hrx hx
              have d1 := blk_cell HX.out.2.2.1 3
              have d2 := blk_cell HX.out.2.2.2 3
              simp only [List.getElem?_toArray, List.getElem?_cons_zero, List.getElem?_cons_succ] at d1 d2
              go_wp2_with fail
              refine wp_seq_region (fun W => W.cell? ⟨w.heap.size, 3, none⟩ = some (.slice (some ⟨b1, o1, none⟩) l.length c) ∧ W.cell? ⟨w.heap.size + 1, 3, none⟩ = some (.slice (some ⟨b2, o2, none⟩) l.length c') ∧ W.cell? ⟨b1, o1 + j * 4, none⟩ = some (.int .i64 xk) ∧ W.cell? ⟨b1, o1 + j * 4 + 1, none⟩ = some (.int .i64 xn) ∧ W.cell? ⟨b1, o1 + j * 4 + 2, none⟩ = some (.string ⟨xs.toArray⟩) ∧ W.cell? ⟨b1, o1 + j * 4 + 3, none⟩ = some (.slice A1 xl.length c1) ∧ W.cell? ⟨b2, o2 + j * 4, none⟩ = some (.int .i64 yk) ∧ W.cell? ⟨b2, o2 + j * 4 + 1, none⟩ = some (.int .i64 yn) ∧ W.cell? ⟨b2, o2 + j * 4 + 2, none⟩ = some (.string ⟨ys.toArray⟩) ∧ W.cell? ⟨b2, o2 + j * 4 + 3, none⟩ = some (.slice A2 yl.length c2)) [10] [1, 4, 6, 9] [] [0, 1, 2, 3, 4, 5, 6, 7, 8, 9, 10, 11] (by kernel_rfl) (by kernel_rfl) rfl (by kernel_rfl) (fun _ _ _ _ _ h => h) ?_
              have HS : Hid (wr.drew.cell? ⟨w.heap.size, 3, none⟩ = some (.slice (some ⟨b1, o1, none⟩) l.length c) ∧ wr.drew.cell? ⟨w.heap.size + 1, 3, none⟩ = some (.slice (some ⟨b2, o2, none⟩) l.length c') ∧ wr.drew.cell? ⟨b1, o1 + j * 4, none⟩ = some (.int .i64 xk) ∧ wr.drew.cell? ⟨b1, o1 + j * 4 + 1, none⟩ = some (.int .i64 xn) ∧ wr.drew.cell? ⟨b1, o1 + j * 4 + 2, none⟩ = some (.string ⟨xs.toArray⟩) ∧ wr.drew.cell? ⟨b1, o1 + j * 4 + 3, none⟩ = some (.slice A1 xl.length c1) ∧ wr.drew.cell? ⟨b2, o2 + j * 4, none⟩ = some (.int .i64 yk) ∧ wr.drew.cell? ⟨b2, o2 + j * 4 + 1, none⟩ = some (.int .i64 yn) ∧ wr.drew.cell? ⟨b2, o2 + j * 4 + 2, none⟩ = some (.string ⟨ys.toArray⟩) ∧ wr.drew.cell? ⟨b2, o2 + j * 4 + 3, none⟩ = some (.slice A2 yl.length c2)) := (show _ ∧ _ from ⟨d1, d2, e10, e11, e12, e13, e20, e21, e22, e23⟩)
              clear d1 d2 e10 e11 e12 e13 e20 e21 e22 e23
              repeat (first
                | (refine sq_off (a' := ?_) rfl rfl (by rfl) (fun _ => (HS).out) ?ha ?_; (case ha => simp only [Act.put, List.setIfInBounds_toArray, List.set_cons_zero, List.set_cons_succ]; rfl))
                | (refine sq_any (v := ?_) (a' := ?_) rfl rfl rfl (by rfl) (fun W => ?hr) ?ha ?_; (case hr => go_simp; first | done | rfl); (case ha => simp only [Act.put, List.setIfInBounds_toArray, List.set_cons_zero, List.set_cons_succ]; rfl))
                | (refine sq_load (v := ?_) (a' := ?_) rfl rfl rfl (by rfl) (fun W hSW => ?hr) (HS).out ?ha ?_; (case hr => (try dsimp only at hSW); go_simp; first | done | rfl); (case ha => simp only [Act.put, List.setIfInBounds_toArray, List.set_cons_zero, List.set_cons_succ]; rfl)))
              refine sq_call rfl rfl (by rfl) rfl Try.func44 rfl rfl [.agg #[.int .i64 xk, .int .i64 xn, .string ⟨xs.toArray⟩, .slice A1 xl.length c1], .agg #[.int .i64 yk, .int .i64 yn, .string ⟨ys.toArray⟩, .slice A2 yl.length c2]] rfl ?_
              refine (IH.out _ hmem1.out (.mk yk yn ys yl) wr.drew F1 F2 _ _ ⟨[.int .i64 xk, .int .i64 xn, .string ⟨xs.toArray⟩, .slice A1 xl.length c1], rfl, itR_move (w := wr) (w' := wr.drew) (fun _ _ _ => rfl) _ _ HRX1.out⟩ ⟨[.int .i64 yk, .int .i64 yn, .string ⟨ys.toArray⟩, .slice A2 yl.length c2], rfl, itR_move (w := wr) (w' := wr.drew) (fun _ _ _ => rfl) _ _ HRX2.out⟩).mono ?_
              obtain ⟨D, hD⟩ : ∃ D, Hid (D = It.same (.mk xk xn xs xl) (.mk yk yn ys yl)) := ⟨_, rfl⟩
              rw [← hD.out]
              rintro e w5 ⟨rfl, hf5⟩
              have HF5 := Lib.hid (((Fr.refl No wr).drew).then hf5)
              clear hf5
              refine ⟨_, rfl, fun _ => ?_, ?_⟩
              · obtain ⟨q0, q1, q2, q3, q4, q5, q6, q7, q8, q9⟩ := HS.out
                exact ⟨HF5.out.cell q0 (fun h => h), HF5.out.cell q1 (fun h => h), HF5.out.cell q2 (fun h => h), HF5.out.cell q3 (fun h => h), HF5.out.cell q4 (fun h => h), HF5.out.cell q5 (fun h => h), HF5.out.cell q6 (fun h => h), HF5.out.cell q7 (fun h => h), HF5.out.cell q8 (fun h => h), HF5.out.cell q9 (fun h => h)⟩
              simp only [Act.put, List.setIfInBounds_toArray, List.set_cons_zero, List.set_cons_succ]
              repeat (first
                | (refine sq_off (a' := ?_) rfl rfl (by rfl) (fun _ => (HS).out) ?ha ?_; (case ha => simp only [Act.put, List.setIfInBounds_toArray, List.set_cons_zero, List.set_cons_succ]; rfl))
                | (refine sq_any (v := ?_) (a' := ?_) rfl rfl rfl (by rfl) (fun W => ?hr) ?ha ?_; (case hr => go_simp; first | done | rfl); (case ha => simp only [Act.put, List.setIfInBounds_toArray, List.set_cons_zero, List.set_cons_succ]; rfl))
                | (refine sq_load (v := ?_) (a' := ?_) rfl rfl rfl (by rfl) (fun W hSW => ?hr) (HS).out ?ha ?_; (case hr => (try dsimp only at hSW); go_simp; first | done | rfl); (case ha => simp only [Act.put, List.setIfInBounds_toArray, List.set_cons_zero, List.set_cons_succ]; rfl)))
              refine sq_done ?_
              cases D
              · go_wp2_with fail
                go_ret
                refine (show Told _ _ _ _ from ⟨?_, HX.out.1.then HF5.out⟩)
                have h1 : It.sames l l' = false := by
                  cases h : It.sames l l'
                  · rfl
                  · have := (It.sames_iff.1 h).2 j _ _ HXJ1.out HXJ2.out
                    rw [← hD.out] at this; cases this
                rw [hC.out, It.same, h1]; simp
              · have HX2 : Hid (Fr No w w5 ∧ (∀ (i : Nat) (x y : It), i < j + 1 → l[i]? = some x → l'[i]? = some y → It.same x y = true) ∧ w5.heap[w.heap.size]? = some (.cells #[.int .i64 k, .int .i64 n, .string ⟨s.toArray⟩, .slice (some ⟨b1, o1, none⟩) l.length c] 48 (0, 0)) ∧ w5.heap[w.heap.size + 1]? = some (.cells #[.int .i64 k, .int .i64 n, .string ⟨s.toArray⟩, .slice (some ⟨b2, o2, none⟩) l.length c'] 48 (0, 0))) := by
                  refine (show _ ∧ _ from ⟨HX.out.1.then HF5.out, fun i x y hi hx hy => ?_, HF5.out.heap HX.out.2.2.1 (fun h => h), HF5.out.heap HX.out.2.2.2 (fun h => h)⟩)
                  rcases Nat.lt_or_ge i j with h | h
                  · exact HX.out.2.1 i x y h hx hy
                  · have : i = j := by omega
                    subst this
                    rw [HXJ1.out] at hx
                    rw [HXJ2.out] at hy
                    cases hx; cases hy
                    exact hD.out.symm
                go_wp2_with fail
                go_roundw
                case rel => exact ⟨j + 1, by omega, by go_num, HX2⟩
                case measure => simp [intOf]; omega
            · have hjl : j = l.length := by omega
              subst hjl
              clear hlt
              go_wp2_with fail
              go_ret
              refine (show Told _ _ _ _ from ⟨?_, HX.out.1⟩)
              have h1 : It.sames l l' = true := It.sames_iff.2 ⟨HLL.out, fun i x y hx hy => HX.out.2.1 i x y (List.getElem?_eq_some_iff.1 hx).1 hx hy⟩
              rw [hC.out, It.same, h1]; simp
        · have h1 : It.sames l l' = false := by
            cases h : It.sames l l'
            · rfl
            · exact absurd (It.sames_iff.1 h).1 hll
          have hll2 : ¬ ((l.length : Int) = (l'.length : Int)) := by omega
          have H1 := Lib.hid h1
          clear hll h1
          go_enter Try.func44, Try.ntmps44
          go_wp2_with fail
          go_ret
          exact (show Told _ _ _ _ from ⟨by rw [hC.out, It.same, H1.out]; simp, ((Fr.refl _ w).alloc _).alloc _⟩)
      · have hs2 := str_ne hs
        have HS := Lib.hid hs
        clear hs
        go_enter Try.func44, Try.ntmps44
        go_wp2_with fail
        go_ret
        exact (show Told _ _ _ _ from ⟨by rw [hC.out, It.same]; simp [HS.out], ((Fr.refl _ w).alloc _).alloc _⟩)
    · go_enter Try.func44, Try.ntmps44
      go_wp2_with fail
      go_ret
      exact (show Told _ _ _ _ from ⟨by rw [hC.out, It.same]; simp [hn], ((Fr.refl _ w).alloc _).alloc _⟩)
  · go_enter Try.func44, Try.ntmps44
    go_wp2_with fail
    go_ret
    exact (show Told _ _ _ _ from ⟨by rw [hC.out, It.same]; simp [hk], ((Fr.refl _ w).alloc _).alloc _⟩)
end Go.Proofs.Ytbaohngnpgappaa
