/- How many an item has at the most: left, Few, big. -/
import Derived.Test.YtbaohngnpgappaaW2
set_option linter.unusedVariables false
set_option linter.unusedSimpArgs false
namespace Go.Proofs.Ytbaohngnpgappaa
open Go.RowKit
mutual
def It.left : It → Int → Int
  | .mk _ _ _ l, m => It.lefts l (m - 1)
def It.lefts : List It → Int → Int
  | [], m => m
  | x :: r, m => if m < 0 then m else It.lefts r (It.left x m)
end
theorem It.lefts_neg {l : List It} {m : Int} (h : m < 0) : It.lefts l m = m := by
  cases l with
  | nil => rfl
  | cons x r => rw [It.lefts, if_pos h]
theorem It.left_is : ∀ (v : It) (m : Int), 0 ≤ m → ((v.size : Int) ≤ m → v.left m = m - v.size) ∧ (m < v.size → v.left m = -1) := by
  refine It.ind fun k n s l ih m hm => ?_
  rw [It.left, It.size]
  suffices h : ∀ (l : List It), (∀ x ∈ l, ∀ m : Int, 0 ≤ m → ((x.size : Int) ≤ m → x.left m = m - x.size) ∧ (m < x.size → x.left m = -1)) → ∀ m : Int, -1 ≤ m → ((It.sizes l : Int) ≤ m → It.lefts l m = m - It.sizes l) ∧ (m < It.sizes l → It.lefts l m = -1) by
    have h1 := h l ih (m - 1) (by omega)
    refine ⟨fun h2 => ?_, fun h2 => ?_⟩
    · have := h1.1 (by omega); omega
    · exact h1.2 (by omega)
  clear ih hm m k n s l
  intro l
  induction l with
  | nil => intro _ m hm; refine ⟨fun h => by simp [It.lefts, It.sizes], fun h => ?_⟩; simp [It.sizes] at h; rw [It.lefts]; omega
  | cons x r ih2 =>
    intro ih m hm
    rw [It.lefts, It.sizes]
    have hp := It.size_pos x
    by_cases h0 : m < 0
    · rw [if_pos h0]; exact ⟨fun h => by omega, fun h => by omega⟩
    · rw [if_neg h0]
      have h1 := ih x List.mem_cons_self m (by omega)
      have h2 := ih2 (fun y hy => ih y (List.mem_cons_of_mem _ hy))
      by_cases h3 : (x.size : Int) ≤ m
      · rw [h1.1 h3]
        have h4 := h2 (m - x.size) (by omega)
        exact ⟨fun h => by have := h4.1 (by omega); omega, fun h => h4.2 (by omega)⟩
      · rw [h1.2 (by omega), It.lefts_neg (by omega)]
        exact ⟨fun h => by omega, fun h => by omega⟩
theorem It.left_lo (v : It) (m : Int) (hm : 0 ≤ m) : -1 ≤ v.left m ∧ v.left m ≤ m := by
  have h := It.left_is v m hm
  by_cases h1 : (v.size : Int) ≤ m
  · rw [h.1 h1]; omega
  · rw [h.2 (by omega)]; omega
set_option maxHeartbeats 1000000 in
theorem left_any : ∀ (v : It) (w : World) (F : Nat → Prop) (vv : Value) (m : Int), ItV w F vv v → 0 ≤ m → m ≤ 2000 → Calls Try.prog 98 #[vv, .int .i64 m] w (Told (.int .i64 (v.left m)) w) := by
  refine It.ind fun k n s l ih w F vv m hv hm hm2 => ?_
  obtain ⟨cs, rfl, hr⟩ := hv
  obtain ⟨vl, rfl, hrow, hfit⟩ := itR_row hr
  obtain ⟨A, c, rfl, hc1, hc2⟩ := hrow.shape
  have hl2 : (l.length : Int) ≤ 9223372036854775807 := by simp only [maxLen] at hc2; omega
  have HR := Lib.hid hrow
  have IH := Lib.hid ih
  obtain ⟨C, hC⟩ : ∃ C, Hid (C = (It.mk k n s l).left m) := ⟨_, rfl⟩
  rw [← hC.out]
  have hC2 : Hid (C = It.lefts l (m - 1)) := (show _ = _ from by rw [hC.out, It.left])
  clear hr hrow hc2 ih hfit
  unfold str
  go_enter Try.func98, Try.ntmps98
  go_wp2_with fail
  go_loopw [1, 12] (fun dd i wr => ∃ (j : Nat) (M : Int), j ≤ l.length ∧ i = .int .i64 j ∧ dd = .int .i64 M ∧ -1 ≤ M ∧ M ≤ 2000 ∧ Hid (Fr No w wr ∧ C = It.lefts (l.drop j) M)) (fun _ i _ => l.length - (intOf i).toNat)
  case atStart => exact ⟨0, m - 1, Nat.zero_le _, rfl, by go_num, by omega, by omega, (show _ ∧ _ from ⟨(Fr.refl _ _).alloc _, hC2.out⟩)⟩
  case round =>
    obtain ⟨j, M, hj, rfl, rfl, hM1, hM2, HX⟩ := hrel
    by_cases hlt : j < l.length
    · have hdrop : Hid (l.drop j = l[j] :: l.drop (j + 1)) := (show _ = _ from List.drop_eq_getElem_cons hlt)
      obtain ⟨b, o, _, cs, he, _, _, _, hrx, hcell⟩ := (HR.out.fr (by decide) HX.out.1 (fun _ _ _ h => h)).at_ j hlt
      cases he
      obtain ⟨x, hx⟩ : ∃ x, x = l[j] := ⟨_, rfl⟩
      have HXJ : Hid (l[j]? = some x) := (show _ = _ from by rw [hx]; exact List.getElem?_eq_getElem hlt)
      have hmem : Hid (x ∈ l) := (show x ∈ l from by rw [hx]; exact List.getElem_mem hlt)
      rw [← hx] at hrx
      have hsx := It.sizes_mem hmem.out
      obtain ⟨xk, xn, xs, xl⟩ := x
      obtain ⟨vl, rfl, hrow, hfit⟩ := itR_row hrx
      obtain ⟨A2, c2, rfl, _, _⟩ := hrow.shape
      have c0 := hcell 0 _ rfl
      have c1 := hcell 1 _ rfl
      have c2' := hcell 2 _ rfl
      have c3 := hcell 3 _ rfl
      simp only [show ItK.sz = 4 from rfl, Nat.add_zero, str] at c0 c1 c2' c3
      have HRX := Lib.hid hrx
      clear hcell hrow hfit hrx hx
      have hdr : Hid (l.drop j = .mk xk xn xs xl :: l.drop (j + 1)) := (show _ = _ from by
        have := HXJ.out
        rw [List.getElem?_eq_getElem hlt] at this
        rw [hdrop.out, Option.some.inj this])
      clear hsx hdrop
      by_cases hneg : M < 0
      · go_wp2_with fail
        go_ret
        exact (show Told _ _ _ _ from ⟨by rw [HX.out.2, It.lefts_neg hneg]; rfl, HX.out.1.alloc _⟩)
      · have hneg' : 0 ≤ M := by omega
        clear hneg
        obtain ⟨D, hD⟩ : ∃ D, Hid (D = (It.mk xk xn xs xl).left M) := ⟨_, rfl⟩
        have hD2 := It.left_lo (.mk xk xn xs xl) M hneg'
        rw [← hD.out] at hD2
        obtain ⟨hD3, hD4⟩ := hD2
        go_wp2_with fail
        refine (IH.out _ hmem.out _ _ _ _ ⟨[.int .i64 xk, .int .i64 xn, .string ⟨xs.toArray⟩, .slice A2 xl.length c2], rfl, itR_move (fun k _ hl => Below.heap_alloc _ _ _ hl) _ _ HRX.out⟩ hneg' hM2).mono ?_
        rw [← hD.out]
        rintro e w5 ⟨rfl, hf5⟩
        have HX2 : Hid (Fr No w w5 ∧ C = It.lefts (l.drop (j + 1)) D) := (show _ ∧ _ from ⟨(HX.out.1.alloc _).then hf5, by rw [HX.out.2, hdr.out, It.lefts, if_neg (by omega), hD.out]⟩)
        clear hf5 c0 c1 c2' c3
        go_wp2_with fail
        go_roundw
        case rel => exact ⟨j + 1, D, by omega, by go_num, rfl, hD3, by omega, HX2⟩
        case measure => simp [intOf]; omega
    · have hjl : j = l.length := by omega
      subst hjl
      clear hlt
      go_wp2_with fail
      go_ret
      exact (show Told _ _ _ _ from ⟨by rw [HX.out.2, List.drop_length, It.lefts]; rfl, HX.out.1⟩)
theorem few_item {v : It} {w : World} {F : Nat → Prop} {vv : Value} {m : Int} (hv : ItV w F vv v) (hm : 0 ≤ m) (hm2 : m ≤ 2000) : Calls Try.prog 74 #[vv, .int .i64 m] w (Told (.bool (decide ((v.size : Int) ≤ m))) w) := by
  obtain ⟨cs, rfl, hr⟩ := hv
  obtain ⟨k, n, s, l⟩ := v
  obtain ⟨vl, rfl, hrow, hfit⟩ := itR_row hr
  obtain ⟨A, c, rfl, hc1, hc2⟩ := hrow.shape
  have HR := Lib.hid hr
  clear hr hrow hc2 hfit
  obtain ⟨D, hD⟩ : ∃ D, Hid (D = (It.mk k n s l).left m) := ⟨_, rfl⟩
  obtain ⟨C, hC⟩ : ∃ C, Hid (C = decide (((It.mk k n s l).size : Int) ≤ m)) := ⟨_, rfl⟩
  have hDC : Hid (C = decide (0 ≤ D)) := (show _ = _ from by
    have h := It.left_is (.mk k n s l) m hm
    rw [← hD.out] at h
    rw [hC.out]
    by_cases h1 : ((It.mk k n s l).size : Int) ≤ m
    · have := h.1 h1
      rw [decide_eq_true h1, decide_eq_true (by omega)]
    · have := h.2 (by omega)
      rw [decide_eq_false h1, decide_eq_false (by omega)])
  rw [← hC.out]
  unfold str at *
  go_enter Try.func74, Try.ntmps74
  go_wp2_with fail
  refine (left_any (.mk k n s l) _ F _ m ⟨[.int .i64 k, .int .i64 n, .string ⟨s.toArray⟩, .slice A l.length c], rfl, itR_move (fun k _ hl => Below.heap_alloc _ _ _ hl) _ _ HR.out⟩ hm hm2).mono ?_
  rw [← hD.out]
  rintro e w5 ⟨rfl, hf5⟩
  have HX2 : Hid (Fr No w w5) := (show Fr No w w5 from ((Fr.refl _ _).alloc _).then hf5)
  clear hf5
  go_wp2_with fail
  go_ret
  exact (show Told _ _ _ _ from ⟨by rw [hDC.out]; rfl, HX2.out⟩)
def bigB (l : List It) : Bool := l.any fun v => decide (2000 < v.size)
theorem bigB_mem {l : List It} (h : bigB l = false) : ∀ x ∈ l, x.size ≤ 2000 := by
  intro x hx
  unfold bigB at h
  rw [List.any_eq_false] at h
  have := h x hx
  simpa using this
set_option maxHeartbeats 1000000 in
theorem big_any {w : World} {F : Nat → Prop} {v : Value} {l : List It} (h : Row ItK w F v l) : Calls Try.prog 34 #[v] w (Told (.bool (bigB l)) w) := by
  obtain ⟨A, c, rfl, hc1, hc2⟩ := h.shape
  have hl2 : (l.length : Int) ≤ 9223372036854775807 := by simp only [maxLen] at hc2; omega
  have HR := Lib.hid h
  obtain ⟨C, hC⟩ : ∃ C, Hid (C = bigB l) := ⟨_, rfl⟩
  rw [← hC.out]
  clear h hc2
  go_enter Try.func34, Try.ntmps34
  go_wp2_with fail
  go_loopw [7] (fun i wr => ∃ (j : Nat), j ≤ l.length ∧ i = .int .i64 j ∧ Hid (Fr No w wr ∧ bigB (l.take j) = false)) (fun i _ => l.length - (intOf i).toNat)
  case atStart => exact ⟨0, Nat.zero_le _, rfl, (show _ ∧ _ from ⟨Fr.refl _ _, rfl⟩)⟩
  case round =>
    obtain ⟨j, hj, rfl, HX⟩ := hrel
    by_cases hlt : j < l.length
    · skip
      obtain ⟨b, o, _, cs, he, _, _, _, hrx, hcell⟩ := (HR.out.fr (by decide) HX.out.1 (fun _ _ _ h => h)).at_ j hlt
      cases he
      obtain ⟨x, hx⟩ : ∃ x, x = l[j] := ⟨_, rfl⟩
      have HXJ : Hid (l[j]? = some x) := (show _ = _ from by rw [hx]; exact List.getElem?_eq_getElem hlt)
      have hmem : Hid (x ∈ l) := (show x ∈ l from by rw [hx]; exact List.getElem_mem hlt)
      rw [← hx] at hrx
      have hsx := It.sizes_mem hmem.out
      obtain ⟨xk, xn, xs, xl⟩ := x
      obtain ⟨vl, rfl, hrow, hfit⟩ := itR_row hrx
      obtain ⟨A2, c2, rfl, _, _⟩ := hrow.shape
      have c0 := hcell 0 _ rfl
      have c1 := hcell 1 _ rfl
      have c2' := hcell 2 _ rfl
      have c3 := hcell 3 _ rfl
      simp only [show ItK.sz = 4 from rfl, Nat.add_zero, str] at c0 c1 c2' c3
      have HRX := Lib.hid hrx
      clear hcell hrow hfit hrx hx
      clear hsx
      by_cases hb : ((It.mk xk xn xs xl).size : Int) ≤ 2000
      · have hbig : Hid (bigB (l.take (j + 1)) = false) := (show _ = _ from by
          have h1 := HX.out.2
          unfold bigB at h1 ⊢
          rw [List.take_add_one, List.any_append, h1, HXJ.out]
          simp; omega)
        have hbd : Hid (decide (((It.mk xk xn xs xl).size : Int) ≤ 2000) = true) := (show _ = _ from decide_eq_true hb)
        clear hb
        go_wp2_with fail
        refine (few_item ⟨[.int .i64 xk, .int .i64 xn, .string ⟨xs.toArray⟩, .slice A2 xl.length c2], rfl, itR_move (fun k _ hl => Below.heap_alloc _ _ _ hl) _ _ HRX.out⟩ (by omega) (by omega)).mono ?_
        rw [hbd.out]
        rintro e w5 ⟨rfl, hf5⟩
        have HX2 : Hid (Fr No w w5) := (show Fr No w w5 from (HX.out.1.alloc _).then hf5)
        clear hf5 c0 c1 c2' c3
        go_wp2_with fail
        go_roundw
        case rel => exact ⟨j + 1, by omega, by go_num, (show _ ∧ _ from ⟨HX2.out, hbig.out⟩)⟩
        case measure => simp [intOf]; omega
      · have hbig : Hid (C = true) := (show _ = _ from by
          rw [hC.out]
          unfold bigB
          rw [List.any_eq_true]
          exact ⟨_, hmem.out, by simp; omega⟩)
        have hbd : Hid (decide (((It.mk xk xn xs xl).size : Int) ≤ 2000) = false) := (show _ = _ from decide_eq_false hb)
        clear hb
        go_wp2_with fail
        refine (few_item ⟨[.int .i64 xk, .int .i64 xn, .string ⟨xs.toArray⟩, .slice A2 xl.length c2], rfl, itR_move (fun k _ hl => Below.heap_alloc _ _ _ hl) _ _ HRX.out⟩ (by omega) (by omega)).mono ?_
        rw [hbd.out]
        rintro e w5 ⟨rfl, hf5⟩
        have HX2 : Hid (Fr No w w5) := (show Fr No w w5 from (HX.out.1.alloc _).then hf5)
        clear hf5 c0 c1 c2' c3
        go_wp2_with fail
        go_ret
        exact (show Told _ _ _ _ from ⟨by rw [hbig.out]; rfl, HX2.out⟩)
    · have hjl : j = l.length := by omega
      subst hjl
      clear hlt
      go_wp2_with fail
      go_ret
      exact (show Told _ _ _ _ from ⟨by rw [hC.out]; have := HX.out.2; rw [List.take_length] at this; rw [this]; rfl, HX.out.1⟩)
end Go.Proofs.Ytbaohngnpgappaa
