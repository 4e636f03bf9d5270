/- Contracts over one item: Check, Size, left, Few, may, deep. -/
import Derived.Test.YtbaohngnpgappaaW1
set_option linter.unusedVariables false
set_option linter.unusedSimpArgs false
namespace Go.Proofs.Ytbaohngnpgappaa
open Go.RowKit
set_option maxHeartbeats 1000000 in
theorem size_item : ∀ (v : It) (w : World) (F : Nat → Prop) (vv : Value), ItV w F vv v → v.size ≤ 1048576 → Calls Try.prog 51 #[vv] w (Told (.int .i64 (v.size : Int)) w) := by
  refine It.ind fun k n s l ih w F vv hv hsz => ?_
  obtain ⟨cs, rfl, hr⟩ := hv
  obtain ⟨vl, rfl, hrow, hfit⟩ := itR_row hr
  obtain ⟨A, c, rfl, hc1, hc2⟩ := hrow.shape
  rw [It.size] at hsz
  have hll := It.sizes_len l
  have hl2 : (l.length : Int) ≤ 1048576 := by omega
  have HSZ : Hid (It.sizes l ≤ 1048575) := (show It.sizes l ≤ 1048575 from by omega)
  have HR := Lib.hid hrow
  have IH := Lib.hid ih
  clear hr hrow hc2 hsz hll ih hfit
  unfold str
  go_enter Try.func51, Try.ntmps51
  go_wp2_with fail
  go_loopw [3, 9] (fun dd i wr => ∃ j : Nat, j ≤ l.length ∧ i = .int .i64 j ∧ dd = .int .i64 ((1 + It.sizes (l.take j) : Nat) : Int) ∧ Hid (Fr No w wr)) (fun _ i _ => l.length - (intOf i).toNat)
  case atStart => exact ⟨0, Nat.zero_le _, rfl, rfl, (show Fr No w _ from (Fr.refl _ _).alloc _)⟩
  case round =>
    obtain ⟨j, hj, rfl, rfl, HX⟩ := hrel
    by_cases hlt : j < l.length
    · have hd2 : It.sizes (l.take j) ≤ It.sizes l := by
        have h1 := It.sizes_app (l.take j) (l.drop j)
        rw [List.take_append_drop] at h1
        omega
      obtain ⟨b, o, _, cs, he, _, _, _, hrx, hcell⟩ := (HR.out.fr (by decide) HX.out (fun _ _ _ h => h)).at_ j hlt
      cases he
      obtain ⟨x, hx⟩ : ∃ x, x = l[j] := ⟨_, rfl⟩
      have HXJ : Hid (l[j]? = some x) := (show _ = _ from by rw [hx]; exact List.getElem?_eq_getElem hlt)
      have hmem : Hid (x ∈ l) := (show x ∈ l from by rw [hx]; exact List.getElem_mem hlt)
      rw [← hx] at hrx
      have hsx := It.sizes_mem hmem.out
      obtain ⟨xk, xn, xs, xl⟩ := x
      obtain ⟨vl, rfl, hrow, hfit⟩ := itR_row hrx
      obtain ⟨A2, c2, rfl, _, _⟩ := hrow.shape
      have c0 := hcell 0 _ rfl
      have c1 := hcell 1 _ rfl
      have c2' := hcell 2 _ rfl
      have c3 := hcell 3 _ rfl
      simp only [show ItK.sz = 4 from rfl, Nat.add_zero, str] at c0 c1 c2' c3
      have HRX := Lib.hid hrx
      clear hcell hrow hfit hrx hx
      have hxs : Hid ((It.mk xk xn xs xl).size ≤ 1048575) := (show _ ≤ _ from by have := HSZ.out; omega)
      obtain ⟨D, hD⟩ : ∃ D, Hid (D = (It.mk xk xn xs xl).size) := ⟨_, rfl⟩
      obtain ⟨E, hE⟩ : ∃ E, Hid (E = 1 + It.sizes (l.take j)) := ⟨_, rfl⟩
      have hD2 : (D : Int) ≤ 1048576 := by rw [hD.out]; have := hxs.out; omega
      have hE2 : (E : Int) ≤ 1048576 := by rw [hE.out]; have := HSZ.out; omega
      have hsum : Hid (1 + It.sizes (l.take (j + 1)) = E + D) := (show _ = _ from by rw [List.take_add_one, HXJ.out, It.sizes_app, hE.out, hD.out]; simp [It.sizes]; omega)
      rw [← hE.out]
      clear hsx hd2
      go_wp2_with fail
      refine (IH.out _ hmem.out _ _ _ ⟨[.int .i64 xk, .int .i64 xn, .string ⟨xs.toArray⟩, .slice A2 xl.length c2], rfl, itR_move (fun k _ hl => Below.heap_alloc _ _ _ hl) _ _ HRX.out⟩ (by have := hxs.out; omega)).mono ?_
      rw [← hD.out]
      rintro e w5 ⟨rfl, hf5⟩
      have HX2 : Hid (Fr No w w5) := (show Fr No w w5 from (HX.out.alloc _).then hf5)
      clear hf5 c0 c1 c2' c3
      go_wp2_with fail
      go_roundw
      case rel => exact ⟨j + 1, by omega, by go_num, by rw [hsum.out]; go_num, HX2⟩
      case measure => simp [intOf]; omega
    · have hjl : j = l.length := by omega
      subst hjl
      clear hlt
      go_wp2_with fail
      go_ret
      refine (show Told _ _ _ _ from ⟨?_, HX.out⟩)
      rw [It.size]
      simp
set_option maxHeartbeats 1000000 in
theorem refsize_item : ∀ (v : It) (w : World) (F : Nat → Prop) (vv : Value), ItV w F vv v → v.size ≤ 1048576 → Calls Try.prog 52 #[vv] w (Told (.int .i64 (v.size : Int)) w) := by
  refine It.ind fun k n s l ih w F vv hv hsz => ?_
  obtain ⟨cs, rfl, hr⟩ := hv
  obtain ⟨vl, rfl, hrow, hfit⟩ := itR_row hr
  obtain ⟨A, c, rfl, hc1, hc2⟩ := hrow.shape
  rw [It.size] at hsz
  have hll := It.sizes_len l
  have hl2 : (l.length : Int) ≤ 1048576 := by omega
  have HSZ : Hid (It.sizes l ≤ 1048575) := (show It.sizes l ≤ 1048575 from by omega)
  have HR := Lib.hid hrow
  have IH := Lib.hid ih
  clear hr hrow hc2 hsz hll ih hfit
  unfold str
  go_enter Try.func52, Try.ntmps52
  go_wp2_with fail
  go_loopw [3, 9] (fun dd i wr => ∃ j : Nat, j ≤ l.length ∧ i = .int .i64 j ∧ dd = .int .i64 ((1 + It.sizes (l.take j) : Nat) : Int) ∧ Hid (Fr No w wr)) (fun _ i _ => l.length - (intOf i).toNat)
  case atStart => exact ⟨0, Nat.zero_le _, rfl, rfl, (show Fr No w _ from (Fr.refl _ _).alloc _)⟩
  case round =>
    obtain ⟨j, hj, rfl, rfl, HX⟩ := hrel
    by_cases hlt : j < l.length
    · have hd2 : It.sizes (l.take j) ≤ It.sizes l := by
        have h1 := It.sizes_app (l.take j) (l.drop j)
        rw [List.take_append_drop] at h1
        omega
      obtain ⟨b, o, _, cs, he, _, _, _, hrx, hcell⟩ := (HR.out.fr (by decide) HX.out (fun _ _ _ h => h)).at_ j hlt
      cases he
      obtain ⟨x, hx⟩ : ∃ x, x = l[j] := ⟨_, rfl⟩
      have HXJ : Hid (l[j]? = some x) := (show _ = _ from by rw [hx]; exact List.getElem?_eq_getElem hlt)
      have hmem : Hid (x ∈ l) := (show x ∈ l from by rw [hx]; exact List.getElem_mem hlt)
      rw [← hx] at hrx
      have hsx := It.sizes_mem hmem.out
      obtain ⟨xk, xn, xs, xl⟩ := x
      obtain ⟨vl, rfl, hrow, hfit⟩ := itR_row hrx
      obtain ⟨A2, c2, rfl, _, _⟩ := hrow.shape
      have c0 := hcell 0 _ rfl
      have c1 := hcell 1 _ rfl
      have c2' := hcell 2 _ rfl
      have c3 := hcell 3 _ rfl
      simp only [show ItK.sz = 4 from rfl, Nat.add_zero, str] at c0 c1 c2' c3
      have HRX := Lib.hid hrx
      clear hcell hrow hfit hrx hx
      have hxs : Hid ((It.mk xk xn xs xl).size ≤ 1048575) := (show _ ≤ _ from by have := HSZ.out; omega)
      obtain ⟨D, hD⟩ : ∃ D, Hid (D = (It.mk xk xn xs xl).size) := ⟨_, rfl⟩
      obtain ⟨E, hE⟩ : ∃ E, Hid (E = 1 + It.sizes (l.take j)) := ⟨_, rfl⟩
      have hD2 : (D : Int) ≤ 1048576 := by rw [hD.out]; have := hxs.out; omega
      have hE2 : (E : Int) ≤ 1048576 := by rw [hE.out]; have := HSZ.out; omega
      have hsum : Hid (1 + It.sizes (l.take (j + 1)) = E + D) := (show _ = _ from by rw [List.take_add_one, HXJ.out, It.sizes_app, hE.out, hD.out]; simp [It.sizes]; omega)
      rw [← hE.out]
      clear hsx hd2
      go_wp2_with fail
      refine (IH.out _ hmem.out _ _ _ ⟨[.int .i64 xk, .int .i64 xn, .string ⟨xs.toArray⟩, .slice A2 xl.length c2], rfl, itR_move (fun k _ hl => Below.heap_alloc _ _ _ hl) _ _ HRX.out⟩ (by have := hxs.out; omega)).mono ?_
      rw [← hD.out]
      rintro e w5 ⟨rfl, hf5⟩
      have HX2 : Hid (Fr No w w5) := (show Fr No w w5 from (HX.out.alloc _).then hf5)
      clear hf5 c0 c1 c2' c3
      go_wp2_with fail
      go_roundw
      case rel => exact ⟨j + 1, by omega, by go_num, by rw [hsum.out]; go_num, HX2⟩
      case measure => simp [intOf]; omega
    · have hjl : j = l.length := by omega
      subst hjl
      clear hlt
      go_wp2_with fail
      go_ret
      refine (show Told _ _ _ _ from ⟨?_, HX.out⟩)
      rw [It.size]
      simp
set_option maxHeartbeats 1000000 in
theorem refdeep_any : ∀ (v : It) (w : World) (F : Nat → Prop) (vv : Value), ItV w F vv v → v.size ≤ 1048576 → Calls Try.prog 88 #[vv] w (Told (.int .i64 (v.deep : Int)) w) := by
  refine It.ind fun k n s l ih w F vv hv hsz => ?_
  obtain ⟨cs, rfl, hr⟩ := hv
  obtain ⟨vl, rfl, hrow, hfit⟩ := itR_row hr
  obtain ⟨A, c, rfl, hc1, hc2⟩ := hrow.shape
  rw [It.size] at hsz
  have hll := It.sizes_len l
  have hl2 : (l.length : Int) ≤ 1048576 := by omega
  have HSZ : Hid (It.sizes l ≤ 1048575) := (show It.sizes l ≤ 1048575 from by omega)
  have HR := Lib.hid hrow
  have IH := Lib.hid ih
  clear hr hrow hc2 hsz hll ih hfit
  unfold str
  go_enter Try.func88, Try.ntmps88
  go_wp2_with fail
  go_loopw [3, 9] (fun dd i wr => ∃ j : Nat, j ≤ l.length ∧ i = .int .i64 j ∧ dd = .int .i64 (It.deeps (l.take j) : Int) ∧ Hid (Fr No w wr)) (fun _ i _ => l.length - (intOf i).toNat)
  case atStart => exact ⟨0, Nat.zero_le _, rfl, rfl, (show Fr No w _ from (Fr.refl _ _).alloc _)⟩
  case round =>
    obtain ⟨j, hj, rfl, rfl, HX⟩ := hrel
    by_cases hlt : j < l.length
    · have hd2 : It.deeps (l.take j) ≤ 1048576 := by
        have h1 := It.sizes_app (l.take j) (l.drop j)
        rw [List.take_append_drop] at h1
        have h2 := It.deep_size (.mk 0 0 [] (l.take j))
        rw [It.deep, It.size] at h2
        have := HSZ.out
        omega
      obtain ⟨b, o, _, cs, he, _, _, _, hrx, hcell⟩ := (HR.out.fr (by decide) HX.out (fun _ _ _ h => h)).at_ j hlt
      cases he
      obtain ⟨x, hx⟩ : ∃ x, x = l[j] := ⟨_, rfl⟩
      have HXJ : Hid (l[j]? = some x) := (show _ = _ from by rw [hx]; exact List.getElem?_eq_getElem hlt)
      have hmem : Hid (x ∈ l) := (show x ∈ l from by rw [hx]; exact List.getElem_mem hlt)
      rw [← hx] at hrx
      have hsx := It.sizes_mem hmem.out
      obtain ⟨xk, xn, xs, xl⟩ := x
      obtain ⟨vl, rfl, hrow, hfit⟩ := itR_row hrx
      obtain ⟨A2, c2, rfl, _, _⟩ := hrow.shape
      have c0 := hcell 0 _ rfl
      have c1 := hcell 1 _ rfl
      have c2' := hcell 2 _ rfl
      have c3 := hcell 3 _ rfl
      simp only [show ItK.sz = 4 from rfl, Nat.add_zero, str] at c0 c1 c2' c3
      have HRX := Lib.hid hrx
      clear hcell hrow hfit hrx hx
      have hd1 := It.deep_size (.mk xk xn xs xl)
      have hxs : Hid ((It.mk xk xn xs xl).size ≤ 1048576) := (show _ ≤ _ from by have := HSZ.out; omega)
      obtain ⟨D, hD⟩ : ∃ D, Hid (D = (It.mk xk xn xs xl).deep) := ⟨_, rfl⟩
      obtain ⟨E, hE⟩ : ∃ E, Hid (E = It.deeps (l.take j)) := ⟨_, rfl⟩
      have hD2 : (D : Int) ≤ 1048576 := by rw [hD.out]; have := hxs.out; omega
      have hE2 : (E : Int) ≤ 1048576 := by rw [hE.out]; omega
      have hdeep : Hid (It.deeps (l.take (j + 1)) = max E D) := (show _ = _ from by rw [List.take_add_one, HXJ.out, It.deeps_app, ← hE.out]; simp [It.deeps, hD.out])
      rw [← hE.out]
      clear hsx hd2 hd1
      go_wp2_with fail
      refine (IH.out _ hmem.out _ _ _ ⟨[.int .i64 xk, .int .i64 xn, .string ⟨xs.toArray⟩, .slice A2 xl.length c2], rfl, itR_move (fun k _ hl => Below.heap_alloc _ _ _ hl) _ _ HRX.out⟩ hxs.out).mono ?_
      rw [← hD.out]
      rintro e w5 ⟨rfl, hf5⟩
      have HX2 : Hid (Fr No w w5) := (show Fr No w w5 from (HX.out.alloc _).then hf5)
      clear hf5 c0 c1 c2' c3
      go_wp2_with ((with_reducible refine at_dst 16 rfl ?_); refine wpList_max rfl (.tmp 13) (.tmp 15) _ rfl _ _ rfl rfl ?_)
      go_roundw
      case rel => exact ⟨j + 1, by omega, by go_num, by rw [hdeep.out]; congr 1; omega, HX2⟩
      case measure => simp [intOf]; omega
    · have hjl : j = l.length := by omega
      subst hjl
      clear hlt
      simp only [List.take_length]
      have hd2 : (It.deeps l : Int) ≤ 1048576 := by
        have h2 := It.deep_size (.mk 0 0 [] l)
        rw [It.deep, It.size] at h2
        have := HSZ.out
        omega
      go_wp2_with fail
      go_ret
      refine (show Told _ _ _ _ from ⟨?_, HX.out⟩)
      rw [It.deep]
      simp
def checkI (v : It) : Int := if v.ok then (if 40 < v.deep then 3 else 0) else 1
theorem check_any {v : It} {w : World} {F : Nat → Prop} {vv : Value} (hv : ItV w F vv v) (hsz : v.size ≤ 1048576) : Calls Try.prog 49 #[vv] w (Told (.int .i64 (checkI v)) w) := by
  obtain ⟨cs, rfl, hr⟩ := hv
  obtain ⟨k, n, s, l⟩ := v
  obtain ⟨vl, rfl, hrow, hfit⟩ := itR_row hr
  obtain ⟨A, c, rfl, hc1, hc2⟩ := hrow.shape
  have HR := Lib.hid hr
  clear hr hrow hc2 hfit
  have HS := Lib.hid hsz
  obtain ⟨D, hD⟩ : ∃ D, Hid (D = (It.mk k n s l).deep) := ⟨_, rfl⟩
  obtain ⟨K, hK⟩ : ∃ K, Hid (K = (It.mk k n s l).ok) := ⟨_, rfl⟩
  have hchk : Hid (checkI (.mk k n s l) = if K then (if 40 < D then 3 else 0) else 1) := (show _ = _ from by unfold checkI; rw [hD.out, hK.out])
  obtain ⟨C, hC⟩ : ∃ C, Hid (C = checkI (.mk k n s l)) := ⟨_, rfl⟩
  rw [← hC.out]
  clear hsz
  unfold str at *
  go_enter Try.func49, Try.ntmps49
  go_wp2_with fail
  refine (look_any (.mk k n s l) _ F _ ⟨[.int .i64 k, .int .i64 n, .string ⟨s.toArray⟩, .slice A l.length c], rfl, itR_move (fun k _ hl => Below.heap_alloc _ _ _ hl) _ _ HR.out⟩ HS.out).mono ?_
  rw [← hD.out, ← hK.out]
  rintro e w5 ⟨rfl, hf5⟩
  have HX2 : Hid (Fr No w w5) := (show Fr No w w5 from ((Fr.refl _ _).alloc _).then hf5)
  clear hf5
  cases K
  · go_wp2_with fail
    go_ret
    exact (show Told _ _ _ _ from ⟨by rw [hC.out, hchk.out]; rfl, HX2.out⟩)
  · by_cases h40 : (40 : Int) < D
    · have h40' : 40 < D := by omega
      go_wp2_with fail
      go_ret
      exact (show Told _ _ _ _ from ⟨by rw [hC.out, hchk.out]; simp [h40'], HX2.out⟩)
    · have h40' : ¬ 40 < D := by omega
      have h40'' : (D : Int) ≤ 40 := by omega
      clear h40
      go_wp2_with fail
      go_ret
      exact (show Told _ _ _ _ from ⟨by rw [hC.out, hchk.out]; simp [h40'], HX2.out⟩)
set_option maxHeartbeats 2000000 in
theorem may_any : ∀ (v : It) (w : World) (F : Nat → Prop) (vv : Value), ItV w F vv v → v.size ≤ 1048576 → Calls Try.prog 87 #[vv] w (Told (.bool v.ok) w) := by
  refine It.ind fun k n s l ih w F vv hv hsz => ?_
  obtain ⟨cs, rfl, hr⟩ := hv
  obtain ⟨vl, rfl, hrow, hfit⟩ := itR_row hr
  obtain ⟨A, c, rfl, hc1, hc2⟩ := hrow.shape
  rw [It.size] at hsz
  have hll := It.sizes_len l
  have hl2 : (l.length : Int) ≤ 1048576 := by omega
  have HSZ : Hid (It.sizes l ≤ 1048575) := (show It.sizes l ≤ 1048575 from by omega)
  have HR := Lib.hid hrow
  have IH := Lib.hid ih
  obtain ⟨C, hC⟩ : ∃ C, Hid (C = (It.mk k n s l).ok) := ⟨_, rfl⟩
  rw [← hC.out]
  clear hr hrow hc2 hsz hll ih hfit
  unfold str
  by_cases k1 : k = 1
  · subst k1
    have hoks : Hid (l = [] → It.oks l = true) := (show l = [] → It.oks l = true from fun h => by rw [h]; rfl)
    rcases s with _ | ⟨a, s⟩
    · rcases l with _ | ⟨b, l⟩
      · go_enter Try.func87, Try.ntmps87
        go_wp2_with fail
        go_ret
        exact (show Told _ _ _ _ from ⟨by rw [hC.out, It.ok]; unfold headOk; simp [It.oks]; try omega, ((Fr.refl _ w).alloc _)⟩)
      · go_enter Try.func87, Try.ntmps87
        have hl0 : (0 : Int) ≤ l.length := by omega
        go_wp2_with fail
        go_ret
        exact (show Told _ _ _ _ from ⟨by rw [hC.out, It.ok]; unfold headOk; simp [It.oks]; try omega, ((Fr.refl _ w).alloc _)⟩)
    · go_enter Try.func87, Try.ntmps87
      go_wp2_with fail
      go_ret
      exact (show Told _ _ _ _ from ⟨by rw [hC.out, It.ok]; unfold headOk; simp [It.oks]; try omega, ((Fr.refl _ w).alloc _)⟩)
  · by_cases k2 : k = 2
    · subst k2
      clear k1
      by_cases hn : n = 0
      · subst hn
        rcases l with _ | ⟨b, l⟩
        · go_enter Try.func87, Try.ntmps87
          go_wp2_with fail
          go_ret
          exact (show Told _ _ _ _ from ⟨by rw [hC.out, It.ok]; unfold headOk; simp [It.oks]; try omega, ((Fr.refl _ w).alloc _)⟩)
        · go_enter Try.func87, Try.ntmps87
          have hl0 : (0 : Int) ≤ l.length := by omega
          go_wp2_with fail
          go_ret
          exact (show Told _ _ _ _ from ⟨by rw [hC.out, It.ok]; unfold headOk; simp [It.oks]; try omega, ((Fr.refl _ w).alloc _)⟩)
      · go_enter Try.func87, Try.ntmps87
        go_wp2_with fail
        go_ret
        exact (show Told _ _ _ _ from ⟨by rw [hC.out, It.ok]; unfold headOk; simp [It.oks]; try omega, ((Fr.refl _ w).alloc _)⟩)
    · by_cases k3 : k = 3
      · subst k3
        clear k1 k2
        go_enter Try.func87, Try.ntmps87
        go_wp2_with fail
        go_loopw [34] (fun i wr => ∃ j : Nat, j ≤ l.length ∧ i = .int .i64 j ∧ Hid (It.oks (l.take j) = true ∧ Fr No w wr ∧ wr.heap[w.heap.size]? = some (.cells #[.int .i64 3, .int .i64 n, .string ⟨s.toArray⟩, .slice A l.length c] 48 (0, 0)))) (fun i _ => l.length - (intOf i).toNat)
        case atStart => exact ⟨0, Nat.zero_le _, rfl, (show _ ∧ _ from ⟨rfl, (Fr.refl _ _).alloc _, blk_new _ _⟩)⟩
        case round =>
          obtain ⟨j, hj, rfl, HX⟩ := hrel
          by_cases hlt : j < l.length
          · skip
            obtain ⟨b, o, _, cs, he, _, _, _, hrx, hcell⟩ := (HR.out.fr (by decide) HX.out.2.1 (fun _ _ _ h => h)).at_ j hlt
            cases he
            obtain ⟨x, hx⟩ : ∃ x, x = l[j] := ⟨_, rfl⟩
            have HXJ : Hid (l[j]? = some x) := (show _ = _ from by rw [hx]; exact List.getElem?_eq_getElem hlt)
            have hmem : Hid (x ∈ l) := (show x ∈ l from by rw [hx]; exact List.getElem_mem hlt)
            rw [← hx] at hrx
            have hsx := It.sizes_mem hmem.out
            obtain ⟨xk, xn, xs, xl⟩ := x
            obtain ⟨vl, rfl, hrow, hfit⟩ := itR_row hrx
            obtain ⟨A2, c2, rfl, _, _⟩ := hrow.shape
            have c0 := hcell 0 _ rfl
            have c1 := hcell 1 _ rfl
            have c2' := hcell 2 _ rfl
            have c3 := hcell 3 _ rfl
            simp only [show ItK.sz = 4 from rfl, Nat.add_zero, str] at c0 c1 c2' c3
            have HRX := Lib.hid hrx
            clear hcell hrow hfit hrx hx
            have hxs : Hid ((It.mk xk xn xs xl).size ≤ 1048576) := (show _ ≤ _ from by have := HSZ.out; omega)
            obtain ⟨K, hK⟩ : ∃ K, Hid (K = (It.mk xk xn xs xl).ok) := ⟨_, rfl⟩
            clear hsx
            go_wp2_with fail
            refine (IH.out _ hmem.out _ _ _ ⟨[.int .i64 xk, .int .i64 xn, .string ⟨xs.toArray⟩, .slice A2 xl.length c2], rfl, itR_move (fun k _ hl => Below.heap_alloc _ _ _ hl) _ _ HRX.out⟩ hxs.out).mono ?_
            rw [← hK.out]
            rintro e w5 ⟨rfl, hf5⟩
            have HX2 : Hid (Fr No w w5) := (show Fr No w w5 from (HX.out.2.1.alloc _).then hf5)
            have hb5 := hf5.heap (blk_alloc HX.out.2.2 (.cells #[.int .i64 xk, .int .i64 xn, .string ⟨xs.toArray⟩, .slice A2 xl.length c2] 48 (0, 0))) (fun h => h)
            have HB5 := Lib.hid hb5
            clear hf5 c0 c1 c2' c3 hb5
            cases K
            · go_wp2_with fail
              go_ret
              refine (show Told _ _ _ _ from ⟨?_, HX2.out⟩)
              have h1 : It.oks l = false := by
                have h2 := It.oks_app (l.take j) (l.drop j)
                rw [List.take_append_drop, List.drop_eq_getElem_cons hlt, It.oks] at h2
                have h3 : l[j] = .mk xk xn xs xl := by have := HXJ.out; rw [List.getElem?_eq_getElem hlt] at this; exact Option.some.inj this
                rw [h2, h3, ← hK.out]; simp
              rw [hC.out, It.ok, h1]; simp
            · have hoks : Hid (It.oks (l.take (j + 1)) = true) := (show _ = _ from by rw [List.take_add_one, HXJ.out, It.oks_app, HX.out.1]; simp [It.oks, ← hK.out])
              go_wp2_with fail
              go_roundw
              case rel => exact ⟨j + 1, by omega, by go_num, (show _ ∧ _ from ⟨hoks.out, HX2.out, HB5.out⟩)⟩
              case measure => simp [intOf]; omega
          · have hjl : j = l.length := by omega
            subst hjl
            clear hlt
            have hok : Hid (It.oks l = true) := (show _ = _ from by have := HX.out.1; rw [List.take_length] at this; exact this)
            have c1 := blk_cell HX.out.2.2 1
            have c2 := blk_cell HX.out.2.2 2
            simp only [List.getElem?_toArray, List.getElem?_cons_zero, List.getElem?_cons_succ] at c1 c2
            by_cases hn : n = 0
            · subst hn
              rcases s with _ | ⟨a, s⟩
              · go_wp2_with fail
                go_ret
                exact (show Told _ _ _ _ from ⟨by rw [hC.out, It.ok, hok.out]; unfold headOk; simp, HX.out.2.1⟩)
              · go_wp2_with fail
                go_ret
                exact (show Told _ _ _ _ from ⟨by rw [hC.out, It.ok, hok.out]; unfold headOk; simp, HX.out.2.1⟩)
            · go_wp2_with fail
              go_ret
              exact (show Told _ _ _ _ from ⟨by rw [hC.out, It.ok, hok.out]; unfold headOk; simp [hn], HX.out.2.1⟩)
      · have hb : headOk k n s l = false := by unfold headOk; simp; omega
        have HB := Lib.hid hb
        clear hb
        go_enter Try.func87, Try.ntmps87
        go_wp2_with fail
        go_ret
        exact (show Told _ _ _ _ from ⟨by rw [hC.out, It.ok, HB.out]; rfl, (Fr.refl _ w).alloc _⟩)
theorem refcheck_any {v : It} {w : World} {F : Nat → Prop} {vv : Value} (hv : ItV w F vv v) (hsz : v.size ≤ 1048576) : Calls Try.prog 50 #[vv] w (Told (.int .i64 (checkI v)) w) := by
  obtain ⟨cs, rfl, hr⟩ := hv
  obtain ⟨k, n, s, l⟩ := v
  obtain ⟨vl, rfl, hrow, hfit⟩ := itR_row hr
  obtain ⟨A, c, rfl, hc1, hc2⟩ := hrow.shape
  have HR := Lib.hid hr
  clear hr hrow hc2 hfit
  have HS := Lib.hid hsz
  obtain ⟨D, hD⟩ : ∃ D, Hid (D = (It.mk k n s l).deep) := ⟨_, rfl⟩
  obtain ⟨K, hK⟩ : ∃ K, Hid (K = (It.mk k n s l).ok) := ⟨_, rfl⟩
  have hchk : Hid (checkI (.mk k n s l) = if K then (if 40 < D then 3 else 0) else 1) := (show _ = _ from by unfold checkI; rw [hD.out, hK.out])
  obtain ⟨C, hC⟩ : ∃ C, Hid (C = checkI (.mk k n s l)) := ⟨_, rfl⟩
  rw [← hC.out]
  clear hsz
  unfold str at *
  obtain ⟨w1, hw1⟩ : ∃ w1, Hid (w1 = w.alloc (.cells #[.int .i64 k, .int .i64 n, .string ⟨s.toArray⟩, .slice A l.length c] 48 (0, 0))) := ⟨_, rfl⟩
  have hf1 : Fr No w w1 := by rw [hw1.out]; exact (Fr.refl _ _).alloc _
  have hblk : w1.heap[w.heap.size]? = some (.cells #[.int .i64 k, .int .i64 n, .string ⟨s.toArray⟩, .slice A l.length c] 48 (0, 0)) := by rw [hw1.out]; exact blk_new _ _
  have HBLK := Lib.hid hblk
  have HF1 := Lib.hid hf1
  clear hblk hf1
  go_enter Try.func50, Try.ntmps50
  go_wp2_with fail
  rw [← hw1.out]
  refine (may_any (.mk k n s l) _ F _ ⟨[.int .i64 k, .int .i64 n, .string ⟨s.toArray⟩, .slice A l.length c], rfl, itR_move (fun k hk hl => HF1.out.block k hl (fun h => h)) _ _ HR.out⟩ HS.out).mono ?_
  rw [← hK.out]
  rintro e w5 ⟨rfl, hf5⟩
  have HX2 : Hid (Fr No w w5) := (show Fr No w w5 from HF1.out.then hf5)
  have hb5 := hf5.heap HBLK.out (fun h => h)
  have c0 := blk_cell hb5 0
  have c1 := blk_cell hb5 1
  have c2 := blk_cell hb5 2
  have c3 := blk_cell hb5 3
  simp only [List.getElem?_toArray, List.getElem?_cons_zero, List.getElem?_cons_succ] at c0 c1 c2 c3
  clear hf5 hb5
  cases K
  · go_wp2_with fail
    go_ret
    exact (show Told _ _ _ _ from ⟨by rw [hC.out, hchk.out]; rfl, HX2.out⟩)
  · go_wp2_with fail
    refine (refdeep_any (.mk k n s l) _ F _ ⟨[.int .i64 k, .int .i64 n, .string ⟨s.toArray⟩, .slice A l.length c], rfl, itR_move (fun k hk hl => HX2.out.block k hl (fun h => h)) _ _ HR.out⟩ HS.out).mono ?_
    rw [← hD.out]
    rintro e w6 ⟨rfl, hf6⟩
    have HX3 : Hid (Fr No w w6) := (show Fr No w w6 from HX2.out.then hf6)
    clear hf6 c0 c1 c2 c3
    by_cases h40 : (40 : Int) < D
    · have h40' : 40 < D := by omega
      go_wp2_with fail
      go_ret
      exact (show Told _ _ _ _ from ⟨by rw [hC.out, hchk.out]; simp [h40'], HX3.out⟩)
    · have h40' : ¬ 40 < D := by omega
      have h40'' : (D : Int) ≤ 40 := by omega
      clear h40
      go_wp2_with fail
      go_ret
      exact (show Told _ _ _ _ from ⟨by rw [hC.out, hchk.out]; simp [h40'], HX3.out⟩)
end Go.Proofs.Ytbaohngnpgappaa
