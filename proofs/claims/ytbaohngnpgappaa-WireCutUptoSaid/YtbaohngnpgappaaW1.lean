/- wire's look: how deep, whether it may be. -/
import Derived.Test.YtbaohngnpgappaaW0
import Derived.Deep.Cut
import Derived.Deep.CutRange
set_option linter.unusedVariables false
set_option linter.unusedSimpArgs false
namespace Go.Proofs.Ytbaohngnpgappaa
open Go.RowKit
set_option maxHeartbeats 2000000 in
theorem look_any : ∀ (v : It) (w : World) (F : Nat → Prop) (vv : Value), ItV w F vv v → v.size ≤ 1048576 → Calls Try.prog 86 #[vv] w (Told (.tuple #[.int .i64 (v.deep : Int), .bool v.ok]) w) := by
  refine It.ind fun k n s l ih w F vv hv hsz => ?_
  obtain ⟨cs, rfl, hr⟩ := hv
  obtain ⟨vl, rfl, hrow, hfit⟩ := itR_row hr
  obtain ⟨A, c, rfl, hc1, hc2⟩ := hrow.shape
  rw [It.size] at hsz
  have hll := It.sizes_len l
  have hl2 : (l.length : Int) ≤ 1048576 := by omega
  have HSZ : Hid (It.sizes l ≤ 1048575) := (show It.sizes l ≤ 1048575 from by omega)
  have HR := Lib.hid hrow
  have IH := Lib.hid ih
  have hk1 := hfit.1.1
  have hk2 := hfit.1.2
  clear hr hrow hc2 hsz hll ih hfit
  unfold str
  go_enter Try.func86, Try.ntmps86
  go_upto_region 1 with fail
  go_cut [3] from 8 to 46 (fun o wx => o = .bool (headOk k n s l) ∧ wx = w.alloc (.cells #[.int .i64 k, .int .i64 n, .string ⟨s.toArray⟩, .slice A l.length c] 48 (0, 0)))
  case first =>
    have hll : (0 : Int) ≤ l.length := by omega
    by_cases k1 : k < 1
    · have k1' : ¬ (1 ≤ k) := by omega
      go_wp2_with fail
      go_meet
      exact ⟨congrArg Value.bool (by unfold headOk; simp; try omega), rfl⟩
    · have k1' : 1 ≤ k := by omega
      clear k1
      by_cases k3 : 3 < k
      · have k3' : ¬ (k ≤ 3) := by omega
        go_wp2_with fail
        go_meet
        exact ⟨congrArg Value.bool (by unfold headOk; simp; try omega), rfl⟩
      · have k3' : k ≤ 3 := by omega
        clear k3
        rcases (show k = 1 ∨ k = 2 ∨ k = 3 by omega) with rfl | rfl | rfl
        · clear k1' k3'
          rcases s with _ | ⟨a, s⟩
          · rcases l with _ | ⟨b, l⟩
            · go_wp2_with fail
              go_meet
              exact ⟨congrArg Value.bool (by unfold headOk; simp; try omega), rfl⟩
            · go_wp2_with fail
              go_meet
              exact ⟨congrArg Value.bool (by unfold headOk; simp; try omega), rfl⟩
          · go_wp2_with fail
            go_meet
            exact ⟨congrArg Value.bool (by unfold headOk; simp; try omega), rfl⟩
        · clear k1' k3'
          by_cases hn : n = 0
          · subst hn
            rcases l with _ | ⟨b, l⟩
            · go_wp2_with fail
              go_meet
              exact ⟨congrArg Value.bool (by unfold headOk; simp; try omega), rfl⟩
            · go_wp2_with fail
              go_meet
              exact ⟨congrArg Value.bool (by unfold headOk; simp; try omega), rfl⟩
          · go_wp2_with fail
            go_meet
            exact ⟨congrArg Value.bool (by unfold headOk; simp; try omega), rfl⟩
        · clear k1' k3'
          by_cases hn : n = 0
          · subst hn
            rcases s with _ | ⟨a, s⟩
            · go_wp2_with fail
              go_meet
              exact ⟨congrArg Value.bool (by unfold headOk; simp; try omega), rfl⟩
            · go_wp2_with fail
              go_meet
              exact ⟨congrArg Value.bool (by unfold headOk; simp; try omega), rfl⟩
          · go_wp2_with fail
            go_meet
            exact ⟨congrArg Value.bool (by unfold headOk; simp; try omega), rfl⟩
  case rest =>
    obtain ⟨rfl, rfl⟩ := hcut
    go_wp2_with fail
    go_loopw [2, 3, 50] (fun dd oo i wr => ∃ j : Nat, j ≤ l.length ∧ i = .int .i64 j ∧ dd = .int .i64 (It.deeps (l.take j) : Int) ∧ oo = .bool (headOk k n s l && It.oks (l.take j)) ∧ Hid (Fr No w wr)) (fun _ _ i _ => l.length - (intOf i).toNat)
    case atStart => exact ⟨0, Nat.zero_le _, rfl, rfl, by simp [It.oks], (show Fr No w _ from (Fr.refl _ _).alloc _)⟩
    case round =>
      obtain ⟨j, hj, rfl, rfl, rfl, HX⟩ := hrel
      by_cases hlt : j < l.length
      · obtain ⟨b, o, _, cs, he, _, _, _, hrx, hcell⟩ := (HR.out.fr (by decide) HX.out (fun _ _ _ h => h)).at_ j hlt
        cases he
        obtain ⟨x, hx⟩ : ∃ x, x = l[j] := ⟨_, rfl⟩
        have HXJ : Hid (l[j]? = some x) := (show _ = _ from by rw [hx]; exact List.getElem?_eq_getElem hlt)
        have hmem : Hid (x ∈ l) := (show x ∈ l from by rw [hx]; exact List.getElem_mem hlt)
        rw [← hx] at hrx
        have hsx := It.sizes_mem hmem.out
        have hd1 := It.deep_size x
        have hd2 : It.deeps (l.take j) ≤ 1048576 := by
          have h1 := It.sizes_app (l.take j) (l.drop j)
          rw [List.take_append_drop] at h1
          have h2 := It.deep_size (.mk 0 0 [] (l.take j))
          rw [It.deep, It.size] at h2
          have := HSZ.out
          omega
        have hxs : Hid (x.size ≤ 1048576) := (show x.size ≤ 1048576 from by have := HSZ.out; omega)
        have hxd : (x.deep : Int) ≤ 1048576 := by have := hxs.out; omega
        obtain ⟨xk, xn, xs, xl⟩ := x
        obtain ⟨vl, rfl, hrow, hfit⟩ := itR_row hrx
        obtain ⟨A2, c2, rfl, _, _⟩ := hrow.shape
        have c0 := hcell 0 _ rfl
        have c1 := hcell 1 _ rfl
        have c2' := hcell 2 _ rfl
        have c3 := hcell 3 _ rfl
        simp only [show ItK.sz = 4 from rfl, Nat.add_zero, str] at c0 c1 c2' c3
        have HRX := Lib.hid hrx
        obtain ⟨D, hD⟩ : ∃ D, Hid (D = (It.mk xk xn xs xl).deep) := ⟨_, rfl⟩
        obtain ⟨K, hK⟩ : ∃ K, Hid (K = (It.mk xk xn xs xl).ok) := ⟨_, rfl⟩
        obtain ⟨E, hE⟩ : ∃ E, Hid (E = It.deeps (l.take j)) := ⟨_, rfl⟩
        obtain ⟨G, hG⟩ : ∃ G, Hid (G = (headOk k n s l && It.oks (l.take j))) := ⟨_, rfl⟩
        have hD2 : (D : Int) ≤ 1048576 := by rw [hD.out]; exact hxd
        have hE2 : (E : Int) ≤ 1048576 := by rw [hE.out]; omega
        rw [← hE.out, ← hG.out]
        have hdeep : Hid (It.deeps (l.take (j + 1)) = max E D) := (show _ = _ from by rw [List.take_add_one, HXJ.out, It.deeps_app, ← hE.out]; simp [It.deeps, hD.out])
        have hoks : Hid ((headOk k n s l && It.oks (l.take (j + 1))) = (G && K)) := (show _ = _ from by rw [List.take_add_one, HXJ.out, It.oks_app, hG.out, hK.out, Bool.and_assoc]; simp [It.oks])
        clear hcell hrow hfit hrx hsx hd1 hd2 hxd hx
        go_wp2_with fail
        refine (IH.out _ hmem.out _ _ _ ⟨[.int .i64 xk, .int .i64 xn, .string ⟨xs.toArray⟩, .slice A2 xl.length c2], rfl, itR_move (fun k _ hl => Below.heap_alloc _ _ _ hl) _ _ HRX.out⟩ hxs.out).mono ?_
        rw [← hD.out, ← hK.out]
        rintro e w5 ⟨rfl, hf5⟩
        have HX2 : Hid (Fr No w w5) := (show Fr No w w5 from (HX.out.alloc _).then hf5)
        clear hf5 c0 c1 c2' c3
        cases G
        · go_wp2_with ((with_reducible refine at_dst 61 rfl ?_); refine wpList_max rfl (.tmp 59) (.tmp 60) _ rfl _ _ rfl rfl ?_)
          go_roundw
          case rel => exact ⟨j + 1, by omega, by go_num, by rw [hdeep.out]; congr 1; omega, by rw [hoks.out]; rfl, HX2⟩
          case measure => simp [intOf]; omega
        · go_wp2_with ((with_reducible refine at_dst 61 rfl ?_); refine wpList_max rfl (.tmp 59) (.tmp 60) _ rfl _ _ rfl rfl ?_)
          go_roundw
          case rel => exact ⟨j + 1, by omega, by go_num, by rw [hdeep.out]; congr 1; omega, by rw [hoks.out]; rfl, HX2⟩
          case measure => simp [intOf]; omega
      · have hjl : j = l.length := by omega
        subst hjl
        clear hlt
        simp only [List.take_length]
        have hd2 : (It.deeps l : Int) ≤ 1048576 := by
          have h2 := It.deep_size (.mk 0 0 [] l)
          rw [It.deep, It.size] at h2
          have := HSZ.out
          omega
        go_wp2_with fail
        go_ret2
        refine (show Told _ _ _ _ from ⟨?_, HX.out⟩)
        rw [It.deep, It.ok]
        simp
end Go.Proofs.Ytbaohngnpgappaa
