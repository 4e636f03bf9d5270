/- DiskGoes: the walk. -/
import Derived.Test.YtbaohngnpgappaaE5
import Derived.Test.YtbaohngnpgappaaD3
set_option linter.unusedVariables false
set_option linter.unusedSimpArgs false
namespace Go.Proofs.Ytbaohngnpgappaa
open Go.RowKit
set_option maxHeartbeats 4000000 in
theorem diskgoes {w : World} {size : Int} {vl : Value} {l : List OpD} (hl : Row OpK w (fun k => k < w.heap.size) vl l) (hs1 : -9223372036854775808 ≤ size) (hs2 : size ≤ 9223372036854775807) :
    Calls Try.prog 4 #[.int .i64 size, vl] w (Told (.bool true) w) := by
  obtain ⟨Al, cl, rfl, hc1, hc2⟩ := hl.shape
  have hl63 : (l.length : Int) ≤ 9223372036854775807 := by simp only [maxLen] at hc2; omega
  have HL := Lib.hid hl
  clear hl hc2
  have up : ∀ W, Fr No w W → Told (.bool true) w (.returned (.bool true)) W := fun W h => ⟨rfl, h⟩
  have UP := Lib.hid up
  clear up
  cases hfew : fewB l
  · go_enter Try.func4, Try.ntmps4
    go_wp2_with fail
    refine (live_any _).mono ?_
    rintro e w1 ⟨rfl, hF1⟩
    have HF1 := Lib.hid hF1
    clear hF1
    go_wp2_with fail
    refine (few_any (HL.out.fr (by decide) HF1.out (fun _ _ _ h => h))).mono ?_
    rw [hfew]
    rintro e w2 ⟨rfl, hF2⟩
    have HF2 := Lib.hid (HF1.out.then hF2)
    clear hF2
    go_wp2_with fail
    go_ret
    exact UP.out _ HF2.out
  · have HFEW := Lib.hid hfew
    have hl120 : Hid (l.length ≤ 120) := (show l.length ≤ 120 from by unfold fewB at hfew; simp at hfew; omega)
    have hlb : Hid (∀ o ∈ l, o.b.length ≤ 300) := (show ∀ o ∈ l, o.b.length ≤ 300 from by unfold fewB at hfew; simp at hfew; exact hfew.2)
    clear hfew
    by_cases c1 : 400 < size
    · by_cases c2 : size < 1048576
      · go_enter Try.func4, Try.ntmps4
        go_wp2_with fail
        refine (live_any _).mono ?_
        rintro e w1 ⟨rfl, hF1⟩
        have HF1 := Lib.hid hF1
        clear hF1
        go_wp2_with fail
        refine (few_any (HL.out.fr (by decide) HF1.out (fun _ _ _ h => h))).mono ?_
        rw [HFEW.out]
        rintro e w2 ⟨rfl, hF2⟩
        have HF2 := Lib.hid (HF1.out.then hF2)
        clear hF2
        go_wp2_with fail
        go_ret
        exact UP.out _ HF2.out
      · have c2' : 1048576 ≤ size := by omega
        clear c2
        go_enter Try.func4, Try.ntmps4
        go_wp2_with fail
        refine (live_any _).mono ?_
        rintro e w1 ⟨rfl, hF1⟩
        have HF1 := Lib.hid hF1
        clear hF1
        go_wp2_with fail
        refine (few_any (HL.out.fr (by decide) HF1.out (fun _ _ _ h => h))).mono ?_
        rw [HFEW.out]
        rintro e w2 ⟨rfl, hF2⟩
        have HF2 := Lib.hid (HF1.out.then hF2)
        clear hF2
        go_wp2_with fail
        refine (new_any size _).mono ?_
        rintro e w3 ⟨p, O, rfl, hD, hO, hF⟩
        have HD := Lib.hid hD
        have HF3 := Lib.hid (HF2.out.then hF)
        clear hD hO hF
        have hcl : ((List.replicate (clampI size) (0 : UInt8)).length : Int) = 1048576 := by rw [List.length_replicate]; unfold clampI; omega
        have HCL := Lib.hid hcl
        clear hcl
        go_wp2_with fail
        refine (size_any HD.out).mono ?_
        rintro e w' ⟨rfl, rfl⟩
        simp only
        rw [HCL.out]
        go_wp2_with fail
        go_ret
        exact UP.out _ HF3.out
    · have c1' : size ≤ 400 := by omega
      clear c1
      obtain ⟨n, hn⟩ : ∃ n, n = clampI size := ⟨_, rfl⟩
      have hn4 : n ≤ 400 := by rw [hn]; unfold clampI; omega
      have HN := Lib.hid hn
      clear hn
      go_enter Try.func4, Try.ntmps4
      go_wp2_with fail
      refine (live_any _).mono ?_
      rintro e w1 ⟨rfl, hF1⟩
      have HF1 := Lib.hid hF1
      clear hF1
      go_wp2_with fail
      refine (few_any (HL.out.fr (by decide) HF1.out (fun _ _ _ h => h))).mono ?_
      rw [HFEW.out]
      rintro e w2 ⟨rfl, hF2⟩
      have HF2 := Lib.hid (HF1.out.then hF2)
      clear hF2
      go_wp2_with fail
      refine (new_any size _).mono ?_
      rintro e w3 ⟨x, O, rfl, hD, hO, hF⟩
      rw [← HN.out] at hD
      have HD := Lib.hid hD
      have HO := Lib.hid hO
      have HF3 := Lib.hid (HF2.out.then hF)
      clear hD hO hF
      go_wp2_with fail
      refine (refnew_any size _).mono ?_
      rintro e w4 ⟨y, O', R', rfl, hD', hO', hF'⟩
      rw [← HN.out] at hD'
      have HF4 := Lib.hid (HF3.out.then hF')
      have hz : (List.replicate n (0 : UInt8)).length = n := List.length_replicate
      have hstart : ∃ d : Dk, Hid (Duo w4 (fun k => k < w.heap.size) x y d d.safe d.waits ∧ d.now.length = n ∧ applyW d.safe d.waits = d.now ∧ d.waits.length ≤ 0 ∧ Fr No w w4) := by
        refine ⟨⟨List.replicate n 0, List.replicate n 0, []⟩, (show _ ∧ _ from ⟨⟨O, No, O', R', HD.out.no hF', hD', ?_, ?_, ?_⟩, hz, rfl, Nat.le_refl _, HF4.out⟩)⟩
        · intro k hk
          have h1 := HD.out.lt k (.inl hk)
          exact ⟨fun h => by have := hO' k (.inl h); omega, fun h => by have := hO' k (.inr h); omega⟩
        · intro k _ h; exact h.elim
        · intro k hk h
          have h3 := HF3.out.size
          have h2 := HF2.out.size
          rcases hk with (hk | hk) | hk
          · have := HO.out k hk; omega
          · exact hk.elim
          · have := hO' k hk; omega
      obtain ⟨d0, HR0⟩ := hstart
      clear hD' hO' hF' hz HD HO
      go_wp2_with fail
      go_loopw [6, 40] (fun x i wr => ∃ (k : Nat) (d : Dk), k ≤ l.length ∧ i = .int .i64 k ∧ Hid (Duo wr (fun k => k < w.heap.size) x y d d.safe d.waits ∧ d.now.length = n ∧ applyW d.safe d.waits = d.now ∧ d.waits.length ≤ k ∧ Fr No w wr)) (fun _ i _ => l.length - (intOf i).toNat)
      case atStart => exact ⟨0, d0, Nat.zero_le _, rfl, HR0⟩
      case round =>
        obtain ⟨k, d, hk, rfl, HR⟩ := hrel
        by_cases hlt : k < l.length
        · obtain ⟨b, o, c', cs, he, _, _, hF, ⟨vb, hcs, hrb, hI1, hI2, hI3⟩, hcell⟩ := (HL.out.fr (by decide) HR.out.2.2.2.2 (fun _ _ _ h => h)).at_ k hlt
          cases he
          obtain ⟨Ab, cb, hvb, hb1, hb2⟩ := hrb.shape
          subst hvb
          have c0 := hcell 0 _ (by rw [hcs]; rfl)
          have c1 := hcell 1 _ (by rw [hcs]; rfl)
          have c2 := hcell 2 _ (by rw [hcs]; rfl)
          have c3 := hcell 3 _ (by rw [hcs]; rfl)
          have c4 := hcell 4 _ (by rw [hcs]; rfl)
          have c5 := hcell 5 _ (by rw [hcs]; rfl)
          simp only [show OpK.sz = 6 from rfl, Nat.add_zero] at c0 c1 c2 c3 c4 c5
          have h300 := hlb.out _ (List.getElem_mem hlt)
          obtain ⟨⟨act, at_, nn, bb, kk, tt⟩, hx⟩ : ∃ x, x = l[k] := ⟨_, rfl⟩
          rw [← hx] at c0 c1 c2 c3 c4 c5 hcs hrb hb1 hI1 hI2 hI3 h300
          dsimp only at c0 c1 c2 c3 c4 c5 hcs hrb hb1 hI1 hI2 hI3 h300
          have HRB2 := Lib.hid hrb
          have HI := Lib.hid (And.intro hI1 (And.intro hI2 hI3))
          clear hcell hcs hb2 hx hrb hI1 hI2 hI3
          obtain ⟨obj, hobj⟩ : ∃ obj, Hid (obj = (Obj.cells #[.int .i64 act, .int .i64 at_, .int .i64 nn, .slice Ab bb.length cb, .int .u64 kk, .int .i64 tt] 38 (0, 0))) := ⟨_, rfl⟩
          go_wp2_with fail
          rw [← hobj.out]
          have hfa : Fr No wr (wr.alloc obj) := (Fr.refl _ _).alloc _
          have hsz := HR.out.2.2.2.2.size
          have hk120 : k ≤ 120 := by have := hl120.out; omega
          refine (step_any (B := w.heap.size) (n := n) (m := k) (HR.out.1.quiet hfa) (Nat.le_trans hsz hfa.size) HR.out.2.1 HR.out.2.2.1 HR.out.2.2.2.1 (by omega) hn4 (HRB2.out.fr hfa (fun _ _ _ h => h)) h300 HI.out.1 HI.out.2.1 HI.out.2.2).mono ?_
          rintro e w5 ⟨z, d', rfl, hD5, h1, h2, h3, hf5⟩
          have HR2 : Hid (Duo w5 (fun k => k < w.heap.size) z y d' d'.safe d'.waits ∧ d'.now.length = n ∧ applyW d'.safe d'.waits = d'.now ∧ d'.waits.length ≤ k + 1 ∧ Fr No w w5) := (show _ ∧ _ from ⟨hD5, h1, h2, h3, (HR.out.2.2.2.2.then hfa).news hf5 (fun _ h => h)⟩)
          clear hD5 h1 h2 h3 hf5 hfa hsz c0 c1 c2 c3 c4 c5
          go_wp2_with fail
          go_roundw
          case rel => exact ⟨k + 1, d', by omega, by go_num, HR2⟩
          case measure => simp [intOf]; omega
        · have hkl : k = l.length := by omega
          subst hkl
          clear hlt
          go_wp2_with fail
          go_ret
          exact UP.out _ HR.out.2.2.2.2
end Go.Proofs.Ytbaohngnpgappaa
