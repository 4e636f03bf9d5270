/- WireSeals: its walk. -/
import Derived.Test.YtbaohngnpgappaaW19
import Derived.Test.YtbaohngnpgappaaW14
set_option linter.unusedVariables false
set_option linter.unusedSimpArgs false
namespace Go.Proofs.Ytbaohngnpgappaa
open Go.RowKit
set_option maxRecDepth 100000 in
set_option maxHeartbeats 2000000 in
theorem wseals_any {w : World} {F : Nat → Prop} {v : Value} {b : List UInt8} (h : Rb w F v b) : Calls Try.prog 12 #[v] w (Told (.bool true) w) := by
  obtain ⟨A, c, rfl, hc1, hc2⟩ := h.shape
  have hl2 : (b.length : Int) ≤ 9223372036854775807 := by simp only [maxLen] at hc2; omega
  have H := Lib.hid h
  obtain ⟨n, hn⟩ : ∃ n, n = b.length := ⟨_, rfl⟩
  have HN := Lib.hid hn
  rw [← hn] at hc1 hl2 H ⊢
  clear h hc2 hn
  go_enter Try.func12, Try.ntmps12
  go_wp2_with fail
  refine (wlive_any w).mono ?_
  rintro e w1 ⟨rfl, hf1⟩
  have HF1 := Lib.hid hf1
  clear hf1
  by_cases hbig : (100000 : Int) < (n : Int)
  · go_wp2_with fail
    go_ret
    exact (show Told _ _ _ _ from ⟨rfl, HF1.out⟩)
  · have HNB : Hid (b.length ≤ 100000) := (show _ ≤ _ from by rw [← HN.out]; omega)
    go_wp2_with fail
    obtain ⟨x, N, E, hR⟩ : ∃ (x : List UInt8) (N : Nat) (E : Int), openB b = (x, N, E) := ⟨_, _, _, rfl⟩
    refine (open_any (H.out.fr HF1.out (fun _ _ _ h => h))).mono ?_
    rw [hR]
    rintro e w2 ⟨v2, rfl, hown2, hf2⟩
    have HF2 : Hid (Fr No w w2) := (show Fr No w w2 from HF1.out.then hf2)
    have HR2 : Hid (Rb w2 (New w1) v2 x) := (show Rb _ _ _ _ from hown2.reads)
    obtain ⟨A2, c2, rfl, _, _⟩ := hown2.shape
    clear hown2 hf2
    simp only [] at *
    go_wp2_with fail
    refine (refopen_any (H.out.fr HF2.out (fun _ _ _ h => h))).mono ?_
    rw [hR]
    clear hR
    rintro e w3 ⟨v3, rfl, hown3, hf3⟩
    have HF3 : Hid (Fr No w w3) := (show Fr No w w3 from HF2.out.then hf3)
    have HR23 : Hid (Rb w3 (fun k => New w1 k ∧ k < w2.heap.size) (.slice A2 x.length c2) x) := (show Rb _ _ _ _ from HR2.out.bound.fr hf3 (fun _ _ _ h => h))
    have HR3 : Hid (Rb w3 (New w2) v3 x) := (show Rb _ _ _ _ from hown3.reads)
    obtain ⟨A3, c3, rfl, _, _⟩ := hown3.shape
    clear hown3 hf3
    simp only [] at *
    go_wp2_with fail
    refine (sum_any (H.out.fr HF3.out (fun _ _ _ h => h))).mono ?_
    obtain ⟨C, hC⟩ : ∃ C, Hid (C = crc b) := ⟨_, show _ = _ from rfl⟩
    rw [← hC.out]
    rintro e w' ⟨rfl, rfl⟩
    go_wp2_with fail
    refine (refsum_any (H.out.fr HF3.out (fun _ _ _ h => h))).mono ?_
    rw [← hC.out]
    rintro e w' ⟨rfl, rfl⟩
    go_wp2_with fail
    refine (seal_any (H.out.fr HF3.out (fun _ _ _ h => h)) (by have := HNB.out; omega)).mono ?_
    rintro e w4 ⟨v4, rfl, hown4, hf4⟩
    have HF4 : Hid (Fr No w w4) := (show Fr No w w4 from HF3.out.then hf4)
    have HF34 : Hid (Fr No w3 w4) := (show Fr No w3 w4 from hf4)
    have HR4 : Hid (Rb w4 (New w3) v4 (sealB b)) := (show Rb _ _ _ _ from hown4.reads)
    obtain ⟨A4, c4, rfl, _, _⟩ := hown4.shape
    clear hown4 hf4
    go_wp2_with fail
    refine (refseal_any (H.out.fr HF4.out (fun _ _ _ h => h)) (by have := HNB.out; omega)).mono ?_
    rintro e w5 ⟨v5, rfl, hown5, hf5⟩
    have HF5 : Hid (Fr No w w5) := (show Fr No w w5 from HF4.out.then hf5)
    have HF35 : Hid (Fr No w3 w5) := (show Fr No w3 w5 from HF34.out.then hf5)
    have HR5 : Hid (Rb w5 (New w4) v5 (sealB b)) := (show Rb _ _ _ _ from hown5.reads)
    have HR45 : Hid (Rb w5 (New w3) (.slice A4 (sealB b).length c4) (sealB b)) := (show Rb _ _ _ _ from HR4.out.fr hf5 (fun _ _ _ h => h))
    obtain ⟨A5, c5, rfl, _, _⟩ := hown5.shape
    clear hown5 hf5
    go_wp2_with fail
    refine (samebytes_yes HR45.out HR5.out rfl).mono ?_
    rintro e w' ⟨rfl, rfl⟩
    go_wp2_with fail
    refine (samebytes_yes (HR23.out.fr HF35.out (fun _ _ _ h => h)) (HR3.out.fr HF35.out (fun _ _ _ h => h)) rfl).mono ?_
    rintro e w' ⟨rfl, rfl⟩
    go_wp2_with fail
    go_ret
    exact (show Told _ _ _ _ from ⟨rfl, HF5.out⟩)
end Go.Proofs.Ytbaohngnpgappaa
