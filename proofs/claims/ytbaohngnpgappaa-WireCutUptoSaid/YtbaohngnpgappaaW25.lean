/- The document's Encode. -/
import Derived.Test.YtbaohngnpgappaaW24
import Derived.Test.YtbaohngnpgappaaW10
set_option linter.unusedVariables false
set_option linter.unusedSimpArgs false
namespace Go.Proofs.Ytbaohngnpgappaa
open Go.RowKit
set_option maxHeartbeats 1000000 in
theorem refencode_any {v : It} {w : World} {F : Nat → Prop} {vv : Value} (hv : ItV w F vv v) (hsz : v.size ≤ 1048576) (htx : checkI v = 0 → v.enc.length ≤ 70368744177664) : Calls Try.prog 36 #[vv] w (EncPost w (encodeI v) (checkI v)) := by
  obtain ⟨cs, rfl, hr⟩ := hv
  obtain ⟨k, n, s, l⟩ := v
  obtain ⟨vl, rfl, hrow, hfit⟩ := itR_row hr
  obtain ⟨A, c, rfl, hc1, hc2⟩ := hrow.shape
  have HR : Hid (ItR w (fun k => F k ∧ k < w.heap.size) (.mk k n s l) [.int .i64 k, .int .i64 n, .string ⟨s.toArray⟩, .slice A l.length c]) := (show ItR _ _ _ _ from itR_bound _ _ hr)
  have HS := Lib.hid hsz
  have HT := Lib.hid htx
  clear hr hrow hc2 hfit hsz htx
  obtain ⟨C, hC⟩ : ∃ C, Hid (C = checkI (.mk k n s l)) := ⟨_, show _ = _ from rfl⟩
  obtain ⟨X, hX⟩ : ∃ X, Hid (X = encodeI (.mk k n s l)) := ⟨_, show _ = _ from rfl⟩
  rw [← hC.out, ← hX.out]
  unfold str at *
  obtain ⟨w1, hw1⟩ : ∃ w1, Hid (w1 = w.alloc (.cells #[.int .i64 k, .int .i64 n, .string ⟨s.toArray⟩, .slice A l.length c] 48 (0, 0))) := ⟨_, show _ = _ from rfl⟩
  have hf1 : Fr No w w1 := by rw [hw1.out]; exact (Fr.refl _ _).alloc _
  have hblk : w1.heap[w.heap.size]? = some (.cells #[.int .i64 k, .int .i64 n, .string ⟨s.toArray⟩, .slice A l.length c] 48 (0, 0)) := by rw [hw1.out]; exact blk_new _ _
  have HBLK := Lib.hid hblk
  have HF1 := Lib.hid hf1
  clear hblk hf1
  go_enter Try.func36, Try.ntmps36
  go_wp2_with fail
  rw [← hw1.out]
  refine (refcheck_any (v := .mk k n s l) (F := fun k => F k ∧ k < w.heap.size) ⟨[.int .i64 k, .int .i64 n, .string ⟨s.toArray⟩, .slice A l.length c], rfl, itR_move (w := w) (w' := w1) (fun k hk hl => HF1.out.block k hl (fun h => h)) _ _ HR.out⟩ HS.out).mono ?_
  rw [← hC.out]
  rintro e w2 ⟨rfl, hf2⟩
  have HF2 : Hid (Fr No w w2) := (show Fr No w w2 from HF1.out.then hf2)
  have hb2 := hf2.heap HBLK.out (fun h => h)
  have c0 := blk_cell hb2 0
  have c1 := blk_cell hb2 1
  have c2 := blk_cell hb2 2
  have c3 := blk_cell hb2 3
  simp only [List.getElem?_toArray, List.getElem?_cons_zero, List.getElem?_cons_succ] at c0 c1 c2 c3
  clear hf2 hb2
  by_cases h0 : C = 0
  · have hok : Hid ((It.mk k n s l).ok = true ∧ checkI (.mk k n s l) = 0) := (show _ ∧ _ from by
      have h1 := hC.out
      rw [h0] at h1
      refine ⟨?_, h1.symm⟩
      unfold checkI at h1
      by_cases hk : (It.mk k n s l).ok = true
      · exact hk
      · rw [if_neg hk] at h1; cases h1)
    have hXe : Hid (X = (It.mk k n s l).enc) := (show _ = _ from by rw [hX.out, encodeI, if_pos hok.out.2])
    subst h0
    go_wp2_with fail
    refine (refwrite_any (.mk k n s l) w2 (fun k => F k ∧ k < w.heap.size) _ ⟨[.int .i64 k, .int .i64 n, .string ⟨s.toArray⟩, .slice A l.length c], rfl, itR_move (w := w) (w' := w2) (fun k hk hl => HF2.out.block k hl (fun h => h)) _ _ HR.out⟩ HS.out hok.out.1 (HT.out hok.out.2)).mono ?_
    rintro e w3 ⟨v3, rfl, hown, hfr⟩
    rw [← hXe.out] at hown
    have HEND : Hid (EncPost w X 0 (.returned (.tuple #[v3, .int .i64 0])) w3) := (show EncPost _ _ _ _ _ from ⟨v3, rfl, hown.mono (fun k hk => Nat.le_trans HF2.out.size hk), HF2.out.then hfr⟩)
    clear hown hfr c0 c1 c2 c3
    go_wp2_with fail
    go_ret2
    exact HEND.out
  · have hXe : Hid (X = []) := (show _ = _ from by
      rw [hX.out, encodeI, if_neg (by rw [← hC.out]; exact h0)])
    clear c0 c1 c2 c3
    go_wp2_with fail
    go_ret2
    rw [hXe.out]
    exact (show EncPost _ _ _ _ _ from ⟨_, rfl, Ow.nil _ _ _ _, HF2.out⟩)
end Go.Proofs.Ytbaohngnpgappaa
