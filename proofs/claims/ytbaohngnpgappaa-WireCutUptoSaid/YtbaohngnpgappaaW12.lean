/- wire's Seal. -/
import Derived.Test.YtbaohngnpgappaaW11
set_option linter.unusedVariables false
set_option linter.unusedSimpArgs false
namespace Go.Proofs.Ytbaohngnpgappaa
open Go.RowKit
theorem ow_zeros_big (W : World) {m g : Nat} (hn : m ≤ 140737488355328) (h : W.heap[g]? = some (.cells (madeCells #[.int .u8 0] m) 5 (0, 0))) : Ow W (fun k => k = g) 5 1 (.slice (some ⟨g, 0, none⟩) m m) m ((List.replicate m (0 : UInt8)).map enc8) := by
  refine ⟨⟨by simp, .inr ⟨_, m, _, rfl, Nat.zero_le _, h, Nat.le_refl _, by simp only [maxLen]; omega, by simp [madeCells], ?_⟩⟩, fun k hk => (Option.some.inj hk).symm⟩
  apply List.ext_getElem
  · simp [madeCells]
  · intro i h1 h2
    simp [madeCells, Nat.mod_one, enc8]
/-- Four bytes, the greatest first; the least first. -/
def be4 (n : Nat) : List UInt8 := (List.range 4).map fun j => byteOf ((n : Int) / 2 ^ (24 - 8 * j))
def le4 (n : Nat) : List UInt8 := (List.range 4).map fun j => byteOf ((n : Int) / 2 ^ (8 * j))
def sealB (b : List UInt8) : List UInt8 := be4 b.length ++ b ++ le4 (crc (be4 b.length ++ b))
theorem set_app {α : Type} {a r : List α} {x y : α} (j : Nat) (h : j = a.length) : (a ++ x :: r).set j y = a ++ y :: r := by
  subst h
  rw [List.set_append_right _ _ (Nat.le_refl _), Nat.sub_self]; rfl
theorem be4_step (n : Nat) {j : Nat} (h : j < 4) : (be4 n).take (j + 1) = (be4 n).take j ++ [byteOf ((n : Int) / 2 ^ (24 - 8 * j))] := by
  rw [List.take_add_one]
  unfold be4
  rw [List.getElem?_map, List.getElem?_range h]
  rfl
theorem le4_step (n : Nat) {j : Nat} (h : j < 4) : (le4 n).take (j + 1) = (le4 n).take j ++ [byteOf ((n : Int) / 2 ^ (8 * j))] := by
  rw [List.take_add_one]
  unfold le4
  rw [List.getElem?_map, List.getElem?_range h]
  rfl
theorem be4_len (n : Nat) : (be4 n).length = 4 := by simp [be4]
theorem le4_len (n : Nat) : (le4 n).length = 4 := by simp [le4]
theorem sealB_len (b : List UInt8) : (sealB b).length = b.length + 8 := by unfold sealB; rw [List.length_append, List.length_append, be4_len, le4_len]; omega
set_option maxRecDepth 100000 in
set_option maxHeartbeats 2000000 in
theorem seal_any {w : World} {F : Nat → Prop} {v : Value} {b : List UInt8} (h : Rb w F v b) (hb : b.length ≤ 70368744177664) : Calls Try.prog 57 #[v] w (TellsB w (sealB b)) := by
  obtain ⟨A, c, rfl, hc1, hc2⟩ := h.shape
  have H : Hid (Rb w (fun k => F k ∧ k < w.heap.size) (.slice A b.length c) b) := (show Rb _ _ _ _ from h.bound)
  clear h hc2
  obtain ⟨N, hN⟩ : ∃ N, N = b.length + 8 := ⟨_, rfl⟩
  have hmk := fun (W : World) => run_make_row' (P := Try.prog) 22 5 (.int .u8 0) 1 Try.underlying22 info5 rfl .i64 .i64 N (by omega) (by omega) W
  have hNi : (b.length : Int) + 8 = (N : Int) := by omega
  have hN63 : (N : Int) ≤ 70368744177672 := by omega
  have HN := Lib.hid hN
  clear hN
  go_enter Try.func57, Try.ntmps57
  go_wp2_with fail
  have HR0 : Hid (Ow (w.alloc (.cells (madeCells #[.int .u8 0] N) 5 (0, 0))) (fun k => k = w.heap.size) 5 1 (.slice (some ⟨w.heap.size, 0, none⟩) N N) N (((be4 b.length).take 0 ++ List.replicate (N - 0) (0 : UInt8)).map enc8) ∧ Fr No w (w.alloc (.cells (madeCells #[.int .u8 0] N) 5 (0, 0)))) := by
    refine (show _ ∧ _ from ⟨?_, (Fr.refl _ _).alloc _⟩)
    rw [List.take_zero, List.nil_append, Nat.sub_zero]
    exact ow_zeros_big _ (m := N) (by omega) (blk_new _ _)
  go_loopw [11] (fun i wr => ∃ j : Nat, j ≤ 4 ∧ i = .int .i64 j ∧ Hid (Ow wr (fun k => k = w.heap.size) 5 1 (.slice (some ⟨w.heap.size, 0, none⟩) N N) N (((be4 b.length).take j ++ List.replicate (N - j) (0 : UInt8)).map enc8) ∧ Fr No w wr)) (fun i _ => 4 - (intOf i).toNat)
  case atStart => exact ⟨0, Nat.zero_le _, rfl, HR0⟩
  case round =>
    obtain ⟨j, hj, rfl, HR⟩ := hrel
    by_cases hj4 : (j : Int) < 4
    · obtain ⟨B, hB⟩ : ∃ B, Hid (B = byteOf ((b.length : Int) / 2 ^ (24 - 8 * j))) := ⟨_, rfl⟩
      obtain ⟨z, hz⟩ : ∃ z : Int, Hid (z = IntKind.u8.wrap ((b.length : Int) / 2 ^ (24 - 8 * j))) := ⟨_, rfl⟩
      have henc : Hid (enc8 B = .int .u8 z) := (show _ = _ from by rw [hB.out, hz.out]; exact byteOf_enc _)
      obtain ⟨g, c7, cur, he3, hg, hblk7, _, _, hcs7, _⟩ := HR.out.1.form (by omega)
      cases he3
      have hcur : j < cur.size := by omega
      obtain ⟨old, g1⟩ : ∃ old, wr.cell? ⟨w.heap.size, j, none⟩ = some old := ⟨cur[j], by rw [blk_cell hblk7, Array.getElem?_eq_getElem hcur]⟩
      have g2 : wr.frozen? ⟨w.heap.size, j, none⟩ = false := blk_free hblk7 _
      have hjN : (j : Int) < (N : Int) := by omega
      have HR2 : Hid (Ow (wr.setCell ⟨w.heap.size, j, none⟩ (.int .u8 z)) (fun k => k = w.heap.size) 5 1 (.slice (some ⟨w.heap.size, 0, none⟩) N N) N (((be4 b.length).take (j + 1) ++ List.replicate (N - (j + 1)) (0 : UInt8)).map enc8) ∧ Fr No w (wr.setCell ⟨w.heap.size, j, none⟩ (.int .u8 z))) := by
        refine (show _ ∧ _ from ⟨?_, HR.out.2.setCell _ _ (fun h => by simp at h)⟩)
        have h1 := HR.out.1.set j (.int .u8 z)
        rw [← henc.out, ← List.map_set, show N - j = (N - (j + 1)) + 1 from by omega, List.replicate_succ, set_app j (by rw [List.length_take, be4_len]; omega)] at h1
        rw [be4_step _ (by omega), ← hB.out, List.append_assoc, ← henc.out]
        exact h1
      clear hblk7 hcs7
      go_wp2_with (with_reducible refine halt_dst 22 rfl ?_)
      refine wpListG_run (by rfl) (v := .int .u8 z) (w' := wr) ?hr ?_
      case hr => go_simp; (try rw [hz.out])
      go_wp2_with fail
      go_roundw
      case rel => exact ⟨j + 1, by omega, by go_num, HR2⟩
      case measure => simp [intOf]; omega
    · have hj5 : j = 4 := by omega
      subst hj5
      clear hj4
      obtain ⟨R, hR⟩ : ∃ R, Hid (R = (be4 b.length).take 4 ++ List.replicate (N - 4) (0 : UInt8)) := ⟨_, rfl⟩
      have hRl : Hid (R.length = N) := (show _ = _ from by rw [hR.out, List.length_append, List.length_take, be4_len, List.length_replicate]; omega)
      rw [← hR.out] at HR
      obtain ⟨A4, hcut, hA4⟩ := cut_run (P := Try.prog) 22 5 Try.underlying22 sz5 (some ⟨w.heap.size, 0, none⟩) N N 4 (by omega)
      have HA4 := Lib.hid hA4
      obtain ⟨_, _, he, _, _, hnews⟩ := (H.out.fr HR.out.2 (fun _ _ _ h => h)).news
      cases he
      have HNW := Lib.hid hnews
      clear hA4 hnews
      go_wp2_with (with_reducible refine halt_dst 28 rfl ?_)
      refine wpList_cpy rfl (.tmp 26) (.tmp 27) 22 22 5 rfl Try.underlying22 sz5 _ _ _ rfl _ _ _ rfl (.slice (some ⟨w.heap.size, 0, none⟩) N N) N (R.map enc8) HR.out.1 4 (by omega) (by omega) (by intro _ g c h; cases h; rfl) (b.map enc8) (by rw [List.length_map]; omega) HNW.out (one8 _) ?_
      intro w4 hown4 hfr4
      rw [splice_map] at hown4
      obtain ⟨M, hM⟩ : ∃ M, Hid (M = be4 b.length ++ b) := ⟨_, rfl⟩
      have hMl : Hid (M.length = b.length + 4) := (show _ = _ from by rw [hM.out, List.length_append, be4_len]; omega)
      have hsp : splice R 4 b = M ++ List.replicate 4 (0 : UInt8) := by
        rw [hR.out, hM.out, List.take_of_length_le (by rw [be4_len]; omega), show N - 4 = b.length + 4 from by have := HN.out; omega]
        unfold splice
        rw [List.take_append_of_le_length (by rw [be4_len]; omega), List.take_of_length_le (by rw [be4_len]; omega), List.drop_append, List.drop_eq_nil_of_le (by rw [be4_len]; omega), be4_len, List.nil_append, List.drop_replicate]
        rw [show b.length + 4 - (4 + b.length - 4) = 4 from by omega]
        simp
      rw [hsp] at hown4
      have HO4 : Hid (Ow w4 (fun k => k = w.heap.size) 5 1 (.slice (some ⟨w.heap.size, 0, none⟩) N N) N ((M ++ List.replicate 4 (0 : UInt8)).map enc8) ∧ Fr No w w4) := (show _ ∧ _ from ⟨hown4.mono (fun k hk => (Option.some.inj hk).symm), HR.out.2.news hfr4 (fun k hk => by have h : w.heap.size = k := Option.some.inj hk; omega)⟩)
      clear hown4 hfr4 hsp
      go_wp2_with fail
      have hrd : Rb w4 (fun k => k = w.heap.size) (.slice (some ⟨w.heap.size, 0, none⟩) (b.length + 4) N) M := by
        have h1 : Rb w4 (fun k => k = w.heap.size) (.slice (some ⟨w.heap.size, 0, none⟩) N N) (M ++ List.replicate 4 (0 : UInt8)) := by
          have hl : (M ++ List.replicate 4 (0 : UInt8)).length = N := by rw [List.length_append, hMl.out, List.length_replicate, HN.out]
          have h2 := HO4.out.1
          have h3 := Ow.reads (l := M ++ List.replicate 4 (0 : UInt8)) (by rw [hl]; exact h2)
          exact h3
        obtain ⟨_, _, he, _, _, h⟩ := h1.take_ (b.length + 4) (by rw [List.length_append, hMl.out]; omega)
        have hl : (M ++ List.replicate 4 (0 : UInt8)).length = N := by rw [List.length_append, hMl.out, List.length_replicate, HN.out]
        rw [hl] at he
        cases he
        rw [List.take_append_of_le_length (by rw [hMl.out]; omega), List.take_of_length_le (by rw [hMl.out]; omega)] at h
        exact h
      refine (sum_any hrd).mono ?_
      obtain ⟨C, hC⟩ : ∃ C, Hid (C = crc M) := ⟨_, rfl⟩
      rw [← hC.out]
      rintro e w' ⟨rfl, rfl⟩
      clear hrd
      go_wp2_with fail
      have HS0 : Hid (Ow w4 (fun k => k = w.heap.size) 5 1 (.slice (some ⟨w.heap.size, 0, none⟩) N N) N ((M ++ (le4 C).take 0 ++ List.replicate (4 - 0) (0 : UInt8)).map enc8) ∧ Fr No w w4) := (show _ ∧ _ from by rw [List.take_zero, List.append_nil, Nat.sub_zero]; exact HO4.out)
      go_loopw [35] (fun i wx => ∃ j : Nat, j ≤ 4 ∧ i = .int .i64 j ∧ Hid (Ow wx (fun k => k = w.heap.size) 5 1 (.slice (some ⟨w.heap.size, 0, none⟩) N N) N ((M ++ (le4 C).take j ++ List.replicate (4 - j) (0 : UInt8)).map enc8) ∧ Fr No w wx)) (fun i _ => 4 - (intOf i).toNat)
      case atStart => exact ⟨0, Nat.zero_le _, rfl, HS0⟩
      case round =>
        obtain ⟨j, hj, rfl, HX⟩ := hrel
        by_cases hj4 : (j : Int) < 4
        · obtain ⟨B, hB⟩ : ∃ B, Hid (B = byteOf ((C : Int) / 2 ^ (8 * j))) := ⟨_, rfl⟩
          obtain ⟨z, hz⟩ : ∃ z : Int, Hid (z = IntKind.u8.wrap ((C : Int) / 2 ^ (8 * j))) := ⟨_, rfl⟩
          have henc : Hid (enc8 B = .int .u8 z) := (show _ = _ from by rw [hB.out, hz.out]; exact byteOf_enc _)
          obtain ⟨g, c7, cur, he3, hg, hblk7, _, _, hcs7, _⟩ := HX.out.1.form (by omega)
          cases he3
          have hcur : b.length + 4 + j < cur.size := by omega
          obtain ⟨old, g1⟩ : ∃ old, wr.cell? ⟨w.heap.size, b.length + 4 + j, none⟩ = some old := ⟨cur[b.length + 4 + j], by rw [blk_cell hblk7, Array.getElem?_eq_getElem hcur]⟩
          have g2 : wr.frozen? ⟨w.heap.size, b.length + 4 + j, none⟩ = false := blk_free hblk7 _
          have hjN : (b.length : Int) + 4 + (j : Int) < (N : Int) := by omega
          have HX2 : Hid (Ow (wr.setCell ⟨w.heap.size, b.length + 4 + j, none⟩ (.int .u8 z)) (fun k => k = w.heap.size) 5 1 (.slice (some ⟨w.heap.size, 0, none⟩) N N) N ((M ++ (le4 C).take (j + 1) ++ List.replicate (4 - (j + 1)) (0 : UInt8)).map enc8) ∧ Fr No w (wr.setCell ⟨w.heap.size, b.length + 4 + j, none⟩ (.int .u8 z))) := by
            refine (show _ ∧ _ from ⟨?_, HX.out.2.setCell _ _ (fun h => by simp at h)⟩)
            have h1 := HX.out.1.set (b.length + 4 + j) (.int .u8 z)
            rw [← henc.out, ← List.map_set, show 4 - j = (4 - (j + 1)) + 1 from by omega, List.replicate_succ, set_app (b.length + 4 + j) (by rw [List.length_append, List.length_take, le4_len, hMl.out]; omega)] at h1
            rw [le4_step _ (by omega), ← hB.out, ← List.append_assoc, List.append_assoc _ [B], ← henc.out]
            exact h1
          clear hblk7 hcs7
          go_wp2_with (with_reducible refine halt_dst 48 rfl ?_)
          refine wpListG_run (by rfl) (v := .int .u8 z) (w' := wr) ?hr ?_
          case hr => go_simp; (try rw [hz.out])
          go_wp2_with fail
          go_roundw
          case rel => exact ⟨j + 1, by omega, by go_num, HX2⟩
          case measure => simp [intOf]; omega
        · have hj5 : j = 4 := by omega
          subst hj5
          clear hj4
          go_wp2_with fail
          go_ret
          have h1 := HX.out.1
          rw [List.take_of_length_le (by rw [le4_len]; omega), Nat.sub_self, List.replicate_zero, List.append_nil] at h1
          have hs : sealB b = M ++ le4 C := by rw [sealB, hC.out, hM.out]
          refine (show TellsB _ _ _ _ from ⟨_, rfl, ?_, HX.out.2⟩)
          rw [sealB_len, ← HN.out, hs]
          exact h1.mono (fun k hk => Nat.le_of_eq hk.symm)
end Go.Proofs.Ytbaohngnpgappaa
