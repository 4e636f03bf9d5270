/- The document's write: an item's bytes. -/
import Derived.Test.YtbaohngnpgappaaW23
import Derived.Test.YtbaohngnpgappaaW9
set_option linter.unusedVariables false
set_option linter.unusedSimpArgs false
namespace Go.Proofs.Ytbaohngnpgappaa
open Go.RowKit
theorem grow_lit {w1 w2 : World} {l : List UInt8} {cs : Array Value} (hw : w2 = w1.alloc (.cells cs 5 (0, 0))) (hcs : cs.toList = l.map enc8) (hl : l.length ≤ maxLen) : Grow w1 (.slice none 0 0) (.slice (some ⟨w1.heap.size, 0, none⟩) l.length l.length) l w2 := by
  subst hw
  exact ⟨(ow_lit (blk_new _ _) hcs hl).mono (fun k hk => .inr (Nat.le_of_eq hk.symm)), ((Fr.refl No w1).alloc _).mono (fun _ _ h => h.elim)⟩
theorem shr_byte (n : Int) (i : Nat) (hi : i ≤ 7) : IntKind.u8.wrap (IntKind.u64.wrap n / 2 ^ (8 * i)) = IntKind.u8.wrap (n / 2 ^ (8 * i)) := by
  rw [IntKind.wrap_u8, IntKind.wrap_u8, IntKind.wrap_u64]
  rcases i with _ | _ | _ | _ | _ | _ | _ | _ | i
  · first | (simp; omega) | simp
  · first | (simp; omega) | simp
  · first | (simp; omega) | simp
  · first | (simp; omega) | simp
  · first | (simp; omega) | simp
  · first | (simp; omega) | simp
  · first | (simp; omega) | simp
  · first | (simp; omega) | simp
  · omega
set_option maxRecDepth 100000 in
set_option maxHeartbeats 4000000 in
theorem refwrite_any : ∀ (x : It) (w : World) (F : Nat → Prop) (vv : Value), ItV w F vv x → x.size ≤ 1048576 → x.ok = true → x.enc.length ≤ 70368744177664 → Calls Try.prog 76 #[vv] w (TellsB w x.enc) := by
  refine It.ind fun k n s l ih w F vv hv hsz hok hlen => ?_
  obtain ⟨cs, rfl, hr⟩ := hv
  obtain ⟨vl, rfl, hrow, hfit⟩ := itR_row hr
  obtain ⟨A, c, rfl, hc1, hc2⟩ := hrow.shape
  have hl2 : (l.length : Int) ≤ 1048576 := by
    rw [It.size] at hsz
    have hll := It.sizes_len l
    omega
  obtain ⟨w1, hw1⟩ : ∃ w1, Hid (w1 = w.alloc (.cells #[.int .i64 k, .int .i64 n, .string ⟨s.toArray⟩, .slice A l.length c] 48 (0, 0))) := ⟨_, show _ = _ from rfl⟩
  have hf1 : Fr No w w1 := by rw [hw1.out]; exact (Fr.refl _ _).alloc _
  have hs1 : w1.heap.size = w.heap.size + 1 := by rw [hw1.out]; simp
  have hblk : w1.heap[w.heap.size]? = some (.cells #[.int .i64 k, .int .i64 n, .string ⟨s.toArray⟩, .slice A l.length c] 48 (0, 0)) := by rw [hw1.out]; exact blk_new _ _
  have hbox : Hid (∀ {v' : Value} {L : List UInt8} {wr : World}, Grow w1 (.slice none 0 0) v' L wr → wr.heap[w.heap.size]? = some (.cells #[.int .i64 k, .int .i64 n, .string ⟨s.toArray⟩, .slice A l.length c] 48 (0, 0))) := (show ∀ {v' : Value} {L : List UInt8} {wr : World}, Grow w1 (.slice none 0 0) v' L wr → wr.heap[w.heap.size]? = some (.cells #[.int .i64 k, .int .i64 n, .string ⟨s.toArray⟩, .slice A l.length c] 48 (0, 0)) from fun hg => hg.fr.heap hblk (fun h => by simp [Value.ownBlock] at h))
  have HR : Hid (Row ItK w F (.slice A l.length c) l) := (show Row _ _ _ _ _ from hrow)
  have HF1 := Lib.hid hf1
  have HS1 := Lib.hid hs1
  have IH := Lib.hid ih
  have HOK : Hid (headOk k n s l = true ∧ It.oks l = true) := (show _ ∧ _ from by rw [It.ok, Bool.and_eq_true] at hok; exact hok)
  have HSZ : Hid (It.sizes l ≤ 1048575) := (show It.sizes l ≤ 1048575 from by rw [It.size] at hsz; omega)
  obtain ⟨E, hE⟩ : ∃ E, Hid (E = (It.mk k n s l).enc) := ⟨_, show _ = _ from rfl⟩
  rw [← hE.out] at hlen ⊢
  have c0 := blk_cell hblk 0
  simp only [List.getElem?_toArray, List.getElem?_cons_zero] at c0
  unfold str at *
  have hkk : k = 1 ∨ k = 2 ∨ k = 3 := by have h1 := HOK.out.1; unfold headOk at h1; simp at h1; omega
  clear hr hrow hc2 hsz hok ih hfit hf1 hblk hs1
  rcases hkk with rfl | rfl | rfl
  · have hE1 : Hid (E = byteOf 1 :: num8 n) := (show _ = _ from by rw [hE.out, It.enc, if_pos rfl])
    go_enter Try.func76, Try.ntmps76
    go_wp2_with (with_reducible refine halt_dst 10 rfl ?_)
    rw [← hw1.out]
    obtain ⟨w2, hw2⟩ : ∃ w2, Hid (w2 = w1.alloc (.cells #[.int .u8 1] 5 (0, 0))) := ⟨_, show _ = _ from rfl⟩
    refine wpListG_run (by rfl) (v := .slice (some ⟨w1.heap.size, 0, none⟩) 1 1) (w' := w2) ?hr ?_
    case hr => go_simp; rw [hw2.out]
    have HA1 : Hid (Grow w1 (.slice none 0 0) (.slice (some ⟨w1.heap.size, 0, none⟩) 1 1) [byteOf 1] w2) := (show Grow _ _ _ _ _ from grow_lit (l := [byteOf 1]) hw2.out rfl (by decide))
    have hb1 := hbox.out HA1.out
    have d0 := blk_cell hb1 0
    simp only [List.getElem?_toArray, List.getElem?_cons_zero, List.getElem?_cons_succ] at d0
    have HB1 := Lib.hid hb1
    clear hb1 c0
    go_wp2_with fail
    go_loopw [3, 4] (fun vv i wr => ∃ (z : Int) (m : Nat), -1 ≤ z ∧ z ≤ 7 ∧ i = .int .i64 z ∧ Hid ((m : Int) = 7 - z) ∧ Hid (Grow w1 (.slice none 0 0) vv ([byteOf 1] ++ (num8 n).take m) wr)) (fun _ i _ => (intOf i + 1).toNat)
    case atStart => exact ⟨7, 0, by omega, by omega, rfl, (show _ = _ from rfl), (show Grow _ _ _ _ _ from by rw [List.take_zero, List.append_nil]; exact HA1.out)⟩
    case round =>
      obtain ⟨z0, m, hz0, hz7, rfl, hm, HJ⟩ := hrel
      by_cases hj8 : 0 ≤ z0
      · obtain ⟨i, rfl⟩ : ∃ i : Nat, z0 = i := ⟨z0.toNat, by omega⟩
        have hi7 : i ≤ 7 := by omega
        have hmi : Hid (m = 7 - i) := (show _ = _ from by have := hm.out; omega)
        have hb2 := hbox.out HJ.out
        have d1 := blk_cell hb2 1
        simp only [List.getElem?_toArray, List.getElem?_cons_zero, List.getElem?_cons_succ] at d1
        obtain ⟨L, hL⟩ : ∃ L, Hid (L = [byteOf 1] ++ (num8 n).take m) := ⟨_, show _ = _ from rfl⟩
        have hLl : L.length ≤ 70368744177700 := by rw [hL.out]; simp [num8_len]; omega
        rw [← hL.out] at HJ
        obtain ⟨B, hB⟩ : ∃ B, Hid (B = byteOf (n / 2 ^ (8 * i))) := ⟨_, show _ = _ from rfl⟩
        obtain ⟨z, hz⟩ : ∃ z : Int, Hid (z = IntKind.u8.wrap (n / 2 ^ (8 * i))) := ⟨_, show _ = _ from rfl⟩
        have henc : Hid (enc8 B = .int .u8 z) := (show _ = _ from by rw [hB.out, hz.out]; exact byteOf_enc _)
        obtain ⟨U, hU⟩ : ∃ U : Int, Hid (U = IntKind.u64.wrap n) := ⟨_, show _ = _ from rfl⟩
        have hU0 : 0 ≤ U := by rw [hU.out, IntKind.wrap_u64]; omega
        have hU1 : U < 18446744073709551616 := by rw [hU.out, IntKind.wrap_u64]; omega
        have hzz : Hid (IntKind.u8.wrap (U / 2 ^ (8 * i)) = z) := (show _ = _ from by rw [hU.out, hz.out]; exact shr_byte n i hi7)
        obtain ⟨e8, he8⟩ : ∃ e8 : Nat, e8 = 8 * i := ⟨_, rfl⟩
        have he64 : e8 < 64 := by omega
        have HE8 : Hid ((8 : Int) * (i : Int) = (e8 : Int)) := (show _ = _ from by omega)
        rw [← he8] at hzz
        clear hb2 d0 he8
        go_wp2_with (with_reducible refine halt_dst 40 rfl ?_)
        refine wpListG_run (by rfl) (v := .int .u64 U) (w' := wr) ?hr ?_
        case hr => go_simp; (try rw [hU.out])
        go_wp2_with (with_reducible refine halt_dst 42 rfl ?_)
        refine wpListG_run (by rfl) (v := .int .i64 (e8 : Int)) (w' := wr) ?hr ?_
        case hr => go_simp; rw [HE8.out, IntKind.wrap_i64]; omega
        go_wp2_with (with_reducible refine halt_dst 45 rfl ?_)
        refine wpListG_run (by rfl) (v := .int .u8 z) (w' := wr) ?hr ?_
        case hr => go_simp; (try rw [hzz.out])
        go_wp2_with (with_reducible refine halt_dst 47 rfl ?_)
        have hgq : Grow w1 (.slice none 0 0) u3 L (wr.alloc (.cells #[.int .u8 z] 5 (0, 0))) := HJ.out.quiet ((Fr.refl No wr).alloc (.cells #[.int .u8 z] 5 (0, 0)))
        refine wpList_app rfl (.tmp 37) (.tmp 46) 22 5 rfl _ 1 1 Try.underlying22 info5 rfl (by omega) (by omega) _ L.length (L.map enc8) rfl (some ⟨wr.heap.size, 0, none⟩) 1 1 rfl hgq.own [enc8 B] rfl ?hnews (one8 [B]) (by omega) ?_
        case hnews =>
          intro j u hj
          refine ⟨_, rfl, ?_⟩
          rw [add_none, Nat.zero_add, blk_cell (blk_new wr _), List.getElem?_toArray]
          rw [henc.out] at hj
          exact hj
        intro va2 wa2 hown hfr
        have HJ2 : Hid (Grow w1 (.slice none 0 0) va2 ([byteOf 1] ++ (num8 n).take (m + 1)) wa2) := (show Grow _ _ _ _ _ from by
          rw [num8_step n (by have := hmi.out; omega), ← List.append_assoc, ← hL.out, show 56 - 8 * m = 8 * i from by have := hmi.out; omega, ← hB.out]
          exact hgq.app hown hfr rfl)
        have hm2 : Hid (((m + 1 : Nat) : Int) = 7 - ((i : Int) - 1)) := (show _ = _ from by have := hm.out; omega)
        clear hown hfr d1 hgq
        go_wp2_with fail
        go_roundw
        case rel => exact ⟨(i : Int) - 1, m + 1, by omega, by omega, by go_num, hm2, HJ2⟩
        case measure => first | (simp [intOf]; omega) | simp [intOf]
      · have hz1 : z0 = -1 := by omega
        subst hz1
        have hm8 : Hid (m = 8) := (show _ = _ from by have := hm.out; omega)
        clear hj8
        go_wp2_with fail
        go_ret
        have hend := tells_of_grow HJ.out HF1.out
        rw [hm8.out, List.take_of_length_le (by rw [num8_len]; omega)] at hend
        rw [hE1.out]
        exact hend
  · have hE2 : Hid (E = byteOf 2 :: (countB s.length ++ s)) := (show _ = _ from by rw [hE.out, It.enc, if_neg (by decide), if_pos rfl])
    have hElen : E.length = 1 + (countB s.length).length + s.length := by rw [hE2.out]; simp; omega
    go_enter Try.func76, Try.ntmps76
    go_wp2_with (with_reducible refine halt_dst 10 rfl ?_)
    rw [← hw1.out]
    obtain ⟨w2, hw2⟩ : ∃ w2, Hid (w2 = w1.alloc (.cells #[.int .u8 2] 5 (0, 0))) := ⟨_, show _ = _ from rfl⟩
    refine wpListG_run (by rfl) (v := .slice (some ⟨w1.heap.size, 0, none⟩) 1 1) (w' := w2) ?hr ?_
    case hr => go_simp; rw [hw2.out]
    have HA1 : Hid (Grow w1 (.slice none 0 0) (.slice (some ⟨w1.heap.size, 0, none⟩) 1 1) [byteOf 2] w2) := (show Grow _ _ _ _ _ from grow_lit (l := [byteOf 2]) hw2.out rfl (by decide))
    have hb1 := hbox.out HA1.out
    have d0 := blk_cell hb1 0
    have d2 := blk_cell hb1 2
    simp only [List.getElem?_toArray, List.getElem?_cons_zero, List.getElem?_cons_succ] at d0 d2
    have HB1 := Lib.hid hb1
    clear hb1 c0
    go_wp2_with fail
    have HS : Hid (w2.drew.cell? ⟨w.heap.size, 2, none⟩ = some (.string ⟨s.toArray⟩)) := (show _ = _ from d2)
    refine wp_seq_region (fun W => W.cell? ⟨w.heap.size, 2, none⟩ = some (.string ⟨s.toArray⟩)) [4, 5, 8] [2, 7] [] [0, 1, 2, 3, 6, 7, 4, 5, 8, 9] (by kernel_rfl) (by kernel_rfl) rfl (by kernel_rfl) (fun _ _ _ _ _ h => h) ?_
    repeat (first
      | (refine sq_off (a' := ?_) rfl rfl (by rfl) (fun _ => (HS).out) ?ha ?_; (case ha => simp only [Act.put, List.setIfInBounds_toArray, List.set_cons_zero, List.set_cons_succ]; rfl))
      | (refine sq_any (v := ?_) (a' := ?_) rfl rfl rfl (by rfl) (fun W => ?hr) ?ha ?_; (case hr => go_simp; first | done | rfl); (case ha => simp only [Act.put, List.setIfInBounds_toArray, List.set_cons_zero, List.set_cons_succ]; rfl))
      | (refine sq_load (v := ?_) (a' := ?_) rfl rfl rfl (by rfl) (fun W hSW => ?hr) (HS).out ?ha ?_; (case hr => (try dsimp only at hSW); go_simp; first | done | rfl); (case ha => simp only [Act.put, List.setIfInBounds_toArray, List.set_cons_zero, List.set_cons_succ]; rfl)))
    refine sq_call rfl rfl (by rfl) rfl Try.func100 rfl rfl [.int .i64 s.length] rfl ?_
    have HAD : Hid (Grow w1 (.slice none 0 0) (.slice (some ⟨w1.heap.size, 0, none⟩) 1 1) [byteOf 2] w2.drew) := (show Grow _ _ _ _ _ from HA1.out.quiet ((Fr.refl No _).drew))
    refine (refcount_any s.length w2.drew (by omega)).mono ?_
    rintro e w3 ⟨v3, rfl, hown3, hf3⟩
    have hg3 : Grow w1 (.slice none 0 0) (.slice (some ⟨w1.heap.size, 0, none⟩) 1 1) [byteOf 2] w3 := HAD.out.quiet hf3
    have HG3 := Lib.hid hg3
    have hb3 := hbox.out hg3
    have f3 := blk_cell hb3 2
    simp only [List.getElem?_toArray, List.getElem?_cons_zero, List.getElem?_cons_succ] at f3
    obtain ⟨A3, c3, rfl, hc31, hc32⟩ := hown3.shape
    obtain ⟨_, _, he, _, _, hnews⟩ := hown3.reads.news
    cases he
    have HNW := Lib.hid hnews
    refine ⟨_, rfl, fun _ => f3, ?_⟩
    simp only [Act.put, List.setIfInBounds_toArray, List.set_cons_zero, List.set_cons_succ]
    refine sq_app rfl rfl (by rfl) (.tmp 50) (.tmp 54) 22 5 rfl _ 1 1 Try.underlying22 info5 rfl (by omega) (by omega) _ 1 ([byteOf 2].map enc8) rfl A3 (countB s.length).length c3 rfl HG3.out.own ((countB s.length).map enc8) (by rw [List.length_map, Nat.mul_one]) HNW.out (one8 _) (by omega) ?_
    intro v4 w4 hown4 hfr4
    have hg4 := HG3.out.app (news := countB s.length) hown4 hfr4 rfl
    have HG4 := Lib.hid hg4
    have hb4 := hbox.out hg4
    have f4 := blk_cell hb4 2
    simp only [List.getElem?_toArray, List.getElem?_cons_zero, List.getElem?_cons_succ] at f4
    clear hown4 hfr4 hg4 hb4 hb3 hg3 hnews hown3 hf3
    refine ⟨fun _ => f4, ?_⟩
    simp only [Act.put, List.setIfInBounds_toArray, List.set_cons_zero, List.set_cons_succ]
    refine sq_apps rfl rfl (by rfl) (.tmp 55) (.tmp 57) 22 9 5 rfl Try.underlying22 Try.underlying9 info5 v4 ([byteOf 2] ++ countB s.length).length (([byteOf 2] ++ countB s.length).map enc8) rfl ⟨s.toArray⟩ rfl HG4.out.own (by
      show _ + s.toArray.size ≤ _
      rw [List.size_toArray, List.length_append]
      simp only [List.length_singleton]
      omega) ?_
    intro v5 w5 hown5 hfr5
    rw [strCells_is] at hown5
    have hg5 := HG4.out.app hown5 hfr5 (show s.toArray.size = s.length from List.size_toArray)
    have HG5 := Lib.hid hg5
    have hb5 := hbox.out hg5
    have f5 := blk_cell hb5 2
    simp only [List.getElem?_toArray, List.getElem?_cons_zero, List.getElem?_cons_succ] at f5
    clear hown5 hfr5 hg5 hb5
    refine ⟨fun _ => f5, ?_⟩
    simp only [Act.put, List.setIfInBounds_toArray, List.set_cons_zero, List.set_cons_succ]
    repeat (first
      | (refine sq_off (a' := ?_) rfl rfl (by rfl) (fun _ => (HS).out) ?ha ?_; (case ha => simp only [Act.put, List.setIfInBounds_toArray, List.set_cons_zero, List.set_cons_succ]; rfl))
      | (refine sq_any (v := ?_) (a' := ?_) rfl rfl rfl (by rfl) (fun W => ?hr) ?ha ?_; (case hr => go_simp; first | done | rfl); (case ha => simp only [Act.put, List.setIfInBounds_toArray, List.set_cons_zero, List.set_cons_succ]; rfl))
      | (refine sq_load (v := ?_) (a' := ?_) rfl rfl rfl (by rfl) (fun W hSW => ?hr) (HS).out ?ha ?_; (case hr => (try dsimp only at hSW); go_simp; first | done | rfl); (case ha => simp only [Act.put, List.setIfInBounds_toArray, List.set_cons_zero, List.set_cons_succ]; rfl)))
    refine sq_done ?_
    clear d0 d2 f3 f4 f5
    go_wp2_with fail
    go_ret
    have hend := tells_of_grow HG5.out HF1.out
    rw [hE2.out]
    rw [show [byteOf 2] ++ countB s.length ++ s = byteOf 2 :: (countB s.length ++ s) from by simp] at hend
    exact hend
  · have hE3 : Hid (E = byteOf 3 :: (countB l.length ++ It.encs l)) := (show _ = _ from by rw [hE.out, It.enc, if_neg (by decide), if_neg (by decide)])
    have hElen : E.length = 1 + (countB l.length).length + (It.encs l).length := by rw [hE3.out]; simp; omega
    have HRB : Hid (Row ItK w (fun k => F k ∧ k < w.heap.size) (.slice A l.length c) l) := (show Row _ _ _ _ _ from HR.out.bound (by decide))
    go_enter Try.func76, Try.ntmps76
    go_wp2_with (with_reducible refine halt_dst 10 rfl ?_)
    rw [← hw1.out]
    obtain ⟨w2, hw2⟩ : ∃ w2, Hid (w2 = w1.alloc (.cells #[.int .u8 3] 5 (0, 0))) := ⟨_, show _ = _ from rfl⟩
    refine wpListG_run (by rfl) (v := .slice (some ⟨w1.heap.size, 0, none⟩) 1 1) (w' := w2) ?hr ?_
    case hr => go_simp; rw [hw2.out]
    have HA1 : Hid (Grow w1 (.slice none 0 0) (.slice (some ⟨w1.heap.size, 0, none⟩) 1 1) [byteOf 3] w2) := (show Grow _ _ _ _ _ from grow_lit (l := [byteOf 3]) hw2.out rfl (by decide))
    have hb1 := hbox.out HA1.out
    have d0 := blk_cell hb1 0
    have d3 := blk_cell hb1 3
    simp only [List.getElem?_toArray, List.getElem?_cons_zero, List.getElem?_cons_succ] at d0 d3
    have HB1 := Lib.hid hb1
    clear hb1 c0
    go_wp2_with fail
    refine (refcount_any l.length w2 (by omega)).mono ?_
    rintro e w3 ⟨v3, rfl, hown3, hf3⟩
    have hg3 : Grow w1 (.slice none 0 0) (.slice (some ⟨w1.heap.size, 0, none⟩) 1 1) [byteOf 3] w3 := HA1.out.quiet hf3
    have HG3 := Lib.hid hg3
    obtain ⟨A3, c3, rfl, hc31, hc32⟩ := hown3.shape
    obtain ⟨_, _, he, _, _, hnews⟩ := hown3.reads.news
    cases he
    have HNW := Lib.hid hnews
    clear hg3 hnews hown3 hf3 d0 d3
    go_wp2_with (with_reducible refine halt_dst 18 rfl ?_)
    refine wpList_app rfl (.tmp 13) (.tmp 17) 22 5 rfl _ 1 1 Try.underlying22 info5 rfl (by omega) (by omega) _ 1 ([byteOf 3].map enc8) rfl A3 (countB l.length).length c3 rfl HG3.out.own ((countB l.length).map enc8) (by rw [List.length_map, Nat.mul_one]) HNW.out (one8 _) (by omega) ?_
    intro v4 w4 hown4 hfr4
    have hg4 := HG3.out.app (news := countB l.length) hown4 hfr4 rfl
    have HG4 := Lib.hid hg4
    have hb4 := hbox.out hg4
    have f4 := blk_cell hb4 3
    simp only [List.getElem?_toArray, List.getElem?_cons_zero, List.getElem?_cons_succ] at f4
    clear hown4 hfr4 hg4 hb4
    go_wp2_with fail
    go_loopw [3, 22] (fun vv i wr => ∃ (j : Nat), j ≤ l.length ∧ i = .int .i64 j ∧ Hid (Grow w1 (.slice none 0 0) vv ([byteOf 3] ++ countB l.length ++ It.encs (l.take j)) wr)) (fun _ i _ => l.length - (intOf i).toNat)
    case atStart => exact ⟨0, Nat.zero_le _, rfl, (show Grow _ _ _ _ _ from by rw [List.take_zero, It.encs, List.append_nil]; exact HG4.out)⟩
    case round =>
      obtain ⟨j, hj, rfl, HJ⟩ := hrel
      by_cases hlt : j < l.length
      · obtain ⟨b1, o1, _, cs, he, _, _, _, hrx, hcell⟩ := ((HRB.out.fr (by decide) HF1.out (fun _ _ _ h => h)).fr (by decide) HJ.out.fr (fun k _ hk h => by simp [Value.ownBlock] at h)).at_ j hlt
        cases he
        obtain ⟨x, hx⟩ : ∃ x, x = l[j] := ⟨_, rfl⟩
        have HXJ : Hid (l[j]? = some x) := (show _ = _ from by rw [hx]; exact List.getElem?_eq_getElem hlt)
        have hmem : Hid (x ∈ l) := (show x ∈ l from by rw [hx]; exact List.getElem_mem hlt)
        have hsplit : Hid (It.encs l = It.encs (l.take j) ++ x.enc ++ It.encs (l.drop (j + 1))) := (show _ = _ from by
          have h1 : l = l.take j ++ x :: l.drop (j + 1) := by rw [hx, ← List.drop_eq_getElem_cons hlt, List.take_append_drop]
          rw [congrArg It.encs h1, It.encs_app, It.encs, List.append_assoc])
        rw [← hx] at hrx
        have hsx := It.sizes_mem hmem.out
        obtain ⟨xk, xn, xs, xl⟩ := x
        obtain ⟨vl, rfl, hrow, hfit⟩ := itR_row hrx
        obtain ⟨A2, c2, rfl, _, _⟩ := hrow.shape
        have c0 := hcell 0 _ rfl
        have c1 := hcell 1 _ rfl
        have c2' := hcell 2 _ rfl
        have c3' := hcell 3 _ rfl
        simp only [show ItK.sz = 4 from rfl, Nat.add_zero, str] at c0 c1 c2' c3'
        have HRX := Lib.hid hrx
        have hxs : Hid ((It.mk xk xn xs xl).size ≤ 1048576) := (show _ ≤ _ from by have := HSZ.out; omega)
        obtain ⟨L, hL⟩ : ∃ L, Hid (L = [byteOf 3] ++ countB l.length ++ It.encs (l.take j)) := ⟨_, show _ = _ from rfl⟩
        obtain ⟨X, hX⟩ : ∃ X, Hid (X = (It.mk xk xn xs xl).enc) := ⟨_, show _ = _ from rfl⟩
        have hLl : Hid (L.length + X.length ≤ 70368744177664) := (show _ ≤ _ from by
          have h1 := congrArg List.length hsplit.out
          rw [List.length_append, List.length_append, ← hX.out] at h1
          rw [hL.out, List.length_append, List.length_append, List.length_singleton]
          omega)
        rw [← hL.out] at HJ
        clear hcell hrow hfit hrx hx hsx
        go_wp2_with fail
        obtain ⟨wB, hwB⟩ : ∃ wB, Hid (wB = wr.alloc (.cells #[.int .i64 xk, .int .i64 xn, .string ⟨xs.toArray⟩, .slice A2 xl.length c2] 48 (0, 0))) := ⟨_, show _ = _ from rfl⟩
        rw [← hwB.out]
        have hfB : Fr No wr wB := by rw [hwB.out]; exact (Fr.refl _ _).alloc _
        have HJB : Hid (Grow w1 (.slice none 0 0) u3 L wB) := (show Grow _ _ _ _ _ from HJ.out.quiet hfB)
        refine (IH.out _ hmem.out wB (fun k => F k ∧ k < w.heap.size) _ ⟨[.int .i64 xk, .int .i64 xn, .string ⟨xs.toArray⟩, .slice A2 xl.length c2], rfl, itR_move (w := wr) (w' := wB) (fun k _ hl => hfB.block k hl (fun h => h)) _ _ HRX.out⟩ hxs.out (It.oks_mem HOK.out.2 hmem.out) (by rw [← hX.out]; have := hLl.out; omega)).mono ?_
        rw [← hX.out]
        rintro e w5 ⟨v5, rfl, hown5, hf5⟩
        have hg5 : Grow w1 (.slice none 0 0) u3 L w5 := HJB.out.quiet hf5
        have HG5 := Lib.hid hg5
        obtain ⟨A5, c5, rfl, _, _⟩ := hown5.shape
        obtain ⟨_, _, he, _, _, hnews⟩ := hown5.reads.news
        cases he
        have HN5 := Lib.hid hnews
        clear hg5 hnews hown5 hf5 hfB c0 c1 c2' c3'
        go_wp2_with (with_reducible refine halt_dst 29 rfl ?_)
        refine wpList_app rfl (.tmp 26) (.tmp 28) 22 5 rfl _ 1 1 Try.underlying22 info5 rfl (by omega) (by omega) _ L.length (L.map enc8) rfl A5 X.length c5 rfl HG5.out.own (X.map enc8) (by rw [List.length_map, Nat.mul_one]) HN5.out (one8 _) (by have := hLl.out; omega) ?_
        intro v6 w6 hown6 hfr6
        have HJ2 : Hid (Grow w1 (.slice none 0 0) v6 ([byteOf 3] ++ countB l.length ++ It.encs (l.take (j + 1))) w6) := (show Grow _ _ _ _ _ from by
          rw [List.take_add_one, HXJ.out, It.encs_app, ← List.append_assoc, ← hL.out]
          simp only [Option.toList, It.encs, List.append_nil]
          rw [← hX.out]
          exact HG5.out.app hown6 hfr6 rfl)
        clear hown6 hfr6
        go_wp2_with fail
        go_roundw
        case rel => exact ⟨j + 1, by omega, by go_num, HJ2⟩
        case measure => simp [intOf]; omega
      · have hjl : j = l.length := by omega
        subst hjl
        clear hlt
        go_wp2_with fail
        go_ret
        have hend := tells_of_grow HJ.out HF1.out
        rw [List.take_length] at hend
        rw [hE3.out]
        rw [show [byteOf 3] ++ countB l.length ++ It.encs l = byteOf 3 :: (countB l.length ++ It.encs l) from by simp] at hend
        exact hend
end Go.Proofs.Ytbaohngnpgappaa
