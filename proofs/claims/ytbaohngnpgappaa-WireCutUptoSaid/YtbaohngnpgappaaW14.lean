/- The wire statements' live: its walk. -/
import Derived.Test.YtbaohngnpgappaaW13
import Derived.Lib.UnsafeStr
set_option linter.unusedVariables false
set_option linter.unusedSimpArgs false
namespace Go.Proofs.Ytbaohngnpgappaa
open Go.RowKit
theorem blk_freeze {w : World} {a : Addr} {n : Nat} {cs : Array Value} {t : TypeId} {fr : Nat × Nat} (h : w.heap[a.block]? = some (.cells cs t fr)) : ∃ fz, (w.freeze a n).heap[a.block]? = some (.cells cs t fz) := by
  unfold World.freeze
  split
  · exact ⟨_, h⟩
  · simp [Array.getElem?_modify, h]
theorem nine_rb {w : World} {b : Nat} {fz : Nat × Nat} (h : w.heap[b]? = some (.cells #[.int .u8 49, .int .u8 50, .int .u8 51, .int .u8 52, .int .u8 53, .int .u8 54, .int .u8 55, .int .u8 56, .int .u8 57] 5 fz)) : Rb w (fun k => k = b) (.slice (some ⟨b, 0, none⟩) 9 9) [49, 50, 51, 52, 53, 54, 55, 56, 57] := by
  refine ⟨_, 9, rfl, Nat.le_refl _, by decide, fun j x hj => ⟨b, 0, rfl, rfl, ?_⟩⟩
  rw [blk_cell h, Nat.zero_add]
  rcases j with _ | _ | _ | _ | _ | _ | _ | _ | _ | j <;> simp at hj <;> subst hj <;> rfl
set_option maxRecDepth 100000 in
set_option maxHeartbeats 2000000 in
theorem wlive_any (w : World) : Calls Try.prog 33 #[] w (Told (.bool true) w) := by
  go_enter Try.func33, Try.ntmps33
  go_wp2_with fail
  refine (num1_any 1 _).mono ?_
  rintro e w1 ⟨rfl, hf1⟩
  have HF1 := Lib.hid hf1
  clear hf1
  go_wp2_with fail
  have hi1 : ItV w1 No (.agg #[.int .i64 1, .int .i64 1, .string ⟨#[]⟩, .slice none 0 0]) (.mk 1 1 [] []) := ⟨_, rfl, itR_of_row (s := []) (Row.nil _ _ _ _ _ (Nat.zero_le _)) ⟨by unfold I64; omega, by unfold I64; omega, Nat.zero_le _⟩⟩
  refine (encode_any hi1 (by decide +kernel) (fun _ => ⟨by simp [It.texts, It.textss], by decide +kernel⟩)).mono ?_
  rw [enc_one.1, enc_one.2]
  rintro e w2 ⟨v2, rfl, hown2, hf2⟩
  obtain ⟨A2, c2, rfl, _, _⟩ := hown2.shape
  have HF2 := Lib.hid (HF1.out.then hf2)
  have HO2 := Lib.hid hown2.bound
  clear hown2 hf2 hi1
  go_wp2_with fail
  refine (text1_any [97, 98] _).mono ?_
  rintro e w3 ⟨rfl, hf3⟩
  have HF3 := Lib.hid hf3
  clear hf3
  go_wp2_with fail
  refine (list1_any none 0 0 _).mono ?_
  rintro e w4 ⟨rfl, hf4⟩
  have HF4 := Lib.hid (HF3.out.then hf4)
  clear hf4
  go_wp2_with fail
  obtain ⟨w5, hw5⟩ : ∃ w5, Hid (w5 = w4.alloc (.cells #[.int .i64 2, .int .i64 0, .string ⟨#[97, 98]⟩, .slice none 0 0, .int .i64 3, .int .i64 0, .string ⟨#[]⟩, .slice none 0 0] 48 (0, 0))) := ⟨_, rfl⟩
  rw [← hw5.out]
  have hf5 : Fr No w4 w5 := by rw [hw5.out]; exact (Fr.refl _ _).alloc _
  have hb5 : w5.heap[w4.heap.size]? = some (.cells #[.int .i64 2, .int .i64 0, .string ⟨#[97, 98]⟩, .slice none 0 0, .int .i64 3, .int .i64 0, .string ⟨#[]⟩, .slice none 0 0] 48 (0, 0)) := by rw [hw5.out]; exact blk_new _ _
  have HF5 := Lib.hid (HF4.out.then hf5)
  have HB5 := Lib.hid hb5
  clear hf5 hb5
  refine (list1_any _ 2 2 _).mono ?_
  rintro e w6 ⟨rfl, hf6⟩
  have hrow : Row ItK w6 (fun k => k < w6.heap.size) (.slice (some ⟨w4.heap.size, 0, none⟩) 2 2) [.mk 2 0 [97, 98] [], .mk 3 0 [] []] := by
    have hb6 := hf6.heap HB5.out (fun h => h)
    refine ⟨_, 2, rfl, Nat.le_refl _, by decide, fun j x hj => ?_⟩
    rcases j with _ | _ | j
    · cases hj
      refine ⟨_, 0, _, rfl, heap_lt hb6, itR_of_row (s := [97, 98]) (Row.nil _ _ _ none 0 (Nat.zero_le _)) ⟨by unfold I64; omega, by unfold I64; omega, by decide⟩, fun i u hu => ?_⟩
      rw [blk_cell hb6]
      rcases i with _ | _ | _ | _ | i
      · exact hu
      · exact hu
      · exact hu
      · exact hu
      · simp at hu
    · cases hj
      refine ⟨_, 0, _, rfl, heap_lt hb6, itR_of_row (s := []) (Row.nil _ _ _ none 0 (Nat.zero_le _)) ⟨by unfold I64; omega, by unfold I64; omega, by decide⟩, fun i u hu => ?_⟩
      rw [blk_cell hb6]
      rcases i with _ | _ | _ | _ | i
      · exact hu
      · exact hu
      · exact hu
      · exact hu
      · simp at hu
    · simp at hj
  have hi2 : ItV w6 (fun k => k < w6.heap.size) (.agg #[.int .i64 3, .int .i64 0, .string ⟨#[]⟩, .slice (some ⟨w4.heap.size, 0, none⟩) 2 2]) (.mk 3 0 [] [.mk 2 0 [97, 98] [], .mk 3 0 [] []]) := ⟨_, rfl, itR_of_row (s := []) hrow ⟨by unfold I64; omega, by unfold I64; omega, Nat.zero_le _⟩⟩
  have HI2 := Lib.hid hi2
  have HF6 := Lib.hid hf6
  clear hf6 hrow hi2
  go_wp2_with fail
  refine (encode_any HI2.out (by decide +kernel) (fun _ => ⟨by simp [It.texts, It.textss], by decide +kernel⟩)).mono ?_
  rw [enc_two.1, enc_two.2]
  rintro e w7 ⟨v7, rfl, hown7, hf7⟩
  obtain ⟨A7, c7, rfl, _, _⟩ := hown7.shape
  have HF7 : Hid (Fr No w2 w7) := (show Fr No w2 w7 from (HF5.out.then HF6.out).then hf7)
  have HO7 := Lib.hid hown7
  clear hown7 hf7
  have hr2 : Rb w7 (fun k => New w1 k ∧ k < w2.heap.size) (.slice A2 9 c2) [1, 0, 0, 0, 0, 0, 0, 0, 1] := HO2.out.reads.fr HF7.out (fun _ _ _ h => h)
  go_wp2_with (with_reducible refine halt_dst 19 rfl ?_)
  refine wpListG_str (by rfl) rfl Try.underlying22 Try.underlying5 Try.underlying9 hr2 ?_
  go_wp2_with (with_reducible refine halt_dst 27 rfl ?_)
  refine wpListG_str (by rfl) rfl Try.underlying22 Try.underlying5 Try.underlying9 (l := [3, 2, 2, 2, 97, 98, 3, 0]) HO7.out.reads ?_
  go_wp2_with (with_reducible refine halt_dst 36 rfl ?_)
  obtain ⟨w8, hw8⟩ : ∃ w8, Hid (w8 = (w7.alloc (.cells #[.int .u8 49, .int .u8 50, .int .u8 51, .int .u8 52, .int .u8 53, .int .u8 54, .int .u8 55, .int .u8 56, .int .u8 57] 5 (0, 0))).freeze ⟨w7.heap.size, 9, none⟩ 1) := ⟨_, rfl⟩
  have hf8 : Fr No w7 w8 := by rw [hw8.out]; exact Fr.ofBelow (Go.Lib.below_freeze (((Fr.refl No w7).alloc _).toBelow (fun _ _ h => h)) (p := ⟨w7.heap.size, 9, none⟩) (Nat.le_refl _) 1)
  refine wpListG_run (by rfl) (v := .slice (some ⟨w7.heap.size, 0, none⟩) 9 9) (w' := w8) ?hr ?_
  case hr =>
    rw [hw8.out]
    unfold execOp
    simp [convert, run_underlying Try.underlying22, Act.eval, markStringish, shape, freeze, Sem.run]
    have hsh : (w7.alloc (.cells #[.int .u8 49, .int .u8 50, .int .u8 51, .int .u8 52, .int .u8 53, .int .u8 54, .int .u8 55, .int .u8 56, .int .u8 57] 5 (0, 0))).shape? w7.heap.size = some (5, 9) := by unfold World.shape?; rw [blk_new]; rfl
    rw [hsh]; rfl
  have hl9 : Rb w8 (fun k => k = w7.heap.size) (.slice (some ⟨w7.heap.size, 0, none⟩) 9 9) [49, 50, 51, 52, 53, 54, 55, 56, 57] := by
    obtain ⟨fz, hb⟩ := blk_freeze (a := ⟨w7.heap.size, 9, none⟩) (n := 1) (blk_new w7 (.cells #[.int .u8 49, .int .u8 50, .int .u8 51, .int .u8 52, .int .u8 53, .int .u8 54, .int .u8 55, .int .u8 56, .int .u8 57] 5 (0, 0)))
    rw [← hw8.out] at hb
    exact nine_rb hb
  go_wp2_with fail
  refine (sum_any hl9).mono ?_
  rw [crc_nine]
  rintro e w' ⟨rfl, rfl⟩
  clear hl9
  go_wp2_with fail
  refine (seal_any (F := No) (Rds.nil _ _ _ _ _ (Nat.zero_le _)) (by decide)).mono ?_
  rintro e w9 ⟨v9, rfl, hown9, hf9⟩
  rw [sealB_len, List.length_nil, Nat.zero_add] at hown9
  obtain ⟨A9, c9, rfl, _, _⟩ := hown9.shape
  have HF9 : Hid (Fr No w w9) := (show Fr No w w9 from ((HF2.out.then HF7.out).then hf8).then hf9)
  clear hown9 hf9
  go_wp2_with fail
  go_ret
  exact (show Told _ _ _ _ from ⟨rfl, HF9.out⟩)
end Go.Proofs.Ytbaohngnpgappaa
