/- WireWrites: its walk. -/
import Derived.Test.YtbaohngnpgappaaW25
import Derived.Test.YtbaohngnpgappaaW14
set_option linter.unusedVariables false
set_option linter.unusedSimpArgs false
namespace Go.Proofs.Ytbaohngnpgappaa
open Go.RowKit
mutual
/-- What an item counts: its values and its letters. -/
def It.bulk : It → Nat
  | .mk _ _ s l => s.length + 1 + It.bulks l
def It.bulks : List It → Nat
  | [] => 0
  | x :: r => It.bulk x + It.bulks r
end
theorem It.bulk_texts : ∀ v : It, v.bulk ≤ 1048576 → v.texts := by
  refine It.ind fun k n s l ih h => ?_
  rw [It.bulk] at h
  rw [It.texts]
  refine ⟨by omega, ?_⟩
  have h2 : It.bulks l ≤ 1048576 := by omega
  clear h
  induction l with
  | nil => trivial
  | cons x r ih2 =>
    rw [It.bulks] at h2
    rw [It.textss]
    exact ⟨ih x List.mem_cons_self (by omega), ih2 (fun y hy => ih y (List.mem_cons_of_mem _ hy)) (by omega)⟩
theorem It.enc_bulk : ∀ v : It, v.enc.length + 1 ≤ 11 * v.bulk := by
  refine It.ind fun k n s l ih => ?_
  have h1 : (It.encs l).length + l.length ≤ 11 * It.bulks l := by
    induction l with
    | nil => exact Nat.le_refl _
    | cons x r ih2 =>
      have h3 := ih x List.mem_cons_self
      have h4 := ih2 (fun y hy => ih y (List.mem_cons_of_mem _ hy))
      rw [It.encs, It.bulks, List.length_append, List.length_cons]
      omega
  have h5 := countB_len s.length
  have h6 := countB_len l.length
  have h7 := num8_len n
  rw [It.enc, It.bulk, List.length_cons]
  split
  · omega
  · split
    · rw [List.length_append]; omega
    · rw [List.length_append]; omega
theorem It.bulk_enc {v : It} (h : v.bulk ≤ 1048576) : v.enc.length ≤ 70368744177664 := by have := It.enc_bulk v; omega
theorem row_one {w : World} {k n : Int} {s : List UInt8} {l : List It} {A : Option Addr} {c b : Nat} (hb : w.heap[b]? = some (.cells #[.int .i64 k, .int .i64 n, .string ⟨s.toArray⟩, .slice A l.length c] 48 (0, 0))) (h : ItR w (fun _ => True) (.mk k n s l) [.int .i64 k, .int .i64 n, .string ⟨s.toArray⟩, .slice A l.length c]) : Row ItK w (fun _ => True) (.slice (some ⟨b, 0, none⟩) 1 1) [.mk k n s l] := by
  refine ⟨_, 1, rfl, Nat.le_refl _, by decide, fun j x hj => ?_⟩
  rcases j with _ | j
  · cases hj
    refine ⟨_, 0, _, rfl, trivial, h, fun i u hu => ?_⟩
    rw [blk_cell hb]
    rcases i with _ | _ | _ | _ | i
    · exact hu
    · exact hu
    · exact hu
    · exact hu
    · simp at hu
  · simp at hj
set_option maxRecDepth 100000 in
set_option maxHeartbeats 2000000 in
theorem wwrites_any {w : World} {F : Nat → Prop} {v : Value} {x : It} (h : ItV w F v x) (hbk : x.bulk ≤ 1048576) : Calls Try.prog 6 #[v] w (Told (.bool true) w) := by
  obtain ⟨k, n, s, l⟩ := x
  obtain ⟨cs, rfl, hr⟩ := h
  have hr0 := hr
  obtain ⟨vl, rfl, hrow, hfit⟩ := itR_row hr
  obtain ⟨A, c, rfl, hc1, hc2⟩ := hrow.shape
  have HR := Lib.hid hr0
  have HBK := Lib.hid hbk
  clear hr hr0 hrow hfit hc1 hc2 hbk
  unfold str
  unfold str at HR
  go_enter Try.func6, Try.ntmps6
  go_wp2_with fail
  obtain ⟨w1, hw1⟩ : ∃ w1, Hid (w1 = w.alloc (.cells #[.int .i64 k, .int .i64 n, .string ⟨s.toArray⟩, .slice A l.length c] 48 (0, 0))) := ⟨_, show _ = _ from rfl⟩
  rw [← hw1.out]
  have hf1 : Fr No w w1 := by rw [hw1.out]; exact (Fr.refl _ _).alloc _
  have hb1 : w1.heap[w.heap.size]? = some (.cells #[.int .i64 k, .int .i64 n, .string ⟨s.toArray⟩, .slice A l.length c] 48 (0, 0)) := by rw [hw1.out]; exact blk_new _ _
  have HF1 := Lib.hid hf1
  have HB1 := Lib.hid hb1
  clear hf1 hb1
  refine (wlive_any w1).mono ?_
  rintro e w2 ⟨rfl, hf2⟩
  have hb2 := hf2.heap HB1.out (fun h => h)
  have HF2 := Lib.hid (HF1.out.then hf2)
  have d0 := blk_cell hb2 0
  have d1 := blk_cell hb2 1
  have d2 := blk_cell hb2 2
  have d3 := blk_cell hb2 3
  simp only [List.getElem?_toArray, List.getElem?_cons_zero, List.getElem?_cons_succ] at d0 d1 d2 d3
  have HB2 := Lib.hid hb2
  clear hf2 hb2
  go_wp2_with fail
  obtain ⟨w3, hw3⟩ : ∃ w3, Hid (w3 = w2.alloc (.cells #[.int .i64 k, .int .i64 n, .string ⟨s.toArray⟩, .slice A l.length c] 48 (0, 0))) := ⟨_, show _ = _ from rfl⟩
  rw [← hw3.out]
  have hf3 : Fr No w2 w3 := by rw [hw3.out]; exact (Fr.refl _ _).alloc _
  have hb3 : w3.heap[w2.heap.size]? = some (.cells #[.int .i64 k, .int .i64 n, .string ⟨s.toArray⟩, .slice A l.length c] 48 (0, 0)) := by rw [hw3.out]; exact blk_new _ _
  have HF3 := Lib.hid (HF2.out.then hf3)
  have HRW : Hid (ItR w3 (fun _ => True) (.mk k n s l) [.int .i64 k, .int .i64 n, .string ⟨s.toArray⟩, .slice A l.length c]) := (show ItR _ _ _ _ from itR_mono (fun _ _ => trivial) _ _ (itR_move (fun q _ hq => HF3.out.block q hq (fun h => h)) _ _ HR.out))
  have hrow := row_one hb3 HRW.out
  have HB3 : Hid (w3.heap[w.heap.size]? = some (.cells #[.int .i64 k, .int .i64 n, .string ⟨s.toArray⟩, .slice A l.length c] 48 (0, 0))) := (show _ = _ from hf3.heap HB2.out (fun h => h))
  clear hb3
  obtain ⟨B, hB⟩ : ∃ B, Hid (B = bigB [.mk k n s l]) := ⟨_, show _ = _ from rfl⟩
  refine (big_any hrow).mono ?_
  rw [← hB.out]
  rintro e w4 ⟨rfl, hf4⟩
  have HF34 : Hid (Fr No w3 w4) := (show Fr No w3 w4 from hf4)
  have hb4 := hf4.heap HB3.out (fun h => h)
  clear hf3 hf4 hrow d0 d1 d2 d3
  have d0 := blk_cell hb4 0
  have d1 := blk_cell hb4 1
  have d2 := blk_cell hb4 2
  have d3 := blk_cell hb4 3
  simp only [List.getElem?_toArray, List.getElem?_cons_zero, List.getElem?_cons_succ] at d0 d1 d2 d3
  have HB4 := Lib.hid hb4
  clear hb4
  cases B
  · have hs1 := bigB_mem hB.out.symm _ List.mem_cons_self
    have HZ : Hid (It.size (.mk k n s l) ≤ 1048576) := (show _ ≤ _ from Nat.le_trans hs1 (by decide))
    clear hs1
    obtain ⟨C, hC⟩ : ∃ C, Hid (C = checkI (.mk k n s l)) := ⟨_, show _ = _ from rfl⟩
    obtain ⟨X, hX⟩ : ∃ X, Hid (X = encodeI (.mk k n s l)) := ⟨_, show _ = _ from rfl⟩
    go_wp2_with fail
    refine (encode_any (v := .mk k n s l) (show ItV w4 (fun _ => True) _ _ from ⟨_, rfl, itR_move (fun q _ hq => HF34.out.block q hq (fun h => h)) _ _ HRW.out⟩) HZ.out (fun _ => ⟨It.bulk_texts _ HBK.out, It.bulk_enc HBK.out⟩)).mono ?_
    rw [← hC.out, ← hX.out]
    rintro e w5 ⟨v5, rfl, hown5, hf5⟩
    have HF35 : Hid (Fr No w3 w5) := (show Fr No w3 w5 from HF34.out.then hf5)
    have HR5 : Hid (Rb w5 (fun q => New w4 q ∧ q < w5.heap.size) v5 X) := (show Rb _ _ _ _ from hown5.reads.bound)
    obtain ⟨A5, c5, rfl, _, _⟩ := hown5.shape
    have hb5 := hf5.heap HB4.out (fun h => h)
    clear d0 d1 d2 d3 hown5 hf5
    have d0 := blk_cell hb5 0
    have d1 := blk_cell hb5 1
    have d2 := blk_cell hb5 2
    have d3 := blk_cell hb5 3
    simp only [List.getElem?_toArray, List.getElem?_cons_zero, List.getElem?_cons_succ] at d0 d1 d2 d3
    clear hb5
    go_wp2_with fail
    refine (refencode_any (v := .mk k n s l) (show ItV w5 (fun _ => True) _ _ from ⟨_, rfl, itR_move (fun q _ hq => HF35.out.block q hq (fun h => h)) _ _ HRW.out⟩) HZ.out (fun _ => It.bulk_enc HBK.out)).mono ?_
    rw [← hC.out, ← hX.out]
    rintro e w6 ⟨v6, rfl, hown6, hf6⟩
    have HF36 : Hid (Fr No w3 w6) := (show Fr No w3 w6 from HF35.out.then hf6)
    have HR6 : Hid (Rb w6 (New w5) v6 X) := (show Rb _ _ _ _ from hown6.reads)
    have HR56 : Hid (Rb w6 (fun q => New w4 q ∧ q < w5.heap.size) (.slice A5 X.length c5) X) := (show Rb _ _ _ _ from HR5.out.fr hf6 (fun _ _ _ h => h))
    obtain ⟨A6, c6, rfl, _, _⟩ := hown6.shape
    clear d0 d1 d2 d3 hown6 hf6
    go_wp2_with fail
    refine (samebytes_yes HR56.out HR6.out rfl).mono ?_
    rintro e w' ⟨rfl, rfl⟩
    go_wp2_with fail
    go_ret
    exact (show Told _ _ _ _ from ⟨rfl, HF3.out.then HF36.out⟩)
  · go_wp2_with fail
    go_ret
    exact (show Told _ _ _ _ from ⟨rfl, HF3.out.then HF34.out⟩)
end Go.Proofs.Ytbaohngnpgappaa
