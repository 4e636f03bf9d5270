/- The document's answer for the disk: Sync, Read. -/
import Derived.Test.YtbaohngnpgappaaE1
set_option linter.unusedVariables false
set_option linter.unusedSimpArgs false
namespace Go.Proofs.Ytbaohngnpgappaa
open Go.RowKit
theorem OwK.row {w : World} {O R : Nat → Prop} {v : Value} {ws : List (Nat × List UInt8)} (h : OwK WaitK 131 w O R v ws) : Row WaitK w (fun k => O k ∨ R k) v ws := h.reads
set_option maxHeartbeats 1000000 in
theorem refsync_any {w : World} {O R : Nat → Prop} {p : Value} {s : List UInt8} {ws : List (Nat × List UInt8)} (h : RefIs w O R p s ws) (hws : ws.length ≤ 1000000) :
    Calls Try.prog 66 #[p] w (RefPost w O R p (.tuple #[]) (applyW s ws) []) := by
  obtain ⟨bp, vb, vl, rfl, h⟩ := h
  obtain ⟨A, c, rfl, _, _⟩ := h.hs.shape
  obtain ⟨Aw, cw, rfl, _, _⟩ := h.hw.shape
  have h0 := blk_cell h.hp 0
  have h1 := blk_cell h.hp 1
  simp only [List.getElem?_toArray, List.getElem?_cons_succ, List.getElem?_cons_zero] at h0 h1
  have H := Lib.hid h
  clear h
  go_enter Try.func66, Try.ntmps66
  go_wp2_with fail
  refine wp_seq_region (fun W => W.cell? ⟨bp, 0, none⟩ = some (Value.slice A s.length c) ∧ W.cell? ⟨bp, 1, none⟩ = some (Value.slice Aw ws.length cw)) [9, 12] [4, 8] [12] [0, 1, 2, 3, 4, 5, 6, 7, 8, 9, 10, 11, 12] (by kernel_rfl) (by kernel_rfl) rfl (by kernel_rfl) (fun _ _ _ _ _ h => h) ?_
  have HS : Hid (w.drew.cell? ⟨bp, 0, none⟩ = some (Value.slice A s.length c) ∧ w.drew.cell? ⟨bp, 1, none⟩ = some (Value.slice Aw ws.length cw)) := (show _ ∧ _ from ⟨h0, h1⟩)
  repeat (first
    | (refine sq_off (a' := ?_) rfl rfl (by rfl) (fun _ => (HS).out) ?ha ?_; (case ha => simp only [Act.put, List.setIfInBounds_toArray, List.set_cons_zero, List.set_cons_succ]; rfl))
    | (refine sq_any (v := ?_) (a' := ?_) rfl rfl rfl (by rfl) (fun W => ?hr) ?ha ?_; (case hr => go_simp; first | done | rfl); (case ha => simp only [Act.put, List.setIfInBounds_toArray, List.set_cons_zero, List.set_cons_succ]; rfl))
    | (refine sq_load (v := ?_) (a' := ?_) rfl rfl rfl (by rfl) (fun W hSW => ?hr) (HS).out ?ha ?_; (case hr => (try dsimp only at hSW); go_simp; first | done | rfl); (case ha => simp only [Act.put, List.setIfInBounds_toArray, List.set_cons_zero, List.set_cons_succ]; rfl)))
  refine sq_call rfl rfl (by rfl) rfl Try.func97 rfl rfl [.slice A s.length c, .slice Aw ws.length cw] rfl ?_
  refine (done_any (w := w.drew) (H.out.hs.fr ((Fr.refl No w).drew) (fun _ _ _ h => h)) ((H.out.hw.fr ((Fr.refl No w).drew) (fun _ _ _ h => h)).reads) H.out.hv H.out.hm).mono ?_
  rintro e w1 ⟨v1, rfl, hown1, hfr1⟩
  obtain ⟨A1, c1, rfl, _, _⟩ := hown1.shape
  have hf1 : Fr No w w1 := ((Fr.refl No w).drew).then hfr1
  have hn1 : w1.heap[bp]? = some (.cells #[.slice A s.length c, .slice Aw ws.length cw] 103 (0, 0)) := hf1.heap H.out.hp (fun h => h)
  have e0 := hf1.cell h0 (fun h => h)
  have e1 := hf1.cell h1 (fun h => h)
  have hz := blk_free hn1 0
  have HO1 := Lib.hid hown1
  have HF1 := Lib.hid hf1
  have HN1 := Lib.hid hn1
  clear hown1 hfr1 hf1 hn1
  refine ⟨_, rfl, fun _ => ⟨e0, e1⟩, ?_⟩
  simp only [Act.put, List.setIfInBounds_toArray, List.set_cons_zero, List.set_cons_succ]
  repeat (first
    | (refine sq_off (a' := ?_) rfl rfl (by rfl) (fun _ => (HS).out) ?ha ?_; (case ha => simp only [Act.put, List.setIfInBounds_toArray, List.set_cons_zero, List.set_cons_succ]; rfl))
    | (refine sq_any (v := ?_) (a' := ?_) rfl rfl rfl (by rfl) (fun W => ?hr) ?ha ?_; (case hr => go_simp; first | done | rfl); (case ha => simp only [Act.put, List.setIfInBounds_toArray, List.set_cons_zero, List.set_cons_succ]; rfl))
    | (refine sq_load (v := ?_) (a' := ?_) rfl rfl rfl (by rfl) (fun W hSW => ?hr) (HS).out ?ha ?_; (case hr => (try dsimp only at hSW); go_simp; first | done | rfl); (case ha => simp only [Act.put, List.setIfInBounds_toArray, List.set_cons_zero, List.set_cons_succ]; rfl)))
  refine sq_store (w1 := ?_) rfl rfl (by rfl) rfl ?hr (fun h => absurd (by decide) h) ?_
  case hr => go_simp; first | done | rfl | (constructor <;> rfl)
  refine sq_done ?_
  obtain ⟨w2, hw2⟩ : ∃ w2, Hid (w2 = w1.setCell ⟨bp, 0, none⟩ (.slice A1 (applyW s ws).length c1)) := ⟨_, rfl⟩
  rw [← hw2.out]
  have hf2 : Fr (fun k => k = bp) w1 w2 := by rw [hw2.out]; exact (Fr.refl _ _).setCell _ _ (fun _ => rfl)
  have hn2 : w2.heap[bp]? = some (.cells #[.slice A1 (applyW s ws).length c1, .slice Aw ws.length cw] 103 (0, 0)) := by rw [hw2.out, blk_set HN1.out]; rfl
  have d1 := blk_cell hn2 1
  simp only [List.getElem?_toArray, List.getElem?_cons_succ, List.getElem?_cons_zero] at d1
  have z1 := blk_free hn2 1
  have HF2 := Lib.hid hf2
  have HN2 := Lib.hid hn2
  clear hf2 hn2 e0 e1 hz
  go_wp2_with fail
  go_end0
  have hD := H.out
  have hf3 : Fr (fun k => k = bp) w2 (w2.setCell ⟨bp, 1, none⟩ (.slice none 0 0)) := (Fr.refl _ _).setCell _ _ (fun _ => rfl)
  have hf13 : Fr (fun k => k = bp) w1 (w2.setCell ⟨bp, 1, none⟩ (.slice none 0 0)) := HF2.out.then hf3
  have hlen := applyW_length ws s hD.hv
  have hbp := hD.hb bp (.inl hD.top)
  have hsz := HF1.out.size
  refine (show RefPost _ _ _ _ _ _ _ _ _ from ⟨O, fun k => w.heap.size ≤ k ∧ k < w1.heap.size, rfl, ⟨bp, .slice A1 (applyW s ws).length c1, .slice none 0 0, rfl, hD.top, by rw [blk_set HN2.out]; rfl, ?_, OwK.nil _ _ _ _ _, ?_, ?_, by rw [hlen]; exact hD.hm, by simp⟩, fun k h => .inl h, fun k h => .inr h.1, HF1.out.trans hf13 (fun _ _ h => h.elim) (fun k _ h => h ▸ hD.top)⟩)
  · exact (HO1.out.bound.reads.mono (fun k hk => (show w.heap.size ≤ k ∧ k < w1.heap.size from hk))).fr hf13 (fun k _ h1 h2 => by omega)
  · intro k h1 h2
    have := hD.hb k (.inl h1); omega
  · have := hf13.size
    rintro k (h | h)
    · have := hD.hb k (.inl h); omega
    · omega
/-- Is the byte at k told? -/
def toldB (at_ n : Int) (k : Nat) : Prop := 1 ≤ n ∧ at_.toNat ≤ k ∧ k < (at_ + n).toNat
theorem readB_none {S : List UInt8} {at_ n : Int} {k : Nat} {x : UInt8} (hx : S[k]? = some x) (h : ¬ toldB at_ n k) : readB (S.take (k + 1)) at_ n = readB (S.take k) at_ n := by
  unfold readB
  unfold toldB at h
  split
  · rfl
  · have hk := (List.getElem?_eq_some_iff.1 hx).1
    rw [List.take_add_one, hx]
    have hl : (S.take k).length = k := by rw [List.length_take]; omega
    by_cases hm : k < (at_ + n).toNat
    · have ha : k < at_.toNat := by omega
      rw [List.drop_eq_nil_of_le (by rw [List.length_take, List.length_append, hl]; simp; omega), List.drop_eq_nil_of_le (by rw [List.length_take, hl]; omega)]
    · rw [List.take_append_of_le_length (by rw [hl]; omega)]
theorem readB_one {S : List UInt8} {at_ n : Int} {k : Nat} {x : UInt8} (hx : S[k]? = some x) (h : toldB at_ n k) : readB (S.take (k + 1)) at_ n = readB (S.take k) at_ n ++ [x] := by
  unfold readB
  unfold toldB at h
  rw [if_neg (by omega), if_neg (by omega)]
  have hk := (List.getElem?_eq_some_iff.1 hx).1
  have hl : (S.take k).length = k := by rw [List.length_take]; omega
  rw [List.take_add_one, hx]
  simp only [Option.toList]
  rw [List.take_of_length_le (l := S.take k ++ [x]) (by rw [List.length_append, hl]; simp; omega), List.take_of_length_le (l := S.take k) (by omega), List.drop_append_of_le_length (by omega)]
theorem readB_nil (at_ n : Int) : readB [] at_ n = [] := by unfold readB; split <;> simp
theorem readB_le (S : List UInt8) (at_ n : Int) : (readB S at_ n).length ≤ S.length := by
  unfold readB
  split
  · simp
  · rw [List.length_drop, List.length_take]; omega
set_option maxHeartbeats 2000000 in
theorem refread_any {w : World} {O R : Nat → Prop} {p : Value} {s : List UInt8} {ws : List (Nat × List UInt8)} {at_ n : Int} (h : RefIs w O R p s ws) (hws : ws.length ≤ 1000000) (hi1 : -9223372036854775808 ≤ at_) (hi2 : at_ ≤ 9223372036854775807) (hn1 : -9223372036854775808 ≤ n) (hn2 : n ≤ 9223372036854775807) :
    Calls Try.prog 68 #[p, .int .i64 at_, .int .i64 n] w (TellsB w (readB (applyW s ws) at_ n)) := by
  obtain ⟨bp, vb, vl, rfl, h⟩ := h
  obtain ⟨A, c, rfl, _, _⟩ := h.hs.shape
  obtain ⟨Aw, cw, rfl, _, _⟩ := h.hw.shape
  have h0 := blk_cell h.hp 0
  have h1 := blk_cell h.hp 1
  simp only [List.getElem?_toArray, List.getElem?_cons_succ, List.getElem?_cons_zero] at h0 h1
  have H := Lib.hid h
  clear h
  go_enter Try.func68, Try.ntmps68
  go_wp2_with fail
  refine wp_seq_region (fun W => W.cell? ⟨bp, 0, none⟩ = some (Value.slice A s.length c) ∧ W.cell? ⟨bp, 1, none⟩ = some (Value.slice Aw ws.length cw)) [8] [3, 7] [] [0, 1, 2, 3, 4, 5, 6, 7, 10, 8, 9] (by kernel_rfl) (by kernel_rfl) rfl (by kernel_rfl) (fun _ _ _ _ _ h => h) ?_
  have HS : Hid (w.drew.cell? ⟨bp, 0, none⟩ = some (Value.slice A s.length c) ∧ w.drew.cell? ⟨bp, 1, none⟩ = some (Value.slice Aw ws.length cw)) := (show _ ∧ _ from ⟨h0, h1⟩)
  repeat (first
    | (refine sq_off (a' := ?_) rfl rfl (by rfl) (fun _ => (HS).out) ?ha ?_; (case ha => simp only [Act.put, List.setIfInBounds_toArray, List.set_cons_zero, List.set_cons_succ]; rfl))
    | (refine sq_any (v := ?_) (a' := ?_) rfl rfl rfl (by rfl) (fun W => ?hr) ?ha ?_; (case hr => go_simp; first | done | rfl); (case ha => simp only [Act.put, List.setIfInBounds_toArray, List.set_cons_zero, List.set_cons_succ]; rfl))
    | (refine sq_load (v := ?_) (a' := ?_) rfl rfl rfl (by rfl) (fun W hSW => ?hr) (HS).out ?ha ?_; (case hr => (try dsimp only at hSW); go_simp; first | done | rfl); (case ha => simp only [Act.put, List.setIfInBounds_toArray, List.set_cons_zero, List.set_cons_succ]; rfl)))
  refine sq_call rfl rfl (by rfl) rfl Try.func97 rfl rfl [.slice A s.length c, .slice Aw ws.length cw] rfl ?_
  refine (done_any (w := w.drew) (H.out.hs.fr ((Fr.refl No w).drew) (fun _ _ _ h => h)) ((H.out.hw.fr ((Fr.refl No w).drew) (fun _ _ _ h => h)).reads) H.out.hv H.out.hm).mono ?_
  rintro e w1 ⟨v1, rfl, hown1, hfr1⟩
  obtain ⟨S, hS⟩ : ∃ S, Hid (S = applyW s ws) := ⟨_, rfl⟩
  have hSl : (S.length : Int) ≤ 1048576 := by have h1 := applyW_length ws s H.out.hv; have := H.out.hm; rw [hS.out, h1]; omega
  rw [← hS.out] at hown1 ⊢
  obtain ⟨A1, c1, rfl, _, _⟩ := hown1.shape
  have hf1 : Fr No w w1 := ((Fr.refl No w).drew).then hfr1
  have e0 := hf1.cell h0 (fun h => h)
  have e1 := hf1.cell h1 (fun h => h)
  have HO1 : Hid (Rb w1 (fun k => k < w1.heap.size) (.slice A1 S.length c1) S) := (show Rb _ _ _ _ from hown1.bound.reads.mono (fun k hk => hk.2))
  have HF1 := Lib.hid hf1
  clear hown1 hfr1 hf1
  refine ⟨_, rfl, fun _ => ⟨e0, e1⟩, ?_⟩
  simp only [Act.put, List.setIfInBounds_toArray, List.set_cons_zero, List.set_cons_succ]
  repeat (first
    | (refine sq_off (a' := ?_) rfl rfl (by rfl) (fun _ => (HS).out) ?ha ?_; (case ha => simp only [Act.put, List.setIfInBounds_toArray, List.set_cons_zero, List.set_cons_succ]; rfl))
    | (refine sq_any (v := ?_) (a' := ?_) rfl rfl rfl (by rfl) (fun W => ?hr) ?ha ?_; (case hr => go_simp; first | done | rfl); (case ha => simp only [Act.put, List.setIfInBounds_toArray, List.set_cons_zero, List.set_cons_succ]; rfl))
    | (refine sq_load (v := ?_) (a' := ?_) rfl rfl rfl (by rfl) (fun W hSW => ?hr) (HS).out ?ha ?_; (case hr => (try dsimp only at hSW); go_simp; first | done | rfl); (case ha => simp only [Act.put, List.setIfInBounds_toArray, List.set_cons_zero, List.set_cons_succ]; rfl)))
  refine sq_done ?_
  go_wp2_with fail
  go_loopw [7, 20] (fun o i wr => ∃ (k : Nat), k ≤ S.length ∧ i = .int .i64 k ∧ Hid (Ow wr (fun j => w1.heap.size ≤ j) 5 1 o (readB (S.take k) at_ n).length ((readB (S.take k) at_ n).map enc8) ∧ Fr No w1 wr)) (fun _ i _ => S.length - (intOf i).toNat)
  case atStart => exact ⟨0, Nat.zero_le _, rfl, (show _ ∧ _ from ⟨by rw [List.take_zero, readB_nil]; exact Ow.nil _ _ _ _, Fr.refl _ _⟩)⟩
  case round =>
    obtain ⟨k, hk, rfl, HR⟩ := hrel
    by_cases hlt : k < S.length
    · obtain ⟨x, hx⟩ : ∃ x, Hid (S[k]? = some x) := ⟨_, List.getElem?_eq_getElem hlt⟩
      obtain ⟨b, o, he, _, _, hxc⟩ := byte_at (HO1.out.fr HR.out.2 (fun _ _ _ h => h)) hx.out
      subst he
      have g1 := x.toNat_lt
      by_cases a1 : at_ < 0
      · by_cases a2 : 0 < n
        · by_cases a3 : (k : Int) < at_ + n
          · have a4 : -9223372036854775808 ≤ at_ + n := by omega
            have a5 : at_ + n ≤ 9223372036854775807 := by omega
            have hone : Hid (toldB at_ n k) := (show toldB at_ n k from by unfold toldB; omega)
            have hle := readB_le (S.take k) at_ n
            have hle2 : (S.take k).length ≤ 1048576 := by rw [List.length_take]; omega
            obtain ⟨L, hL⟩ : ∃ L, Hid (L = readB (S.take k) at_ n) := ⟨_, rfl⟩
            rw [← hL.out] at HR hle
            obtain ⟨A7, c7, rfl, _, _⟩ := HR.out.1.shape
            have HLE : Hid (L.length ≤ 1048576) := (show L.length ≤ 1048576 from by omega)
            clear hle hle2
            go_wp2_with (with_reducible refine halt_dst 57 rfl ?_)
            refine wpList_app (O := fun j => w1.heap.size ≤ j) rfl (.tmp 54) (.tmp 56) 22 5 rfl _ 1 1 Try.underlying22 info5 rfl (by omega) (by omega) (.slice A7 L.length c7) L.length (L.map enc8) rfl (some ⟨wr.heap.size, 0, none⟩) 1 1 rfl (HR.out.1.fr ((Fr.refl No wr).alloc _) (fun _ _ _ h => h)) [enc8 x] rfl ?hnews (by intro u hu; simp at hu; subst hu; rfl) (by have := HLE.out; omega) ?_
            case hnews =>
              intro j u hj
              refine ⟨_, rfl, ?_⟩
              rw [add_none, Nat.zero_add, blk_cell (blk_new wr _), List.getElem?_toArray]
              exact hj
            intro v6 w6 hown6 hfr6
            have HR2 : Hid (Ow w6 (fun j => w1.heap.size ≤ j) 5 1 v6 (readB (S.take (k + 1)) at_ n).length ((readB (S.take (k + 1)) at_ n).map enc8) ∧ Fr No w1 w6) := by
              refine (show _ ∧ _ from ⟨?_, (HR.out.2.alloc _).news hfr6 (fun j hj => HR.out.1.2 j hj)⟩)
              rw [readB_one hx.out hone.out, ← hL.out, List.length_append, List.map_append]
              refine hown6.mono (fun j hj => ?_)
              rcases hj with hj | hj
              · exact HR.out.1.2 j hj
              · have := HR.out.2.size; simp at hj; omega
            clear hown6 hfr6
            go_wp2_with fail
            go_roundw
            case rel => exact ⟨k + 1, by omega, by go_num, HR2⟩
            case measure => simp [intOf]; omega
          · have a3' : at_ + n ≤ (k : Int) := by omega
            have a4 : -9223372036854775808 ≤ at_ + n := by omega
            have a5 : at_ + n ≤ 9223372036854775807 := by omega
            have HR2 : Hid (Ow wr (fun j => w1.heap.size ≤ j) 5 1 u7 (readB (S.take (k + 1)) at_ n).length ((readB (S.take (k + 1)) at_ n).map enc8) ∧ Fr No w1 wr) := (show _ ∧ _ from by rw [readB_none hx.out (by unfold toldB; omega)]; exact HR.out)
            go_wp2_with fail
            go_roundw
            case rel => exact ⟨k + 1, by omega, by go_num, HR2⟩
            case measure => simp [intOf]; omega
        · have a2' : n ≤ 0 := by omega
          have HR2 : Hid (Ow wr (fun j => w1.heap.size ≤ j) 5 1 u7 (readB (S.take (k + 1)) at_ n).length ((readB (S.take (k + 1)) at_ n).map enc8) ∧ Fr No w1 wr) := (show _ ∧ _ from by rw [readB_none hx.out (by unfold toldB; omega)]; exact HR.out)
          go_wp2_with fail
          go_roundw
          case rel => exact ⟨k + 1, by omega, by go_num, HR2⟩
          case measure => simp [intOf]; omega
      · have a1' : 0 ≤ at_ := by omega
        by_cases a2 : (k : Int) < at_
        · skip
          have HR2 : Hid (Ow wr (fun j => w1.heap.size ≤ j) 5 1 u7 (readB (S.take (k + 1)) at_ n).length ((readB (S.take (k + 1)) at_ n).map enc8) ∧ Fr No w1 wr) := (show _ ∧ _ from by rw [readB_none hx.out (by unfold toldB; omega)]; exact HR.out)
          go_wp2_with fail
          go_roundw
          case rel => exact ⟨k + 1, by omega, by go_num, HR2⟩
          case measure => simp [intOf]; omega
        · have a2' : at_ ≤ (k : Int) := by omega
          by_cases a3 : (k : Int) - at_ < n
          · skip
            have hone : Hid (toldB at_ n k) := (show toldB at_ n k from by unfold toldB; omega)
            have hle := readB_le (S.take k) at_ n
            have hle2 : (S.take k).length ≤ 1048576 := by rw [List.length_take]; omega
            obtain ⟨L, hL⟩ : ∃ L, Hid (L = readB (S.take k) at_ n) := ⟨_, rfl⟩
            rw [← hL.out] at HR hle
            obtain ⟨A7, c7, rfl, _, _⟩ := HR.out.1.shape
            have HLE : Hid (L.length ≤ 1048576) := (show L.length ≤ 1048576 from by omega)
            clear hle hle2
            go_wp2_with (with_reducible refine halt_dst 57 rfl ?_)
            refine wpList_app (O := fun j => w1.heap.size ≤ j) rfl (.tmp 54) (.tmp 56) 22 5 rfl _ 1 1 Try.underlying22 info5 rfl (by omega) (by omega) (.slice A7 L.length c7) L.length (L.map enc8) rfl (some ⟨wr.heap.size, 0, none⟩) 1 1 rfl (HR.out.1.fr ((Fr.refl No wr).alloc _) (fun _ _ _ h => h)) [enc8 x] rfl ?hnews (by intro u hu; simp at hu; subst hu; rfl) (by have := HLE.out; omega) ?_
            case hnews =>
              intro j u hj
              refine ⟨_, rfl, ?_⟩
              rw [add_none, Nat.zero_add, blk_cell (blk_new wr _), List.getElem?_toArray]
              exact hj
            intro v6 w6 hown6 hfr6
            have HR2 : Hid (Ow w6 (fun j => w1.heap.size ≤ j) 5 1 v6 (readB (S.take (k + 1)) at_ n).length ((readB (S.take (k + 1)) at_ n).map enc8) ∧ Fr No w1 w6) := by
              refine (show _ ∧ _ from ⟨?_, (HR.out.2.alloc _).news hfr6 (fun j hj => HR.out.1.2 j hj)⟩)
              rw [readB_one hx.out hone.out, ← hL.out, List.length_append, List.map_append]
              refine hown6.mono (fun j hj => ?_)
              rcases hj with hj | hj
              · exact HR.out.1.2 j hj
              · have := HR.out.2.size; simp at hj; omega
            clear hown6 hfr6
            go_wp2_with fail
            go_roundw
            case rel => exact ⟨k + 1, by omega, by go_num, HR2⟩
            case measure => simp [intOf]; omega
          · have a3' : n ≤ (k : Int) - at_ := by omega
            have HR2 : Hid (Ow wr (fun j => w1.heap.size ≤ j) 5 1 u7 (readB (S.take (k + 1)) at_ n).length ((readB (S.take (k + 1)) at_ n).map enc8) ∧ Fr No w1 wr) := (show _ ∧ _ from by rw [readB_none hx.out (by unfold toldB; omega)]; exact HR.out)
            go_wp2_with fail
            go_roundw
            case rel => exact ⟨k + 1, by omega, by go_num, HR2⟩
            case measure => simp [intOf]; omega
    · have hkl : k = S.length := by omega
      subst hkl
      clear hlt
      go_wp2_with fail
      go_ret
      have h1 := HR.out
      rw [List.take_of_length_le (Nat.le_refl _)] at h1
      have hSS := hS.out
      rw [hSS] at h1
      refine (show TellsB _ _ _ _ from ⟨_, rfl, ?_, HF1.out.then h1.2⟩)
      exact h1.1.mono (fun j hj => Nat.le_trans HF1.out.size hj)
end Go.Proofs.Ytbaohngnpgappaa
