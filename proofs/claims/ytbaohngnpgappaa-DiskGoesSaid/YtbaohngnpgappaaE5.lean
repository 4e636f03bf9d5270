/- One step with both disks. -/
import Derived.Test.YtbaohngnpgappaaE4
import Derived.Laws.OwnMore
set_option linter.unusedVariables false
set_option linter.unusedSimpArgs false
namespace Go.Proofs.Ytbaohngnpgappaa
open Go.RowKit
theorem readB_whole {l : List UInt8} {n : Nat} (h : l.length = n) : readB l 0 (n : Int) = l := by
  unfold readB
  split
  · exact (List.eq_nil_of_length_eq_zero (by omega)).symm
  · rw [List.take_of_length_le (by omega)]; rfl
set_option maxRecDepth 100000 in
set_option maxHeartbeats 4000000 in
theorem step_any {w : World} {B n m : Nat} {x y vb : Value} {d : Dk} {act at_ nn tear : Int} {keep : Nat} {b : List UInt8} (h : Duo w (fun k => k < B) x y d d.safe d.waits) (hB : B ≤ w.heap.size) (hn : d.now.length = n) (hap : applyW d.safe d.waits = d.now) (hw : d.waits.length ≤ m) (hm : m ≤ 1000)
    (hn4 : n ≤ 400) (hb : Rb w (fun k => k < B) vb b) (hb3 : b.length ≤ 300) (hat : I64 at_) (hnn : I64 nn) (hkeep : keep < 18446744073709551616) :
    Calls Try.prog 29 #[x, y, .agg #[.int .i64 act, .int .i64 at_, .int .i64 nn, vb, .int .u64 keep, .int .i64 tear]] w (StepPost w B n y m) := by
  obtain ⟨Ab, cb, rfl, hb1, hb2⟩ := hb.shape
  obtain ⟨⟨bx, rfl⟩, by_, rfl⟩ := h.ptr
  obtain ⟨w1, hw1⟩ : ∃ w1, Hid (w1 = w.alloc (.cells #[.int .i64 act, .int .i64 at_, .int .i64 nn, .slice Ab b.length cb, .int .u64 keep, .int .i64 tear] 38 (0, 0))) := ⟨_, rfl⟩
  have hblk : w1.heap[w.heap.size]? = some (.cells #[.int .i64 act, .int .i64 at_, .int .i64 nn, .slice Ab b.length cb, .int .u64 keep, .int .i64 tear] 38 (0, 0)) := by rw [hw1.out]; exact blk_new _ _
  have hf1 : Fr No w w1 := by rw [hw1.out]; exact (Fr.refl _ _).alloc _
  have hs1 : w1.heap.size = w.heap.size + 1 := by rw [hw1.out]; simp
  have HD1 : Hid (Duo w1 (fun k => k < B ∨ w.heap.size ≤ k) (.pointer (some ⟨bx, 0, none⟩)) (.pointer (some ⟨by_, 0, none⟩)) d d.safe d.waits) := (show Duo _ _ _ _ _ _ _ from h.more hf1)
  have HB1 : Hid (Rb w1 (fun k => k < B) (.slice Ab b.length cb) b) := (show Rb _ _ _ _ from hb.fr hf1 (fun _ _ _ h => h))
  have HF1 := Lib.hid hf1
  have HBLK := Lib.hid hblk
  have HS1 := Lib.hid hs1
  have c0 := blk_cell hblk 0
  have c1 := blk_cell hblk 1
  have c2 := blk_cell hblk 2
  have c3 := blk_cell hblk 3
  have c4 := blk_cell hblk 4
  have c5 := blk_cell hblk 5
  simp only [List.getElem?_toArray, List.getElem?_cons_zero, List.getElem?_cons_succ] at c0 c1 c2 c3 c4 c5
  have hN : Hid (d.now.length = n) := (show _ = _ from hn)
  have hAP := Lib.hid hap
  have hW : Hid (d.waits.length ≤ m) := (show d.waits.length ≤ m from hw)
  have hsl : Hid (d.safe.length = n) := (show _ = _ from by
    obtain ⟨_, _, hd, _⟩ := h.disk
    obtain ⟨_, _, _, _, _, _, hd⟩ := hd
    rw [hd.hl]; exact hn)
  have hfit : Hid (∀ x ∈ d.waits, x.1 + x.2.length ≤ n) := (show ∀ x ∈ d.waits, x.1 + x.2.length ≤ n from by
    obtain ⟨_, _, hd, _⟩ := h.disk
    obtain ⟨_, _, _, _, _, _, hd⟩ := hd
    rw [← hn]; exact hd.hv)
  have HAT := Lib.hid hat
  have HNN := Lib.hid hnn
  clear h hb hb2 hblk hf1 hs1 hn hap hw hat hnn
  by_cases ha0 : act = 0
  · subst ha0
    obtain ⟨_, _, he, _, _, hnews⟩ := HB1.out.news
    cases he
    have HNW := Lib.hid hnews
    clear hnews
    go_enter Try.func29, Try.ntmps29
    go_wp2_with (with_reducible refine halt_dst 44 rfl ?_)
    rw [← hw1.out]
    refine wpList_app (O := No) rfl (.const (.slice none 0 0)) (.tmp 43) 22 5 rfl _ 1 1 Try.underlying22 info5 rfl (by omega) (by omega) (.slice none 0 0) 0 [] rfl _ b.length _ rfl (Ow.nil _ _ _ _) (b.map enc8) (by simp) HNW.out (one8 _) (by omega) ?_
    intro v8 w2 hown hfr
    rw [List.nil_append, Nat.zero_add] at hown
    obtain ⟨A8, c8, rfl, _, _⟩ := hown.shape
    have hf2 : Fr No w1 w2 := hfr.mono (fun k _ h => by simp [Value.ownBlock] at h)
    have hnew8 : Hid (∀ k, (Value.slice A8 b.length c8).ownBlock = some k → w1.heap.size ≤ k ∧ k < w2.heap.size) := (show ∀ k, (Value.slice A8 b.length c8).ownBlock = some k → w1.heap.size ≤ k ∧ k < w2.heap.size from fun k hk => by
      have h1 := hown.bound.2 k hk
      rcases h1.1 with h2 | h2
      · simp [Value.ownBlock] at h2
      · exact ⟨by omega, h1.2⟩)
    have OWN2 : Hid (Ow w2 (fun k => (Value.slice A8 b.length c8).ownBlock = some k) 5 1 (.slice A8 b.length c8) b.length (b.map enc8)) := (show Ow _ _ _ _ _ _ _ from hown.just)
    have HF2 := Lib.hid hf2
    have hS2 := hf2.size
    have HD2 : Hid (Duo w2 (fun k => k < B ∨ k = w.heap.size ∨ (Value.slice A8 b.length c8).ownBlock = some k) (.pointer (some ⟨bx, 0, none⟩)) (.pointer (some ⟨by_, 0, none⟩)) d d.safe d.waits) := (show Duo _ _ _ _ _ _ _ from (HD1.out.quiet hf2).less (fun k hk => by
      rcases hk with hk | hk | hk
      · exact .inl hk
      · right; omega
      · have := hnew8.out k hk; have := HS1.out; right; omega))
    have HB2 : Hid (Rb w2 (fun k => k < B) (.slice Ab b.length cb) b) := (show Rb _ _ _ _ from HB1.out.fr hf2 (fun _ _ _ h => h))
    have hb2 := hf2.heap HBLK.out (fun h => h)
    have HBLK2 := Lib.hid hb2
    have f1 := blk_cell hb2 1
    have f3 := blk_cell hb2 3
    simp only [List.getElem?_toArray, List.getElem?_cons_zero, List.getElem?_cons_succ] at f1 f3
    clear hown hfr hf2 hb2 HNW
    go_wp2_with fail
    refine wp_seq_region (fun W => W.cell? ⟨w.heap.size, 1, none⟩ = some (.int .i64 at_) ∧ W.cell? ⟨w.heap.size, 3, none⟩ = some (Value.slice Ab b.length cb)) [4, 10] [2, 7, 9] [] [0, 1, 2, 3, 5, 6, 7, 8, 9, 4, 10, 11] (by kernel_rfl) (by kernel_rfl) rfl (by kernel_rfl) (fun _ _ _ _ _ h => h) ?_
    have HS : Hid (w2.drew.cell? ⟨w.heap.size, 1, none⟩ = some (.int .i64 at_) ∧ w2.drew.cell? ⟨w.heap.size, 3, none⟩ = some (Value.slice Ab b.length cb)) := (show _ ∧ _ from ⟨f1, f3⟩)
    repeat (first
      | (refine sq_off (a' := ?_) rfl rfl (by rfl) (fun _ => (HS).out) ?ha ?_; (case ha => simp only [Act.put, List.setIfInBounds_toArray, List.set_cons_zero, List.set_cons_succ]; rfl))
      | (refine sq_any (v := ?_) (a' := ?_) rfl rfl rfl (by rfl) (fun W => ?hr) ?ha ?_; (case hr => go_simp; first | done | rfl); (case ha => simp only [Act.put, List.setIfInBounds_toArray, List.set_cons_zero, List.set_cons_succ]; rfl))
      | (refine sq_load (v := ?_) (a' := ?_) rfl rfl rfl (by rfl) (fun W hSW => ?hr) (HS).out ?ha ?_; (case hr => (try dsimp only at hSW); go_simp; first | done | rfl); (case ha => simp only [Act.put, List.setIfInBounds_toArray, List.set_cons_zero, List.set_cons_succ]; rfl)))
    refine sq_call rfl rfl (by rfl) rfl Try.func22 rfl rfl [.pointer (some ⟨bx, 0, none⟩), .int .i64 at_, .slice A8 b.length c8] rfl ?_
    have hdr : Fr No w2 w2.drew := (Fr.refl No w2).drew
    have hGl : ∀ k, (k < B ∨ k = w.heap.size ∨ (Value.slice A8 b.length c8).ownBlock = some k) → k < w2.heap.size := fun k hk => by
      have := HS1.out
      rcases hk with hk | hk | hk
      · omega
      · omega
      · exact (hnew8.out k hk).2
    have HGL := Lib.hid hGl
    clear hGl
    by_cases hok : 0 ≤ at_ ∧ at_ + b.length ≤ n
    · obtain ⟨t, rfl⟩ : ∃ t : Nat, at_ = t := ⟨at_.toNat, by omega⟩
      refine ((HD2.out.quiet hdr).turnX (fun k hk => HGL.out k hk) (fun O R hG hD => write_yes hD (OWN2.out.fr hdr (fun _ _ _ h => h)).reads (fun k hk ho => hG k (.inl ho) (.inr (.inr hk))) (by rw [hN.out]; omega) (by have := hW.out; omega))).mono ?_
      rintro e w3 ⟨rfl, hD3, hf3⟩
      have hb3 := hf3.heap (hdr.heap HBLK2.out (fun h => h)) (fun h => h (.inr (.inl rfl)))
      have q1 := blk_cell hb3 1
      have q3 := blk_cell hb3 3
      simp only [List.getElem?_toArray, List.getElem?_cons_zero, List.getElem?_cons_succ] at q1 q3
      have HD3 := Lib.hid hD3
      have HF3 := Lib.hid hf3
      have hB3 : Hid (Rb w3 (fun k => k < B) (.slice Ab b.length cb) b) := (show Rb _ _ _ _ from (HB2.out.fr hdr (fun _ _ _ h => h)).fr hf3 (fun k _ hk h => h (.inl hk)))
      have hO3 : Hid (Ow w3 (fun k => (Value.slice A8 b.length c8).ownBlock = some k) 5 1 (.slice A8 b.length c8) b.length (b.map enc8)) := (show Ow _ _ _ _ _ _ _ from (OWN2.out.fr hdr (fun _ _ _ h => h)).fr hf3 (fun k _ hk h => h (.inr (.inr hk))))
      clear hD3 hf3 hb3 hdr
      refine ⟨_, rfl, fun _ => ⟨q1, q3⟩, ?_⟩
      simp only [Act.put, List.setIfInBounds_toArray, List.set_cons_zero, List.set_cons_succ]
      refine sq_call rfl rfl (by rfl) rfl Try.func65 rfl rfl [.pointer (some ⟨by_, 0, none⟩), .int .i64 t, .slice Ab b.length cb] rfl ?_
      refine (HD3.out.turnY (fun k hk => by have := HGL.out k hk; have := HF3.out.size; simp at this; omega) (fun O R hG hY => refwrite_yes hY hB3.out (by rw [hsl.out]; omega) (by have := hW.out; omega))).mono ?_
      rintro e w4 ⟨rfl, hD4, hf4⟩
      have hb4 : w4.cell? ⟨w.heap.size, 1, none⟩ = some (.int .i64 (t : Int)) := hf4.cell q1 (fun h => h (.inr (.inl rfl)))
      have hb5 : w4.cell? ⟨w.heap.size, 3, none⟩ = some (Value.slice Ab b.length cb) := hf4.cell q3 (fun h => h (.inr (.inl rfl)))
      have HD4 := Lib.hid hD4
      have HF4 := Lib.hid hf4
      have OWN : Hid (Ow w4 (fun k => (Value.slice A8 b.length c8).ownBlock = some k) 5 1 (.slice A8 b.length c8) b.length (b.map enc8)) := (show Ow _ _ _ _ _ _ _ from hO3.out.fr hf4 (fun k _ hk h => h (.inr (.inr hk))))
      clear hD4 hf4
      refine ⟨_, rfl, fun _ => ⟨hb4, hb5⟩, ?_⟩
      simp only [Act.put, List.setIfInBounds_toArray, List.set_cons_zero, List.set_cons_succ]
      repeat (first
        | (refine sq_off (a' := ?_) rfl rfl (by rfl) (fun _ => (HS).out) ?ha ?_; (case ha => simp only [Act.put, List.setIfInBounds_toArray, List.set_cons_zero, List.set_cons_succ]; rfl))
        | (refine sq_any (v := ?_) (a' := ?_) rfl rfl rfl (by rfl) (fun W => ?hr) ?ha ?_; (case hr => go_simp; first | done | rfl); (case ha => simp only [Act.put, List.setIfInBounds_toArray, List.set_cons_zero, List.set_cons_succ]; rfl))
        | (refine sq_load (v := ?_) (a' := ?_) rfl rfl rfl (by rfl) (fun W hSW => ?hr) (HS).out ?ha ?_; (case hr => (try dsimp only at hSW); go_simp; first | done | rfl); (case ha => simp only [Act.put, List.setIfInBounds_toArray, List.set_cons_zero, List.set_cons_succ]; rfl)))
      refine sq_done ?_
      clear hb4 hb5 q1 q3 f1 f3 c0 c1 c2 c3 c4 c5
      go_wp2_with fail
      go_loopw [60] (fun i wr => ∃ k : Nat, k ≤ b.length ∧ i = .int .i64 k ∧ Hid (∃ cells, Ow wr (fun k => (Value.slice A8 b.length c8).ownBlock = some k) 5 1 (.slice A8 b.length c8) b.length cells ∧ Fr (fun k => (Value.slice A8 b.length c8).ownBlock = some k) w4 wr)) (fun i _ => b.length - (intOf i).toNat)
      case atStart => exact ⟨0, Nat.zero_le _, rfl, (show ∃ cells, _ ∧ _ from ⟨_, OWN.out, Fr.refl _ _⟩)⟩
      case round =>
        obtain ⟨k, hk, rfl, HR⟩ := hrel
        by_cases hlt : k < b.length
        · obtain ⟨cells, hrow, hfr⟩ := HR.out
          obtain ⟨g, c7, cur, he3, hg, hblk7, _, _, hcs7, _⟩ := hrow.form (by omega)
          cases he3
          have hcur : k < cur.size := by omega
          obtain ⟨old, g1⟩ : ∃ old, wr.cell? ⟨g, k, none⟩ = some old := ⟨cur[k], by rw [blk_cell hblk7, Array.getElem?_eq_getElem hcur]⟩
          have g2 : wr.frozen? ⟨g, k, none⟩ = false := blk_free hblk7 _
          have HR2 : Hid (∃ cells, Ow (wr.setCell ⟨g, k, none⟩ (.int .u8 99)) (fun k => (Value.slice (some ⟨g, 0, none⟩) b.length c8).ownBlock = some k) 5 1 (.slice (some ⟨g, 0, none⟩) b.length c8) b.length cells ∧ Fr (fun k => (Value.slice (some ⟨g, 0, none⟩) b.length c8).ownBlock = some k) w4 (wr.setCell ⟨g, k, none⟩ (.int .u8 99))) := (show ∃ cells, _ ∧ _ from ⟨_, hrow.set k _, hfr.setCell ⟨g, k, none⟩ _ (fun _ => hg)⟩)
          clear hblk7 hcs7 hrow hfr
          go_wp2_with fail
          go_roundw
          case rel => exact ⟨k + 1, by omega, by go_num, HR2⟩
          case measure => simp [intOf]; omega
        · have hkl : k = b.length := by omega
          subst hkl
          clear hlt
          obtain ⟨cells, hrow, hfr⟩ := HR.out
          have HFL := Lib.hid hfr
          clear hrow hfr
          obtain ⟨dz, hdz⟩ : ∃ dz : Dk, Hid (dz = ⟨d.safe, splice d.now t b, d.waits ++ [(t, b)]⟩) := ⟨_, rfl⟩
          have HZ : Hid (Duo wr (fun k => k < B) (.pointer (some ⟨bx, 0, none⟩)) (.pointer (some ⟨by_, 0, none⟩)) dz dz.safe dz.waits ∧ dz.now.length = n ∧ applyW dz.safe dz.waits = dz.now ∧ dz.waits.length ≤ m + 1 ∧ Fr (fun k => B ≤ k) w wr ∧ dz.safe.length = n) := by
            refine (show _ ∧ _ from ⟨?_, ?_, ?_, ?_, ?_, by rw [hdz.out]; exact hsl.out⟩)
            · rw [hdz.out]; exact (HD4.out.far HFL.out (fun k _ hk => .inr (.inr hk))).less (fun k hk => .inl hk)
            · rw [hdz.out]; exact (length_splice _ _ _ (by rw [hN.out]; omega)).trans hN.out
            · rw [hdz.out]; exact (applyW_append _ _ _).trans (by rw [hAP.out])
            · rw [hdz.out]; have := hW.out; simp; omega
            · have hs := HS1.out
              refine ((((HF1.out.trans HF2.out (fun _ _ h => h) (fun _ _ h => h)).trans (U := fun k => B ≤ k) ((Fr.refl No w2).drew) (fun _ _ h => h.elim) (fun _ _ h => h.elim)).trans HF3.out (fun _ _ h => h) (fun k _ hk => by omega)).trans HF4.out (fun _ _ h => h) (fun k _ hk => by omega)).trans HFL.out (fun _ _ h => h) (fun k hk h => by have := (hnew8.out k h).1; omega)
          obtain ⟨Oz, Rz, hDz, _⟩ := HZ.out.1.disk
          obtain ⟨Oy, Ry, hYz, _⟩ := HZ.out.1.doc
          have HDz := Lib.hid hDz
          have HYz := Lib.hid hYz
          have hnz : (dz.now.length : Int) = (n : Int) := by rw [HZ.out.2.1]
          have hsz : (dz.safe.length : Int) = (n : Int) := by rw [HZ.out.2.2.2.2.2]
          have HNZ := Lib.hid (And.intro hnz hsz)
          have hmz : dz.waits.length ≤ 2000 := by have := HZ.out.2.2.2.1; omega
          have HRZ : Hid (readB dz.now 0 (n : Int) = dz.now) := (show _ = _ from readB_whole HZ.out.2.1)
          clear hDz hYz hnz hsz
          go_wp2_with fail
          refine (size_any HDz.out).mono ?_
          rintro e w' ⟨rfl, rfl⟩
          rw [HNZ.out.1]
          go_wp2_with fail
          refine (refsize_any HYz.out).mono ?_
          rintro e w' ⟨rfl, rfl⟩
          rw [HNZ.out.2]
          go_wp2_with fail
          refine (waiting_any HDz.out).mono ?_
          rintro e w' ⟨rfl, rfl⟩
          go_wp2_with fail
          refine (refwaiting_any HYz.out).mono ?_
          rintro e w' ⟨rfl, rfl⟩
          go_wp2_with fail
          refine (size_any HDz.out).mono ?_
          rintro e w' ⟨rfl, rfl⟩
          rw [HNZ.out.1]
          go_wp2_with fail
          refine (read_any HDz.out (by omega) (by omega) (by omega)).mono ?_
          rw [HRZ.out]
          rintro e wp ⟨vp, rfl, hvp, hfp⟩
          have HVP := Lib.hid hvp
          have HFP := Lib.hid hfp
          clear hvp hfp
          go_wp2_with fail
          refine (size_any (HDz.out.no HFP.out)).mono ?_
          rintro e w' ⟨rfl, rfl⟩
          rw [HNZ.out.1]
          go_wp2_with fail
          refine (refread_any (HYz.out.fr HFP.out (fun _ _ _ h => h)) (by omega) (by omega) (by omega) (by omega) (by omega)).mono ?_
          rw [HZ.out.2.2.1, HRZ.out]
          rintro e wq ⟨vq, rfl, hvq, hfq⟩
          have HVQ := Lib.hid hvq
          have HFQ := Lib.hid hfq
          clear hvq hfq
          go_wp2_with fail
          refine (samebytes_yes (HVP.out.reads.fr HFQ.out (fun _ _ _ h => h)) HVQ.out.reads rfl).mono ?_
          rintro e w' ⟨rfl, rfl⟩
          go_wp2_with fail
          go_ret2
          have hz := HZ.out
          exact (show StepPost _ _ _ _ _ _ _ from ⟨_, dz, rfl, (hz.1.quiet HFP.out).quiet HFQ.out, hz.2.1, hz.2.2.1, hz.2.2.2.1, (hz.2.2.2.2.1.trans HFP.out (fun _ _ h => h) (fun _ _ h => h.elim)).trans HFQ.out (fun _ _ h => h) (fun _ _ h => h.elim)⟩)
    · have hno : at_ < 0 ∨ at_ > (n : Int) - b.length := by omega
      obtain ⟨O, R, hD, _⟩ := (HD2.out.quiet hdr).disk
      obtain ⟨O', R', hY, _⟩ := (HD2.out.quiet hdr).doc
      have HDX := Lib.hid hD
      have HDY := Lib.hid hY
      clear hD hY hok
      refine (write_no HDX.out (OWN2.out.fr hdr (fun _ _ _ h => h)).reads (by rw [hN.out]; exact hno)).mono ?_
      rintro e w' ⟨rfl, rfl⟩
      refine ⟨_, rfl, fun _ => ⟨f1, f3⟩, ?_⟩
      simp only [Act.put, List.setIfInBounds_toArray, List.set_cons_zero, List.set_cons_succ]
      refine sq_call rfl rfl (by rfl) rfl Try.func65 rfl rfl [.pointer (some ⟨by_, 0, none⟩), .int .i64 at_, .slice Ab b.length cb] rfl ?_
      refine (refwrite_no HDY.out (HB2.out.fr hdr (fun _ _ _ h => h)) (by rw [hsl.out]; exact hno)).mono ?_
      rintro e w' ⟨rfl, rfl⟩
      refine ⟨_, rfl, fun _ => ⟨f1, f3⟩, ?_⟩
      simp only [Act.put, List.setIfInBounds_toArray, List.set_cons_zero, List.set_cons_succ]
      repeat (first
        | (refine sq_off (a' := ?_) rfl rfl (by rfl) (fun _ => (HS).out) ?ha ?_; (case ha => simp only [Act.put, List.setIfInBounds_toArray, List.set_cons_zero, List.set_cons_succ]; rfl))
        | (refine sq_any (v := ?_) (a' := ?_) rfl rfl rfl (by rfl) (fun W => ?hr) ?ha ?_; (case hr => go_simp; first | done | rfl); (case ha => simp only [Act.put, List.setIfInBounds_toArray, List.set_cons_zero, List.set_cons_succ]; rfl))
        | (refine sq_load (v := ?_) (a' := ?_) rfl rfl rfl (by rfl) (fun W hSW => ?hr) (HS).out ?ha ?_; (case hr => (try dsimp only at hSW); go_simp; first | done | rfl); (case ha => simp only [Act.put, List.setIfInBounds_toArray, List.set_cons_zero, List.set_cons_succ]; rfl)))
      refine sq_done ?_
      have OWN : Hid (Ow w2.drew (fun k => (Value.slice A8 b.length c8).ownBlock = some k) 5 1 (.slice A8 b.length c8) b.length (b.map enc8)) := (show Ow _ _ _ _ _ _ _ from OWN2.out.fr hdr (fun k _ hk h => h))
      clear hdr hno f1 f3 c0 c1 c2 c3 c4 c5
      go_wp2_with fail
      go_loopw [60] (fun i wr => ∃ k : Nat, k ≤ b.length ∧ i = .int .i64 k ∧ Hid (∃ cells, Ow wr (fun k => (Value.slice A8 b.length c8).ownBlock = some k) 5 1 (.slice A8 b.length c8) b.length cells ∧ Fr (fun k => (Value.slice A8 b.length c8).ownBlock = some k) w2.drew wr)) (fun i _ => b.length - (intOf i).toNat)
      case atStart => exact ⟨0, Nat.zero_le _, rfl, (show ∃ cells, _ ∧ _ from ⟨_, OWN.out, Fr.refl _ _⟩)⟩
      case round =>
        obtain ⟨k, hk, rfl, HR⟩ := hrel
        by_cases hlt : k < b.length
        · obtain ⟨cells, hrow, hfr⟩ := HR.out
          obtain ⟨g, c7, cur, he3, hg, hblk7, _, _, hcs7, _⟩ := hrow.form (by omega)
          cases he3
          have hcur : k < cur.size := by omega
          obtain ⟨old, g1⟩ : ∃ old, wr.cell? ⟨g, k, none⟩ = some old := ⟨cur[k], by rw [blk_cell hblk7, Array.getElem?_eq_getElem hcur]⟩
          have g2 : wr.frozen? ⟨g, k, none⟩ = false := blk_free hblk7 _
          have HR2 : Hid (∃ cells, Ow (wr.setCell ⟨g, k, none⟩ (.int .u8 99)) (fun k => (Value.slice (some ⟨g, 0, none⟩) b.length c8).ownBlock = some k) 5 1 (.slice (some ⟨g, 0, none⟩) b.length c8) b.length cells ∧ Fr (fun k => (Value.slice (some ⟨g, 0, none⟩) b.length c8).ownBlock = some k) w2.drew (wr.setCell ⟨g, k, none⟩ (.int .u8 99))) := (show ∃ cells, _ ∧ _ from ⟨_, hrow.set k _, hfr.setCell ⟨g, k, none⟩ _ (fun _ => hg)⟩)
          clear hblk7 hcs7 hrow hfr
          go_wp2_with fail
          go_roundw
          case rel => exact ⟨k + 1, by omega, by go_num, HR2⟩
          case measure => simp [intOf]; omega
        · have hkl : k = b.length := by omega
          subst hkl
          clear hlt
          obtain ⟨cells, hrow, hfr⟩ := HR.out
          have HFL := Lib.hid hfr
          clear hrow hfr
          obtain ⟨dz, hdz⟩ : ∃ dz : Dk, Hid (dz = d) := ⟨_, rfl⟩
          have HZ : Hid (Duo wr (fun k => k < B) (.pointer (some ⟨bx, 0, none⟩)) (.pointer (some ⟨by_, 0, none⟩)) dz dz.safe dz.waits ∧ dz.now.length = n ∧ applyW dz.safe dz.waits = dz.now ∧ dz.waits.length ≤ m + 1 ∧ Fr (fun k => B ≤ k) w wr ∧ dz.safe.length = n) := by
            have hdd := hdz.out
            subst hdd
            refine (show _ ∧ _ from ⟨?_, hN.out, hAP.out, by have := hW.out; omega, ?_, hsl.out⟩)
            · exact ((HD2.out.quiet ((Fr.refl No w2).drew)).far HFL.out (fun k _ hk => .inr (.inr hk))).less (fun k hk => .inl hk)
            · have hs := HS1.out
              refine ((HF1.out.trans HF2.out (fun _ _ h => h) (fun _ _ h => h)).trans (U := fun k => B ≤ k) ((Fr.refl No w2).drew) (fun _ _ h => h.elim) (fun _ _ h => h.elim)).trans HFL.out (fun _ _ h => h) (fun k hk h => by have := (hnew8.out k h).1; omega)
          obtain ⟨Oz, Rz, hDz, _⟩ := HZ.out.1.disk
          obtain ⟨Oy, Ry, hYz, _⟩ := HZ.out.1.doc
          have HDz := Lib.hid hDz
          have HYz := Lib.hid hYz
          have hnz : (dz.now.length : Int) = (n : Int) := by rw [HZ.out.2.1]
          have hsz : (dz.safe.length : Int) = (n : Int) := by rw [HZ.out.2.2.2.2.2]
          have HNZ := Lib.hid (And.intro hnz hsz)
          have hmz : dz.waits.length ≤ 2000 := by have := HZ.out.2.2.2.1; omega
          have HRZ : Hid (readB dz.now 0 (n : Int) = dz.now) := (show _ = _ from readB_whole HZ.out.2.1)
          clear hDz hYz hnz hsz
          go_wp2_with fail
          refine (size_any HDz.out).mono ?_
          rintro e w' ⟨rfl, rfl⟩
          rw [HNZ.out.1]
          go_wp2_with fail
          refine (refsize_any HYz.out).mono ?_
          rintro e w' ⟨rfl, rfl⟩
          rw [HNZ.out.2]
          go_wp2_with fail
          refine (waiting_any HDz.out).mono ?_
          rintro e w' ⟨rfl, rfl⟩
          go_wp2_with fail
          refine (refwaiting_any HYz.out).mono ?_
          rintro e w' ⟨rfl, rfl⟩
          go_wp2_with fail
          refine (size_any HDz.out).mono ?_
          rintro e w' ⟨rfl, rfl⟩
          rw [HNZ.out.1]
          go_wp2_with fail
          refine (read_any HDz.out (by omega) (by omega) (by omega)).mono ?_
          rw [HRZ.out]
          rintro e wp ⟨vp, rfl, hvp, hfp⟩
          have HVP := Lib.hid hvp
          have HFP := Lib.hid hfp
          clear hvp hfp
          go_wp2_with fail
          refine (size_any (HDz.out.no HFP.out)).mono ?_
          rintro e w' ⟨rfl, rfl⟩
          rw [HNZ.out.1]
          go_wp2_with fail
          refine (refread_any (HYz.out.fr HFP.out (fun _ _ _ h => h)) (by omega) (by omega) (by omega) (by omega) (by omega)).mono ?_
          rw [HZ.out.2.2.1, HRZ.out]
          rintro e wq ⟨vq, rfl, hvq, hfq⟩
          have HVQ := Lib.hid hvq
          have HFQ := Lib.hid hfq
          clear hvq hfq
          go_wp2_with fail
          refine (samebytes_yes (HVP.out.reads.fr HFQ.out (fun _ _ _ h => h)) HVQ.out.reads rfl).mono ?_
          rintro e w' ⟨rfl, rfl⟩
          go_wp2_with fail
          go_ret2
          have hz := HZ.out
          exact (show StepPost _ _ _ _ _ _ _ from ⟨_, dz, rfl, (hz.1.quiet HFP.out).quiet HFQ.out, hz.2.1, hz.2.2.1, hz.2.2.2.1, (hz.2.2.2.2.1.trans HFP.out (fun _ _ h => h) (fun _ _ h => h.elim)).trans HFQ.out (fun _ _ h => h) (fun _ _ h => h.elim)⟩)
  · by_cases ha1 : act = 1
    · subst ha1
      go_enter Try.func29, Try.ntmps29
      go_wp2_with fail
      rw [← hw1.out]
      refine ((HD1.out.less (G' := fun k => k < B) (fun k hk => .inl hk)).turnX (fun k hk => by have := HS1.out; omega) (fun O R _ hD => sync_any hD (by have := hW.out; omega))).mono ?_
      rintro e w2 ⟨rfl, hD2, hf2⟩
      have HD2 := Lib.hid hD2
      have HF2 := Lib.hid hf2
      clear hD2 hf2
      go_wp2_with fail
      refine (HD2.out.turnY (fun k hk => by have := HS1.out; have := HF2.out.size; omega) (fun O R _ hY => refsync_any hY (by have := hW.out; omega))).mono ?_
      rintro e w3 ⟨rfl, hD3, hf3⟩
      obtain ⟨dz, hdz⟩ : ∃ dz : Dk, Hid (dz = ⟨applyW d.safe d.waits, d.now, []⟩) := ⟨_, rfl⟩
      have HZ : Hid (Duo w3 (fun k => k < B) (.pointer (some ⟨bx, 0, none⟩)) (.pointer (some ⟨by_, 0, none⟩)) dz dz.safe dz.waits ∧ dz.now.length = n ∧ applyW dz.safe dz.waits = dz.now ∧ dz.waits.length ≤ m + 1 ∧ Fr (fun k => B ≤ k) w w3 ∧ dz.safe.length = n) := by
        refine (show _ ∧ _ from ⟨?_, by rw [hdz.out]; exact hN.out, by rw [hdz.out]; exact hAP.out, by rw [hdz.out]; simp, ?_, by rw [hdz.out]; simp only; rw [hAP.out]; exact hN.out⟩)
        · rw [hdz.out]; exact hD3
        · exact ((HF1.out.trans HF2.out (fun _ _ h => h.elim) (fun k _ hk => by omega)).trans hf3 (fun _ _ h => h) (fun k _ hk => by omega))
      clear hD3 hf3
      obtain ⟨Oz, Rz, hDz, _⟩ := HZ.out.1.disk
      obtain ⟨Oy, Ry, hYz, _⟩ := HZ.out.1.doc
      have HDz := Lib.hid hDz
      have HYz := Lib.hid hYz
      have hnz : (dz.now.length : Int) = (n : Int) := by rw [HZ.out.2.1]
      have hsz : (dz.safe.length : Int) = (n : Int) := by rw [HZ.out.2.2.2.2.2]
      have HNZ := Lib.hid (And.intro hnz hsz)
      have hmz : dz.waits.length ≤ 2000 := by have := HZ.out.2.2.2.1; omega
      have HRZ : Hid (readB dz.now 0 (n : Int) = dz.now) := (show _ = _ from readB_whole HZ.out.2.1)
      clear hDz hYz hnz hsz
      go_wp2_with fail
      refine (size_any HDz.out).mono ?_
      rintro e w' ⟨rfl, rfl⟩
      rw [HNZ.out.1]
      go_wp2_with fail
      refine (refsize_any HYz.out).mono ?_
      rintro e w' ⟨rfl, rfl⟩
      rw [HNZ.out.2]
      go_wp2_with fail
      refine (waiting_any HDz.out).mono ?_
      rintro e w' ⟨rfl, rfl⟩
      go_wp2_with fail
      refine (refwaiting_any HYz.out).mono ?_
      rintro e w' ⟨rfl, rfl⟩
      go_wp2_with fail
      refine (size_any HDz.out).mono ?_
      rintro e w' ⟨rfl, rfl⟩
      rw [HNZ.out.1]
      go_wp2_with fail
      refine (read_any HDz.out (by omega) (by omega) (by omega)).mono ?_
      rw [HRZ.out]
      rintro e wp ⟨vp, rfl, hvp, hfp⟩
      have HVP := Lib.hid hvp
      have HFP := Lib.hid hfp
      clear hvp hfp
      go_wp2_with fail
      refine (size_any (HDz.out.no HFP.out)).mono ?_
      rintro e w' ⟨rfl, rfl⟩
      rw [HNZ.out.1]
      go_wp2_with fail
      refine (refread_any (HYz.out.fr HFP.out (fun _ _ _ h => h)) (by omega) (by omega) (by omega) (by omega) (by omega)).mono ?_
      rw [HZ.out.2.2.1, HRZ.out]
      rintro e wq ⟨vq, rfl, hvq, hfq⟩
      have HVQ := Lib.hid hvq
      have HFQ := Lib.hid hfq
      clear hvq hfq
      go_wp2_with fail
      refine (samebytes_yes (HVP.out.reads.fr HFQ.out (fun _ _ _ h => h)) HVQ.out.reads rfl).mono ?_
      rintro e w' ⟨rfl, rfl⟩
      go_wp2_with fail
      go_ret2
      have hz := HZ.out
      exact (show StepPost _ _ _ _ _ _ _ from ⟨_, dz, rfl, (hz.1.quiet HFP.out).quiet HFQ.out, hz.2.1, hz.2.2.1, hz.2.2.2.1, (hz.2.2.2.2.1.trans HFP.out (fun _ _ h => h) (fun _ _ h => h.elim)).trans HFQ.out (fun _ _ h => h) (fun _ _ h => h.elim)⟩)
    · by_cases ha2 : act = 2
      · subst ha2
        go_enter Try.func29, Try.ntmps29
        go_wp2_with fail
        rw [← hw1.out]
        refine ((HD1.out.less (G' := fun k => k < B ∨ k = w.heap.size) (fun k hk => by omega)).turnX (fun k hk => by have := HS1.out; omega) (fun O R _ hD => crash_any hD (by have := hW.out; omega) keep tear hkeep)).mono ?_
        rintro e w2 ⟨rfl, hD2, hf2⟩
        have hb2 := hf2.heap HBLK.out (fun h => h (.inr rfl))
        have f1 := blk_cell hb2 1
        have f4 := blk_cell hb2 4
        have f5 := blk_cell hb2 5
        simp only [List.getElem?_toArray, List.getElem?_cons_zero, List.getElem?_cons_succ] at f1 f4 f5
        have HD2 := Lib.hid hD2
        have HF2 := Lib.hid hf2
        clear hD2 hf2 hb2
        go_wp2_with fail
        refine (HD2.out.turnY (fun k hk => by have := HS1.out; have := HF2.out.size; omega) (fun O R _ hY => refcrash_any hY (by have := hW.out; omega) keep tear hkeep)).mono ?_
        rintro e w3 ⟨rfl, hD3, hf3⟩
        obtain ⟨dz, hdz⟩ : ∃ dz : Dk, Hid (dz = ⟨crashS d.safe (keptW d.waits keep d.waits.length) tear, crashS d.safe (keptW d.waits keep d.waits.length) tear, []⟩) := ⟨_, rfl⟩
        have hcl : (crashS d.safe (keptW d.waits keep d.waits.length) tear).length = n := (crashS_length (fun x hx => by rw [hsl.out]; exact hfit.out x (keptW_mem hx))).trans hsl.out
        have HZ : Hid (Duo w3 (fun k => k < B) (.pointer (some ⟨bx, 0, none⟩)) (.pointer (some ⟨by_, 0, none⟩)) dz dz.safe dz.waits ∧ dz.now.length = n ∧ applyW dz.safe dz.waits = dz.now ∧ dz.waits.length ≤ m + 1 ∧ Fr (fun k => B ≤ k) w w3 ∧ dz.safe.length = n) := by
          refine (show _ ∧ _ from ⟨?_, by rw [hdz.out]; exact hcl, by rw [hdz.out]; rfl, by rw [hdz.out]; simp, ?_, by rw [hdz.out]; exact hcl⟩)
          · rw [hdz.out]; exact hD3.less (fun k hk => .inl hk)
          · exact ((HF1.out.trans HF2.out (fun _ _ h => h.elim) (fun k _ hk => by omega)).trans hf3 (fun _ _ h => h) (fun k _ hk => by omega))
        clear hD3 hf3 hcl
        obtain ⟨Oz, Rz, hDz, _⟩ := HZ.out.1.disk
        obtain ⟨Oy, Ry, hYz, _⟩ := HZ.out.1.doc
        have HDz := Lib.hid hDz
        have HYz := Lib.hid hYz
        have hnz : (dz.now.length : Int) = (n : Int) := by rw [HZ.out.2.1]
        have hsz : (dz.safe.length : Int) = (n : Int) := by rw [HZ.out.2.2.2.2.2]
        have HNZ := Lib.hid (And.intro hnz hsz)
        have hmz : dz.waits.length ≤ 2000 := by have := HZ.out.2.2.2.1; omega
        have HRZ : Hid (readB dz.now 0 (n : Int) = dz.now) := (show _ = _ from readB_whole HZ.out.2.1)
        clear hDz hYz hnz hsz
        go_wp2_with fail
        refine (size_any HDz.out).mono ?_
        rintro e w' ⟨rfl, rfl⟩
        rw [HNZ.out.1]
        go_wp2_with fail
        refine (refsize_any HYz.out).mono ?_
        rintro e w' ⟨rfl, rfl⟩
        rw [HNZ.out.2]
        go_wp2_with fail
        refine (waiting_any HDz.out).mono ?_
        rintro e w' ⟨rfl, rfl⟩
        go_wp2_with fail
        refine (refwaiting_any HYz.out).mono ?_
        rintro e w' ⟨rfl, rfl⟩
        go_wp2_with fail
        refine (size_any HDz.out).mono ?_
        rintro e w' ⟨rfl, rfl⟩
        rw [HNZ.out.1]
        go_wp2_with fail
        refine (read_any HDz.out (by omega) (by omega) (by omega)).mono ?_
        rw [HRZ.out]
        rintro e wp ⟨vp, rfl, hvp, hfp⟩
        have HVP := Lib.hid hvp
        have HFP := Lib.hid hfp
        clear hvp hfp
        go_wp2_with fail
        refine (size_any (HDz.out.no HFP.out)).mono ?_
        rintro e w' ⟨rfl, rfl⟩
        rw [HNZ.out.1]
        go_wp2_with fail
        refine (refread_any (HYz.out.fr HFP.out (fun _ _ _ h => h)) (by omega) (by omega) (by omega) (by omega) (by omega)).mono ?_
        rw [HZ.out.2.2.1, HRZ.out]
        rintro e wq ⟨vq, rfl, hvq, hfq⟩
        have HVQ := Lib.hid hvq
        have HFQ := Lib.hid hfq
        clear hvq hfq
        go_wp2_with fail
        refine (samebytes_yes (HVP.out.reads.fr HFQ.out (fun _ _ _ h => h)) HVQ.out.reads rfl).mono ?_
        rintro e w' ⟨rfl, rfl⟩
        go_wp2_with fail
        go_ret2
        have hz := HZ.out
        exact (show StepPost _ _ _ _ _ _ _ from ⟨_, dz, rfl, (hz.1.quiet HFP.out).quiet HFQ.out, hz.2.1, hz.2.2.1, hz.2.2.2.1, (hz.2.2.2.2.1.trans HFP.out (fun _ _ h => h) (fun _ _ h => h.elim)).trans HFQ.out (fun _ _ h => h) (fun _ _ h => h.elim)⟩)
      · by_cases ha3 : act = 3
        · subst ha3
          have hmk := fun (W : World) => run_make_row' (P := Try.prog) 22 5 (.int .u8 0) 1 Try.underlying22 info5 rfl .i64 .i64 n (by omega) (by omega) W
          go_enter Try.func29, Try.ntmps29
          go_wp2_with fail
          rw [← hw1.out]
          refine ((HD1.out.less (G' := fun k => k < B) (fun k hk => .inl hk)).copy (fun k hk => by have := HS1.out; omega) (fun O R hD => copy_any hD (by have := hW.out; omega))).mono ?_
          rintro e w2 ⟨z, rfl, hf2, O, R, hDx, hOG, hD2⟩
          obtain ⟨⟨bz, rfl⟩, _⟩ := hD2.ptr
          have HDX := Lib.hid hDx
          have HF2 := Lib.hid hf2
          have HD2 := Lib.hid hD2
          have HOG := Lib.hid hOG
          clear hDx hf2 hD2 hOG c0 c1 c2 c3 c4 c5
          go_wp2_with fail
          refine (size_any HDX.out).mono ?_
          rintro e w' ⟨rfl, rfl⟩
          rw [hN.out]
          go_wp2_with fail
          obtain ⟨w3, hw3⟩ : ∃ w3, Hid (w3 = w2.alloc (.cells (madeCells #[.int .u8 0] n) 5 (0, 0))) := ⟨_, rfl⟩
          rw [← hw3.out]
          have hf3 : Fr No w2 w3 := by rw [hw3.out]; exact (Fr.refl _ _).alloc _
          have hz3 : Rb w3 (fun k => k = w2.heap.size) (.slice (some ⟨w2.heap.size, 0, none⟩) n n) (List.replicate n (0 : UInt8)) := by
            have h2 := ow_zeros w3 (m := n) (by omega) (by rw [hw3.out]; exact blk_new _ _)
            exact Ow.reads (l := List.replicate n (0 : UInt8)) (by rw [List.length_replicate]; exact h2)
          have hzl : (List.replicate n (0 : UInt8)).length = n := List.length_replicate
          refine (write_yes (a := 0) (HDX.out.no hf3) hz3 (fun k hk ho => by have := HDX.out.lt k (.inl ho); omega) (by rw [hzl, hN.out]; omega) (by have := hW.out; omega)).mono ?_
          rintro e w4 ⟨O4, R4, rfl, hDx4, hO4, hR4, hf4⟩
          have HF4 := Lib.hid hf4
          have HDX4 := Lib.hid hDx4
          have HO4 := Lib.hid hO4
          have HD4 : Hid (Duo w4 (fun k => (k < B ∨ O k) ∨ w3.heap.size ≤ k) (.pointer (some ⟨bz, 0, none⟩)) (.pointer (some ⟨by_, 0, none⟩)) d d.safe d.waits) := (show Duo _ _ _ _ _ _ _ from (HD2.out.quiet hf3).moreFar hf4 (fun k _ hk => .inr hk))
          have HF3 := Lib.hid hf3
          clear hDx4 hO4 hR4 hf4 hz3 hzl hf3
          go_wp2_with fail
          refine (sync_any HDX4.out (by have := hW.out; simp; omega)).mono ?_
          rintro e w5 ⟨O5, R5, rfl, hDx5, hO5, hR5, hf5⟩
          obtain ⟨dz, hdz⟩ : ∃ dz : Dk, Hid (dz = d) := ⟨_, rfl⟩
          have HZ : Hid (Duo w5 (fun k => k < B) (.pointer (some ⟨bz, 0, none⟩)) (.pointer (some ⟨by_, 0, none⟩)) dz dz.safe dz.waits ∧ dz.now.length = n ∧ applyW dz.safe dz.waits = dz.now ∧ dz.waits.length ≤ m + 1 ∧ Fr (fun k => B ≤ k) w w5 ∧ dz.safe.length = n) := by
            have hdd := hdz.out
            subst hdd
            refine (show _ ∧ _ from ⟨?_, hN.out, hAP.out, by have := hW.out; omega, ?_, hsl.out⟩)
            · exact (HD4.out.far hf5 (fun k _ hk => (HO4.out k hk).imp (fun h => .inr h) id)).less (fun k hk => .inl (.inl hk))
            · have hs := HS1.out
              have hs2 := HF2.out.size
              have hs3 := HF3.out.size
              refine ((((HF1.out.trans HF2.out (fun _ _ h => h) (fun _ _ h => h)).trans HF3.out (fun _ _ h => h) (fun _ _ h => h)).trans (U := fun k => B ≤ k) HF4.out (fun _ _ h => h.elim) (fun k _ h => by have := HOG.out k h; omega))).trans hf5 (fun _ _ h => h) (fun k hk h => ?_)
              rcases HO4.out k h with h | h
              · have := HOG.out k h; omega
              · omega
          clear hDx5 hO5 hR5 hf5
          obtain ⟨Oz, Rz, hDz, _⟩ := HZ.out.1.disk
          obtain ⟨Oy, Ry, hYz, _⟩ := HZ.out.1.doc
          have HDz := Lib.hid hDz
          have HYz := Lib.hid hYz
          have hnz : (dz.now.length : Int) = (n : Int) := by rw [HZ.out.2.1]
          have hsz : (dz.safe.length : Int) = (n : Int) := by rw [HZ.out.2.2.2.2.2]
          have HNZ := Lib.hid (And.intro hnz hsz)
          have hmz : dz.waits.length ≤ 2000 := by have := HZ.out.2.2.2.1; omega
          have HRZ : Hid (readB dz.now 0 (n : Int) = dz.now) := (show _ = _ from readB_whole HZ.out.2.1)
          clear hDz hYz hnz hsz
          go_wp2_with fail
          refine (size_any HDz.out).mono ?_
          rintro e w' ⟨rfl, rfl⟩
          rw [HNZ.out.1]
          go_wp2_with fail
          refine (refsize_any HYz.out).mono ?_
          rintro e w' ⟨rfl, rfl⟩
          rw [HNZ.out.2]
          go_wp2_with fail
          refine (waiting_any HDz.out).mono ?_
          rintro e w' ⟨rfl, rfl⟩
          go_wp2_with fail
          refine (refwaiting_any HYz.out).mono ?_
          rintro e w' ⟨rfl, rfl⟩
          go_wp2_with fail
          refine (size_any HDz.out).mono ?_
          rintro e w' ⟨rfl, rfl⟩
          rw [HNZ.out.1]
          go_wp2_with fail
          refine (read_any HDz.out (by omega) (by omega) (by omega)).mono ?_
          rw [HRZ.out]
          rintro e wp ⟨vp, rfl, hvp, hfp⟩
          have HVP := Lib.hid hvp
          have HFP := Lib.hid hfp
          clear hvp hfp
          go_wp2_with fail
          refine (size_any (HDz.out.no HFP.out)).mono ?_
          rintro e w' ⟨rfl, rfl⟩
          rw [HNZ.out.1]
          go_wp2_with fail
          refine (refread_any (HYz.out.fr HFP.out (fun _ _ _ h => h)) (by omega) (by omega) (by omega) (by omega) (by omega)).mono ?_
          rw [HZ.out.2.2.1, HRZ.out]
          rintro e wq ⟨vq, rfl, hvq, hfq⟩
          have HVQ := Lib.hid hvq
          have HFQ := Lib.hid hfq
          clear hvq hfq
          go_wp2_with fail
          refine (samebytes_yes (HVP.out.reads.fr HFQ.out (fun _ _ _ h => h)) HVQ.out.reads rfl).mono ?_
          rintro e w' ⟨rfl, rfl⟩
          go_wp2_with fail
          go_ret2
          have hz := HZ.out
          exact (show StepPost _ _ _ _ _ _ _ from ⟨_, dz, rfl, (hz.1.quiet HFP.out).quiet HFQ.out, hz.2.1, hz.2.2.1, hz.2.2.2.1, (hz.2.2.2.2.1.trans HFP.out (fun _ _ h => h) (fun _ _ h => h.elim)).trans HFQ.out (fun _ _ h => h) (fun _ _ h => h.elim)⟩)
        · go_enter Try.func29, Try.ntmps29
          go_wp2_with fail
          rw [← hw1.out]
          obtain ⟨Ox, Rx, hDx, _⟩ := HD1.out.disk
          obtain ⟨Oy, Ry, hDy, _⟩ := HD1.out.doc
          have HDX := Lib.hid hDx
          have HDY := Lib.hid hDy
          clear hDx hDy
          obtain ⟨L, hL⟩ : ∃ L, Hid (L = readB d.now at_ nn) := ⟨_, rfl⟩
          have hL4 : Hid (L.length ≤ 400) := (show L.length ≤ 400 from by rw [hL.out]; exact Nat.le_trans (readB_le _ _ _) (by rw [hN.out]; omega))
          refine (read_any HDX.out HAT.out.1 HAT.out.2 HNN.out.2).mono ?_
          rw [← hL.out]
          rintro e w2 ⟨v11, rfl, hown, hf2⟩
          obtain ⟨A8, c8, rfl, _, _⟩ := hown.shape
          have OWN2 : Hid (Ow w2 (fun k => (Value.slice A8 L.length c8).ownBlock = some k) 5 1 (.slice A8 L.length c8) L.length (L.map enc8)) := (show Ow _ _ _ _ _ _ _ from hown.just)
          have hnew8 : Hid (∀ k, (Value.slice A8 L.length c8).ownBlock = some k → w1.heap.size ≤ k) := (show ∀ k, (Value.slice A8 L.length c8).ownBlock = some k → w1.heap.size ≤ k from fun k hk => hown.2 k hk)
          have HF2 := Lib.hid hf2
          have hb2 := hf2.heap HBLK.out (fun h => h)
          have f1 := blk_cell hb2 1
          have f2 := blk_cell hb2 2
          simp only [List.getElem?_toArray, List.getElem?_cons_zero, List.getElem?_cons_succ] at f1 f2
          have HD2 : Hid (Duo w2 (fun k => (k < B ∨ w.heap.size ≤ k) ∨ w1.heap.size ≤ k) (.pointer (some ⟨bx, 0, none⟩)) (.pointer (some ⟨by_, 0, none⟩)) d d.safe d.waits) := (show Duo _ _ _ _ _ _ _ from HD1.out.more hf2)
          clear hown hf2 hb2 c0 c1 c2 c3 c4 c5
          go_wp2_with fail
          refine (refread_any (HDY.out.fr HF2.out (fun _ _ _ h => h)) (by have := hW.out; omega) HAT.out.1 HAT.out.2 HNN.out.1 HNN.out.2).mono ?_
          rw [hAP.out, ← hL.out]
          rintro e w3 ⟨v27, rfl, hown3, hf3⟩
          have OWN : Hid (Ow w3 (fun k => (Value.slice A8 L.length c8).ownBlock = some k) 5 1 (.slice A8 L.length c8) L.length (L.map enc8)) := (show Ow _ _ _ _ _ _ _ from OWN2.out.fr hf3 (fun k _ hk h => h))
          have HO3 := Lib.hid hown3
          have HF3 := Lib.hid hf3
          clear hown3 hf3
          go_wp2_with fail
          refine (samebytes_yes OWN.out.reads HO3.out.reads rfl).mono ?_
          rintro e w' ⟨rfl, rfl⟩
          have hL5 : L.length ≤ 400 := hL4.out
          go_wp2_with fail
          go_loopw [33] (fun i wr => ∃ k : Nat, k ≤ L.length ∧ i = .int .i64 k ∧ Hid (∃ cells, Ow wr (fun k => (Value.slice A8 L.length c8).ownBlock = some k) 5 1 (.slice A8 L.length c8) L.length cells ∧ Fr (fun k => (Value.slice A8 L.length c8).ownBlock = some k) w3 wr)) (fun i _ => L.length - (intOf i).toNat)
          case atStart => exact ⟨0, Nat.zero_le _, rfl, (show ∃ cells, _ ∧ _ from ⟨_, OWN.out, Fr.refl _ _⟩)⟩
          case round =>
            obtain ⟨k, hk, rfl, HR⟩ := hrel
            by_cases hlt : k < L.length
            · obtain ⟨cells, hrow, hfr⟩ := HR.out
              obtain ⟨g, c7, cur, he3, hg, hblk7, _, _, hcs7, _⟩ := hrow.form (by omega)
              cases he3
              have hcur : k < cur.size := by omega
              obtain ⟨old, g1⟩ : ∃ old, wr.cell? ⟨g, k, none⟩ = some old := ⟨cur[k], by rw [blk_cell hblk7, Array.getElem?_eq_getElem hcur]⟩
              have g2 : wr.frozen? ⟨g, k, none⟩ = false := blk_free hblk7 _
              have HR2 : Hid (∃ cells, Ow (wr.setCell ⟨g, k, none⟩ (.int .u8 99)) (fun k => (Value.slice (some ⟨g, 0, none⟩) L.length c8).ownBlock = some k) 5 1 (.slice (some ⟨g, 0, none⟩) L.length c8) L.length cells ∧ Fr (fun k => (Value.slice (some ⟨g, 0, none⟩) L.length c8).ownBlock = some k) w3 (wr.setCell ⟨g, k, none⟩ (.int .u8 99))) := (show ∃ cells, _ ∧ _ from ⟨_, hrow.set k _, hfr.setCell ⟨g, k, none⟩ _ (fun _ => hg)⟩)
              clear hblk7 hcs7 hrow hfr
              go_wp2_with fail
              go_roundw
              case rel => exact ⟨k + 1, by omega, by go_num, HR2⟩
              case measure => simp [intOf]; omega
            · have hkl : k = L.length := by omega
              subst hkl
              clear hlt
              obtain ⟨cells, hrow, hfr⟩ := HR.out
              have HFL := Lib.hid hfr
              clear hrow hfr
              obtain ⟨dz, hdz⟩ : ∃ dz : Dk, Hid (dz = d) := ⟨_, rfl⟩
              have HZ : Hid (Duo wr (fun k => k < B) (.pointer (some ⟨bx, 0, none⟩)) (.pointer (some ⟨by_, 0, none⟩)) dz dz.safe dz.waits ∧ dz.now.length = n ∧ applyW dz.safe dz.waits = dz.now ∧ dz.waits.length ≤ m + 1 ∧ Fr (fun k => B ≤ k) w wr ∧ dz.safe.length = n) := by
                have hdd := hdz.out
                subst hdd
                refine (show _ ∧ _ from ⟨?_, hN.out, hAP.out, by have := hW.out; omega, ?_, hsl.out⟩)
                · exact ((HD2.out.quiet HF3.out).far HFL.out (fun k _ hk => .inr (hnew8.out k hk))).less (fun k hk => .inl (.inl hk))
                · have hs := HS1.out
                  refine (((HF1.out.trans HF2.out (fun _ _ h => h) (fun _ _ h => h)).trans HF3.out (fun _ _ h => h) (fun _ _ h => h))).trans (U := fun k => B ≤ k) HFL.out (fun _ _ h => h.elim) (fun k hk h => by have := hnew8.out k h; omega)
              obtain ⟨Oz, Rz, hDz, _⟩ := HZ.out.1.disk
              obtain ⟨Oy, Ry, hYz, _⟩ := HZ.out.1.doc
              have HDz := Lib.hid hDz
              have HYz := Lib.hid hYz
              have hnz : (dz.now.length : Int) = (n : Int) := by rw [HZ.out.2.1]
              have hsz : (dz.safe.length : Int) = (n : Int) := by rw [HZ.out.2.2.2.2.2]
              have HNZ := Lib.hid (And.intro hnz hsz)
              have hmz : dz.waits.length ≤ 2000 := by have := HZ.out.2.2.2.1; omega
              have HRZ : Hid (readB dz.now 0 (n : Int) = dz.now) := (show _ = _ from readB_whole HZ.out.2.1)
              clear hDz hYz hnz hsz
              go_wp2_with fail
              refine (size_any HDz.out).mono ?_
              rintro e w' ⟨rfl, rfl⟩
              rw [HNZ.out.1]
              go_wp2_with fail
              refine (refsize_any HYz.out).mono ?_
              rintro e w' ⟨rfl, rfl⟩
              rw [HNZ.out.2]
              go_wp2_with fail
              refine (waiting_any HDz.out).mono ?_
              rintro e w' ⟨rfl, rfl⟩
              go_wp2_with fail
              refine (refwaiting_any HYz.out).mono ?_
              rintro e w' ⟨rfl, rfl⟩
              go_wp2_with fail
              refine (size_any HDz.out).mono ?_
              rintro e w' ⟨rfl, rfl⟩
              rw [HNZ.out.1]
              go_wp2_with fail
              refine (read_any HDz.out (by omega) (by omega) (by omega)).mono ?_
              rw [HRZ.out]
              rintro e wp ⟨vp, rfl, hvp, hfp⟩
              have HVP := Lib.hid hvp
              have HFP := Lib.hid hfp
              clear hvp hfp
              go_wp2_with fail
              refine (size_any (HDz.out.no HFP.out)).mono ?_
              rintro e w' ⟨rfl, rfl⟩
              rw [HNZ.out.1]
              go_wp2_with fail
              refine (refread_any (HYz.out.fr HFP.out (fun _ _ _ h => h)) (by omega) (by omega) (by omega) (by omega) (by omega)).mono ?_
              rw [HZ.out.2.2.1, HRZ.out]
              rintro e wq ⟨vq, rfl, hvq, hfq⟩
              have HVQ := Lib.hid hvq
              have HFQ := Lib.hid hfq
              clear hvq hfq
              go_wp2_with fail
              refine (samebytes_yes (HVP.out.reads.fr HFQ.out (fun _ _ _ h => h)) HVQ.out.reads rfl).mono ?_
              rintro e w' ⟨rfl, rfl⟩
              go_wp2_with fail
              go_ret2
              have hz := HZ.out
              exact (show StepPost _ _ _ _ _ _ _ from ⟨_, dz, rfl, (hz.1.quiet HFP.out).quiet HFQ.out, hz.2.1, hz.2.2.1, hz.2.2.2.1, (hz.2.2.2.2.1.trans HFP.out (fun _ _ h => h) (fun _ _ h => h.elim)).trans HFQ.out (fun _ _ h => h) (fun _ _ h => h.elim)⟩)
end Go.Proofs.Ytbaohngnpgappaa
