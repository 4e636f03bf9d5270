/- The document's answer for the disk: New, Size, Waiting, Write, Sync, Read. -/
import Derived.Test.YtbaohngnpgappaaE0
set_option linter.unusedVariables false
set_option linter.unusedSimpArgs false
namespace Go.Proofs.Ytbaohngnpgappaa
open Go.RowKit
structure RefAt (w : World) (O R : Nat → Prop) (bp : Nat) (vb vl : Value) (s : List UInt8) (ws : List (Nat × List UInt8)) : Prop where
  top : O bp
  hp : w.heap[bp]? = some (.cells #[vb, vl] 103 (0, 0))
  hs : Rb w R vb s
  hw : OwK WaitK 131 w (fun k => O k ∧ k ≠ bp) R vl ws
  hd : ∀ k, O k → ¬ R k
  hb : ∀ k, O k ∨ R k → k < w.heap.size
  hm : s.length ≤ 1048576
  hv : ∀ x ∈ ws, x.1 + x.2.length ≤ s.length
def RefIs (w : World) (O R : Nat → Prop) (p : Value) (s : List UInt8) (ws : List (Nat × List UInt8)) : Prop := ∃ bp vb vl, p = .pointer (some ⟨bp, 0, none⟩) ∧ RefAt w O R bp vb vl s ws
theorem RefIs.fr {w w' : World} {O R S : Nat → Prop} {p : Value} {s : List UInt8} {ws : List (Nat × List UInt8)} (h : RefIs w O R p s ws) (hf : Fr S w w') (hs : ∀ k, k < w.heap.size → O k ∨ R k → ¬ S k) : RefIs w' O R p s ws := by
  obtain ⟨bp, vb, vl, rfl, h⟩ := h
  exact ⟨bp, vb, vl, rfl, h.top, hf.heap h.hp (hs _ (h.hb _ (.inl h.top)) (.inl h.top)), h.hs.fr hf (fun k hk hR => hs k hk (.inr hR)), h.hw.fr hf (fun k hk ho => hs k hk (ho.imp (·.1) id)), h.hd, fun k hk => Nat.lt_of_lt_of_le (h.hb k hk) hf.size, h.hm, h.hv⟩
theorem RefIs.lt {w : World} {O R : Nat → Prop} {p : Value} {s : List UInt8} {ws : List (Nat × List UInt8)} (h : RefIs w O R p s ws) : ∀ k, O k ∨ R k → k < w.heap.size := by
  obtain ⟨_, _, _, rfl, h⟩ := h; exact h.hb
theorem RefIs.apart {w : World} {O R : Nat → Prop} {p : Value} {s : List UInt8} {ws : List (Nat × List UInt8)} (h : RefIs w O R p s ws) : ∀ k, O k → ¬ R k := by
  obtain ⟨_, _, _, rfl, h⟩ := h; exact h.hd
theorem RefIs.ptr {w : World} {O R : Nat → Prop} {p : Value} {s : List UInt8} {ws : List (Nat × List UInt8)} (h : RefIs w O R p s ws) : ∃ bp, p = .pointer (some ⟨bp, 0, none⟩) := by
  obtain ⟨bp, _, _, rfl, h⟩ := h; exact ⟨bp, rfl⟩
def RefPost (w : World) (O R : Nat → Prop) (p v : Value) (s : List UInt8) (ws : List (Nat × List UInt8)) (e : Ending) (w' : World) : Prop :=
  ∃ O' R', e = .returned v ∧ RefIs w' O' R' p s ws ∧ (∀ k, O' k → O k ∨ w.heap.size ≤ k) ∧ (∀ k, R' k → R k ∨ w.heap.size ≤ k) ∧ Fr O w w'
theorem refnew_any (n : Int) (w : World) :
    Calls Try.prog 28 #[.int .i64 n] w fun e w' => ∃ p O R, e = .returned p ∧ RefIs w' O R p (List.replicate (clampI n) 0) [] ∧ (∀ k, O k ∨ R k → w.heap.size ≤ k) ∧ Fr No w w' := by
  obtain ⟨m, hm⟩ : ∃ m : Nat, m = clampI n := ⟨_, rfl⟩
  have hm2 : m ≤ 1048576 := by rw [hm]; unfold clampI; omega
  have hmm : Hid ((min (max n 0) 1048576 : Int) = (m : Int)) := by rw [hm]; unfold clampI; show _ = _; omega
  have H := Lib.hid hm
  clear hm
  have hmk := fun (W : World) => run_make_row' (P := Try.prog) 22 5 (.int .u8 0) 1 Try.underlying22 info5 rfl .i64 .i64 m (by omega) (by omega) W
  go_enter Try.func28, Try.ntmps28
  go_wp2_with (first | ((with_reducible refine at_dst 4 rfl ?_); refine wpList_max rfl (.tmp 3) (.const (.int .i64 0)) _ rfl _ _ rfl rfl ?_) | ((with_reducible refine at_dst 5 rfl ?_); refine wpList_min rfl (.tmp 4) (.const (.int .i64 1048576)) _ rfl _ _ rfl rfl ?_; rw [hmm.out]))
  go_ret
  rw [← H.out]
  have h1 : ((w.alloc (.cells (madeCells #[.int .u8 0] m) 5 (0, 0))).alloc (.cells #[.slice (some ⟨w.heap.size, 0, none⟩) m m, .slice none 0 0] 103 (0, 0))).heap[w.heap.size]? = some (.cells (madeCells #[.int .u8 0] m) 5 (0, 0)) := blk_alloc (blk_new _ _) _
  refine ⟨_, fun k => k = w.heap.size + 1, fun k => k = w.heap.size, rfl, ⟨_, _, _, rfl, rfl, blk_new' (by simp), ?_, OwK.nil _ _ _ _ _, ?_, ?_, ?_, ?_⟩, ?_, ((Fr.refl _ w).alloc _).alloc _⟩
  · have h2 := ow_zeros _ hm2 h1
    have := (Ow.reads (l := List.replicate m (0 : UInt8)) (by rw [List.length_replicate]; exact h2))
    exact this
  · intro k h1 h2; omega
  · intro k hk; simp; omega
  · rw [List.length_replicate]; exact hm2
  · simp
  · intro k hk; omega
theorem refsize_any {w : World} {O R : Nat → Prop} {p : Value} {s : List UInt8} {ws : List (Nat × List UInt8)} (h : RefIs w O R p s ws) : Calls Try.prog 69 #[p] w fun e w' => e = .returned (.int .i64 (s.length : Int)) ∧ w = w' := by
  obtain ⟨bp, vb, vl, rfl, h⟩ := h
  obtain ⟨A, c, rfl, _, _⟩ := h.hs.shape
  have h0 := blk_cell h.hp 0
  simp only [List.getElem?_toArray, List.getElem?_cons_succ, List.getElem?_cons_zero] at h0
  clear h
  go_enter Try.func69, Try.ntmps69
  go_wp2
  go_ret
  exact ⟨rfl, rfl⟩
theorem refwaiting_any {w : World} {O R : Nat → Prop} {p : Value} {s : List UInt8} {ws : List (Nat × List UInt8)} (h : RefIs w O R p s ws) : Calls Try.prog 70 #[p] w fun e w' => e = .returned (.int .i64 (ws.length : Int)) ∧ w = w' := by
  obtain ⟨bp, vb, vl, rfl, h⟩ := h
  obtain ⟨A, c, rfl, _, _⟩ := h.hw.shape
  have h1 := blk_cell h.hp 1
  simp only [List.getElem?_toArray, List.getElem?_cons_succ, List.getElem?_cons_zero] at h1
  clear h
  go_enter Try.func70, Try.ntmps70
  go_wp2
  go_ret
  exact ⟨rfl, rfl⟩
theorem refwrite_no {w : World} {O R F : Nat → Prop} {p vb' : Value} {s b : List UInt8} {ws : List (Nat × List UInt8)} {at_ : Int} (h : RefIs w O R p s ws) (hb : Rb w F vb' b) (hno : at_ < 0 ∨ at_ > (s.length : Int) - b.length) :
    Calls Try.prog 65 #[p, .int .i64 at_, vb'] w fun e w' => e = .returned (.int .i64 210) ∧ w = w' := by
  obtain ⟨bp, vb, vl, rfl, h⟩ := h
  obtain ⟨A, c, rfl, _, _⟩ := h.hs.shape
  obtain ⟨A', c', rfl, _, _⟩ := hb.shape
  have h0 := blk_cell h.hp 0
  simp only [List.getElem?_toArray, List.getElem?_cons_succ, List.getElem?_cons_zero] at h0
  have hm := h.hm
  clear h
  have hbl : (b.length : Int) ≤ 9223372036854775807 := by
    obtain ⟨_, _, _, _, h⟩ := hb.shape
    simp only [maxLen] at h; omega
  clear hb
  by_cases h1 : at_ < 0
  · clear hno
    go_enter Try.func65, Try.ntmps65
    go_wp2
    go_ret
    exact ⟨rfl, rfl⟩
  · have h1' : 0 ≤ at_ := by omega
    by_cases h2 : (s.length : Int) < at_
    · clear hno h1
      go_enter Try.func65, Try.ntmps65
      go_wp2
      go_ret
      exact ⟨rfl, rfl⟩
    · have h2' : at_ ≤ s.length := by omega
      have h3 : (s.length : Int) - at_ < b.length := by omega
      clear hno h1 h2
      go_enter Try.func65, Try.ntmps65
      go_wp2
      go_ret
      exact ⟨rfl, rfl⟩
theorem info131 : (Try.prog.info? 131).map (fun i => (i.zero, i.size, i.bytes)) = some (some (.agg #[.int .i64 0, .slice none 0 0]), 2, 32) := by kernel_rfl
set_option maxHeartbeats 1000000 in
theorem refwrite_yes {w : World} {O R F : Nat → Prop} {p vb' : Value} {s b : List UInt8} {ws : List (Nat × List UInt8)} {a : Nat} (h : RefIs w O R p s ws) (hb : Rb w F vb' b) (hyes : a + b.length ≤ s.length) (hws : ws.length ≤ 1000000) :
    Calls Try.prog 65 #[p, .int .i64 a, vb'] w (RefPost w O R p (.int .i64 0) s (ws ++ [(a, b)])) := by
  obtain ⟨bp, vb, vl, rfl, h⟩ := h
  obtain ⟨A, c, rfl, _, _⟩ := h.hs.shape
  obtain ⟨Aw, cw, rfl, _, _⟩ := h.hw.shape
  obtain ⟨A', c', rfl, _, _⟩ := hb.shape
  obtain ⟨_, _, he, _, _, hnews⟩ := hb.news
  cases he
  have h0 := blk_cell h.hp 0
  have h1 := blk_cell h.hp 1
  simp only [List.getElem?_toArray, List.getElem?_cons_succ, List.getElem?_cons_zero] at h0 h1
  have hm := h.hm
  have H := Lib.hid h
  have HB := Lib.hid hb
  have HN := Lib.hid hnews
  clear h hb hnews
  have hs0 : (0 : Int) ≤ (a : Int) := by omega
  have hs1 : (a : Int) ≤ (s.length : Int) := by omega
  have hs2 : (b.length : Int) ≤ (s.length : Int) - (a : Int) := by omega
  go_enter Try.func65, Try.ntmps65
  go_wp2_with fail
  refine wp_seq_region (fun W => W.cell? ⟨bp, 1, none⟩ = some (Value.slice Aw ws.length cw)) [7, 9, 10, 13] [4] [13] [0, 1, 2, 3, 4, 5, 6, 7, 8, 9, 10, 11, 12, 13] (by kernel_rfl) (by kernel_rfl) rfl (by kernel_rfl) (fun _ _ _ _ _ h => h) ?_
  have HS : Hid (w.drew.cell? ⟨bp, 1, none⟩ = some (Value.slice Aw ws.length cw)) := (show _ = _ from h1)
  repeat (first
    | (refine sq_off (a' := ?_) rfl rfl (by rfl) (fun _ => (HS).out) ?ha ?_; (case ha => simp only [Act.put, List.setIfInBounds_toArray, List.set_cons_zero, List.set_cons_succ]; rfl))
    | (refine sq_any (v := ?_) (a' := ?_) rfl rfl rfl (by rfl) (fun W => ?hr) ?ha ?_; (case hr => go_simp; first | done | rfl); (case ha => simp only [Act.put, List.setIfInBounds_toArray, List.set_cons_zero, List.set_cons_succ]; rfl))
    | (refine sq_load (v := ?_) (a' := ?_) rfl rfl rfl (by rfl) (fun W hSW => ?hr) (HS).out ?ha ?_; (case hr => (try dsimp only at hSW); go_simp; first | done | rfl); (case ha => simp only [Act.put, List.setIfInBounds_toArray, List.set_cons_zero, List.set_cons_succ]; rfl)))
  refine sq_app (O := No) rfl rfl (by rfl) (.const (.slice none 0 0)) (.tmp 36) 22 5 rfl _ 1 1 Try.underlying22 info5 rfl (by omega) (by omega) (.slice none 0 0) 0 [] rfl _ b.length _ rfl (Ow.nil _ _ _ _) (b.map enc8) (by simp) HN.out (one8 _) (by omega) ?_
  intro v1 w1 hown1 hfr1
  rw [List.nil_append, Nat.zero_add] at hown1
  have hown1 : Ow w1 (fun k => k = w.heap.size) 5 1 v1 b.length (b.map enc8) := hown1.mono fun k hk => by rcases hk with hk | hk; (simp [Value.ownBlock] at hk); exact hk
  have hf1 : Fr No w w1 := ((Fr.refl No w).drew).then (hfr1.mono (fun k _ h => by simp [Value.ownBlock] at h))
  obtain ⟨A2, c2, rfl, _, _⟩ := hown1.shape
  have HO1 := Lib.hid hown1
  have HF1 := Lib.hid hf1
  have hn1 := hf1.cell h1 (fun h => h)
  clear hown1 hfr1 hf1
  refine ⟨fun _ => hn1, ?_⟩
  simp only [Act.put, List.setIfInBounds_toArray, List.set_cons_zero, List.set_cons_succ]
  repeat (first
    | (refine sq_off (a' := ?_) rfl rfl (by rfl) (fun _ => (HS).out) ?ha ?_; (case ha => simp only [Act.put, List.setIfInBounds_toArray, List.set_cons_zero, List.set_cons_succ]; rfl))
    | (refine sq_any (v := ?_) (a' := ?_) rfl rfl rfl (by rfl) (fun W => ?hr) ?ha ?_; (case hr => go_simp; first | done | rfl); (case ha => simp only [Act.put, List.setIfInBounds_toArray, List.set_cons_zero, List.set_cons_succ]; rfl))
    | (refine sq_load (v := ?_) (a' := ?_) rfl rfl rfl (by rfl) (fun W hSW => ?hr) (HS).out ?ha ?_; (case hr => (try dsimp only at hSW); go_simp; first | done | rfl); (case ha => simp only [Act.put, List.setIfInBounds_toArray, List.set_cons_zero, List.set_cons_succ]; rfl)))
  refine sq_value (v := ?_) (w1 := ?_) (a' := ?_) rfl rfl (by rfl) ?hr ?hS ?ha ?_
  case hr => go_simp; first | done | rfl | (constructor <;> rfl)
  case ha => simp only [Act.put, List.setIfInBounds_toArray, List.set_cons_zero, List.set_cons_succ]; rfl
  case hS => exact fun _ => cell_alloc hn1 _
  obtain ⟨cells, hown, hce⟩ := H.out.hw.fr (HF1.out.alloc (.cells #[.int .i64 (a : Int), .slice A2 b.length c2] 131 (0, 0))) (fun _ _ _ h => h)
  refine sq_app (O := fun k => O k ∧ k ≠ bp) rfl rfl (by rfl) (.tmp 34) (.tmp 39) 101 131 rfl _ 2 32 Try.underlying101 info131 rfl (by omega) (by omega) (.slice Aw ws.length cw) ws.length cells rfl (some ⟨w1.heap.size, 0, none⟩) 1 1 rfl hown [.int .i64 a, .slice A2 b.length c2] rfl ?hnews ?h1 (by omega) ?_
  case hnews =>
    intro j u hj
    exact ⟨_, rfl, by rw [add_none, blk_cell (blk_new w1 _)]; simpa using hj⟩
  case h1 => intro u hu; simp at hu; rcases hu with rfl | rfl <;> rfl
  intro v3 w2 hown2 hfr2
  obtain ⟨A3, c3, rfl, _, _⟩ := hown2.shape
  have hbw : ¬ (Value.slice Aw ws.length cw).ownBlock = some bp := fun e => (hown.2 bp e).2 rfl
  have hn2 : w2.heap[bp]? = some (.cells #[.slice A s.length c, .slice Aw ws.length cw] 103 (0, 0)) := hfr2.heap ((HF1.out.alloc _).heap H.out.hp (fun h => h)) hbw
  have hc2 : w2.cell? ⟨bp, 1, none⟩ = some (Value.slice Aw ws.length cw) := by rw [blk_cell hn2]; rfl
  have hz2 := blk_free hn2 1
  refine ⟨fun _ => hc2, ?_⟩
  simp only [Act.put, List.setIfInBounds_toArray, List.set_cons_zero, List.set_cons_succ]
  have HN2 := Lib.hid hn2
  have HO2 := Lib.hid hown2
  have HF2 := Lib.hid hfr2
  have HOW := Lib.hid hown
  have HCE := Lib.hid hce
  clear hn2 hown2 hfr2 hbw hown hce
  repeat (first
    | (refine sq_off (a' := ?_) rfl rfl (by rfl) (fun _ => (HS).out) ?ha ?_; (case ha => simp only [Act.put, List.setIfInBounds_toArray, List.set_cons_zero, List.set_cons_succ]; rfl))
    | (refine sq_any (v := ?_) (a' := ?_) rfl rfl rfl (by rfl) (fun W => ?hr) ?ha ?_; (case hr => go_simp; first | done | rfl); (case ha => simp only [Act.put, List.setIfInBounds_toArray, List.set_cons_zero, List.set_cons_succ]; rfl))
    | (refine sq_load (v := ?_) (a' := ?_) rfl rfl rfl (by rfl) (fun W hSW => ?hr) (HS).out ?ha ?_; (case hr => (try dsimp only at hSW); go_simp; first | done | rfl); (case ha => simp only [Act.put, List.setIfInBounds_toArray, List.set_cons_zero, List.set_cons_succ]; rfl)))
  refine sq_store (w1 := ?_) rfl rfl (by rfl) rfl ?hr (fun h => absurd (by decide) h) ?_
  case hr => go_simp; first | done | rfl | (constructor <;> rfl)
  refine sq_done ?_
  go_wp2_with fail
  go_ret
  have hD := H.out
  have hlw : ∀ k, (Value.slice Aw ws.length cw).ownBlock = some k → O k ∧ k ≠ bp := HOW.out.2
  have hsz1 : (w1.alloc (.cells #[.int .i64 a, .slice A2 b.length c2] 131 (0, 0))).heap.size = w1.heap.size + 1 := by simp
  have hsz2 : w1.heap.size + 1 ≤ w2.heap.size := by rw [← hsz1]; exact HF2.out.size
  have hw1s := HF1.out.size
  have hf3 : Fr (fun k => k = bp) w2 (w2.setCell ⟨bp, 1, none⟩ (.slice A3 (ws.length + 1) c3)) := (Fr.refl _ _).setCell _ _ (fun _ => rfl)
  have hf12 : Fr (fun k => O k ∧ k ≠ bp) w w2 := (HF1.out.alloc (.cells #[.int .i64 a, .slice A2 b.length c2] 131 (0, 0))).trans HF2.out (fun _ _ h => h.elim) (fun k _ hk => hlw k hk)
  have hf13 : Fr O w (w2.setCell ⟨bp, 1, none⟩ (.slice A3 (ws.length + 1) c3)) := hf12.trans hf3 (fun _ _ h => h.1) (fun k _ h => h ▸ hD.top)
  have hmv : ∀ k, (R k ∨ (w.heap.size ≤ k ∧ k < w1.heap.size)) → k < w1.heap.size → (w2.setCell ⟨bp, 1, none⟩ (.slice A3 (ws.length + 1) c3)).heap[k]? = w1.heap[k]? := fun k hk hl => by
    have hno : ¬ O k := fun ho => by
      rcases hk with hk | hk
      · exact hD.hd k ho hk
      · have := hD.hb k (.inl ho); omega
    have h1 := hf3.block k (by omega) (fun e => hno (e ▸ hD.top))
    have h2 := HF2.out.block k (by rw [hsz1]; omega) (fun e => hno (hlw k e).1)
    rw [h1, h2, Below.heap_alloc _ _ _ hl]
  refine ⟨fun k => O k ∨ (k = w1.heap.size + 1 ∧ k < w2.heap.size), fun k => R k ∨ (w.heap.size ≤ k ∧ k < w1.heap.size), rfl, ⟨bp, .slice A s.length c, .slice A3 (ws.length + 1) c3, rfl, ?_⟩, fun k h => h.imp id (fun h => by have := h.1; omega), fun k h => h.imp id (fun h => h.1), hf13⟩
  refine ⟨.inl hD.top, by rw [blk_set HN2.out]; rfl, ?_, ?_, ?_, ?_, hD.hm, ?_⟩
  · exact (hD.hs.fr hf13 (fun k _ h1 h2 => hD.hd k h2 h1)).mono (fun k hk => .inl hk)
  · refine OwK.snoc (K := WaitK) (cells := cells) (cs := [.int .i64 (a : Int), .slice A2 b.length c2]) HOW.out.len ?_ ?_ ?_
    · intro j x hj
      obtain ⟨cs, hr, hc⟩ := HCE.out j x hj
      refine ⟨cs, WaitK.mono (F := R) (fun _ h => .inl h) (WaitK.move (fun k hk hl => ?_) hr), hc⟩
      rw [hsz1] at hl
      have hkw := hD.hb k (.inr hk)
      rw [hmv k (.inl hk) (by omega)]
      exact (Below.heap_alloc _ _ _ (by omega)).symm
    · refine (HO2.out.bound.fr hf3 (fun k _ h1 h2 => ?_)).mono (fun k hk => ?_)
      · rcases h1.1 with h1 | h1
        · exact (hlw k h1).2 h2
        · rw [hsz1] at h1; have := hD.hb bp (.inl hD.top); omega
      · rcases hk.1 with h1 | h1
        · exact ⟨.inl (hlw k h1).1, (hlw k h1).2⟩
        · rw [hsz1] at h1
          exact ⟨.inr ⟨h1, hk.2⟩, by have := hD.hb bp (.inl hD.top); omega⟩
    · refine ⟨.slice A2 b.length c2, rfl, ?_⟩
      refine ((HO1.out.reads.bound).move (fun k hk hl => hmv k (.inr ⟨by omega, hl⟩) hl)).mono (fun k hk => .inr ⟨by omega, hk.2⟩)
  · rintro k (h | h) (h' | h')
    · exact hD.hd k h h'
    · have := hD.hb k (.inl h); omega
    · have := hD.hb k (.inr h'); omega
    · omega
  · have hsz3 := hf3.size
    rintro k ((h | h) | (h | h))
    · have := hD.hb k (.inl h); omega
    · omega
    · have := hD.hb k (.inr h); omega
    · omega
  · intro x hx
    rcases List.mem_append.1 hx with hx | hx
    · exact hD.hv x hx
    · rw [List.mem_singleton.1 hx]; exact hyes
end Go.Proofs.Ytbaohngnpgappaa
