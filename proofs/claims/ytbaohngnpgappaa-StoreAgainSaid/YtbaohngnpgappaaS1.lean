/- store's own: entries in memory of their own. -/
import Derived.Test.YtbaohngnpgappaaS0
set_option linter.unusedVariables false
set_option linter.unusedSimpArgs false
namespace Go.Proofs.Ytbaohngnpgappaa
open Go.RowKit
theorem info64 : (Try.prog.info? 64).map (fun i => (i.zero, i.size, i.bytes)) = some (some (.agg #[.int .i64 0, .slice none 0 0]), 2, 32) := by kernel_rfl
theorem make60 (n : Nat) (hn : n ≤ 1099511627776) (W : World) : (Instr.makeSlice 60 (.int .i64 (n : Int)) (.int .i64 (n : Int))).run Try.prog W = .ok (.slice (some ⟨W.heap.size, 0, none⟩) n n) (W.alloc (.cells (madeCells #[.int .i64 0, .slice none 0 0] (n * 2)) 64)) := by
  obtain ⟨i0, hi, hz0, hz1, hz2⟩ := info_parts info64
  have h := run_make (P := Try.prog) W 60 64 i0 _ Try.underlying60 hi hz0 .i64 .i64 (n : Int) (n : Int) (by omega) (Int.le_refl _) (by rw [hz2]; omega) (by omega)
  rw [Int.toNat_natCast] at h
  simpa [hz1, Value.cells] using h
theorem ow_made {W : World} {g n : Nat} (hn : n ≤ 1099511627776) (h : W.heap[g]? = some (.cells (madeCells #[.int .i64 0, .slice none 0 0] (n * 2)) 64 (0, 0))) : Ow W (fun k => k = g) 64 2 (.slice (some ⟨g, 0, none⟩) n n) n (madeCells #[.int .i64 0, .slice none 0 0] (n * 2)).toList := by
  refine ⟨⟨by rw [Array.length_toList, size_madeCells], .inr ⟨_, n, _, rfl, Nat.zero_le _, h, Nat.le_refl _, by simp only [maxLen]; omega, size_madeCells _ _, ?_⟩⟩, fun k hk => (Option.some.inj hk).symm⟩
  rw [List.take_of_length_le]
  rw [Array.length_toList, size_madeCells]; exact Nat.le_refl _
def OwnPost (w : World) (l : List En) (e : Ending) (w' : World) : Prop := ∃ v', e = .returned v' ∧ OwK EnK 64 w' (New w) (fun k => New w k ∧ ¬ v'.ownBlock = some k) v' l ∧ Fr No w w'
/-- The first j entries stand. -/
def Done (w wr : World) (g n : Nat) (l : List En) (j : Nat) : Prop :=
  ∃ cells, Ow wr (fun k => k = g) 64 2 (.slice (some ⟨g, 0, none⟩) n n) n cells ∧ (∀ i x, i < j → l[i]? = some x → ∃ cs, EnK.R wr (fun k => g < k) x cs ∧ ∀ q u, cs[q]? = some u → cells[i * 2 + q]? = some u) ∧ Fr No w wr
set_option maxRecDepth 100000 in
set_option maxHeartbeats 4000000 in
theorem own_any {w : World} {F : Nat → Prop} {v : Value} {l : List En} (h : Row EnK w F v l) (hn : l.length ≤ 1048576) (hb : ∀ x ∈ l, x.2.length ≤ 140737488355328) : Calls Try.prog 91 #[v] w (OwnPost w l) := by
  obtain ⟨A, c, rfl, hc1, hc2⟩ := h.shape
  have H : Hid (Row EnK w (fun k => F k ∧ k < w.heap.size) (.slice A l.length c) l) := (show Row _ _ _ _ _ from h.bound (by decide))
  have HB := Lib.hid hb
  obtain ⟨n, hnn⟩ : ∃ n, n = l.length := ⟨_, rfl⟩
  have HN := Lib.hid hnn
  rw [← hnn] at hn hc1 ⊢
  have hmk := make60 n (by omega)
  obtain ⟨g, hg⟩ : ∃ g, g = w.heap.size := ⟨_, rfl⟩
  obtain ⟨w1, hw1⟩ : ∃ w1, Hid (w1 = w.alloc (.cells (madeCells #[.int .i64 0, .slice none 0 0] (n * 2)) 64)) := ⟨_, show _ = _ from rfl⟩
  have HD0 : Hid (Done w w1 g n l 0) := (show Done _ _ _ _ _ _ from by
    refine ⟨_, ow_made (by omega) (by rw [hw1.out, hg]; exact blk_new _ _), fun i x hi => absurd hi (Nat.not_lt_zero _), ?_⟩
    rw [hw1.out]
    exact (Fr.refl _ _).alloc _)
  have HG := Lib.hid hg
  clear h hc2 hb hnn hg
  go_enter Try.func91, Try.ntmps91
  go_wp2_with fail
  rw [← hw1.out, ← HG.out]
  clear hmk
  go_loopw [11] (fun i wr => ∃ j : Nat, j ≤ n ∧ i = .int .i64 j ∧ Hid (Done w wr g n l j)) (fun i _ => n - (intOf i).toNat)
  case atStart => exact ⟨0, Nat.zero_le _, rfl, HD0⟩
  case round =>
    obtain ⟨j, hj, rfl, HJ⟩ := hrel
    by_cases hlt : j < n
    · have hlt' : j < l.length := by rw [← HN.out]; exact hlt
      obtain ⟨cells, hown, hdone, hfr⟩ := HJ.out
      obtain ⟨b1, o1, _, cs, he, _, _, _, ⟨vb, hcs, hbr, hti⟩, hcell⟩ := (H.out.fr (by decide) hfr (fun _ _ _ h => h)).at_ j hlt'
      rw [← HN.out] at he
      cases he
      obtain ⟨x, hx⟩ : ∃ x, x = l[j] := ⟨_, rfl⟩
      have HXJ : Hid (l[j]? = some x) := (show _ = _ from by rw [hx]; exact List.getElem?_eq_getElem hlt')
      have hxb : x.2.length ≤ 140737488355328 := HB.out x (by rw [hx]; exact List.getElem_mem hlt')
      rw [← hx] at hcs hbr hti
      obtain ⟨xt, xb⟩ := x
      simp only at hcs hbr hti hxb
      subst hcs
      obtain ⟨Ab, cb, rfl, _, _⟩ := hbr.shape
      obtain ⟨nb, hnb⟩ : ∃ nb, nb = xb.length := ⟨_, rfl⟩
      have HNB := Lib.hid hnb
      rw [← hnb] at hbr hcell
      have c0 := hcell 0 _ rfl
      have c1 := hcell 1 _ rfl
      simp only [show EnK.sz = 2 from rfl, Nat.add_zero] at c0 c1
      have HBR := Lib.hid hbr
      have HTI := Lib.hid hti
      have HXB := Lib.hid hxb
      have HO := Lib.hid hown
      have HDN := Lib.hid hdone
      have HFR := Lib.hid hfr
      clear hcell hbr hti hx hnb hxb hown hdone hfr
      go_upto_region 5 with fail
      obtain ⟨w4, hw4⟩ : ∃ w4, Hid (w4 = wr.alloc (.cells #[.int .i64 xt, .slice Ab nb cb] 64 (0, 0))) := ⟨_, show _ = _ from rfl⟩
      rw [← hw4.out]
      have hf4 : Fr No wr w4 := by rw [hw4.out]; exact (Fr.refl _ _).alloc _
      have hb4 : w4.heap[wr.heap.size]? = some (.cells #[.int .i64 xt, .slice Ab nb cb] 64 (0, 0)) := by rw [hw4.out]; exact blk_new _ _
      have k0 := blk_cell hb4 0
      have k1 := blk_cell hb4 1
      simp only [List.getElem?_toArray, List.getElem?_cons_zero, List.getElem?_cons_succ] at k0 k1
      have HF4 := Lib.hid hf4
      refine wp_seq_region (fun W => W.cell? ⟨wr.heap.size, 0, none⟩ = some (.int .i64 xt) ∧ W.cell? ⟨wr.heap.size, 1, none⟩ = some (.slice Ab nb cb)) [6, 9] [3, 5] [9] [0, 1, 2, 3, 4, 5, 6, 7, 8, 9] (by kernel_rfl) (by kernel_rfl) rfl (by kernel_rfl) (fun _ _ _ _ _ h => h) ?_
      have HS : Hid (w4.drew.cell? ⟨wr.heap.size, 0, none⟩ = some (.int .i64 xt) ∧ w4.drew.cell? ⟨wr.heap.size, 1, none⟩ = some (.slice Ab nb cb)) := (show _ ∧ _ from ⟨k0, k1⟩)
      clear hf4 hb4 k0 k1 c0 c1
      have hjn : (j : Int) < (n : Int) := by omega
      repeat (first
        | (refine sq_off (a' := ?_) rfl rfl (by rfl) (fun _ => (HS).out) ?ha ?_; (case ha => simp only [Act.put, List.setIfInBounds_toArray, List.set_cons_zero, List.set_cons_succ]; rfl))
        | (refine sq_any (v := ?_) (a' := ?_) rfl rfl rfl (by rfl) (fun W => ?hr) ?ha ?_; (case hr => go_simp; first | done | rfl); (case ha => simp only [Act.put, List.setIfInBounds_toArray, List.set_cons_zero, List.set_cons_succ]; rfl))
        | (refine sq_load (v := ?_) (a' := ?_) rfl rfl rfl (by rfl) (fun W hSW => ?hr) (HS).out ?ha ?_; (case hr => (try dsimp only at hSW); go_simp; first | done | rfl); (case ha => simp only [Act.put, List.setIfInBounds_toArray, List.set_cons_zero, List.set_cons_succ]; rfl)))
      refine sq_call rfl rfl (by rfl) rfl Try.func64 rfl rfl [.slice Ab nb cb] rfl ?_
      have hfd : Fr No wr w4.drew := HF4.out.drew
      refine (clone8 (w := w4.drew) (by have h := HBR.out.fr hfd (fun _ _ _ h => h); exact h) HXB.out).mono ?_
      rw [← HNB.out]
      rintro e w5 ⟨v5, rfl, hown5, hf5⟩
      have HF5 : Hid (Fr No wr w5) := (show Fr No wr w5 from hfd.then hf5)
      obtain ⟨A5, c5, rfl, _, _⟩ := hown5.shape
      have HO5 := Lib.hid hown5
      have HSZ4 : Hid (wr.heap.size ≤ w4.drew.heap.size) := (show _ ≤ _ from hfd.size)
      refine ⟨_, rfl, fun _ => ⟨hf5.cell HS.out.1 (fun h => h), hf5.cell HS.out.2 (fun h => h)⟩, ?_⟩
      simp only [Act.put, List.setIfInBounds_toArray, List.set_cons_zero, List.set_cons_succ]
      have HS5 : Hid (w5.cell? ⟨wr.heap.size, 0, none⟩ = some (.int .i64 xt) ∧ w5.cell? ⟨wr.heap.size, 1, none⟩ = some (.slice Ab nb cb)) := (show _ ∧ _ from ⟨hf5.cell HS.out.1 (fun h => h), hf5.cell HS.out.2 (fun h => h)⟩)
      have hownw5 : Ow w5 (fun k => k = g) 64 2 (.slice (some ⟨g, 0, none⟩) n n) n cells := HO.out.fr HF5.out (fun _ _ _ h => h)
      obtain ⟨g', c7, cur, he3, hg', hblk, _, _, hcs7, _⟩ := hownw5.form (by omega)
      injection he3 with he3 _ he4
      injection he3 with he3
      injection he3 with he3
      subst he3
      subst he4
      have hcur : cur.size = n * 2 := hcs7
      obtain ⟨old0, g0⟩ : ∃ old, w5.cell? ⟨g, j * 2, none⟩ = some old := ⟨cur[j * 2], by rw [blk_cell hblk, Array.getElem?_eq_getElem (by omega)]⟩
      obtain ⟨old1, g1⟩ : ∃ old, w5.cell? ⟨g, j * 2 + 1, none⟩ = some old := ⟨cur[j * 2 + 1], by rw [blk_cell hblk, Array.getElem?_eq_getElem (by omega)]⟩
      have z0 := blk_free hblk (j * 2)
      have z1 := blk_free hblk (j * 2 + 1)
      have HO5w := Lib.hid hownw5
      clear hblk hcs7 hcur hownw5 hown5 hf5 hfd
      repeat (first
        | (refine sq_off (a' := ?_) rfl rfl (by rfl) (fun _ => (HS5).out) ?ha ?_; (case ha => simp only [Act.put, List.setIfInBounds_toArray, List.set_cons_zero, List.set_cons_succ]; rfl))
        | (refine sq_any (v := ?_) (a' := ?_) rfl rfl rfl (by rfl) (fun W => ?hr) ?ha ?_; (case hr => go_simp; first | done | rfl); (case ha => simp only [Act.put, List.setIfInBounds_toArray, List.set_cons_zero, List.set_cons_succ]; rfl))
        | (refine sq_load (v := ?_) (a' := ?_) rfl rfl rfl (by rfl) (fun W hSW => ?hr) (HS5).out ?ha ?_; (case hr => (try dsimp only at hSW); go_simp; first | done | rfl); (case ha => simp only [Act.put, List.setIfInBounds_toArray, List.set_cons_zero, List.set_cons_succ]; rfl)))
      obtain ⟨w6, hw6⟩ : ∃ w6, Hid (w6 = (w5.setCell ⟨g, j * 2, none⟩ (.int .i64 xt)).setCell ⟨g, j * 2 + 1, none⟩ (.slice A5 nb c5)) := ⟨_, show _ = _ from rfl⟩
      refine sq_store (w1 := w6) rfl rfl (by rfl) rfl ?hr (fun h => absurd (by decide) h) ?_
      case hr => rw [hw6.out]; go_simp; first | done | rfl | (constructor <;> rfl)
      refine sq_done ?_
      have HJ2 : Hid (Done w w6 g n l (j + 1)) := (show Done _ _ _ _ _ _ from by
        have hg5 : g < wr.heap.size := by
          obtain ⟨_, _, _, he9, _, hbk9, _⟩ := HO.out.form (by omega)
          injection he9 with he9
          injection he9 with he9
          injection he9 with he9
          rw [he9]
          exact heap_lt hbk9
        have hcl : cells.length = n * 2 := HO.out.len
        have hf6 : Fr (fun q => q = g) w5 w6 := by rw [hw6.out]; exact (Fr.one _ _).then (Fr.one _ _)
        have ho6 : Ow w6 (fun k => k = g) 64 2 (.slice (some ⟨g, 0, none⟩) n n) n ((cells.set (j * 2) (.int .i64 xt)).set (j * 2 + 1) (.slice A5 nb c5)) := by
          rw [hw6.out]
          exact (HO5w.out.set (j * 2) _).set (j * 2 + 1) _
        refine ⟨_, ho6, fun i x hi hx => ?_, HFR.out.trans (HF5.out.trans hf6 (U := fun q => q = g) (fun _ _ h => h.elim) (fun _ _ h => h)) (fun _ _ h => h) (fun q hq h => by have h' : q = g := h; have := HG.out; omega)⟩
        rcases Nat.lt_or_ge i j with hij | hij
        · obtain ⟨cs, h1, h2⟩ := HDN.out i x hij hx
          have hcs2 : cs.length = 2 := EnK.len h1
          refine ⟨cs, EnK.move (fun k hk hl => ?_) h1, fun q u hu => ?_⟩
          · have h3 : g < k := hk
            rw [hf6.block k (Nat.lt_of_lt_of_le hl HF5.out.size) (fun h => by have h' : k = g := h; omega)]
            exact HF5.out.block k hl (fun h => h)
          · have hq2 : q < 2 := by rw [← hcs2]; exact (List.getElem?_eq_some_iff.1 hu).1
            rw [List.getElem?_set_ne (by omega), List.getElem?_set_ne (by omega)]
            exact h2 q u hu
        · have hij2 : i = j := by omega
          subst hij2
          rw [HXJ.out] at hx
          cases hx
          refine ⟨[.int .i64 xt, .slice A5 nb c5], ⟨_, rfl, ?_, HTI.out⟩, fun q u hu => ?_⟩
          · have h3 : Rb w5 (New w4.drew) (.slice A5 nb c5) xb := by
              have h4 := HO5.out
              rw [HNB.out] at h4 ⊢
              exact h4.reads
            refine (h3.fr hf6 (fun k _ hk h => ?_)).mono (fun k hk => ?_)
            · have h5 : w4.drew.heap.size ≤ k := hk
              have h' : k = g := h
              have := HSZ4.out
              omega
            · have h5 : w4.drew.heap.size ≤ k := hk
              have := HSZ4.out
              show g < k
              omega
          · rcases q with _ | _ | q
            · simp only [List.getElem?_cons_zero] at hu
              rw [List.getElem?_set_ne (by omega)]
              show (cells.set (i * 2) (Value.int IntKind.i64 xt))[i * 2]? = some u
              rw [List.getElem?_set_self (by omega)]
              exact hu
            · simp only [List.getElem?_cons_succ, List.getElem?_cons_zero] at hu
              rw [List.getElem?_set_self (by rw [List.length_set]; omega)]
              exact hu
            · simp at hu)
      clear g0 g1 z0 z1
      go_wp2_with fail
      go_roundw
      case rel => exact ⟨j + 1, by omega, by go_num, HJ2⟩
      case measure => simp [intOf]; omega
    · have hjl : j = n := by omega
      subst hjl
      clear hlt hj
      go_wp2_with fail
      go_ret
      obtain ⟨cells, hown, hdone, hfr⟩ := HJ.out
      refine (show OwnPost _ _ _ _ from ⟨_, rfl, ⟨cells, by rw [← HN.out]; exact hown.mono (fun k hk => Nat.le_of_eq (by rw [hk, HG.out])), fun i x hi => ?_⟩, hfr⟩)
      obtain ⟨cs, h1, h2⟩ := hdone i x (by rw [HN.out]; exact (List.getElem?_eq_some_iff.1 hi).1) hi
      refine ⟨cs, EnK.mono (fun k hk => ⟨?_, ?_⟩) h1, h2⟩
      · show w.heap.size ≤ k
        have h3 : g < k := hk
        have := HG.out
        omega
      · intro h3
        have h4 : g < k := hk
        have h5 : g = k := Option.some.inj h3
        omega
end Go.Proofs.Ytbaohngnpgappaa
