/- store's taken: an item's entries. -/
import Derived.Test.YtbaohngnpgappaaS6
set_option linter.unusedVariables false
set_option linter.unusedSimpArgs false
namespace Go.Proofs.Ytbaohngnpgappaa
open Go.RowKit
theorem bw_fr (w : World) (e : TypeId) (s : ByteArray) : Fr No w (Lib.bytesWorld w e s) := ⟨rfl, rfl, rfl, by rw [Lib.bytesWorld_size]; omega, fun k hk _ => Lib.bytesWorld_at_old w e s k hk⟩
theorem bw_rb (w : World) (b : List UInt8) (hb : b.length ≤ maxLen) : Rb (Lib.bytesWorld w 5 ⟨b.toArray⟩) (fun k => k = w.heap.size) (.slice (some ⟨w.heap.size, 0, none⟩) b.length (grownCap w b.length 0 5)) b := by
  refine ⟨_, _, rfl, grownCap_ge w b.length 0 5, grownCap_le_maxLen w b.length 0 5 hb, fun j x hj => ?_⟩
  have hl := (List.getElem?_eq_some_iff.1 hj).1
  refine ⟨_, _, rfl, rfl, ?_⟩
  rw [Nat.zero_add, Lib.bytesWorld_cell w 5 ⟨b.toArray⟩ j (show j < b.toArray.size from by simpa using hl)]
  simp only [List.getD, hj, Option.getD_some]
  rfl
/-- One entry more behind the others, in memory. -/
theorem en_step {w8 w9 : World} {g0 g : Nat} {l : List En} {j n : Nat} {Av : Option Addr} {cv : Nat} {v9 : Value} {x : En} {cells cs : List Value} (hn : n = (l.take j).length) (hx : l[j]? = some x)
    (hcl : cells.length = n * 2) (hcs8 : ∀ i y, (l.take j)[i]? = some y → ∃ c, EnK.R w8 (fun k => g0 ≤ k ∧ ¬ (Value.slice Av n cv).ownBlock = some k) y c ∧ ∀ q u, c[q]? = some u → cells[i * 2 + q]? = some u)
    (hit : EnK.R w8 (fun q => g ≤ q ∧ q < w8.heap.size) x cs) (hob : g0 ≤ g) (hog : ∀ k, (Value.slice Av n cv).ownBlock = some k → k < g ∧ g0 ≤ k)
    (hown9 : Ow w9 (fun k => (Value.slice Av n cv).ownBlock = some k ∨ k = w8.heap.size) 64 2 v9 (n + 1) (cells ++ cs)) (hfr9 : Fr (fun k => (Value.slice Av n cv).ownBlock = some k) w8 w9) (hg8 : g ≤ w8.heap.size) :
    OwK EnK 64 w9 (fun k => g0 ≤ k) (fun k => g0 ≤ k ∧ ¬ v9.ownBlock = some k) v9 (l.take (j + 1)) := by
  have hsp : l.take (j + 1) = l.take j ++ [x] := by
    rw [List.take_add_one, hx]; rfl
  rw [hsp]
  subst hn
  refine OwK.snoc (K := EnK) (cells := cells) (cs := cs) hcl (fun i y hi => ?_) (hown9.mono (fun k hk => ?_)) ?_
  · obtain ⟨c, h1, h2⟩ := hcs8 i y hi
    refine ⟨c, ?_, h2⟩
    have h4 := EnK.move (w' := w9) (fun q hq hl => hfr9.block q hl hq.1.2) (EnK.bound h1)
    exact EnK.mono (fun q hq => ⟨hq.1.1, fun h => by rcases hown9.2 q h with h | h; exact hq.1.2 h; have := hq.2; omega⟩) h4
  · rcases hk with hk | hk
    · exact (hog k hk).2
    · show g0 ≤ k
      omega
  · have h4 := EnK.move (w' := w9) (fun q hq hl => hfr9.block q hl (fun h => by have h1 := (hog q h).1; have h2 := hq.1; omega)) hit
    exact EnK.mono (fun q hq => ⟨by have := hq.1; show g0 ≤ q; omega, fun h => by rcases hown9.2 q h with h | h; (have h1 := (hog q h).1; have h2 := hq.1; omega); have := hq.2; omega⟩) h4
def TakenPost (w : World) (l : List En) (e : Ending) (w' : World) : Prop := ∃ v', e = .returned v' ∧ Row EnK w' (New w) v' l ∧ Fr No w w'
/-- The first j entries were taken. -/
def Takes (w1 wr : World) (g0 : Nat) (l : List En) (j : Nat) (vl : Value) : Prop :=
  OwK EnK 64 wr (fun k => g0 ≤ k) (fun k => g0 ≤ k ∧ ¬ vl.ownBlock = some k) vl (l.take j) ∧ Fr No w1 wr
set_option maxRecDepth 100000 in
set_option maxHeartbeats 4000000 in
theorem taken_any {w : World} {F : Nat → Prop} {vv : Value} {l : List En} (h : ItV w F vv (itEns l)) (hn : l.length ≤ 1048576) (hb : ∀ x ∈ l, I64 x.1 ∧ x.2.length ≤ maxLen) : Calls Try.prog 85 #[vv] w (TakenPost w l) := by
  obtain ⟨cs0, rfl, hr0⟩ := h
  obtain ⟨vl0, rfl, hrow0, _⟩ := itR_row hr0
  obtain ⟨A, c, rfl, _, _⟩ := hrow0.shape
  have hll : (l.map itEn).length = l.length := List.length_map ..
  rw [hll] at hrow0 ⊢
  obtain ⟨n, hnn⟩ : ∃ n, n = l.length := ⟨_, rfl⟩
  have HN := Lib.hid hnn
  rw [← hnn] at hn hrow0 ⊢
  have H : Hid (Row ItK w (fun k => F k ∧ k < w.heap.size) (.slice A n c) (l.map itEn)) := (show Row _ _ _ _ _ from hrow0.bound (by decide))
  have HB := Lib.hid hb
  obtain ⟨xb, hxb⟩ : ∃ b, b = w.heap.size := ⟨_, rfl⟩
  obtain ⟨w1, hw1⟩ : ∃ w1, Hid (w1 = w.alloc (.cells #[.int .i64 3, .int .i64 0, .string ⟨#[]⟩, .slice A n c] 48 (0, 0))) := ⟨_, show _ = _ from rfl⟩
  have hf1 : Fr No w w1 := by rw [hw1.out]; exact (Fr.refl _ _).alloc _
  have hx1 : VIs w1 xb 3 0 [] (.slice A n c) := by rw [hw1.out, hxb]; exact blk_new _ _
  have hs1 : w1.heap.size = xb + 1 := by rw [hw1.out, hxb]; simp
  obtain ⟨_, _, _, b3⟩ := v_cells hx1
  have HF1 := Lib.hid hf1
  have HS1 := Lib.hid hs1
  have HXB := Lib.hid hxb
  have HT0 : Hid (Takes w1 w1 (xb + 1) l 0 (.slice none 0 0)) := (show Takes _ _ _ _ _ _ from ⟨OwK.nil _ _ _ _ _, Fr.refl _ _⟩)
  unfold str at *
  clear hr0 hrow0 hll hnn hb hxb hf1 hx1 hs1
  go_enter Try.func85, Try.ntmps85
  go_wp2_with fail
  have e0 : (⟨([] : List UInt8).toArray⟩ : ByteArray) = ⟨#[]⟩ := rfl
  try rw [e0]
  rw [← HXB.out, ← hw1.out]
  go_wp2_with fail
  clear b3 e0
  go_loopw [3, 9] (fun vl i wr => ∃ (j : Nat), j ≤ n ∧ i = .int .i64 j ∧ Hid (Takes w1 wr (xb + 1) l j vl)) (fun _ i _ => n - (intOf i).toNat)
  case atStart => exact ⟨0, Nat.zero_le _, rfl, HT0⟩
  case round =>
    obtain ⟨j, hj, rfl, HJ⟩ := hrel
    obtain ⟨hown, hfr⟩ := HJ.out
    have hm : (l.take j).length = j := by rw [List.length_take]; have := HN.out; omega
    obtain ⟨Av, cv, hvl, _, _⟩ := hown.shape
    rw [hm] at hvl
    subst hvl
    by_cases hlt : j < n
    · have hlt' : j < l.length := by rw [← HN.out]; exact hlt
      obtain ⟨b1, o1, _, cs, he, _, _, _, hit, hcell⟩ := (H.out.fr (by decide) (HF1.out.then hfr) (fun _ _ _ h => h)).at_ j (by rw [List.length_map]; exact hlt')
      rw [List.length_map, ← HN.out] at he
      cases he
      rw [List.getElem_map] at hit
      obtain ⟨x, hx⟩ : ∃ x, x = l[j] := ⟨_, rfl⟩
      have HXJ : Hid (l[j]? = some x) := (show _ = _ from by rw [hx]; exact List.getElem?_eq_getElem hlt')
      have HXI : Hid (I64 x.1 ∧ x.2.length ≤ maxLen) := (show _ ∧ _ from HB.out x (by rw [hx]; exact List.getElem_mem hlt'))
      rw [← hx] at hit
      obtain ⟨xt, xb'⟩ := x
      obtain ⟨vi, rfl, hri, _⟩ := itR_row hit
      obtain ⟨b2, o2, ci, cs0, he0, hc1, _, hbF, hit0, hcell0⟩ := hri.at_ 0 (show 0 < 2 from by omega)
      obtain ⟨b2', o2', ci', cs1, he1, _, _, _, hit1, hcell1⟩ := hri.at_ 1 (show 1 < 2 from by omega)
      have HB2 : Hid (b2 < xb) := (show b2 < xb from by rw [HXB.out]; exact hbF.2)
      rw [he0] at he1
      injection he1 with he1 _ he1c
      injection he1 with he1
      injection he1 with he1a he1b _
      subst he1a
      subst he1b
      subst he0
      have hl2 : ([itNum (xt, xb').1, itText (xt, xb').2] : List It).length = 2 := rfl
      rw [hl2] at hcell hc1
      obtain ⟨v0, rfl, _, _⟩ := itR_row (show ItR _ _ (.mk 1 xt [] []) cs0 from hit0)
      obtain ⟨v1, rfl, _, _⟩ := itR_row (show ItR _ _ (.mk 2 0 xb' []) cs1 from hit1)
      have c0 := hcell 0 _ rfl
      have c1 := hcell 1 _ rfl
      have c2 := hcell 2 _ rfl
      have c3 := hcell 3 _ rfl
      have d0 := hcell0 1 _ rfl
      have d1 := hcell1 2 _ rfl
      unfold str at *
      simp only [show ItK.sz = 4 from rfl, Nat.add_zero, Nat.zero_mul, Nat.one_mul] at c0 c1 c2 c3 d0 d1
      have d1 := (show wr.cell? ⟨b2, o2 + 6, none⟩ = some (.string ⟨xb'.toArray⟩) from d1)
      have HFR : Hid (Fr No w1 wr) := (show Fr No w1 wr from hfr)
      have HO := Lib.hid hown
      have HM := Lib.hid hm
      clear hbF hcell hcell0 hcell1 hit hit0 hit1 hri hx he1c hown hfr hm hl2
      go_upto_region 5 with fail
      obtain ⟨g, hg⟩ : ∃ g, g = wr.heap.size := ⟨_, rfl⟩
      obtain ⟨w4, hw4⟩ : ∃ w4, Hid (w4 = wr.alloc (.cells #[.int .i64 3, .int .i64 0, .string ⟨#[]⟩, .slice (some ⟨b2, o2, none⟩) 2 ci] 48 (0, 0))) := ⟨_, show _ = _ from rfl⟩
      rw [← hg]
      try rw [show (⟨([] : List UInt8).toArray⟩ : ByteArray) = ⟨#[]⟩ from rfl]
      rw [← hw4.out]
      have hf4 : Fr No wr w4 := by rw [hw4.out]; exact (Fr.refl _ _).alloc _
      have hb4 : VIs w4 g 3 0 [] (.slice (some ⟨b2, o2, none⟩) 2 ci) := by rw [hw4.out, hg]; exact blk_new _ _
      obtain ⟨_, _, _, k3⟩ := v_cells hb4
      have e0 := hf4.cell d0 (fun h => h)
      have e1 := hf4.cell d1 (fun h => h)
      have HF4 := Lib.hid hf4
      have HG : Hid (g = wr.heap.size ∧ w4.heap.size = g + 1) := (show _ ∧ _ from ⟨hg, by rw [hw4.out, hg]; simp⟩)
      refine wp_seq_region (fun W => W.cell? ⟨g, 3, none⟩ = some (.slice (some ⟨b2, o2, none⟩) 2 ci) ∧ W.cell? ⟨b2, o2 + 1, none⟩ = some (.int .i64 xt) ∧ W.cell? ⟨b2, o2 + 6, none⟩ = some (.string ⟨xb'.toArray⟩)) [11, 13, 14] [2, 5, 7, 10] [] [0, 1, 2, 3, 4, 5, 6, 7, 8, 9, 10, 11, 12, 13, 14, 15] (by kernel_rfl) (by kernel_rfl) rfl (by kernel_rfl) (fun _ _ _ _ _ h => h) ?_
      have HS : Hid (w4.drew.cell? ⟨g, 3, none⟩ = some (.slice (some ⟨b2, o2, none⟩) 2 ci) ∧ w4.drew.cell? ⟨b2, o2 + 1, none⟩ = some (.int .i64 xt) ∧ w4.drew.cell? ⟨b2, o2 + 6, none⟩ = some (.string ⟨xb'.toArray⟩)) := (show _ ∧ _ from ⟨k3, e0, e1⟩)
      clear hf4 hb4 k3 e0 e1 c0 c1 c2 c3 d0 d1 hg
      repeat (first
        | (refine sq_off (a' := ?_) rfl rfl (by rfl) (fun _ => (HS).out) ?ha ?_; (case ha => simp only [Act.put, List.setIfInBounds_toArray, List.set_cons_zero, List.set_cons_succ]; rfl))
        | (refine sq_any (v := ?_) (a' := ?_) rfl rfl rfl (by rfl) (fun W => ?hr) ?ha ?_; (case hr => go_simp; first | done | rfl); (case ha => simp only [Act.put, List.setIfInBounds_toArray, List.set_cons_zero, List.set_cons_succ]; rfl))
        | (refine sq_load (v := ?_) (a' := ?_) rfl rfl rfl (by rfl) (fun W hSW => ?hr) (HS).out ?ha ?_; (case hr => (try dsimp only at hSW); go_simp; first | done | rfl); (case ha => simp only [Act.put, List.setIfInBounds_toArray, List.set_cons_zero, List.set_cons_succ]; rfl)))
      obtain ⟨q, hq⟩ : ∃ q, q = w4.drew.heap.size := ⟨_, rfl⟩
      obtain ⟨qc, hqc⟩ : ∃ q, q = grownCap w4.drew xb'.length 0 5 := ⟨_, rfl⟩
      obtain ⟨nb, hnb⟩ : ∃ q, q = xb'.length := ⟨_, rfl⟩
      obtain ⟨w5, hw5⟩ : ∃ w5, Hid (w5 = Lib.bytesWorld w4.drew 5 ⟨xb'.toArray⟩) := ⟨_, show _ = _ from rfl⟩
      have hf5 : Fr No w4.drew w5 := by rw [hw5.out]; exact bw_fr _ _ _
      have HRB : Hid (Rb w5 (fun k => k = q) (.slice (some ⟨q, 0, none⟩) nb qc) xb') := (show Rb _ _ _ _ from by rw [hw5.out, hq, hqc, hnb]; exact bw_rb _ _ HXI.out.2)
      have hs5 : w5.heap.size = q + 1 := by rw [hw5.out, hq]; exact Lib.bytesWorld_size _ _ _
      have HS5 : Hid (w5.cell? ⟨g, 3, none⟩ = some (.slice (some ⟨b2, o2, none⟩) 2 ci) ∧ w5.cell? ⟨b2, o2 + 1, none⟩ = some (.int .i64 xt) ∧ w5.cell? ⟨b2, o2 + 6, none⟩ = some (.string ⟨xb'.toArray⟩)) := (show _ ∧ _ from ⟨hf5.cell HS.out.1 (fun h => h), hf5.cell HS.out.2.1 (fun h => h), hf5.cell HS.out.2.2 (fun h => h)⟩)
      refine sq_value (v := .slice (some ⟨q, 0, none⟩) nb qc) (w1 := w5) (a' := ?_) rfl rfl (by rfl) ?hr (fun _ => HS5.out) ?ha ?_
      case hr =>
        have h1 := Lib.run_convert_string_bytes (P := Try.prog) w4.drew 9 22 5 ⟨xb'.toArray⟩ Try.underlying9 Try.underlying22 Try.underlying5
        rw [← hw5.out, ← hq, show (⟨xb'.toArray⟩ : ByteArray).size = nb from by rw [hnb]; exact List.size_toArray .., hnb, ← hqc, ← hnb] at h1
        first | exact h1 | (unfold execOp; exact h1) | (unfold execOp; simp [Act.eval, h1])
      case ha => simp only [Act.put, List.setIfInBounds_toArray, List.set_cons_zero, List.set_cons_succ]; rfl
      have HF5 : Hid (Fr No wr w5) := (show Fr No wr w5 from HF4.out.drew.then hf5)
      have HQ : Hid (q = g + 1 ∧ w5.heap.size = q + 1) := (show _ ∧ _ from ⟨by rw [hq]; exact HG.out.2, hs5⟩)
      clear hq hqc hnb hf5 hs5
      repeat (first
        | (refine sq_off (a' := ?_) rfl rfl (by rfl) (fun _ => (HS5).out) ?ha ?_; (case ha => simp only [Act.put, List.setIfInBounds_toArray, List.set_cons_zero, List.set_cons_succ]; rfl))
        | (refine sq_any (v := ?_) (a' := ?_) rfl rfl rfl (by rfl) (fun W => ?hr) ?ha ?_; (case hr => go_simp; first | done | rfl); (case ha => simp only [Act.put, List.setIfInBounds_toArray, List.set_cons_zero, List.set_cons_succ]; rfl))
        | (refine sq_load (v := ?_) (a' := ?_) rfl rfl rfl (by rfl) (fun W hSW => ?hr) (HS5).out ?ha ?_; (case hr => (try dsimp only at hSW); go_simp; first | done | rfl); (case ha => simp only [Act.put, List.setIfInBounds_toArray, List.set_cons_zero, List.set_cons_succ]; rfl)))
      obtain ⟨w6, hw6⟩ : ∃ w6, Hid (w6 = w5.alloc (.cells #[.int .i64 xt, .slice (some ⟨q, 0, none⟩) nb qc] 64 (0, 0))) := ⟨_, show _ = _ from rfl⟩
      have hf6 : Fr No w5 w6 := by rw [hw6.out]; exact (Fr.refl _ _).alloc _
      have hb6 : w6.heap[w5.heap.size]? = some (.cells #[.int .i64 xt, .slice (some ⟨q, 0, none⟩) nb qc] 64 (0, 0)) := by rw [hw6.out]; exact blk_new _ _
      have HS6 : Hid (w6.cell? ⟨g, 3, none⟩ = some (.slice (some ⟨b2, o2, none⟩) 2 ci) ∧ w6.cell? ⟨b2, o2 + 1, none⟩ = some (.int .i64 xt) ∧ w6.cell? ⟨b2, o2 + 6, none⟩ = some (.string ⟨xb'.toArray⟩)) := (show _ ∧ _ from ⟨hf6.cell HS5.out.1 (fun h => h), hf6.cell HS5.out.2.1 (fun h => h), hf6.cell HS5.out.2.2 (fun h => h)⟩)
      have HF6 : Hid (Fr No wr w6) := (show Fr No wr w6 from HF5.out.then hf6)
      have hs6 : w6.heap.size = w5.heap.size + 1 := by rw [hw6.out]; simp
      refine sq_value (v := .slice (some ⟨w5.heap.size, 0, none⟩) 1 1) (w1 := w6) (a' := ?_) rfl rfl (by rfl) ?hr (fun _ => HS6.out) ?ha ?_
      case hr => rw [hw6.out]; go_simp; first | done | rfl | (constructor <;> rfl)
      case ha => simp only [Act.put, List.setIfInBounds_toArray, List.set_cons_zero, List.set_cons_succ]; rfl
      have HIT : Hid (EnK.R w6 (fun k => g ≤ k ∧ k < w6.heap.size) (xt, xb') [.int .i64 xt, .slice (some ⟨q, 0, none⟩) nb qc]) := (show EnK.R _ _ _ _ from by
        refine ⟨_, rfl, (HRB.out.fr hf6 (fun _ _ _ h => h)).mono (fun k hk => ?_), HXI.out.1⟩
        have hk' : k = q := hk
        have := HQ.out
        constructor <;> omega)
      have HO6 : Hid (OwK EnK 64 w6 (fun k => xb + 1 ≤ k) (fun k => xb + 1 ≤ k ∧ ¬ (Value.slice Av j cv).ownBlock = some k) (.slice Av j cv) (l.take j)) := (show OwK _ _ _ _ _ _ _ from HO.out.fr HF6.out (fun _ _ _ h => h))
      have HOG : Hid (∀ k, (Value.slice Av j cv).ownBlock = some k → k < g ∧ xb + 1 ≤ k) := (show ∀ k, (Value.slice Av j cv).ownBlock = some k → k < g ∧ xb + 1 ≤ k from by
        obtain ⟨_, ho, _⟩ := HO.out
        exact fun k hk => ⟨by rw [HG.out.1]; exact (ho.bound.2 k hk).2, (ho.bound.2 k hk).1⟩)
      obtain ⟨cells, hown6, hcs6⟩ := HO6.out
      have HCS6 := Lib.hid hcs6
      have hcl : cells.length = (l.take j).length * 2 := hown6.len
      have HCL := Lib.hid hcl
      have HOW6 : Hid (Ow w6 (fun k => xb + 1 ≤ k) 64 2 (.slice Av j cv) j cells) := (show Ow _ _ _ _ _ _ _ from by rw [HM.out] at hown6; exact hown6)
      have hjb : j ≤ 1048576 := by omega
      clear hown6 hcs6 hcl
      refine sq_app (O := fun k => xb + 1 ≤ k) rfl rfl (by rfl) (.tmp 13) (.tmp 26) 60 64 rfl _ 2 32 Try.underlying60 info64 rfl (by omega) (by omega) (.slice Av j cv) j cells rfl (some ⟨w5.heap.size, 0, none⟩) 1 1 rfl HOW6.out [.int .i64 xt, .slice (some ⟨q, 0, none⟩) nb qc] rfl ?hnews (EnK.one HIT.out) (by omega) ?_
      case hnews =>
        intro i u hi
        refine ⟨_, rfl, ?_⟩
        rw [add_none, blk_cell hb6, Nat.zero_add, List.getElem?_toArray]
        exact hi
      intro va wa howna hfra
      have HROOT : Hid (∀ k, F k ∧ k < w.heap.size → k < xb) := (show ∀ k, F k ∧ k < w.heap.size → k < xb from fun k hk => by rw [HXB.out]; exact hk.2)
      have HSA : Hid (wa.cell? ⟨g, 3, none⟩ = some (.slice (some ⟨b2, o2, none⟩) 2 ci) ∧ wa.cell? ⟨b2, o2 + 1, none⟩ = some (.int .i64 xt) ∧ wa.cell? ⟨b2, o2 + 6, none⟩ = some (.string ⟨xb'.toArray⟩)) := (show _ ∧ _ from ⟨hfra.cell HS6.out.1 (fun h => absurd (HOG.out _ h).1 (Nat.lt_irrefl _)), hfra.cell HS6.out.2.1 (fun h => by have h1 : xb + 1 ≤ b2 := (HOG.out _ h).2; have h2 := HB2.out; omega), hfra.cell HS6.out.2.2 (fun h => by have h1 : xb + 1 ≤ b2 := (HOG.out _ h).2; have h2 := HB2.out; omega)⟩)
      have HJ2 : Hid (Takes w1 wa (xb + 1) l (j + 1) va) := (show Takes _ _ _ _ _ _ from ⟨
        en_step (g := g) HM.out.symm HXJ.out (by rw [HCL.out, HM.out]) HCS6.out HIT.out (by have h1 := HFR.out.size; have h2 := HS1.out; have h3 := HG.out.1; omega) HOG.out howna hfra (by have h2 := HQ.out; omega),
        HFR.out.trans (HF6.out.trans hfra (U := fun q => (Value.slice Av j cv).ownBlock = some q) (fun _ _ h => h.elim) (fun _ _ h => h)) (fun _ _ h => h) (fun q hq h => by have h1 := (HOG.out _ h).2; have h2 := HS1.out; omega)⟩)
      refine ⟨fun _ => HSA.out, ?_⟩
      simp only [Act.put, List.setIfInBounds_toArray, List.set_cons_zero, List.set_cons_succ]
      clear howna hfra hb6 hs6 hf6
      repeat (first
        | (refine sq_off (a' := ?_) rfl rfl (by rfl) (fun _ => (HSA).out) ?ha ?_; (case ha => simp only [Act.put, List.setIfInBounds_toArray, List.set_cons_zero, List.set_cons_succ]; rfl))
        | (refine sq_any (v := ?_) (a' := ?_) rfl rfl rfl (by rfl) (fun W => ?hr) ?ha ?_; (case hr => go_simp; first | done | rfl); (case ha => simp only [Act.put, List.setIfInBounds_toArray, List.set_cons_zero, List.set_cons_succ]; rfl))
        | (refine sq_load (v := ?_) (a' := ?_) rfl rfl rfl (by rfl) (fun W hSW => ?hr) (HSA).out ?ha ?_; (case hr => (try dsimp only at hSW); go_simp; first | done | rfl); (case ha => simp only [Act.put, List.setIfInBounds_toArray, List.set_cons_zero, List.set_cons_succ]; rfl)))
      refine sq_done ?_
      go_wp2_with fail
      go_roundw
      case rel => exact ⟨j + 1, by omega, by go_num, HJ2⟩
      case measure => simp [intOf]; omega
    · have hjl : j = n := by omega
      subst hjl
      clear hlt hj
      have HEND : Hid (TakenPost w l (.returned (.slice Av j cv)) wr) := (show TakenPost _ _ _ _ from by
        refine ⟨_, rfl, ?_, HF1.out.then hfr⟩
        have h1 := hown.reads.mono (F' := New w) (fun k hk => by have h2 : xb + 1 ≤ k := by { rcases hk with h | h; exact h; exact h.1 }; have := HXB.out; show w.heap.size ≤ k; omega)
        rw [List.take_of_length_le (by have h9 := HN.out; omega)] at h1
        exact h1)
      clear hown hfr hm
      go_wp2_with fail
      go_returns
      exact HEND.out
end Go.Proofs.Ytbaohngnpgappaa
