/- store's entries: entries as an item. -/
import Derived.Test.YtbaohngnpgappaaS2
set_option linter.unusedVariables false
set_option linter.unusedSimpArgs false
namespace Go.Proofs.Ytbaohngnpgappaa
open Go.RowKit
theorem flat4 : ∀ (css : List (List Value)) (j i : Nat) (cs : List Value) (u : Value), (∀ c ∈ css, c.length = 4) → css[j]? = some cs → cs[i]? = some u → css.flatten[j * 4 + i]? = some u := by
  intro css
  induction css with
  | nil => intro j i cs u _ h; simp at h
  | cons c r ih =>
    intro j i cs u hl hj hi
    have h4 := hl c List.mem_cons_self
    rw [List.flatten_cons]
    rcases j with _ | j
    · simp only [List.getElem?_cons_zero, Option.some.injEq] at hj
      subst hj
      have : i < c.length := (List.getElem?_eq_some_iff.1 hi).1
      rw [List.getElem?_append_left (by omega), Nat.zero_mul, Nat.zero_add]
      exact hi
    · rw [List.getElem?_cons_succ] at hj
      rw [List.getElem?_append_right (by omega), h4, show (j + 1) * 4 + i - 4 = j * 4 + i from by omega]
      exact ih j i cs u (fun c hc => hl c (List.mem_cons_of_mem _ hc)) hj hi
/-- A row of items out of a block that is laid whole. -/
theorem row_cells {w : World} {F : Nat → Prop} {b : Nat} {fz : Nat × Nat} (hF : F b) (xs : List It) (css : List (List Value)) (hlen : css.length = xs.length) (hr : ∀ (j : Nat) (x : It) (cs : List Value), xs[j]? = some x → css[j]? = some cs → ItR w F x cs) (hb : w.heap[b]? = some (.cells css.flatten.toArray 48 fz)) (hl : xs.length ≤ 1000) :
    Row ItK w F (.slice (some ⟨b, 0, none⟩) xs.length xs.length) xs := by
  refine ⟨some ⟨b, 0, none⟩, xs.length, rfl, Nat.le_refl _, by simp only [maxLen]; omega, fun j x hj => ?_⟩
  have hjl := (List.getElem?_eq_some_iff.1 hj).1
  obtain ⟨cs, hcs⟩ : ∃ cs, css[j]? = some cs := ⟨_, List.getElem?_eq_getElem (by omega)⟩
  refine ⟨b, 0, cs, rfl, hF, hr j x cs hj hcs, fun i u hu => ?_⟩
  rw [blk_cell hb, List.getElem?_toArray, Nat.zero_add]
  refine flat4 css j i cs u (fun c hc => ?_) hcs hu
  obtain ⟨q, hq⟩ := List.mem_iff_getElem?.1 hc
  have hql := (List.getElem?_eq_some_iff.1 hq).1
  exact itR_len (hr q _ c (List.getElem?_eq_getElem (by omega)) hq)
theorem num_r {w : World} {F : Nat → Prop} {n : Int} (h : I64 n) : ItR w F (itNum n) [.int .i64 1, .int .i64 n, .string ⟨#[]⟩, .slice none 0 0] := itR_of_row (s := []) (Row.nil _ _ _ _ _ (Nat.zero_le _)) ⟨by unfold I64; omega, h, Nat.zero_le _⟩
theorem text_r {w : World} {F : Nat → Prop} {b : List UInt8} (h : b.length ≤ maxLen) : ItR w F (itText b) [.int .i64 2, .int .i64 0, .string ⟨b.toArray⟩, .slice none 0 0] := itR_of_row (s := b) (Row.nil _ _ _ _ _ (Nat.zero_le _)) ⟨by unfold I64; omega, by unfold I64; omega, h⟩
theorem list_r {w : World} {F : Nat → Prop} {l : List It} {v : Value} (h : Row ItK w F v l) : ItR w F (itList l) [.int .i64 3, .int .i64 0, .string ⟨#[]⟩, v] := itR_of_row (s := []) h ⟨by unfold I64; omega, by unfold I64; omega, Nat.zero_le _⟩
def ItemTold (w : World) (x : It) (e : Ending) (w' : World) : Prop := ∃ vv, e = .returned vv ∧ ItV w' (New w) vv x ∧ Fr No w w'
/-- The first j entries' items stand in the list that grows. -/
def Grows (w3 wr : World) (ob : Nat) (l : List En) (j : Nat) (vl : Value) : Prop :=
  VIs wr ob 3 0 [] vl ∧ OwK ItK 48 wr (fun k => ob < k) (fun k => ob < k ∧ ¬ vl.ownBlock = some k) vl ((l.take j).map itEn) ∧ Fr (fun q => q = ob) w3 wr
/-- One item more behind the others, in memory. -/
theorem grows_step {w8 w9 : World} {ob g : Nat} {l : List En} {j n : Nat} {Av : Option Addr} {cv : Nat} {v9 : Value} {x : En} {cells cs : List Value} (hn : n = ((l.take j).map itEn).length) (hx : l[j]? = some x)
    (hcl : cells.length = n * 4) (hcs8 : ∀ i y, ((l.take j).map itEn)[i]? = some y → ∃ c, ItR w8 (fun k => ob < k ∧ ¬ (Value.slice Av n cv).ownBlock = some k) y c ∧ ∀ q u, c[q]? = some u → cells[i * 4 + q]? = some u)
    (hit : ItR w8 (fun q => g ≤ q ∧ q < w8.heap.size) (itEn x) cs) (hob : ob < g) (hog : ∀ k, (Value.slice Av n cv).ownBlock = some k → k < g ∧ ob < k)
    (hown9 : Ow w9 (fun k => (Value.slice Av n cv).ownBlock = some k ∨ k = w8.heap.size) 48 4 v9 (n + 1) (cells ++ cs)) (hfr9 : Fr (fun k => (Value.slice Av n cv).ownBlock = some k) w8 w9) (hg8 : g ≤ w8.heap.size) :
    OwK ItK 48 w9 (fun k => ob < k) (fun k => ob < k ∧ ¬ v9.ownBlock = some k) v9 ((l.take (j + 1)).map itEn) := by
  have hsp : (l.take (j + 1)).map itEn = (l.take j).map itEn ++ [itEn x] := by
    rw [List.take_add_one, hx, List.map_append]; rfl
  rw [hsp]
  subst hn
  refine OwK.snoc (K := ItK) (cells := cells) (cs := cs) hcl (fun i y hi => ?_) (hown9.mono (fun k hk => ?_)) ?_
  · obtain ⟨c, h1, h2⟩ := hcs8 i y hi
    refine ⟨c, ?_, h2⟩
    have h4 := itR_move (w := w8) (w' := w9) (fun q hq hl => hfr9.block q hl hq.1.2) _ _ (itR_bound _ _ h1)
    exact itR_mono (fun q hq => ⟨hq.1.1, fun h => by rcases hown9.2 q h with h | h; exact hq.1.2 h; have := hq.2; omega⟩) _ _ h4
  · rcases hk with hk | hk
    · exact (hog k hk).2
    · show ob < k
      omega
  · have h4 := itR_move (w := w8) (w' := w9) (fun q hq hl => hfr9.block q hl (fun h => by have h1 := (hog q h).1; have h2 := hq.1; omega)) _ _ hit
    exact itR_mono (fun q hq => ⟨by have := hq.1; show ob < q; omega, fun h => by rcases hown9.2 q h with h | h; (have h1 := (hog q h).1; have h2 := hq.1; omega); have := hq.2; omega⟩) _ _ h4
set_option maxRecDepth 100000 in
set_option maxHeartbeats 4000000 in
theorem entries_any {w : World} {F : Nat → Prop} {v : Value} {l : List En} (h : Row EnK w F v l) (hn : l.length ≤ 1048576) : Calls Try.prog 96 #[v] w (ItemTold w (itEns l)) := by
  obtain ⟨A, c, rfl, hc1, hc2⟩ := h.shape
  have H : Hid (Row EnK w (fun k => F k ∧ k < w.heap.size) (.slice A l.length c) l) := (show Row _ _ _ _ _ from h.bound (by decide))
  obtain ⟨n, hnn⟩ : ∃ n, n = l.length := ⟨_, rfl⟩
  have HN := Lib.hid hnn
  rw [← hnn] at hn hc1 ⊢
  obtain ⟨rb, hrb⟩ : ∃ b, b = w.heap.size := ⟨_, rfl⟩
  obtain ⟨w1, hw1⟩ : ∃ w1, Hid (w1 = w.alloc (.cells #[.int .i64 0, .int .i64 0, .string ⟨#[]⟩, .slice none 0 0] 48 (0, 0))) := ⟨_, show _ = _ from rfl⟩
  have hf1 : Fr No w w1 := by rw [hw1.out]; exact (Fr.refl _ _).alloc _
  have hr1 : VIs w1 rb 0 0 [] (.slice none 0 0) := by rw [hw1.out, hrb]; exact blk_new _ _
  have hs1 : w1.heap.size = rb + 1 := by rw [hw1.out, hrb]; simp
  have HF1 := Lib.hid hf1
  have HR1 := Lib.hid hr1
  have HS1 := Lib.hid hs1
  have HRB := Lib.hid hrb
  clear h hc2 hnn hrb hf1 hr1 hs1
  go_enter Try.func96, Try.ntmps96
  go_wp2_with fail
  rw [← hw1.out, ← HRB.out]
  refine (list_any none 0 0 w1).mono ?_
  rintro e w2 ⟨rfl, hf2⟩
  have HF2 : Hid (Fr No w1 w2) := (show Fr No w1 w2 from hf2)
  clear hf2
  go_upto_region 2 with fail
  obtain ⟨ob, hob⟩ : ∃ b, b = w2.heap.size := ⟨_, rfl⟩
  obtain ⟨w3, hw3⟩ : ∃ w3, Hid (w3 = w2.alloc (.cells #[.int .i64 3, .int .i64 0, .string ⟨#[]⟩, .slice none 0 0] 48 (0, 0))) := ⟨_, show _ = _ from rfl⟩
  rw [← hw3.out, ← hob]
  have hf3 : Fr No w2 w3 := by rw [hw3.out]; exact (Fr.refl _ _).alloc _
  have ho3 : VIs w3 ob 3 0 [] (.slice none 0 0) := by rw [hw3.out, hob]; exact blk_new _ _
  have hs3 : w3.heap.size = ob + 1 := by rw [hw3.out, hob]; simp
  have HF3 : Hid (Fr No w w3) := (show Fr No w w3 from (HF1.out.then HF2.out).then hf3)
  have HR3 : Hid (VIs w3 rb 0 0 [] (.slice none 0 0)) := (show VIs _ _ _ _ _ _ from (HF2.out.then hf3).heap HR1.out (fun h => h))
  have HG0 : Hid (Grows w3 w3 ob l 0 (.slice none 0 0)) := (show Grows _ _ _ _ _ _ from ⟨ho3, OwK.nil _ _ _ _ _, Fr.refl _ _⟩)
  have HOB : Hid (rb < ob ∧ w3.heap.size = ob + 1) := (show _ ∧ _ from ⟨by have := HF2.out.size; have := HS1.out; omega, hs3⟩)
  clear hf3 ho3 hs3 hob
  go_wp2_with fail
  go_loopw [9] (fun i wr => ∃ (j : Nat) (vl : Value), j ≤ n ∧ i = .int .i64 j ∧ Hid (Grows w3 wr ob l j vl)) (fun i _ => n - (intOf i).toNat)
  case atStart => exact ⟨0, _, Nat.zero_le _, rfl, HG0⟩
  case round =>
    obtain ⟨j, vl, hj, rfl, HJ⟩ := hrel
    by_cases hlt : j < n
    · have hlt' : j < l.length := by rw [← HN.out]; exact hlt
      obtain ⟨hv, hown, hfr⟩ := HJ.out
      have hm : ((l.take j).map itEn).length = j := by rw [List.length_map, List.length_take]; omega
      obtain ⟨Av, cv, rfl, _, _⟩ := hown.shape
      rw [hm] at hv hown HJ
      obtain ⟨b1, o1, _, cs, he, _, _, _, ⟨vb, hcs, hbr, hti⟩, hcell⟩ := (H.out.fr (by decide) (HF3.out.trans hfr (U := fun q => q = ob) (fun _ _ h => h.elim) (fun _ _ h => h)) (fun k _ hk h => by have h' : k = ob := h; have := hk.2; have := HOB.out.1; have := HRB.out; omega)).at_ j hlt'
      rw [← HN.out] at he
      cases he
      obtain ⟨x, hx⟩ : ∃ x, x = l[j] := ⟨_, rfl⟩
      have HXJ : Hid (l[j]? = some x) := (show _ = _ from by rw [hx]; exact List.getElem?_eq_getElem hlt')
      rw [← hx] at hcs hbr hti
      obtain ⟨xt, xb⟩ := x
      simp only at hcs hbr hti
      subst hcs
      obtain ⟨Ab, cb, rfl, hbc1, hbc2⟩ := hbr.shape
      have HXM : Hid (xb.length ≤ maxLen) := (show _ ≤ _ from Nat.le_trans hbc1 hbc2)
      obtain ⟨nb, hnb⟩ : ∃ nb, nb = xb.length := ⟨_, rfl⟩
      rw [← hnb] at hbr hcell
      have c0 := hcell 0 _ rfl
      have c1 := hcell 1 _ rfl
      simp only [show EnK.sz = 2 from rfl, Nat.add_zero] at c0 c1
      have HBR := Lib.hid hbr
      have HTI := Lib.hid hti
      have HV := Lib.hid hv
      have HO := Lib.hid hown
      have HFR := Lib.hid hfr
      have HM := Lib.hid hm
      clear hcell hbr hti hx hnb hbc1 hbc2 hv hown hfr hm
      go_upto_region 5 with fail
      obtain ⟨w4, hw4⟩ : ∃ w4, Hid (w4 = wr.alloc (.cells #[.int .i64 xt, .slice Ab nb cb] 64 (0, 0))) := ⟨_, show _ = _ from rfl⟩
      rw [← hw4.out]
      have hf4 : Fr No wr w4 := by rw [hw4.out]; exact (Fr.refl _ _).alloc _
      have hb4 : w4.heap[wr.heap.size]? = some (.cells #[.int .i64 xt, .slice Ab nb cb] 64 (0, 0)) := by rw [hw4.out]; exact blk_new _ _
      have k0 := blk_cell hb4 0
      have k1 := blk_cell hb4 1
      simp only [List.getElem?_toArray, List.getElem?_cons_zero, List.getElem?_cons_succ] at k0 k1
      obtain ⟨_, _, _, o3⟩ := v_cells (show VIs w4 ob 3 0 [] (.slice Av j cv) from hf4.heap HV.out (fun h => h))
      have HF4 := Lib.hid hf4
      refine wp_seq_region (fun W => W.cell? ⟨wr.heap.size, 0, none⟩ = some (.int .i64 xt) ∧ W.cell? ⟨wr.heap.size, 1, none⟩ = some (.slice Ab nb cb) ∧ W.cell? ⟨ob, 3, none⟩ = some (.slice Av j cv)) [4, 7, 8, 9, 10, 11, 13] [1, 3, 6] [13] [0, 1, 2, 3, 5, 6, 4, 7, 8, 9, 10, 11, 12, 13] (by kernel_rfl) (by kernel_rfl) rfl (by kernel_rfl) (fun _ _ _ _ _ h => h) ?_
      have HS : Hid (w4.drew.cell? ⟨wr.heap.size, 0, none⟩ = some (.int .i64 xt) ∧ w4.drew.cell? ⟨wr.heap.size, 1, none⟩ = some (.slice Ab nb cb) ∧ w4.drew.cell? ⟨ob, 3, none⟩ = some (.slice Av j cv)) := (show _ ∧ _ from ⟨k0, k1, o3⟩)
      clear hf4 hb4 k0 k1 c0 c1 o3
      repeat (first
        | (refine sq_off (a' := ?_) rfl rfl (by rfl) (fun _ => (HS).out) ?ha ?_; (case ha => simp only [Act.put, List.setIfInBounds_toArray, List.set_cons_zero, List.set_cons_succ]; rfl))
        | (refine sq_any (v := ?_) (a' := ?_) rfl rfl rfl (by rfl) (fun W => ?hr) ?ha ?_; (case hr => go_simp; first | done | rfl); (case ha => simp only [Act.put, List.setIfInBounds_toArray, List.set_cons_zero, List.set_cons_succ]; rfl))
        | (refine sq_load (v := ?_) (a' := ?_) rfl rfl rfl (by rfl) (fun W hSW => ?hr) (HS).out ?ha ?_; (case hr => (try dsimp only at hSW); go_simp; first | done | rfl); (case ha => simp only [Act.put, List.setIfInBounds_toArray, List.set_cons_zero, List.set_cons_succ]; rfl)))
      refine sq_call rfl rfl (by rfl) rfl Try.func94 rfl rfl [.int .i64 xt] rfl ?_
      have HF4d : Hid (Fr No wr w4.drew) := (show Fr No wr w4.drew from HF4.out.drew)
      refine (num_any xt w4.drew).mono ?_
      rintro e w5 ⟨rfl, hf5⟩
      have HF5 : Hid (Fr No wr w5) := (show Fr No wr w5 from HF4d.out.then hf5)
      refine ⟨_, rfl, fun _ => ⟨hf5.cell HS.out.1 (fun h => h), hf5.cell HS.out.2.1 (fun h => h), hf5.cell HS.out.2.2 (fun h => h)⟩, ?_⟩
      simp only [Act.put, List.setIfInBounds_toArray, List.set_cons_zero, List.set_cons_succ]
      have HS5 : Hid (w5.cell? ⟨wr.heap.size, 0, none⟩ = some (.int .i64 xt) ∧ w5.cell? ⟨wr.heap.size, 1, none⟩ = some (.slice Ab nb cb) ∧ w5.cell? ⟨ob, 3, none⟩ = some (.slice Av j cv)) := (show _ ∧ _ from ⟨hf5.cell HS.out.1 (fun h => h), hf5.cell HS.out.2.1 (fun h => h), hf5.cell HS.out.2.2 (fun h => h)⟩)
      clear hf5
      refine sq_call rfl rfl (by rfl) rfl Try.func95 rfl rfl [.slice Ab nb cb] rfl ?_
      refine (text_any (HBR.out.fr HF5.out (fun _ _ _ h => h))).mono ?_
      rintro e w6 ⟨rfl, hf6⟩
      have HF6 : Hid (Fr No wr w6) := (show Fr No wr w6 from HF5.out.then hf6)
      have HS6 : Hid (w6.cell? ⟨wr.heap.size, 0, none⟩ = some (.int .i64 xt) ∧ w6.cell? ⟨wr.heap.size, 1, none⟩ = some (.slice Ab nb cb) ∧ w6.cell? ⟨ob, 3, none⟩ = some (.slice Av j cv)) := (show _ ∧ _ from ⟨hf6.cell HS5.out.1 (fun h => h), hf6.cell HS5.out.2.1 (fun h => h), hf6.cell HS5.out.2.2 (fun h => h)⟩)
      refine ⟨_, rfl, fun _ => HS6.out, ?_⟩
      simp only [Act.put, List.setIfInBounds_toArray, List.set_cons_zero, List.set_cons_succ]
      clear hf6
      obtain ⟨w7, hw7⟩ : ∃ w7, Hid (w7 = w6.alloc (.cells #[.int .i64 1, .int .i64 xt, .string ⟨#[]⟩, .slice none 0 0, .int .i64 2, .int .i64 0, .string ⟨xb.toArray⟩, .slice none 0 0] 48 (0, 0))) := ⟨_, show _ = _ from rfl⟩
      have hf7 : Fr No w6 w7 := by rw [hw7.out]; exact (Fr.refl _ _).alloc _
      have hb7 : w7.heap[w6.heap.size]? = some (.cells #[.int .i64 1, .int .i64 xt, .string ⟨#[]⟩, .slice none 0 0, .int .i64 2, .int .i64 0, .string ⟨xb.toArray⟩, .slice none 0 0] 48 (0, 0)) := by rw [hw7.out]; exact blk_new _ _
      have HS7 : Hid (w7.cell? ⟨wr.heap.size, 0, none⟩ = some (.int .i64 xt) ∧ w7.cell? ⟨wr.heap.size, 1, none⟩ = some (.slice Ab nb cb) ∧ w7.cell? ⟨ob, 3, none⟩ = some (.slice Av j cv)) := (show _ ∧ _ from ⟨hf7.cell HS6.out.1 (fun h => h), hf7.cell HS6.out.2.1 (fun h => h), hf7.cell HS6.out.2.2 (fun h => h)⟩)
      have HF67 := Lib.hid hf7
      have HB7 := Lib.hid hb7
      clear hf7 hb7
      refine sq_value (v := .slice (some ⟨w6.heap.size, 0, none⟩) 2 2) (w1 := w7) (a' := ?_) rfl rfl (by rfl) ?hr (fun _ => HS7.out) ?ha ?_
      case hr => rw [hw7.out]; go_simp; first | done | rfl | (constructor <;> rfl)
      case ha => simp only [Act.put, List.setIfInBounds_toArray, List.set_cons_zero, List.set_cons_succ]; rfl
      refine sq_call rfl rfl (by rfl) rfl Try.func93 rfl rfl [.slice (some ⟨w6.heap.size, 0, none⟩) 2 2] rfl ?_
      refine (list_any (some ⟨w6.heap.size, 0, none⟩) 2 2 w7).mono ?_
      rintro e w8 ⟨rfl, hf8⟩
      have HF78 : Hid (Fr No w7 w8) := (show Fr No w7 w8 from hf8)
      have HS8 : Hid (w8.cell? ⟨wr.heap.size, 0, none⟩ = some (.int .i64 xt) ∧ w8.cell? ⟨wr.heap.size, 1, none⟩ = some (.slice Ab nb cb) ∧ w8.cell? ⟨ob, 3, none⟩ = some (.slice Av j cv)) := (show _ ∧ _ from ⟨hf8.cell HS7.out.1 (fun h => h), hf8.cell HS7.out.2.1 (fun h => h), hf8.cell HS7.out.2.2 (fun h => h)⟩)
      refine ⟨_, rfl, fun _ => HS8.out, ?_⟩
      simp only [Act.put, List.setIfInBounds_toArray, List.set_cons_zero, List.set_cons_succ]
      clear hf8
      obtain ⟨w9, hw9⟩ : ∃ w9, Hid (w9 = w8.alloc (.cells #[.int .i64 3, .int .i64 0, .string ⟨#[]⟩, .slice (some ⟨w6.heap.size, 0, none⟩) 2 2] 48 (0, 0))) := ⟨_, show _ = _ from rfl⟩
      have hf9 : Fr No w8 w9 := by rw [hw9.out]; exact (Fr.refl _ _).alloc _
      have hb9 : w9.heap[w8.heap.size]? = some (.cells #[.int .i64 3, .int .i64 0, .string ⟨#[]⟩, .slice (some ⟨w6.heap.size, 0, none⟩) 2 2] 48 (0, 0)) := by rw [hw9.out]; exact blk_new _ _
      have HS9 : Hid (w9.cell? ⟨wr.heap.size, 0, none⟩ = some (.int .i64 xt) ∧ w9.cell? ⟨wr.heap.size, 1, none⟩ = some (.slice Ab nb cb) ∧ w9.cell? ⟨ob, 3, none⟩ = some (.slice Av j cv)) := (show _ ∧ _ from ⟨hf9.cell HS8.out.1 (fun h => h), hf9.cell HS8.out.2.1 (fun h => h), hf9.cell HS8.out.2.2 (fun h => h)⟩)
      have HF69 : Hid (Fr No w6 w9) := (show Fr No w6 w9 from (HF67.out.then HF78.out).then hf9)
      have HF79 : Hid (Fr No w7 w9) := (show Fr No w7 w9 from HF78.out.then hf9)
      have HF9 : Hid (Fr No wr w9) := (show Fr No wr w9 from HF6.out.then HF69.out)
      have hs7 : w7.heap.size = w6.heap.size + 1 := by rw [hw7.out]; simp
      refine sq_value (v := .slice (some ⟨w8.heap.size, 0, none⟩) 1 1) (w1 := w9) (a' := ?_) rfl rfl (by rfl) ?hr (fun _ => HS9.out) ?ha ?_
      case hr => rw [hw9.out]; go_simp; first | done | rfl | (constructor <;> rfl)
      case ha => simp only [Act.put, List.setIfInBounds_toArray, List.set_cons_zero, List.set_cons_succ]; rfl
      have HO9 : Hid (OwK ItK 48 w9 (fun k => ob < k) (fun k => ob < k ∧ ¬ (Value.slice Av j cv).ownBlock = some k) (.slice Av j cv) ((l.take j).map itEn)) := (show OwK _ _ _ _ _ _ _ from HO.out.fr HF9.out (fun _ _ _ h => h))
      have HOG : Hid (∀ k, (Value.slice Av j cv).ownBlock = some k → k < wr.heap.size ∧ ob < k) := (show ∀ k, (Value.slice Av j cv).ownBlock = some k → k < wr.heap.size ∧ ob < k from by
        obtain ⟨_, ho, _⟩ := HO.out
        exact fun k hk => ⟨(ho.bound.2 k hk).2, (ho.bound.2 k hk).1⟩)
      have HIT : Hid (ItR w9 (fun q => wr.heap.size ≤ q ∧ q < w9.heap.size) (itEn (xt, xb)) [.int .i64 3, .int .i64 0, .string ⟨#[]⟩, .slice (some ⟨w6.heap.size, 0, none⟩) 2 2]) := (show ItR _ _ _ _ from by
        have h6 := HF6.out.size
        have h7 := HF79.out.size
        refine list_r (l := [itNum xt, itText xb]) ?_
        refine row_cells (xs := [itNum xt, itText xb]) (b := w6.heap.size) ⟨h6, by omega⟩ [[.int .i64 1, .int .i64 xt, .string ⟨#[]⟩, .slice none 0 0], [.int .i64 2, .int .i64 0, .string ⟨xb.toArray⟩, .slice none 0 0]] rfl (fun i y cs hy hcs => ?_) (HF79.out.heap HB7.out (fun h => h)) (show ([itNum xt, itText xb] : List It).length ≤ 1000 from by simp)
        rcases i with _ | _ | i
        · cases hy; cases hcs; exact num_r HTI.out
        · cases hy; cases hcs; exact text_r HXM.out
        · simp at hy)
      obtain ⟨cells, hown9, hcs9⟩ := HO9.out
      have HCS9 := Lib.hid hcs9
      have hcl : cells.length = ((l.take j).map itEn).length * 4 := hown9.len
      have HCL := Lib.hid hcl
      have HOW9 : Hid (Ow w9 (fun k => ob < k) 48 4 (.slice Av j cv) j cells) := (show Ow _ _ _ _ _ _ _ from by rw [HM.out] at hown9; exact hown9)
      have hjb : j ≤ 1048576 := by omega
      clear hf9 hown9 hcs9 hcl
      refine sq_app (O := fun k => ob < k) rfl rfl (by rfl) (.tmp 14) (.tmp 23) 46 48 rfl _ 4 56 Try.underlying46 info48 rfl (by omega) (by omega) (.slice Av j cv) j cells rfl (some ⟨w8.heap.size, 0, none⟩) 1 1 rfl HOW9.out [.int .i64 3, .int .i64 0, .string ⟨#[]⟩, .slice (some ⟨w6.heap.size, 0, none⟩) 2 2] rfl ?hnews (itR_one HIT.out) (by omega) ?_
      case hnews =>
        intro i u hi
        refine ⟨_, rfl, ?_⟩
        rw [add_none, blk_cell hb9, Nat.zero_add, List.getElem?_toArray]
        exact hi
      intro va wa howna hfra
      have HSA : Hid (wa.cell? ⟨wr.heap.size, 0, none⟩ = some (.int .i64 xt) ∧ wa.cell? ⟨wr.heap.size, 1, none⟩ = some (.slice Ab nb cb) ∧ wa.cell? ⟨ob, 3, none⟩ = some (.slice Av j cv)) := (show _ ∧ _ from ⟨hfra.cell HS9.out.1 (fun h => absurd (HOG.out _ h).1 (Nat.lt_irrefl _)), hfra.cell HS9.out.2.1 (fun h => absurd (HOG.out _ h).1 (Nat.lt_irrefl _)), hfra.cell HS9.out.2.2 (fun h => absurd (HOG.out _ h).2 (Nat.lt_irrefl _))⟩)
      have HGA : Hid (OwK ItK 48 wa (fun k => ob < k) (fun k => ob < k ∧ ¬ va.ownBlock = some k) va ((l.take (j + 1)).map itEn)) := (show OwK _ _ _ _ _ _ _ from
        grows_step (g := wr.heap.size) HM.out.symm HXJ.out (by rw [HCL.out, HM.out]) HCS9.out HIT.out (by have h1 := heap_lt HV.out; exact h1) HOG.out howna hfra HF9.out.size)
      have HVA : Hid (VIs wa ob 3 0 [] (.slice Av j cv)) := (show VIs _ _ _ _ _ _ from hfra.heap (HF9.out.heap HV.out (fun h => h)) (fun h => by have := (HOG.out _ h).2; omega))
      have HFA : Hid (Fr (fun q => q = ob) w3 wa) := (show Fr _ _ _ from HFR.out.trans (HF9.out.trans hfra (U := fun q => (Value.slice Av j cv).ownBlock = some q) (fun _ _ h => h.elim) (fun _ _ h => h)) (U := fun q => q = ob) (fun _ _ h => h) (fun q hq h => by have h1 := (HOG.out _ h).2; have h2 := HOB.out.2; omega))
      obtain ⟨Aa, ca, rfl, _, _⟩ := howna.shape
      refine ⟨fun _ => HSA.out, ?_⟩
      simp only [Act.put, List.setIfInBounds_toArray, List.set_cons_zero, List.set_cons_succ]
      clear howna hfra hb9 hs7
      repeat (first
        | (refine sq_off (a' := ?_) rfl rfl (by rfl) (fun _ => (HSA).out) ?ha ?_; (case ha => simp only [Act.put, List.setIfInBounds_toArray, List.set_cons_zero, List.set_cons_succ]; rfl))
        | (refine sq_any (v := ?_) (a' := ?_) rfl rfl rfl (by rfl) (fun W => ?hr) ?ha ?_; (case hr => go_simp; first | done | rfl); (case ha => simp only [Act.put, List.setIfInBounds_toArray, List.set_cons_zero, List.set_cons_succ]; rfl))
        | (refine sq_load (v := ?_) (a' := ?_) rfl rfl rfl (by rfl) (fun W hSW => ?hr) (HSA).out ?ha ?_; (case hr => (try dsimp only at hSW); go_simp; first | done | rfl); (case ha => simp only [Act.put, List.setIfInBounds_toArray, List.set_cons_zero, List.set_cons_succ]; rfl)))
      obtain ⟨o0, o1', o2, o3⟩ := v_cells HVA.out
      have z3 := v_free HVA.out 3
      obtain ⟨wz, hwz⟩ : ∃ wz, Hid (wz = wa.setCell ⟨ob, 3, none⟩ (.slice Aa (j + 1) ca)) := ⟨_, show _ = _ from rfl⟩
      refine sq_store (w1 := wz) rfl rfl (by rfl) rfl ?hr (fun h => absurd (by decide) h) ?_
      case hr => rw [hwz.out]; go_simp; first | done | rfl | (constructor <;> rfl)
      refine sq_done ?_
      have HJ2 : Hid (Grows w3 wz ob l (j + 1) (.slice Aa (j + 1) ca)) := (show Grows _ _ _ _ _ _ from by
        have hfz : Fr (fun q => q = ob) wa wz := by rw [hwz.out]; exact Fr.one _ _
        refine ⟨by rw [hwz.out]; exact v_l HVA.out _, HGA.out.fr hfz (fun k _ hk h => ?_), HFA.out.then hfz⟩
        have h' : k = ob := h
        rcases hk with hk | hk
        · have hk' : ob < k := hk; omega
        · have hk' : ob < k := hk.1; omega)
      clear o0 o1' o2 o3 z3
      go_wp2_with fail
      go_roundw
      case rel => exact ⟨j + 1, _, by omega, by go_num, HJ2⟩
      case measure => simp [intOf]; omega
    · have hjl : j = n := by omega
      subst hjl
      clear hlt hj
      obtain ⟨hv, hown, hfr⟩ := HJ.out
      have hm : ((l.take j).map itEn).length = j := by rw [List.length_map, List.length_take]; have h9 := HN.out; omega
      obtain ⟨Av, cv, rfl, _, _⟩ := hown.shape
      rw [hm] at hv hown HJ
      have HROW : Hid (Row ItK wr (fun k => ob < k) (.slice Av j cv) (l.map itEn)) := (show Row _ _ _ _ _ from by
        have h1 := hown.reads.mono (F' := fun k => ob < k) (fun k hk => by rcases hk with h | h; exact h; exact h.1)
        rw [List.take_of_length_le (by have h9 := HN.out; omega)] at h1
        exact h1)
      have hrr : VIs wr rb 0 0 [] (.slice none 0 0) := hfr.heap HR3.out (fun h => by have h' : rb = ob := h; have := HOB.out.1; omega)
      obtain ⟨o0, o1, o2, o3⟩ := v_cells hv
      obtain ⟨b0, b1, b2, b3⟩ := v_cells hrr
      have z0 := v_free hrr 0
      have z1 := v_free hrr 1
      have z2 := v_free hrr 2
      have z3 := v_free hrr 3
      have HRR := Lib.hid hrr
      have HFX : Hid (Fr (fun q => q = ob) w3 wr) := (show Fr _ _ _ from hfr)
      clear hv hown hfr hm hrr
      go_wp2_with fail
      obtain ⟨w9, hw9⟩ : ∃ w9, Hid (w9 = (((wr.setCell ⟨rb, 0, none⟩ (.int .i64 3)).setCell ⟨rb, 1, none⟩ (.int .i64 0)).setCell ⟨rb, 2, none⟩ (.string ⟨#[]⟩)).setCell ⟨rb, 3, none⟩ (.slice Av j cv)) := ⟨_, show _ = _ from rfl⟩
      rw [← hw9.out]
      have hv9 : VIs w9 rb 3 0 [] (.slice Av j cv) := by rw [hw9.out]; exact back_set (s' := []) HRR.out
      have hf9 : Fr (fun q => q = rb) wr w9 := by rw [hw9.out]; exact back_fr wr rb 3 0 [] (.slice Av j cv)
      have HEND : Hid (ItemTold w (itEns l) (.returned (.agg #[.int .i64 3, .int .i64 0, .string ⟨#[]⟩, .slice Av j cv])) w9) := (show ItemTold _ _ _ _ from by
        have hh := HOB.out
        have hb := HRB.out
        refine ⟨_, rfl, ⟨_, rfl, list_r ((HROW.out.fr (by decide) hf9 (fun k _ hk h => by have h' : k = rb := h; have hk' : ob < k := hk; omega)).mono (fun k hk => by have hk' : ob < k := hk; show w.heap.size ≤ k; omega))⟩, ?_⟩
        exact HF3.out.trans (HFX.out.trans hf9 (U := fun q => q = ob ∨ q = rb) (fun _ _ h => .inl h) (fun _ _ h => .inr h)) (fun _ _ h => h) (fun q hq h => by rcases h with h | h <;> omega))
      obtain ⟨y0, y1, y2, y3⟩ := v_cells hv9
      clear o0 o1 o2 o3 b0 b1 b2 b3 z0 z1 z2 z3 hv9 hf9
      (try simp only [Exit.inBlock, Exit.then])
      refine bodyPost_ret (by simp [results, Try.results96, go_sem, y0, y1, y2, y3]; try rfl) rfl ?_
      exact HEND.out
end Go.Proofs.Ytbaohngnpgappaa
