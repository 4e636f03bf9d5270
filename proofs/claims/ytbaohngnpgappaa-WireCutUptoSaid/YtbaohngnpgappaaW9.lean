/- wire's add. -/
import Derived.Test.YtbaohngnpgappaaW8
import Derived.Test.YtbaohngnpgappaaA3
set_option linter.unusedVariables false
set_option linter.unusedSimpArgs false
namespace Go.Proofs.Ytbaohngnpgappaa
open Go.RowKit
theorem It.oks_mem {x : It} : ∀ {l : List It}, It.oks l = true → x ∈ l → x.ok = true := by
  intro l
  induction l with
  | nil => intro _ h; cases h
  | cons y r ih =>
    intro h hx
    rw [It.oks, Bool.and_eq_true] at h
    rcases List.mem_cons.1 hx with rfl | hx
    · exact h.1
    · exact ih h.2 hx
theorem It.textss_mem {x : It} : ∀ {l : List It}, It.textss l → x ∈ l → x.texts := by
  intro l
  induction l with
  | nil => intro _ h; cases h
  | cons y r ih =>
    intro h hx
    rw [It.textss] at h
    rcases List.mem_cons.1 hx with rfl | hx
    · exact h.1
    · exact ih h.2 hx
set_option maxRecDepth 100000 in
set_option maxHeartbeats 4000000 in
theorem add_any : ∀ (x : It) (w : World) (O F : Nat → Prop) (v vv : Value) (b : List UInt8), Ow w O 5 1 v b.length (b.map enc8) → ItV w F vv x → (∀ k, F k → ¬ v.ownBlock = some k) → x.size ≤ 1048576 → x.ok = true → x.texts → b.length + x.enc.length ≤ 70368744177664 →
    Calls Try.prog 75 #[v, vv] w (AddPost w v (b ++ x.enc)) := by
  refine It.ind fun k n s l ih w O F v vv b how hv hF hsz hok htx hlen => ?_
  obtain ⟨cs, rfl, hr⟩ := hv
  obtain ⟨vl, rfl, hrow, hfit⟩ := itR_row hr
  obtain ⟨A, c, rfl, hc1, hc2⟩ := hrow.shape
  obtain ⟨Av, cv, rfl, _, _⟩ := how.shape
  have hl2 : (l.length : Int) ≤ 1048576 := by
    rw [It.size] at hsz
    have hll := It.sizes_len l
    omega
  obtain ⟨w1, hw1⟩ : ∃ w1, Hid (w1 = w.alloc (.cells #[.int .i64 k, .int .i64 n, .string ⟨s.toArray⟩, .slice A l.length c] 48 (0, 0))) := ⟨_, rfl⟩
  have hf1 : Fr No w w1 := by rw [hw1.out]; exact (Fr.refl _ _).alloc _
  have hs1 : w1.heap.size = w.heap.size + 1 := by rw [hw1.out]; simp
  have hblk : w1.heap[w.heap.size]? = some (.cells #[.int .i64 k, .int .i64 n, .string ⟨s.toArray⟩, .slice A l.length c] 48 (0, 0)) := by rw [hw1.out]; exact blk_new _ _
  obtain ⟨v, hvd⟩ : ∃ v, Hid (v = Value.slice Av b.length cv) := ⟨_, rfl⟩
  rw [← hvd.out] at how hF ⊢
  have hbox : Hid (∀ {v' : Value} {L : List UInt8} {wr : World}, Grow w1 v v' L wr → wr.heap[w.heap.size]? = some (.cells #[.int .i64 k, .int .i64 n, .string ⟨s.toArray⟩, .slice A l.length c] 48 (0, 0))) := (show ∀ {v' : Value} {L : List UInt8} {wr : World}, Grow w1 v v' L wr → wr.heap[w.heap.size]? = some (.cells #[.int .i64 k, .int .i64 n, .string ⟨s.toArray⟩, .slice A l.length c] 48 (0, 0)) from fun hg => hg.fr.heap hblk (fun h => by have := (how.just.bound.2 _ h).2; omega))
  have HG : Hid (Grow w1 v v b w1) := (show Grow _ _ _ _ _ from Grow.start how hf1)
  have HR : Hid (Row ItK w F (.slice A l.length c) l) := (show Row _ _ _ _ _ from hrow)
  have HFF := Lib.hid hF
  have HF1 := Lib.hid hf1
  have HS1 := Lib.hid hs1
  have IH := Lib.hid ih
  have HOK : Hid (headOk k n s l = true ∧ It.oks l = true) := (show _ ∧ _ from by rw [It.ok, Bool.and_eq_true] at hok; exact hok)
  have HTX : Hid (s.length < 34359738368 ∧ It.textss l) := (show _ ∧ _ from by rw [It.texts] at htx; exact htx)
  have HSZ : Hid (It.sizes l ≤ 1048575) := (show It.sizes l ≤ 1048575 from by rw [It.size] at hsz; omega)
  have hb46 : b.length ≤ 70368744177664 := by omega
  obtain ⟨E, hE⟩ : ∃ E, Hid (E = (It.mk k n s l).enc) := ⟨_, rfl⟩
  rw [← hE.out] at hlen ⊢
  have c0 := blk_cell hblk 0
  simp only [List.getElem?_toArray, List.getElem?_cons_zero] at c0
  unfold str at *
  have hkk : k = 1 ∨ k = 2 ∨ k = 3 := by have h1 := HOK.out.1; unfold headOk at h1; simp at h1; omega
  clear hr hrow hc2 hsz hok htx ih hfit how hF hf1 hblk hs1
  rcases hkk with rfl | rfl | rfl
  · have hE1 : Hid (E = byteOf 1 :: num8 n) := (show _ = _ from by rw [hE.out, It.enc, if_pos rfl])
    go_enter Try.func75, Try.ntmps75
    go_wp2_with (with_reducible refine halt_dst 13 rfl ?_)
    rw [← hw1.out, ← HS1.out]
    refine wpList_app rfl (.tmp 8) (.tmp 12) 22 5 rfl _ 1 1 Try.underlying22 info5 rfl (by omega) (by omega) _ b.length (b.map enc8) rfl (some ⟨w1.heap.size, 0, none⟩) 1 1 rfl ((HG.out.quiet ((Fr.refl No w1).alloc (.cells #[.int .u8 1] 5 (0, 0)))).own) [enc8 (byteOf 1)] rfl ?hnews (one8 [(byteOf 1)]) (by omega) ?_
    case hnews =>
      intro j u hj
      refine ⟨_, rfl, ?_⟩
      rw [add_none, Nat.zero_add, blk_cell (blk_new w1 _), List.getElem?_toArray]
      exact hj
    intro va1 wa1 hown hfr
    have HA1 : Hid (Grow w1 v va1 (b ++ [(byteOf 1)]) wa1) := (show Grow _ _ _ _ _ from (HG.out.quiet ((Fr.refl No w1).alloc (.cells #[.int .u8 1] 5 (0, 0)))).app hown hfr rfl)
    clear hown hfr
    have hb1 := hbox.out HA1.out
    have d0 := blk_cell hb1 0
    simp only [List.getElem?_toArray, List.getElem?_cons_zero] at d0
    have HB1 := Lib.hid hb1
    clear hb1 c0
    go_wp2_with fail
    go_loopw [0, 18] (fun vv i wr => ∃ (j : Nat), j ≤ 8 ∧ i = .int .i64 j ∧ Hid (Grow w1 v vv (b ++ [byteOf 1] ++ (num8 n).take j) wr)) (fun _ i _ => 8 - (intOf i).toNat)
    case atStart => exact ⟨0, Nat.zero_le _, rfl, (show Grow _ _ _ _ _ from by rw [List.take_zero, List.append_nil]; exact HA1.out)⟩
    case round =>
      obtain ⟨j, hj, rfl, HJ⟩ := hrel
      by_cases hj8 : (j : Int) < 8
      · have hb2 := hbox.out HJ.out
        have d1 := blk_cell hb2 1
        simp only [List.getElem?_toArray, List.getElem?_cons_zero, List.getElem?_cons_succ] at d1
        obtain ⟨L, hL⟩ : ∃ L, Hid (L = b ++ [byteOf 1] ++ (num8 n).take j) := ⟨_, rfl⟩
        have hLl : L.length ≤ 70368744177700 := by rw [hL.out]; simp [num8_len]; omega
        rw [← hL.out] at HJ
        obtain ⟨B, hB⟩ : ∃ B, Hid (B = byteOf (n / 2 ^ (56 - 8 * j))) := ⟨_, rfl⟩
        obtain ⟨z, hz⟩ : ∃ z : Int, Hid (z = IntKind.u8.wrap (n / 2 ^ (56 - 8 * j))) := ⟨_, rfl⟩
        have henc : Hid (enc8 B = .int .u8 z) := (show _ = _ from by rw [hB.out, hz.out]; exact byteOf_enc _)
        clear hb2 d0
        go_wp2_with (with_reducible refine halt_dst 28 rfl ?_)
        refine wpListG_run (by rfl) (v := .int .u8 z) (w' := wr) ?hr ?_
        case hr => go_simp; (try rw [hz.out])
        go_wp2_with (with_reducible refine halt_dst 30 rfl ?_)
        refine wpList_app rfl (.tmp 21) (.tmp 29) 22 5 rfl _ 1 1 Try.underlying22 info5 rfl (by omega) (by omega) _ L.length (L.map enc8) rfl (some ⟨wr.heap.size, 0, none⟩) 1 1 rfl ((HJ.out.quiet ((Fr.refl No wr).alloc (.cells #[.int .u8 z] 5 (0, 0)))).own) [enc8 B] rfl ?hnews (one8 [B]) (by omega) ?_
        case hnews =>
          intro j u hj
          refine ⟨_, rfl, ?_⟩
          rw [add_none, Nat.zero_add, blk_cell (blk_new wr _), List.getElem?_toArray]
          rw [henc.out] at hj
          exact hj
        intro va2 wa2 hown hfr
        have HA2 : Hid (Grow w1 v va2 (L ++ [B]) wa2) := (show Grow _ _ _ _ _ from (HJ.out.quiet ((Fr.refl No wr).alloc (.cells #[.int .u8 z] 5 (0, 0)))).app hown hfr rfl)
        clear hown hfr
        have HJ2 : Hid (Grow w1 v va2 (b ++ [byteOf 1] ++ (num8 n).take (j + 1)) wa2) := (show Grow _ _ _ _ _ from by
          rw [num8_step n (by omega), ← List.append_assoc, ← hL.out, ← hB.out]
          exact HA2.out)
        clear d1
        go_wp2_with fail
        go_roundw
        case rel => exact ⟨j + 1, by omega, by go_num, HJ2⟩
        case measure => simp [intOf]; omega
      · have hj9 : j = 8 := by omega
        subst hj9
        clear hj8
        go_wp2_with fail
        go_ret
        have hend := HJ.out.post HF1.out
        rw [List.take_of_length_le (by rw [num8_len]; omega), List.append_assoc] at hend
        rw [hE1.out]
        exact hend
  · have hE2 : Hid (E = byteOf 2 :: (countB s.length ++ s)) := (show _ = _ from by rw [hE.out, It.enc, if_neg (by decide), if_pos rfl])
    have hElen : E.length = 1 + (countB s.length).length + s.length := by rw [hE2.out]; simp; omega
    go_enter Try.func75, Try.ntmps75
    go_wp2_with (with_reducible refine halt_dst 13 rfl ?_)
    rw [← hw1.out, ← HS1.out]
    refine wpList_app rfl (.tmp 8) (.tmp 12) 22 5 rfl _ 1 1 Try.underlying22 info5 rfl (by omega) (by omega) _ b.length (b.map enc8) rfl (some ⟨w1.heap.size, 0, none⟩) 1 1 rfl ((HG.out.quiet ((Fr.refl No w1).alloc (.cells #[.int .u8 2] 5 (0, 0)))).own) [enc8 (byteOf 2)] rfl ?hnews (one8 [(byteOf 2)]) (by omega) ?_
    case hnews =>
      intro j u hj
      refine ⟨_, rfl, ?_⟩
      rw [add_none, Nat.zero_add, blk_cell (blk_new w1 _), List.getElem?_toArray]
      exact hj
    intro va1 wa1 hown hfr
    have HA1 : Hid (Grow w1 v va1 (b ++ [(byteOf 2)]) wa1) := (show Grow _ _ _ _ _ from (HG.out.quiet ((Fr.refl No w1).alloc (.cells #[.int .u8 2] 5 (0, 0)))).app hown hfr rfl)
    clear hown hfr
    have hb1 := hbox.out HA1.out
    have d0 := blk_cell hb1 0
    have d2 := blk_cell hb1 2
    simp only [List.getElem?_toArray, List.getElem?_cons_zero, List.getElem?_cons_succ] at d0 d2
    have HB1 := Lib.hid hb1
    clear hb1 c0
    go_wp2_with fail
    have HS : Hid (wa1.drew.cell? ⟨w.heap.size, 2, none⟩ = some (.string ⟨s.toArray⟩)) := (show _ = _ from d2)
    refine wp_seq_region (fun W => W.cell? ⟨w.heap.size, 2, none⟩ = some (.string ⟨s.toArray⟩)) [4, 7] [2, 6] [] [0, 1, 2, 3, 5, 6, 4, 7, 8] (by kernel_rfl) (by kernel_rfl) rfl (by kernel_rfl) (fun _ _ _ _ _ h => h) ?_
    repeat (first
      | (refine sq_off (a' := ?_) rfl rfl (by rfl) (fun _ => (HS).out) ?ha ?_; (case ha => simp only [Act.put, List.setIfInBounds_toArray, List.set_cons_zero, List.set_cons_succ]; rfl))
      | (refine sq_any (v := ?_) (a' := ?_) rfl rfl rfl (by rfl) (fun W => ?hr) ?ha ?_; (case hr => go_simp; first | done | rfl); (case ha => simp only [Act.put, List.setIfInBounds_toArray, List.set_cons_zero, List.set_cons_succ]; rfl))
      | (refine sq_load (v := ?_) (a' := ?_) rfl rfl rfl (by rfl) (fun W hSW => ?hr) (HS).out ?ha ?_; (case hr => (try dsimp only at hSW); go_simp; first | done | rfl); (case ha => simp only [Act.put, List.setIfInBounds_toArray, List.set_cons_zero, List.set_cons_succ]; rfl)))
    refine sq_call rfl rfl (by rfl) rfl Try.func99 rfl rfl [va1, .int .i64 s.length] rfl ?_
    have hbl : (b ++ [byteOf 2]).length ≤ 70368744177664 := by rw [List.length_append]; simp; omega
    have HAD : Hid (Grow w1 v va1 (b ++ [byteOf 2]) wa1.drew) := (show Grow _ _ _ _ _ from HA1.out.quiet ((Fr.refl No _).drew))
    refine (count_any (w := wa1.drew) HAD.out.own HTX.out.1 hbl).mono ?_
    intro e w2 hpost
    obtain ⟨v2, rfl, hg2⟩ := HAD.out.call hpost
    have hb2 := hbox.out hg2
    have f2 := blk_cell hb2 2
    simp only [List.getElem?_toArray, List.getElem?_cons_zero, List.getElem?_cons_succ] at f2
    have HG2 := Lib.hid hg2
    clear hpost hb2 hg2
    refine ⟨_, rfl, fun _ => f2, ?_⟩
    simp only [Act.put, List.setIfInBounds_toArray, List.set_cons_zero, List.set_cons_succ]
    refine sq_apps rfl rfl (by rfl) (.tmp 38) (.tmp 40) 22 9 5 rfl Try.underlying22 Try.underlying9 info5 v2 (b ++ [byteOf 2] ++ countB s.length).length ((b ++ [byteOf 2] ++ countB s.length).map enc8) rfl ⟨s.toArray⟩ rfl HG2.out.own (by
      show _ + s.toArray.size ≤ _
      rw [List.size_toArray, List.length_append, List.length_append]
      simp only [List.length_singleton]
      omega) ?_
    intro v3 w3 hown3 hfr3
    rw [strCells_is] at hown3
    have hg3 := HG2.out.app hown3 hfr3 (show s.toArray.size = s.length from List.size_toArray)
    have HG3 := Lib.hid hg3
    have hb3 := hbox.out hg3
    have f3 := blk_cell hb3 2
    simp only [List.getElem?_toArray, List.getElem?_cons_zero, List.getElem?_cons_succ] at f3
    clear hown3 hfr3 hg3 hb3
    refine ⟨fun _ => f3, ?_⟩
    simp only [Act.put, List.setIfInBounds_toArray, List.set_cons_zero, List.set_cons_succ]
    repeat (first
      | (refine sq_off (a' := ?_) rfl rfl (by rfl) (fun _ => (HS).out) ?ha ?_; (case ha => simp only [Act.put, List.setIfInBounds_toArray, List.set_cons_zero, List.set_cons_succ]; rfl))
      | (refine sq_any (v := ?_) (a' := ?_) rfl rfl rfl (by rfl) (fun W => ?hr) ?ha ?_; (case hr => go_simp; first | done | rfl); (case ha => simp only [Act.put, List.setIfInBounds_toArray, List.set_cons_zero, List.set_cons_succ]; rfl))
      | (refine sq_load (v := ?_) (a' := ?_) rfl rfl rfl (by rfl) (fun W hSW => ?hr) (HS).out ?ha ?_; (case hr => (try dsimp only at hSW); go_simp; first | done | rfl); (case ha => simp only [Act.put, List.setIfInBounds_toArray, List.set_cons_zero, List.set_cons_succ]; rfl)))
    refine sq_done ?_
    clear d0 d2 f2 f3
    go_wp2_with fail
    go_ret
    have hend := HG3.out.post HF1.out
    rw [hE2.out]
    rw [show b ++ [byteOf 2] ++ countB s.length ++ s = b ++ byteOf 2 :: (countB s.length ++ s) from by simp] at hend
    exact hend
  · have hE3 : Hid (E = byteOf 3 :: (countB l.length ++ It.encs l)) := (show _ = _ from by rw [hE.out, It.enc, if_neg (by decide), if_neg (by decide)])
    have hElen : E.length = 1 + (countB l.length).length + (It.encs l).length := by rw [hE3.out]; simp; omega
    have HRB : Hid (Row ItK w (fun k => F k ∧ k < w.heap.size) (.slice A l.length c) l) := (show Row _ _ _ _ _ from HR.out.bound (by decide))
    go_enter Try.func75, Try.ntmps75
    go_wp2_with (with_reducible refine halt_dst 13 rfl ?_)
    rw [← hw1.out, ← HS1.out]
    refine wpList_app rfl (.tmp 8) (.tmp 12) 22 5 rfl _ 1 1 Try.underlying22 info5 rfl (by omega) (by omega) _ b.length (b.map enc8) rfl (some ⟨w1.heap.size, 0, none⟩) 1 1 rfl ((HG.out.quiet ((Fr.refl No w1).alloc (.cells #[.int .u8 3] 5 (0, 0)))).own) [enc8 (byteOf 3)] rfl ?hnews (one8 [(byteOf 3)]) (by omega) ?_
    case hnews =>
      intro j u hj
      refine ⟨_, rfl, ?_⟩
      rw [add_none, Nat.zero_add, blk_cell (blk_new w1 _), List.getElem?_toArray]
      exact hj
    intro va1 wa1 hown hfr
    have HA1 : Hid (Grow w1 v va1 (b ++ [(byteOf 3)]) wa1) := (show Grow _ _ _ _ _ from (HG.out.quiet ((Fr.refl No w1).alloc (.cells #[.int .u8 3] 5 (0, 0)))).app hown hfr rfl)
    clear hown hfr
    have hb1 := hbox.out HA1.out
    have d0 := blk_cell hb1 0
    have d3 := blk_cell hb1 3
    simp only [List.getElem?_toArray, List.getElem?_cons_zero, List.getElem?_cons_succ] at d0 d3
    clear hb1 c0
    go_wp2_with fail
    have hbl : (b ++ [byteOf 3]).length ≤ 70368744177664 := by rw [List.length_append]; simp; omega
    refine (count_any (w := wa1) HA1.out.own (by omega) hbl).mono ?_
    intro e w2 hpost
    obtain ⟨v2, rfl, hg2⟩ := HA1.out.call hpost
    have hb2 := hbox.out hg2
    have f3 := blk_cell hb2 3
    simp only [List.getElem?_toArray, List.getElem?_cons_zero, List.getElem?_cons_succ] at f3
    have HG2 := Lib.hid hg2
    clear hpost hb2 hg2 d0 d3
    go_wp2_with fail
    go_loopw [0, 52] (fun vv i wr => ∃ (j : Nat), j ≤ l.length ∧ i = .int .i64 j ∧ Hid (Grow w1 v vv (b ++ [byteOf 3] ++ countB l.length ++ It.encs (l.take j)) wr)) (fun _ i _ => l.length - (intOf i).toNat)
    case atStart => exact ⟨0, Nat.zero_le _, rfl, (show Grow _ _ _ _ _ from by rw [List.take_zero, It.encs, List.append_nil]; exact HG2.out)⟩
    case round =>
      obtain ⟨j, hj, rfl, HJ⟩ := hrel
      by_cases hlt : j < l.length
      · obtain ⟨b1, o1, _, cs, he, _, _, _, hrx, hcell⟩ := ((HRB.out.fr (by decide) HF1.out (fun _ _ _ h => h)).fr (by decide) HJ.out.fr (fun k _ hk h => HFF.out k hk.1 h)).at_ j hlt
        cases he
        obtain ⟨x, hx⟩ : ∃ x, x = l[j] := ⟨_, rfl⟩
        have HXJ : Hid (l[j]? = some x) := (show _ = _ from by rw [hx]; exact List.getElem?_eq_getElem hlt)
        have hmem : Hid (x ∈ l) := (show x ∈ l from by rw [hx]; exact List.getElem_mem hlt)
        have hsplit : Hid (It.encs l = It.encs (l.take j) ++ x.enc ++ It.encs (l.drop (j + 1))) := (show _ = _ from by
          have h1 : l = l.take j ++ x :: l.drop (j + 1) := by rw [hx, ← List.drop_eq_getElem_cons hlt, List.take_append_drop]
          rw [congrArg It.encs h1, It.encs_app, It.encs, List.append_assoc])
        rw [← hx] at hrx
        have hsx := It.sizes_mem hmem.out
        obtain ⟨xk, xn, xs, xl⟩ := x
        obtain ⟨vl, rfl, hrow, hfit⟩ := itR_row hrx
        obtain ⟨A2, c2, rfl, _, _⟩ := hrow.shape
        have c0 := hcell 0 _ rfl
        have c1 := hcell 1 _ rfl
        have c2' := hcell 2 _ rfl
        have c3 := hcell 3 _ rfl
        simp only [show ItK.sz = 4 from rfl, Nat.add_zero, str] at c0 c1 c2' c3
        have HRX := Lib.hid hrx
        have hxs : Hid ((It.mk xk xn xs xl).size ≤ 1048576) := (show _ ≤ _ from by have := HSZ.out; omega)
        obtain ⟨L, hL⟩ : ∃ L, Hid (L = b ++ [byteOf 3] ++ countB l.length ++ It.encs (l.take j)) := ⟨_, rfl⟩
        have hLl : Hid (L.length + (It.mk xk xn xs xl).enc.length ≤ 70368744177664) := (show _ ≤ _ from by
          have h1 := congrArg List.length hsplit.out
          rw [List.length_append, List.length_append] at h1
          rw [hL.out, List.length_append, List.length_append, List.length_append, List.length_singleton]
          omega)
        rw [← hL.out] at HJ
        clear hcell hrow hfit hrx hx hsx
        obtain ⟨X, hX⟩ : ∃ X, Hid (X = (It.mk xk xn xs xl).enc) := ⟨_, rfl⟩
        go_wp2_with fail
        obtain ⟨wB, hwB⟩ : ∃ wB, Hid (wB = wr.alloc (.cells #[.int .i64 xk, .int .i64 xn, .string ⟨xs.toArray⟩, .slice A2 xl.length c2] 48 (0, 0))) := ⟨_, rfl⟩
        rw [← hwB.out]
        have hfB : Fr No wr wB := by rw [hwB.out]; exact (Fr.refl _ _).alloc _
        have HJB : Hid (Grow w1 v u0 L wB) := (show Grow _ _ _ _ _ from HJ.out.quiet hfB)
        refine (IH.out _ hmem.out wB _ (fun k => F k ∧ k < w.heap.size) u0 _ L HJB.out.own ⟨[.int .i64 xk, .int .i64 xn, .string ⟨xs.toArray⟩, .slice A2 xl.length c2], rfl, itR_move (w := wr) (w' := wB) (fun k _ hl => hfB.block k hl (fun h => h)) _ _ HRX.out⟩ (fun k hk hv => by
          rcases HJB.out.own.2 k hv with h1 | h1
          · exact HFF.out k hk.1 h1
          · have := HS1.out; omega) hxs.out (It.oks_mem HOK.out.2 hmem.out) (It.textss_mem HTX.out.2 hmem.out) hLl.out).mono ?_
        rw [← hX.out]
        intro e w5 hpost
        obtain ⟨v5, rfl, hg5⟩ := HJB.out.call hpost
        have HJ2 : Hid (Grow w1 v v5 (b ++ [byteOf 3] ++ countB l.length ++ It.encs (l.take (j + 1))) w5) := (show Grow _ _ _ _ _ from by
          rw [List.take_add_one, HXJ.out, It.encs_app, ← List.append_assoc, ← hL.out]
          simp only [Option.toList, It.encs, List.append_nil]
          rw [← hX.out]
          exact hg5)
        clear hpost hg5 hfB c0 c1 c2' c3
        go_wp2_with fail
        go_roundw
        case rel => exact ⟨j + 1, by omega, by go_num, HJ2⟩
        case measure => simp [intOf]; omega
      · have hjl : j = l.length := by omega
        subst hjl
        clear hlt
        go_wp2_with fail
        go_ret
        have hend := HJ.out.post HF1.out
        rw [List.take_length] at hend
        rw [hE3.out]
        rw [show b ++ [byteOf 3] ++ countB l.length ++ It.encs l = b ++ byteOf 3 :: (countB l.length ++ It.encs l) from by simp] at hend
        exact hend
end Go.Proofs.Ytbaohngnpgappaa
