/- store's lay: a record is written, if there is room. -/
import Derived.Test.YtbaohngnpgappaaS11
set_option linter.unusedVariables false
set_option linter.unusedSimpArgs false
namespace Go.Proofs.Ytbaohngnpgappaa
open Go.RowKit
theorem It.size_bulk : ∀ v : It, v.size ≤ v.bulk := by
  refine It.ind fun k n s l ih => ?_
  have h1 : It.sizes l ≤ It.bulks l := by
    induction l with
    | nil => exact Nat.le_refl _
    | cons x r ih2 =>
      have h3 := ih x List.mem_cons_self
      have h4 := ih2 (fun y hy => ih y (List.mem_cons_of_mem _ hy))
      rw [It.sizes, It.bulks]
      omega
  rw [It.size, It.bulk]
  omega
/-- What each store is. -/
def St.fine (x : St) : Prop := 4096 ≤ x.d.now.length ∧ x.half ≤ 1 ∧ x.mark ≤ 1 ∧ x.at_ ≤ x.d.half ∧ x.d.waits.length ≤ 900000
def Dk.put (d : Dk) (a : Nat) (b : List UInt8) : Dk := ⟨d.safe, splice d.now a b, d.waits ++ [(a, b)]⟩
/-- Where the next record goes. -/
def St.place (x : St) : Nat := 16 + x.half * x.d.half + x.at_
def St.laid (x : St) (b : List UInt8) : St := { x with d := x.d.put x.place b, at_ := x.at_ + b.length }
def roomB (x : St) (b : List UInt8) : Bool := decide (x.at_ + b.length ≤ x.d.half)
def layS (x : St) (b : List UInt8) : St := if roomB x b then x.laid b else x
set_option maxRecDepth 100000 in
set_option maxHeartbeats 4000000 in
theorem lay_any {w : World} {X O R G F : Nat → Prop} {bp : Nat} {pd vs vl vv : Value} {x : St} {v : It} (h : StAt w X O R G bp pd vs vl x) (hfine : x.fine) (hv : ItV w F vv v) (hbk : v.bulk ≤ 1048576) (hck : checkI v = 0) :
    Calls Try.prog 77 #[.pointer (some ⟨bp, 0, none⟩), vv] w (StPost w X (.pointer (some ⟨bp, 0, none⟩)) pd (.bool (roomB x (sealB v.enc))) (layS x (sealB v.enc))) := by
  obtain ⟨cs, rfl, hr⟩ := hv
  obtain ⟨k, n, s, l⟩ := v
  obtain ⟨vl0, rfl, hrow, hfit⟩ := itR_row hr
  obtain ⟨A, c, rfl, _, _⟩ := hrow.shape
  unfold str at *
  have HIR : Hid (ItR w (fun k => F k ∧ k < w.heap.size) (.mk k n s l) [.int .i64 k, .int .i64 n, .string ⟨s.toArray⟩, .slice A l.length c]) := (show ItR _ _ _ _ from itR_bound _ _ hr)
  have HE : Hid (encodeI (.mk k n s l) = (It.mk k n s l).enc ∧ checkI (.mk k n s l) = 0) := (show _ ∧ _ from ⟨by unfold encodeI; rw [if_pos hck], hck⟩)
  have HBK : Hid ((It.mk k n s l).size ≤ 1048576 ∧ (It.mk k n s l).texts ∧ (It.mk k n s l).enc.length ≤ 70368744177664 ∧ (It.mk k n s l).enc.length ≤ 11534336) := (show _ ∧ _ from ⟨by have := It.size_bulk (.mk k n s l); omega, It.bulk_texts _ hbk, It.bulk_enc hbk, by have := It.enc_bulk (.mk k n s l); omega⟩)
  obtain ⟨E, hE⟩ : ∃ E, E = (It.mk k n s l).enc := ⟨_, rfl⟩
  rw [← hE] at HE HBK ⊢
  have HEL : Hid ((It.mk k n s l).enc.length ≤ 70368744177664) := (show _ ≤ _ from It.bulk_enc hbk)
  obtain ⟨B, hB⟩ : ∃ B, B = sealB E := ⟨_, rfl⟩
  have HBE := Lib.hid hB
  rw [← hB]
  obtain ⟨nb, hnb⟩ : ∃ nb, nb = B.length := ⟨_, rfl⟩
  have hnbE : nb ≤ 11534344 := by rw [hnb, hB, sealB_len]; have := HBK.out.2.2.2; omega
  have HNB := Lib.hid hnb
  have HAT : Hid (StAt w X O R G bp pd vs vl x) := (show StAt _ _ _ _ _ _ _ _ _ _ from h)
  obtain ⟨hd, hs, hhalf, hat, hmark⟩ := x
  obtain ⟨c0, _, _, _, _, _, _, c7, c8, _⟩ := st_cells h.blk
  have z8 := st_free h.blk 8
  have hlen := h.disk.len.1
  obtain ⟨f1, f2, f3, f4, f5⟩ := hfine
  simp only at c0 c7 c8 hlen f1 f2 f3 f4 f5
  obtain ⟨hn, hhn⟩ : ∃ hn : Nat, hn = hd.half := ⟨_, rfl⟩
  have hhn2 : 2 * hn + 16 ≤ hd.now.length := by rw [hhn]; unfold Dk.half; omega
  have hhn3 : hn ≤ 524288 := by omega
  obtain ⟨hi, hhi⟩ : ∃ hi : Int, hi = (hhalf : Int) := ⟨_, rfl⟩
  obtain ⟨q, hq⟩ : ∃ q : Nat, q = hhalf * hn := ⟨_, rfl⟩
  have hq0 : q = 0 ∨ q = hn := by
    rcases (show hhalf = 0 ∨ hhalf = 1 by omega) with h0 | h0
    · left; rw [hq, h0, Nat.zero_mul]
    · right; rw [hq, h0, Nat.one_mul]
  have hqi : hi * (hn : Int) = (q : Int) := by rw [hhi, hq, Int.natCast_mul]
  have hq1 : IntKind.i64.wrap (hi * (hn : Int)) = (q : Int) := by rw [hqi, IntKind.wrap_i64]; omega
  have hat2 : hat ≤ hn := by rw [hhn]; exact f4
  obtain ⟨pl, hpl⟩ : ∃ pl : Nat, pl = 16 + q + hat := ⟨_, rfl⟩
  have hq2 : IntKind.i64.wrap (16 + (q : Int)) = 16 + (q : Int) := by rw [IntKind.wrap_i64]; omega
  have hq3 : IntKind.i64.wrap (16 + (q : Int) + (hat : Int)) = (pl : Int) := by rw [IntKind.wrap_i64]; omega
  have hq4 : IntKind.i64.wrap ((hn : Int) - (hat : Int)) = (hn : Int) - (hat : Int) := by rw [IntKind.wrap_i64]; omega
  have HQ : Hid (pl = St.place ⟨hd, hs, hhalf, hat, hmark⟩ ∧ (roomB ⟨hd, hs, hhalf, hat, hmark⟩ B = decide (hat + nb ≤ hn)) ∧ pl + hn ≤ hd.now.length + hat) := (show _ ∧ _ from ⟨by unfold St.place; simp only; rw [hpl, hq, hhn], by unfold roomB; simp only; rw [hnb, hhn], by omega⟩)
  rw [← hhi] at c7
  have HHN := Lib.hid hhn
  have HSEP := Lib.hid h.sep
  have HFI : Hid (16 ≤ hd.now.length ∧ hd.waits.length ≤ 900000) := (show _ ∧ _ from ⟨by omega, f5⟩)
  obtain ⟨w1, hw1⟩ : ∃ w1, Hid (w1 = w.alloc (.cells #[.int .i64 k, .int .i64 n, .string ⟨s.toArray⟩, .slice A l.length c] 48 (0, 0))) := ⟨_, show _ = _ from rfl⟩
  have HF1 : Hid (Fr No w w1) := (show Fr No w w1 from by rw [hw1.out]; exact (Fr.refl _ _).alloc _)
  clear hr hrow hfit hbk hck hE hB hnb hhi hq hqi hpl h hlen f1 f2 f3 f4 f5 hhn hhn2
  go_enter Try.func77, Try.ntmps77
  go_wp2_with fail
  rw [← hw1.out]
  refine (encode_any (w := w1) (v := .mk k n s l) ⟨_, rfl, itR_move (fun q _ hq => HF1.out.block q hq (fun h => h)) _ _ HIR.out⟩ HBK.out.1 (fun _ => ⟨HBK.out.2.1, HEL.out⟩)).mono ?_
  rw [HE.out.1, HE.out.2]
  rintro e w2 ⟨v2, rfl, hown2, hf2⟩
  obtain ⟨A2, c2, rfl, _, _⟩ := hown2.shape
  have HR2 : Hid (Rb w2 (New w1) (.slice A2 E.length c2) E) := (show Rb _ _ _ _ from hown2.reads)
  have HF2 : Hid (Fr No w w2) := (show Fr No w w2 from HF1.out.then hf2)
  obtain ⟨m, hm⟩ : ∃ m, m = E.length := ⟨_, rfl⟩
  rw [← hm] at HR2 ⊢
  clear hown2 hf2 hm
  go_wp2_with fail
  refine (seal_any (w := w2) (b := E) (by have h := HR2.out; exact h) HBK.out.2.2.1).mono ?_
  rw [← HBE.out]
  rintro e w3 ⟨v3, rfl, hown3, hf3⟩
  obtain ⟨A3, c3, rfl, _, _⟩ := hown3.shape
  have HR3 : Hid (Rb w3 (New w2) (.slice A3 B.length c3) B) := (show Rb _ _ _ _ from hown3.reads)
  have HF3 : Hid (Fr No w w3) := (show Fr No w w3 from HF2.out.then hf3)
  rw [← HNB.out] at HR3 ⊢
  clear hown3 hf3 HR2
  go_upto_region 3 with fail
  have HS : Hid (w3.drew.cell? ⟨bp, 0, none⟩ = some pd ∧ w3.drew.cell? ⟨bp, 7, none⟩ = some (.int .i64 hi) ∧ w3.drew.cell? ⟨bp, 8, none⟩ = some (.int .i64 (hat : Int))) := (show _ ∧ _ ∧ _ from ⟨HF3.out.drew.cell c0 (fun h => h), HF3.out.drew.cell c7 (fun h => h), HF3.out.drew.cell c8 (fun h => h)⟩)
  have HAT4 : Hid (StAt w3.drew X O R G bp pd vs vl ⟨hd, hs, hhalf, hat, hmark⟩) := (show StAt _ _ _ _ _ _ _ _ _ _ from HAT.out.no HF3.out.drew)
  have H84 : Hid (Calls Try.prog 84 #[.pointer (some ⟨bp, 0, none⟩)] w3.drew fun e w' => e = .returned (.int .i64 (hn : Int)) ∧ w3.drew = w') := (show Calls _ _ _ _ _ from by
    have h := ssize_any HAT4.out HFI.out.1
    rw [HHN.out]
    exact h)
  refine wp_seq_region (fun W => W.cell? ⟨bp, 0, none⟩ = some pd ∧ W.cell? ⟨bp, 7, none⟩ = some (.int .i64 hi) ∧ W.cell? ⟨bp, 8, none⟩ = some (.int .i64 (hat : Int))) [6, 24, 33] [10, 18, 22, 30] [] [0, 1, 2, 3, 4, 5, 7, 8, 9, 10, 6, 11, 12, 13, 14, 15, 16, 17, 18, 19, 20, 21, 22, 23, 27, 28, 29, 30, 32, 24, 25, 26, 31, 33, 34, 35] (by kernel_rfl) (by kernel_rfl) rfl (by kernel_rfl) (fun _ _ _ _ _ h => h) ?_
  clear c0 c7 c8
  by_cases hroom : hat + nb ≤ hn
  · have hg1 : decide ((nb : Int) > (hn : Int) - (hat : Int)) = false := by simp; omega
    have HG : Hid (roomB ⟨hd, hs, hhalf, hat, hmark⟩ B = true) := (show _ = _ from by rw [HQ.out.2.1]; simpa using hroom)
    repeat (first
      | (refine sq_off (a' := ?_) rfl rfl (by rfl) (fun _ => (HS).out) ?ha ?_; (case ha => simp only [Act.put, List.setIfInBounds_toArray, List.set_cons_zero, List.set_cons_succ]; rfl))
      | (refine sq_any (v := ?_) (a' := ?_) rfl rfl rfl (by rfl) (fun W => ?hr) ?ha ?_; (case hr => go_simp; first | done | rfl); (case ha => simp only [Act.put, List.setIfInBounds_toArray, List.set_cons_zero, List.set_cons_succ]; rfl))
      | (refine sq_load (v := ?_) (a' := ?_) rfl rfl rfl (by rfl) (fun W hSW => ?hr) (HS).out ?ha ?_; (case hr => (try dsimp only at hSW); go_simp; first | done | rfl); (case ha => simp only [Act.put, List.setIfInBounds_toArray, List.set_cons_zero, List.set_cons_succ]; rfl)))
    refine sq_call rfl rfl (by rfl) rfl Try.func84 rfl rfl [.pointer (some ⟨bp, 0, none⟩)] rfl ?_
    refine H84.out.mono ?_
    rintro e _ ⟨rfl, rfl⟩
    refine ⟨_, rfl, fun _ => HS.out, ?_⟩
    simp only [Act.put, List.setIfInBounds_toArray, List.set_cons_zero, List.set_cons_succ]
    repeat (first
      | (refine sq_off (a' := ?_) rfl rfl (by rfl) (fun _ => (HS).out) ?ha ?_; (case ha => simp only [Act.put, List.setIfInBounds_toArray, List.set_cons_zero, List.set_cons_succ]; rfl))
      | (refine sq_any (v := ?_) (a' := ?_) rfl rfl rfl (by rfl) (fun W => ?hr) ?ha ?_; (case hr => go_simp; first | done | rfl); (case ha => simp only [Act.put, List.setIfInBounds_toArray, List.set_cons_zero, List.set_cons_succ]; rfl))
      | (refine sq_load (v := ?_) (a' := ?_) rfl rfl rfl (by rfl) (fun W hSW => ?hr) (HS).out ?ha ?_; (case hr => (try dsimp only at hSW); go_simp; first | done | rfl); (case ha => simp only [Act.put, List.setIfInBounds_toArray, List.set_cons_zero, List.set_cons_succ]; rfl)))
    refine sq_call rfl rfl (by rfl) rfl Try.func84 rfl rfl [.pointer (some ⟨bp, 0, none⟩)] rfl ?_
    refine H84.out.mono ?_
    rintro e _ ⟨rfl, rfl⟩
    refine ⟨_, rfl, fun _ => HS.out, ?_⟩
    simp only [Act.put, List.setIfInBounds_toArray, List.set_cons_zero, List.set_cons_succ]
    repeat (first
      | (refine sq_off (a' := ?_) rfl rfl (by rfl) (fun _ => (HS).out) ?ha ?_; (case ha => simp only [Act.put, List.setIfInBounds_toArray, List.set_cons_zero, List.set_cons_succ]; rfl))
      | (refine sq_any (v := ?_) (a' := ?_) rfl rfl rfl (by rfl) (fun W => ?hr) ?ha ?_; (case hr => go_simp; first | done | rfl); (case ha => simp only [Act.put, List.setIfInBounds_toArray, List.set_cons_zero, List.set_cons_succ]; rfl))
      | (refine sq_load (v := ?_) (a' := ?_) rfl rfl rfl (by rfl) (fun W hSW => ?hr) (HS).out ?ha ?_; (case hr => (try dsimp only at hSW); go_simp; first | done | rfl); (case ha => simp only [Act.put, List.setIfInBounds_toArray, List.set_cons_zero, List.set_cons_succ]; rfl)))
    refine sq_call rfl rfl (by rfl) rfl Try.func22 rfl rfl [pd, .int .i64 (pl : Int), .slice A3 nb c3] rfl ?_
    refine (write_yes (w := w3.drew) (d := hd) (a := pl) (b := B) HAT4.out.disk (HR3.out.fr (Fr.refl No _).drew (fun _ _ _ h => h)) (fun k hk ho => by
      have h1 : w2.heap.size ≤ k := hk
      have h2 := HAT.out.disk.lt k (.inl ho)
      have h3 := HF2.out.size
      omega) (by have := HQ.out.2.2; have := HNB.out; omega) (by have := HFI.out.2; omega)).mono ?_
    rintro e w5 ⟨O', R', rfl, hD, hO, hR, hf5⟩
    have HT5 : Hid (StAt w5 (fun k => X k ∨ O' k ∨ R' k) O' R' G bp pd vs vl ⟨hd.put pl B, hs, hhalf, hat, hmark⟩) := (show StAt _ _ _ _ _ _ _ _ _ _ from HAT4.out.turn hD hO hR hf5)
    have HX5 : Hid (∀ k, (X k ∨ O' k ∨ R' k) → X k ∨ w.heap.size ≤ k) := (show ∀ k, _ → _ from fun k hk => (HAT4.out.turnX hO hR k hk).imp id (fun h => by have h1 : w3.heap.size ≤ k := h; have := HF3.out.size; omega))
    have HF5 : Hid (Fr X w w5) := (show Fr X w w5 from HF3.out.drew.trans hf5 (fun _ _ h => h.elim) (fun k _ h => HAT.out.dx k (.inl h)))
    have HS5 : Hid (w5.cell? ⟨bp, 0, none⟩ = some pd ∧ w5.cell? ⟨bp, 7, none⟩ = some (.int .i64 hi) ∧ w5.cell? ⟨bp, 8, none⟩ = some (.int .i64 (hat : Int))) := (show _ ∧ _ ∧ _ from ⟨hf5.cell HS.out.1 HSEP.out.1, hf5.cell HS.out.2.1 HSEP.out.1, hf5.cell HS.out.2.2 HSEP.out.1⟩)
    refine ⟨_, rfl, fun _ => HS5.out, ?_⟩
    simp only [Act.put, List.setIfInBounds_toArray, List.set_cons_zero, List.set_cons_succ]
    clear hD hO hR hf5
    repeat (first
      | (refine sq_off (a' := ?_) rfl rfl (by rfl) (fun _ => (HS5).out) ?ha ?_; (case ha => simp only [Act.put, List.setIfInBounds_toArray, List.set_cons_zero, List.set_cons_succ]; rfl))
      | (refine sq_any (v := ?_) (a' := ?_) rfl rfl rfl (by rfl) (fun W => ?hr) ?ha ?_; (case hr => go_simp; first | done | rfl); (case ha => simp only [Act.put, List.setIfInBounds_toArray, List.set_cons_zero, List.set_cons_succ]; rfl))
      | (refine sq_load (v := ?_) (a' := ?_) rfl rfl rfl (by rfl) (fun W hSW => ?hr) (HS5).out ?ha ?_; (case hr => (try dsimp only at hSW); go_simp; first | done | rfl); (case ha => simp only [Act.put, List.setIfInBounds_toArray, List.set_cons_zero, List.set_cons_succ]; rfl)))
    refine sq_done ?_
    obtain ⟨_, _, c8⟩ := HS5.out
    have z8 := st_free HT5.out.blk 8
    have hs1 : IntKind.i64.wrap ((hat : Int) + (nb : Int)) = ((hat + nb : Nat) : Int) := by rw [IntKind.wrap_i64]; omega
    clear hq1 hq2 hq3 hq4 hg1
    go_wp2_with fail
    go_ret
    have hb6 : (w5.setCell ⟨bp, 8, none⟩ (.int .i64 ((hat : Int) + (nb : Int)))).heap[bp]? = some (stBlk pd hs vs vl hhalf ((hat + nb : Nat) : Int) hmark) := by
      rw [Int.natCast_add]
      exact (st_set HT5.out.blk).2.1 _
    have h6 := HT5.out.own (x' := ⟨hd.put pl B, hs, hhalf, hat + nb, hmark⟩) (Fr.one _ _) hb6 rfl rfl
    rw [HG.out]
    refine (show StPost _ _ _ _ _ _ _ _ from ⟨_, rfl, ⟨bp, O', R', G, vs, vl, rfl, ?_⟩, HX5.out, HF5.out.then ((Fr.one _ _).mono (fun k _ hk => by have h' : k = bp := hk; rw [h']; exact HAT.out.top))⟩)
    unfold layS
    rw [HG.out, if_pos rfl]
    unfold St.laid
    rw [← HQ.out.1]
    simp only
    rw [← HNB.out]
    exact h6
  · have hg1 : decide ((nb : Int) > (hn : Int) - (hat : Int)) = true := by simp; omega
    have HG : Hid (roomB ⟨hd, hs, hhalf, hat, hmark⟩ B = false) := (show _ = _ from by rw [HQ.out.2.1]; simpa using hroom)
    repeat (first
      | (refine sq_off (a' := ?_) rfl rfl (by rfl) (fun _ => (HS).out) ?ha ?_; (case ha => simp only [Act.put, List.setIfInBounds_toArray, List.set_cons_zero, List.set_cons_succ]; rfl))
      | (refine sq_any (v := ?_) (a' := ?_) rfl rfl rfl (by rfl) (fun W => ?hr) ?ha ?_; (case hr => go_simp; first | done | rfl); (case ha => simp only [Act.put, List.setIfInBounds_toArray, List.set_cons_zero, List.set_cons_succ]; rfl))
      | (refine sq_load (v := ?_) (a' := ?_) rfl rfl rfl (by rfl) (fun W hSW => ?hr) (HS).out ?ha ?_; (case hr => (try dsimp only at hSW); go_simp; first | done | rfl); (case ha => simp only [Act.put, List.setIfInBounds_toArray, List.set_cons_zero, List.set_cons_succ]; rfl)))
    refine sq_call rfl rfl (by rfl) rfl Try.func84 rfl rfl [.pointer (some ⟨bp, 0, none⟩)] rfl ?_
    refine H84.out.mono ?_
    rintro e _ ⟨rfl, rfl⟩
    refine ⟨_, rfl, fun _ => HS.out, ?_⟩
    simp only [Act.put, List.setIfInBounds_toArray, List.set_cons_zero, List.set_cons_succ]
    repeat (first
      | (refine sq_off (a' := ?_) rfl rfl (by rfl) (fun _ => (HS).out) ?ha ?_; (case ha => simp only [Act.put, List.setIfInBounds_toArray, List.set_cons_zero, List.set_cons_succ]; rfl))
      | (refine sq_any (v := ?_) (a' := ?_) rfl rfl rfl (by rfl) (fun W => ?hr) ?ha ?_; (case hr => go_simp; first | done | rfl); (case ha => simp only [Act.put, List.setIfInBounds_toArray, List.set_cons_zero, List.set_cons_succ]; rfl))
      | (refine sq_load (v := ?_) (a' := ?_) rfl rfl rfl (by rfl) (fun W hSW => ?hr) (HS).out ?ha ?_; (case hr => (try dsimp only at hSW); go_simp; first | done | rfl); (case ha => simp only [Act.put, List.setIfInBounds_toArray, List.set_cons_zero, List.set_cons_succ]; rfl)))
    refine sq_eff_off (a' := ?_) rfl rfl (by rfl) (fun _ => HS.out) ?ha ?_
    case ha => simp only [Act.put, List.setIfInBounds_toArray, List.set_cons_zero, List.set_cons_succ]; rfl
    repeat (first
      | (refine sq_off (a' := ?_) rfl rfl (by rfl) (fun _ => (HS).out) ?ha ?_; (case ha => simp only [Act.put, List.setIfInBounds_toArray, List.set_cons_zero, List.set_cons_succ]; rfl))
      | (refine sq_any (v := ?_) (a' := ?_) rfl rfl rfl (by rfl) (fun W => ?hr) ?ha ?_; (case hr => go_simp; first | done | rfl); (case ha => simp only [Act.put, List.setIfInBounds_toArray, List.set_cons_zero, List.set_cons_succ]; rfl))
      | (refine sq_load (v := ?_) (a' := ?_) rfl rfl rfl (by rfl) (fun W hSW => ?hr) (HS).out ?ha ?_; (case hr => (try dsimp only at hSW); go_simp; first | done | rfl); (case ha => simp only [Act.put, List.setIfInBounds_toArray, List.set_cons_zero, List.set_cons_succ]; rfl)))
    refine sq_eff_off (a' := ?_) rfl rfl (by rfl) (fun _ => HS.out) ?ha ?_
    case ha => simp only [Act.put, List.setIfInBounds_toArray, List.set_cons_zero, List.set_cons_succ]; rfl
    repeat (first
      | (refine sq_off (a' := ?_) rfl rfl (by rfl) (fun _ => (HS).out) ?ha ?_; (case ha => simp only [Act.put, List.setIfInBounds_toArray, List.set_cons_zero, List.set_cons_succ]; rfl))
      | (refine sq_any (v := ?_) (a' := ?_) rfl rfl rfl (by rfl) (fun W => ?hr) ?ha ?_; (case hr => go_simp; first | done | rfl); (case ha => simp only [Act.put, List.setIfInBounds_toArray, List.set_cons_zero, List.set_cons_succ]; rfl))
      | (refine sq_load (v := ?_) (a' := ?_) rfl rfl rfl (by rfl) (fun W hSW => ?hr) (HS).out ?ha ?_; (case hr => (try dsimp only at hSW); go_simp; first | done | rfl); (case ha => simp only [Act.put, List.setIfInBounds_toArray, List.set_cons_zero, List.set_cons_succ]; rfl)))
    refine sq_done ?_
    clear hq1 hq2 hq3 hq4 hg1
    go_wp2_with fail
    go_ret
    rw [HG.out]
    exact (show StPost _ _ _ _ _ _ _ _ from ⟨X, rfl, ⟨bp, O, R, G, vs, vl, rfl, by unfold layS; rw [HG.out]; exact HAT4.out⟩, fun k hk => .inl hk, HF3.out.drew.mono (fun _ _ h => h.elim)⟩)
end Go.Proofs.Ytbaohngnpgappaa
