/- store's record: one that stands there is read. -/
import Derived.Test.YtbaohngnpgappaaS17
set_option linter.unusedVariables false
set_option linter.unusedSimpArgs false
namespace Go.Proofs.Ytbaohngnpgappaa
open Go.RowKit
/-- A record's item. -/
def itRec (a b c d : Int) (t : List UInt8) (es : List En) : It := itList [itNum a, itNum b, itNum c, itNum d, itText t, itEns es]
theorem itSv_rec (s : Sv) : itSv s = itRec s.term s.vote s.base s.bterm s.snap s.l := rfl
theorem itCh_rec (c : Ch) : itCh c = itRec c.kind c.term c.vote c.at_ c.b c.l := rfl
theorem rec_check (a b c d : Int) (t : List UInt8) (es : List En) : checkI (itRec a b c d t es) = 0 := sv_check ⟨a, b, c, d, t, es⟩
def RecPost (w : World) (X O R G : Nat → Prop) (bp : Nat) (pd vs vl : Value) (v : It) (x' : St) (e : Ending) (w' : World) : Prop :=
  ∃ vv, e = .returned (.tuple #[vv, .bool true]) ∧ ItV w' (New w) vv v ∧ StAt w' X O R G bp pd vs vl x' ∧ Fr (fun q => q = bp) w w'
set_option maxRecDepth 100000 in
set_option maxHeartbeats 4000000 in
theorem record_any {w : World} {X O R G : Nat → Prop} {bp : Nat} {pd vs vl : Value} {x : St} {tl : Nat} {a b c d : Int} {tx : List UInt8} {es : List En} {q : List UInt8} (h : StAt w X O R G bp pd vs vl x) (hn : 16 ≤ x.d.now.length) (hhalf : x.half ≤ 1) (hat : x.at_ ≤ tl) (hto : tl ≤ x.d.half)
    (hread : readB x.d.now (x.place : Int) ((tl : Int) - (x.at_ : Int)) = sealB (itRec a b c d tx es).enc ++ q) (hfit : (itRec a b c d tx es).fit) (hbk : (itRec a b c d tx es).bulk ≤ 1048576) :
    Calls Try.prog 83 #[.pointer (some ⟨bp, 0, none⟩), .int .i64 (tl : Int)] w (RecPost w X O R G bp pd vs vl (itRec a b c d tx es) { x with at_ := x.at_ + (sealB (itRec a b c d tx es).enc).length }) := by
  have HAT := Lib.hid h
  obtain ⟨E, hE⟩ : ∃ E, E = (itRec a b c d tx es).enc := ⟨_, rfl⟩
  have HE := Lib.hid hE
  rw [← hE] at hread ⊢
  have hEl : E.length ≤ 11534336 := by rw [hE]; have := It.enc_bulk (itRec a b c d tx es); omega
  have HOP : Hid (openB (sealB E ++ q) = (E, E.length + 8, 0)) := (show _ = _ from openB_seal (by omega) q)
  have HDE : Hid (readI E = (itRec a b c d tx es, E.length, 0)) := (show _ = _ from by
    have h := readI_of (x := itRec a b c d tx es) (rec_check a b c d tx es) hfit hbk []
    rw [List.append_nil] at h
    rw [hE]
    exact h)
  have HRD := Lib.hid hread
  obtain ⟨hd, hs, hhf, hat_, hmark⟩ := x
  have hblk := h.blk
  obtain ⟨c0, _, _, _, _, _, _, c7, c8, _⟩ := st_cells hblk
  simp only at c7 c8 hn hhalf hat hto HRD
  obtain ⟨hi, hhi⟩ : ∃ hi : Int, hi = (hhf : Int) := ⟨_, rfl⟩
  rw [← hhi] at c7
  obtain ⟨hz, hhz⟩ : ∃ hz : Nat, hz = hd.half := ⟨_, rfl⟩
  have hlen := h.disk.len.1
  simp only at hlen
  have hhz2 : 2 * hz + 16 ≤ hd.now.length := by rw [hhz]; unfold Dk.half; omega
  have hhz3 : hz ≤ 524288 := by omega
  obtain ⟨pr, hpr⟩ : ∃ q : Nat, q = hhf * hz := ⟨_, rfl⟩
  have hq0 : pr = 0 ∨ pr = hz := by
    rcases (show hhf = 0 ∨ hhf = 1 by omega) with h0 | h0
    · left; rw [hpr, h0, Nat.zero_mul]
    · right; rw [hpr, h0, Nat.one_mul]
  have hqi : hi * (hz : Int) = (pr : Int) := by rw [hhi, hpr, Int.natCast_mul]
  have hq1 : IntKind.i64.wrap (hi * (hz : Int)) = (pr : Int) := by rw [hqi, IntKind.wrap_i64]; omega
  obtain ⟨pl, hpl⟩ : ∃ pl : Nat, pl = 16 + pr + hat_ := ⟨_, rfl⟩
  rw [← hhz] at hto
  have hq2 : IntKind.i64.wrap (16 + (pr : Int)) = 16 + (pr : Int) := by rw [IntKind.wrap_i64]; omega
  have hq3 : IntKind.i64.wrap (16 + (pr : Int) + (hat_ : Int)) = (pl : Int) := by rw [IntKind.wrap_i64]; omega
  have hq4 : IntKind.i64.wrap ((tl : Int) - (hat_ : Int)) = (tl : Int) - (hat_ : Int) := by rw [IntKind.wrap_i64]; omega
  have HPL : Hid (readB hd.now (pl : Int) ((tl : Int) - (hat_ : Int)) = sealB E ++ q) := (show _ = _ from by
    rw [← HRD.out, show pl = St.place ⟨hd, hs, hhf, hat_, hmark⟩ from by unfold St.place; simp only; rw [hpl, hpr, hhz]])
  have HB1 : Hid (-9223372036854775808 ≤ (pl : Int) ∧ (pl : Int) ≤ 9223372036854775807 ∧ (tl : Int) - (hat_ : Int) ≤ 9223372036854775807) := (show _ ∧ _ ∧ _ from by omega)
  have HHZ := Lib.hid hhz
  obtain ⟨ne, hne⟩ : ∃ n, n = E.length := ⟨_, rfl⟩
  have HNE := Lib.hid hne
  have hnel : ne ≤ 11534336 := by rw [hne]; exact hEl
  have hto2 : hat_ ≤ 524288 := by omega
  obtain ⟨rb, hrb⟩ : ∃ b, b = w.heap.size := ⟨_, rfl⟩
  have HRB := Lib.hid hrb
  obtain ⟨w1, hw1⟩ : ∃ w1, Hid (w1 = w.alloc (.cells #[.int .i64 0, .int .i64 0, .string ⟨#[]⟩, .slice none 0 0] 48 (0, 0))) := ⟨_, show _ = _ from rfl⟩
  have hf1 : Fr No w w1 := by rw [hw1.out]; exact (Fr.refl _ _).alloc _
  have hv1 : VIs w1 rb 0 0 [] (.slice none 0 0) := by rw [hw1.out, hrb]; exact blk_new _ _
  have HF1 := Lib.hid hf1
  have HV1 := Lib.hid hv1
  have HN := Lib.hid hn
  have HS : Hid (w1.drew.cell? ⟨bp, 0, none⟩ = some pd ∧ w1.drew.cell? ⟨bp, 7, none⟩ = some (.int .i64 hi) ∧ w1.drew.cell? ⟨bp, 8, none⟩ = some (.int .i64 (hat_ : Int))) := (show _ ∧ _ ∧ _ from ⟨hf1.drew.cell c0 (fun h => h), hf1.drew.cell c7 (fun h => h), hf1.drew.cell c8 (fun h => h)⟩)
  have HLT : Hid (bp < w.heap.size) := (show _ < _ from h.lt bp h.top)
  clear h hn hhalf hat hto hread hfit hbk hE hEl HRD hblk c0 c7 c8 hhi hhz hlen hhz2 hpr hq0 hqi hpl hne hrb hf1 hv1
  go_enter Try.func83, Try.ntmps83
  go_upto_region 1 with fail
  rw [← hw1.out, ← HRB.out]
  have HAT4 : Hid (StAt w1.drew X O R G bp pd vs vl ⟨hd, hs, hhf, hat_, hmark⟩) := (show StAt _ _ _ _ _ _ _ _ _ _ from HAT.out.no HF1.out.drew)
  have H84 : Hid (Calls Try.prog 84 #[.pointer (some ⟨bp, 0, none⟩)] w1.drew fun e w' => e = .returned (.int .i64 (hz : Int)) ∧ w1.drew = w') := (show Calls _ _ _ _ _ from by
    have h := ssize_any HAT4.out HN.out
    rw [HHZ.out]
    exact h)
  refine wp_seq_region (fun W => W.cell? ⟨bp, 0, none⟩ = some pd ∧ W.cell? ⟨bp, 7, none⟩ = some (.int .i64 hi) ∧ W.cell? ⟨bp, 8, none⟩ = some (.int .i64 (hat_ : Int))) [9, 23, 24] [3, 7, 15, 21] [] [0, 1, 2, 3, 4, 5, 6, 7, 8, 12, 13, 14, 15, 17, 18, 19, 20, 21, 22, 9, 10, 11, 16, 23, 24, 25, 26, 27, 28, 29, 30, 31] (by kernel_rfl) (by kernel_rfl) rfl (by kernel_rfl) (fun _ _ _ _ _ h => h) ?_
  repeat (first
    | (refine sq_off (a' := ?_) rfl rfl (by rfl) (fun _ => (HS).out) ?ha ?_; (case ha => simp only [Act.put, List.setIfInBounds_toArray, List.set_cons_zero, List.set_cons_succ]; rfl))
    | (refine sq_any (v := ?_) (a' := ?_) rfl rfl rfl (by rfl) (fun W => ?hr) ?ha ?_; (case hr => go_simp; first | done | rfl); (case ha => simp only [Act.put, List.setIfInBounds_toArray, List.set_cons_zero, List.set_cons_succ]; rfl))
    | (refine sq_load (v := ?_) (a' := ?_) rfl rfl rfl (by rfl) (fun W hSW => ?hr) (HS).out ?ha ?_; (case hr => (try dsimp only at hSW); go_simp; first | done | rfl); (case ha => simp only [Act.put, List.setIfInBounds_toArray, List.set_cons_zero, List.set_cons_succ]; rfl)))
  refine sq_call rfl rfl (by rfl) rfl Try.func84 rfl rfl [.pointer (some ⟨bp, 0, none⟩)] rfl ?_
  refine H84.out.mono ?_
  rintro e _ ⟨rfl, rfl⟩
  refine ⟨_, rfl, fun _ => HS.out, ?_⟩
  simp only [Act.put, List.setIfInBounds_toArray, List.set_cons_zero, List.set_cons_succ]
  repeat (first
    | (refine sq_off (a' := ?_) rfl rfl (by rfl) (fun _ => (HS).out) ?ha ?_; (case ha => simp only [Act.put, List.setIfInBounds_toArray, List.set_cons_zero, List.set_cons_succ]; rfl))
    | (refine sq_any (v := ?_) (a' := ?_) rfl rfl rfl (by rfl) (fun W => ?hr) ?ha ?_; (case hr => go_simp; first | done | rfl); (case ha => simp only [Act.put, List.setIfInBounds_toArray, List.set_cons_zero, List.set_cons_succ]; rfl))
    | (refine sq_load (v := ?_) (a' := ?_) rfl rfl rfl (by rfl) (fun W hSW => ?hr) (HS).out ?ha ?_; (case hr => (try dsimp only at hSW); go_simp; first | done | rfl); (case ha => simp only [Act.put, List.setIfInBounds_toArray, List.set_cons_zero, List.set_cons_succ]; rfl)))
  refine sq_call rfl rfl (by rfl) rfl Try.func24 rfl rfl [pd, .int .i64 (pl : Int), .int .i64 ((tl : Int) - (hat_ : Int))] rfl ?_
  refine (read_any (w := w1.drew) (d := hd) HAT4.out.disk HB1.out.1 HB1.out.2.1 HB1.out.2.2).mono ?_
  rw [HPL.out]
  rintro e w2 ⟨v2, rfl, hown2, hf2⟩
  have HR2 : Hid (Rb w2 (New w1.drew) v2 (sealB E ++ q)) := (show Rb _ _ _ _ from hown2.reads)
  have HF2 : Hid (Fr No w1 w2) := (show Fr No w1 w2 from (show Fr No w1 w1.drew from (Fr.refl No _).drew).then hf2)
  have HS2 : Hid (w2.cell? ⟨bp, 0, none⟩ = some pd ∧ w2.cell? ⟨bp, 7, none⟩ = some (.int .i64 hi) ∧ w2.cell? ⟨bp, 8, none⟩ = some (.int .i64 (hat_ : Int))) := (show _ ∧ _ ∧ _ from ⟨hf2.cell HS.out.1 (fun h => h), hf2.cell HS.out.2.1 (fun h => h), hf2.cell HS.out.2.2 (fun h => h)⟩)
  refine ⟨_, rfl, fun _ => HS2.out, ?_⟩
  simp only [Act.put, List.setIfInBounds_toArray, List.set_cons_zero, List.set_cons_succ]
  clear hown2 hf2
  repeat (first
    | (refine sq_off (a' := ?_) rfl rfl (by rfl) (fun _ => (HS2).out) ?ha ?_; (case ha => simp only [Act.put, List.setIfInBounds_toArray, List.set_cons_zero, List.set_cons_succ]; rfl))
    | (refine sq_any (v := ?_) (a' := ?_) rfl rfl rfl (by rfl) (fun W => ?hr) ?ha ?_; (case hr => go_simp; first | done | rfl); (case ha => simp only [Act.put, List.setIfInBounds_toArray, List.set_cons_zero, List.set_cons_succ]; rfl))
    | (refine sq_load (v := ?_) (a' := ?_) rfl rfl rfl (by rfl) (fun W hSW => ?hr) (HS2).out ?ha ?_; (case hr => (try dsimp only at hSW); go_simp; first | done | rfl); (case ha => simp only [Act.put, List.setIfInBounds_toArray, List.set_cons_zero, List.set_cons_succ]; rfl)))
  refine sq_call rfl rfl (by rfl) rfl Try.func53 rfl rfl [v2] rfl ?_
  refine (open_any (w := w2) HR2.out).mono ?_
  rw [HOP.out, ← HNE.out]
  rintro e w3 ⟨v3, rfl, hown3, hf3⟩
  have HR3 : Hid (Rb w3 (New w2) v3 E) := (show Rb _ _ _ _ from hown3.reads)
  have HF3 : Hid (Fr No w1 w3) := (show Fr No w1 w3 from HF2.out.then hf3)
  have HS3 : Hid (w3.cell? ⟨bp, 0, none⟩ = some pd ∧ w3.cell? ⟨bp, 7, none⟩ = some (.int .i64 hi) ∧ w3.cell? ⟨bp, 8, none⟩ = some (.int .i64 (hat_ : Int))) := (show _ ∧ _ ∧ _ from ⟨hf3.cell HS2.out.1 (fun h => h), hf3.cell HS2.out.2.1 (fun h => h), hf3.cell HS2.out.2.2 (fun h => h)⟩)
  refine ⟨_, rfl, fun _ => HS3.out, ?_⟩
  simp only [Act.put, List.setIfInBounds_toArray, List.set_cons_zero, List.set_cons_succ]
  clear hown3 hf3 hq1 hq2 hq3 hq4
  repeat (first
    | (refine sq_off (a' := ?_) rfl rfl (by rfl) (fun _ => (HS3).out) ?ha ?_; (case ha => simp only [Act.put, List.setIfInBounds_toArray, List.set_cons_zero, List.set_cons_succ]; rfl))
    | (refine sq_any (v := ?_) (a' := ?_) rfl rfl rfl (by rfl) (fun W => ?hr) ?ha ?_; (case hr => go_simp; first | done | rfl); (case ha => simp only [Act.put, List.setIfInBounds_toArray, List.set_cons_zero, List.set_cons_succ]; rfl))
    | (refine sq_load (v := ?_) (a' := ?_) rfl rfl rfl (by rfl) (fun W hSW => ?hr) (HS3).out ?ha ?_; (case hr => (try dsimp only at hSW); go_simp; first | done | rfl); (case ha => simp only [Act.put, List.setIfInBounds_toArray, List.set_cons_zero, List.set_cons_succ]; rfl)))
  refine sq_done ?_
  go_wp2_with fail
  refine (decode_any (w := w3) (x := itRec a b c d tx es) HR3.out (by rw [← HNE.out]; omega) HDE.out).mono ?_
  rintro e w4 ⟨vv, rfl, hiv, hf4⟩
  obtain ⟨cs, rfl, hir⟩ := hiv
  unfold itRec itList at hir
  have hir0 := hir
  obtain ⟨vx, rfl, hrow, _⟩ := itR_row hir
  obtain ⟨b5, o5, c4, cs5, hvx, hc41, hc42, hb5, hr5, hc5⟩ := hrow.at_ 5 (by simp)
  have hr5' : ItR w4 (New w3) (.mk 3 0 [] (es.map itEn)) cs5 := hr5
  obtain ⟨vl5, rfl, hrow5, _⟩ := itR_row hr5'
  subst hvx
  have HB5 := Lib.hid hb5
  have hc4 : [itNum a, itNum b, itNum c, itNum d, itText tx, itEns es].length = 6 := rfl
  rw [hc4] at hir0 hrow hc41 ⊢
  have k5 := hc5 3 vl5 rfl
  simp only [show ItK.sz = 4 from rfl, Nat.reduceMul, Nat.add_assoc, Nat.reduceAdd] at k5
  obtain ⟨A5, c5, rfl, _, _⟩ := hrow5.shape
  obtain ⟨n5, hn5⟩ : ∃ n, n = (es.map itEn).length := ⟨_, rfl⟩
  rw [← hn5] at hrow5 k5
  have HROW := Lib.hid hrow
  have HROW5 := Lib.hid hrow5
  have HIR := Lib.hid hir0
  have HF4 : Hid (Fr No w1 w4) := (show Fr No w1 w4 from HF3.out.then hf4)
  obtain ⟨vb, hvb⟩ : ∃ b, b = w4.heap.size := ⟨_, rfl⟩
  have HVB := Lib.hid hvb
  have hat4 : StAt w4 X O R G bp pd vs vl ⟨hd, hs, hhf, hat_, hmark⟩ := HAT.out.no (HF1.out.then HF4.out)
  have HAT5 := Lib.hid hat4
  have HK5 := Lib.hid k5
  clear hir hir0 hrow hr5 hr5' hc5 hrow5 hn5 hf4 hvb hat4 k5 hb5 hc41 hc42 hc4
  have hstr : str [] = .string ⟨#[]⟩ := rfl
  rw [hstr] at HIR ⊢
  clear hstr
  go_upto_region 5 with fail
  obtain ⟨w5, hw5⟩ : ∃ w5, Hid (w5 = w4.alloc (.cells #[.int .i64 3, .int .i64 0, .string ⟨#[]⟩, .slice (some ⟨b5, o5, none⟩) 6 c4] 48 (0, 0))) := ⟨_, show _ = _ from rfl⟩
  rw [← hw5.out, ← HVB.out]
  have hf5 : Fr No w4 w5 := by rw [hw5.out]; exact (Fr.refl _ _).alloc _
  have HF5 := Lib.hid hf5
  have HV5 : Hid (VIs w5 vb 3 0 [] (.slice (some ⟨b5, o5, none⟩) 6 c4)) := (show VIs _ _ _ _ _ _ from by rw [hw5.out, HVB.out]; exact blk_new _ _)
  have HAT6 : Hid (StAt w5 X O R G bp pd vs vl ⟨hd, hs, hhf, hat_, hmark⟩) := (show StAt _ _ _ _ _ _ _ _ _ _ from HAT5.out.no hf5)
  have c8 := (st_cells HAT6.out.blk).2.2.2.2.2.2.2.2.1
  simp only at c8
  have z8 := st_free HAT6.out.blk 8
  clear hf5
  go_upto_region 6 with fail
  obtain ⟨w6, hw6⟩ : ∃ w6, Hid (w6 = w5.setCell ⟨bp, 8, none⟩ (.int .i64 ((hat_ : Int) + ((ne : Int) + 8)))) := ⟨_, show _ = _ from rfl⟩
  rw [← hw6.out]
  have HF6 : Hid (Fr (fun q => q = bp) w5 w6) := (show Fr _ _ _ from by rw [hw6.out]; exact Fr.one _ _)
  have HAT7 : Hid (StAt w6 X O R G bp pd vs vl ⟨hd, hs, hhf, hat_ + (ne + 8), hmark⟩) := (show StAt _ _ _ _ _ _ _ _ _ _ from by
    refine HAT6.out.own (x' := ⟨hd, hs, hhf, hat_ + (ne + 8), hmark⟩) HF6.out ?_ rfl rfl
    rw [hw6.out, show ((hat_ + (ne + 8) : Nat) : Int) = (hat_ : Int) + ((ne : Int) + 8) from by omega]
    exact (st_set HAT6.out.blk).2.1 _)
  have hvb : vb ≠ bp := by have := HVB.out; have := HLT.out; have := HF1.out.size; have := HF4.out.size; omega
  have hv6 : VIs w6 vb 3 0 [] (.slice (some ⟨b5, o5, none⟩) 6 c4) := HF6.out.heap HV5.out hvb
  have HFW6 : Hid (Fr (fun q => q = bp) w4 w6) := (show Fr _ _ _ from HF5.out.trans HF6.out (fun _ _ h => h.elim) (fun _ _ h => h))
  have hW3 : w.heap.size ≤ w3.heap.size := by have := HF1.out.size; have := HF3.out.size; omega
  have hN3 : ∀ k, New w3 k → ¬ k = bp := fun k hk e => by have h' : w3.heap.size ≤ k := hk; have := HLT.out; omega
  have HN3 := Lib.hid hN3
  have HIV6 : Hid (ItR w6 (New w3) (It.mk 3 0 [] [itNum a, itNum b, itNum c, itNum d, itText tx, itEns es]) [.int .i64 3, .int .i64 0, .string ⟨#[]⟩, .slice (some ⟨b5, o5, none⟩) 6 c4]) := (show ItR _ _ _ _ from itR_move (fun k hk hl => HFW6.out.block k hl (hN3 k hk)) _ _ HIR.out)
  obtain ⟨b0, b1, b2, b3⟩ := v_cells hv6
  have HV6 := Lib.hid hv6
  clear c8 z8 hvb hv6 hW3 hN3
  go_wp2_with fail
  obtain ⟨w7, hw7⟩ : ∃ w7, Hid (w7 = w6.alloc (.cells #[.int .i64 1, .int .i64 1, .int .i64 1, .int .i64 1, .int .i64 2, .int .i64 3] 3)) := ⟨_, show _ = _ from rfl⟩
  rw [← hw7.out]
  have hf7 : Fr No w6 w7 := by rw [hw7.out]; exact (Fr.refl _ _).alloc _
  have hks : Rds encI w7 (fun k => k = w6.heap.size) (.slice (some ⟨w6.heap.size, 0, none⟩) 6 6) [1, 1, 1, 1, 2, 3] := by
    refine ⟨_, 6, rfl, Nat.le_refl _, by decide, fun j y hj => ⟨w6.heap.size, 0, rfl, rfl, ?_⟩⟩
    have hb7 : w7.heap[w6.heap.size]? = some (.cells #[.int .i64 1, .int .i64 1, .int .i64 1, .int .i64 1, .int .i64 2, .int .i64 3] 3 (0, 0)) := by rw [hw7.out]; exact blk_new _ _
    rw [Nat.zero_add, blk_cell hb7]
    rcases j with _ | _ | _ | _ | _ | _ | j
    · cases hj; rfl
    · cases hj; rfl
    · cases hj; rfl
    · cases hj; rfl
    · cases hj; rfl
    · cases hj; rfl
    · simp at hj
  refine (kinds_any (w := w7) (n := 0) (s := []) (l := [itNum a, itNum b, itNum c, itNum d, itText tx, itEns es]) (ks := [1, 1, 1, 1, 2, 3]) ⟨_, rfl, itR_move (fun k _ hk => hf7.block k hk (fun h => h)) _ _ HIV6.out⟩ hks rfl).mono ?_
  rintro e w8 ⟨rfl, hf8⟩
  have HF68 : Hid (Fr No w6 w8) := (show Fr No w6 w8 from hf7.then hf8)
  have hv8 : VIs w8 vb 3 0 [] (.slice (some ⟨b5, o5, none⟩) 6 c4) := HF68.out.heap HV6.out (fun h => h)
  clear b0 b1 b2 b3 hf7 hf8 hks
  obtain ⟨b0, b1, b2, b3⟩ := v_cells hv8
  have k5 : w8.cell? ⟨b5, o5 + 23, none⟩ = some (.slice A5 n5 c5) := HF68.out.cell (HFW6.out.cell HK5.out (HN3.out _ HB5.out)) (fun h => h)
  have HV8 := Lib.hid hv8
  clear hv8
  go_wp2_with fail
  refine (nobad_any (w := w8) (l := es.map itEn) ((HROW5.out.fr (by decide) HFW6.out (fun k _ hk => HN3.out k hk)).fr (by decide) HF68.out (fun _ _ _ h => h)) (itEn_pairs es)).mono ?_
  rintro e w9 ⟨rfl, hf9⟩
  have HF69 : Hid (Fr No w6 w9) := (show Fr No w6 w9 from HF68.out.then hf9)
  have hv9 : VIs w9 vb 3 0 [] (.slice (some ⟨b5, o5, none⟩) 6 c4) := hf9.heap HV8.out (fun h => h)
  have hr9 : VIs w9 rb 0 0 [] (.slice none 0 0) := HF69.out.heap (HFW6.out.heap (HF4.out.heap HV1.out (fun h => h)) (fun h => by have h' : rb = bp := h; have := HLT.out; have := HRB.out; omega)) (fun h => h)
  clear b0 b1 b2 b3 k5 hf9
  obtain ⟨b0, b1, b2, b3⟩ := v_cells hv9
  obtain ⟨r0, r1, r2, r3⟩ := v_cells hr9
  have z0 := v_free hr9 0
  have z1 := v_free hr9 1
  have z2 := v_free hr9 2
  have z3 := v_free hr9 3
  have HR9 := Lib.hid hr9
  clear hv9 hr9
  go_wp2_with fail
  obtain ⟨w10, hw10⟩ : ∃ w10, Hid (w10 = backW w9 rb 3 0 [] (.slice (some ⟨b5, o5, none⟩) 6 c4)) := ⟨_, show _ = _ from rfl⟩
  have hx10 : VIs w10 rb 3 0 [] (.slice (some ⟨b5, o5, none⟩) 6 c4) := by rw [hw10.out]; exact back_set (s' := []) HR9.out
  have HF10 : Hid (Fr (fun q => q = rb) w9 w10) := (show Fr _ _ _ from by rw [hw10.out]; exact back_fr _ _ _ _ _ _)
  unfold backW at hw10
  rw [← hw10.out]
  obtain ⟨y0, y1, y2, y3⟩ := v_cells hx10
  clear b0 b1 b2 b3 r0 r1 r2 r3 z0 z1 z2 z3
  (try simp only [Exit.inBlock, Exit.then])
  refine bodyPost_ret (by simp [results, Try.results83, go_sem, y0, y1, y2, y3]; try rfl) rfl ?_
  have hs1 : rb < w1.heap.size := heap_lt HV1.out
  have hs3 := HF3.out.size
  have hrb := HRB.out
  have hs6 := HFW6.out.size
  have hs9 := HF69.out.size
  have hs4 := HF4.out.size
  have hN : ∀ k, New w3 k → ¬ k = rb := fun k hk e => by have h' : w3.heap.size ≤ k := hk; omega
  rw [sealB_len, ← HNE.out]
  refine (show RecPost _ _ _ _ _ _ _ _ _ _ _ _ _ from ⟨_, rfl, ⟨_, rfl, itR_mono (fun k hk => ?_) _ _ (itR_move (w := w9) (fun k hk hl => HF10.out.block k hl (hN k hk)) _ _ (itR_move (fun k _ hl => HF69.out.block k hl (fun h => h)) _ _ HIV6.out))⟩, (HAT7.out.no HF69.out).move HF10.out (fun k _ hk h => by have h' : k = rb := h; have := HAT.out.lt k hk; omega), ?_⟩)
  · have h' : w3.heap.size ≤ k := hk
    show w.heap.size ≤ k
    omega
  · exact ((HF1.out.then HF4.out).trans HFW6.out (U := fun q => q = bp) (fun _ _ h => h.elim) (fun _ _ h => h)).trans (HF69.out.trans HF10.out (U := fun q => q = rb) (fun _ _ h => h.elim) (fun _ _ h => h)) (fun _ _ h => h) (fun q hq h => by have h' : q = rb := h; omega)
end Go.Proofs.Ytbaohngnpgappaa
