/- store's Saved and rewrite. -/
import Derived.Test.YtbaohngnpgappaaS12
set_option linter.unusedVariables false
set_option linter.unusedSimpArgs false
namespace Go.Proofs.Ytbaohngnpgappaa
open Go.RowKit
theorem StAt.kv {w : World} {X O R G : Nat → Prop} {bp : Nat} {pd vs vl : Value} {x : St} (h : StAt w X O R G bp pd vs vl x) : KV SvK w G (.agg #[.int .i64 x.s.term, .int .i64 x.s.vote, .int .i64 x.s.base, .int .i64 x.s.bterm, vs, vl]) x.s :=
  ⟨_, rfl, ⟨_, _, rfl, h.snap, h.ents, h.num⟩⟩
set_option maxHeartbeats 2000000 in
theorem saved_any {w : World} {X O R G : Nat → Prop} {bp : Nat} {pd vs vl : Value} {x : St} (h : StAt w X O R G bp pd vs vl x) (hlim : x.s.lim) : Calls Try.prog 43 #[.pointer (some ⟨bp, 0, none⟩)] w (SvPost w x.s) := by
  obtain ⟨hd, ⟨st, sv, sb, sbt, sn, sl⟩, hhalf, hat, hmark⟩ := x
  obtain ⟨As, cs, rfl, _, _⟩ := h.snap.shape
  obtain ⟨Al, cl, rfl, _, _⟩ := h.ents.shape
  have HKV := Lib.hid h.kv
  have HLIM := Lib.hid hlim
  have hb := h.blk
  simp only at hb HKV
  obtain ⟨ns, hns⟩ : ∃ n, n = sn.length := ⟨_, rfl⟩
  obtain ⟨nl, hnl⟩ : ∃ n, n = sl.length := ⟨_, rfl⟩
  rw [← hns, ← hnl] at HKV hb
  have HNS := Lib.hid hns
  have HNL := Lib.hid hnl
  obtain ⟨rb, hrb⟩ : ∃ b, b = w.heap.size := ⟨_, rfl⟩
  have HRB := Lib.hid hrb
  obtain ⟨w1, hw1⟩ : ∃ w1, Hid (w1 = w.alloc (.cells #[.int .i64 0, .int .i64 0, .int .i64 0, .int .i64 0, .slice none 0 0, .slice none 0 0] 68 (0, 0))) := ⟨_, show _ = _ from rfl⟩
  have hf1 : Fr No w w1 := by rw [hw1.out]; exact (Fr.refl _ _).alloc _
  have hr1 : SIs w1 rb 0 0 0 0 (.slice none 0 0) (.slice none 0 0) := by rw [hw1.out, hrb]; exact blk_new _ _
  obtain ⟨_, c1, c2, c3, c4, c5, c6, _, _, _⟩ := st_cells (blk_alloc hb (.cells #[.int .i64 0, .int .i64 0, .int .i64 0, .int .i64 0, .slice none 0 0, .slice none 0 0] 68 (0, 0)))
  have HF1 := Lib.hid hf1
  have HR1 := Lib.hid hr1
  simp only at c1 c2 c3 c4
  clear hns hnl hb h hlim hrb hf1 hr1
  go_enter Try.func43, Try.ntmps43
  go_wp2_with fail
  rw [← hw1.out]
  clear c1 c2 c3 c4 c5 c6
  refine (sclone_any (w := w1) (HKV.out.fr HF1.out (fun _ _ _ h => h)) HLIM.out).mono ?_
  rintro e w2 ⟨v2, rfl, ⟨cs2, rfl, ⟨vs2, vl2, rfl, hb2, hl2, hi2⟩⟩, hf2⟩
  obtain ⟨As2, cs2, rfl, _, _⟩ := hb2.shape
  obtain ⟨Al2, cl2, rfl, _, _⟩ := hl2.shape
  simp only at hb2 hl2 hi2 ⊢
  rw [← HNS.out] at hb2 ⊢
  rw [← HNL.out] at hl2 ⊢
  have hr2 : SIs w2 rb 0 0 0 0 (.slice none 0 0) (.slice none 0 0) := hf2.heap HR1.out (fun h => h)
  have HB2 := Lib.hid hb2
  have HL2 := Lib.hid hl2
  have HI2 := Lib.hid hi2
  have HF2 : Hid (Fr No w1 w2) := (show Fr No w1 w2 from hf2)
  obtain ⟨r0, r1, r2, r3, r4, r5⟩ := s_cells hr2
  have z0 := s_free hr2 0
  have z1 := s_free hr2 1
  have z2 := s_free hr2 2
  have z3 := s_free hr2 3
  have z4 := s_free hr2 4
  have z5 := s_free hr2 5
  have HR2 := Lib.hid hr2
  clear hb2 hl2 hi2 hf2 hr2
  rw [← HRB.out]
  go_wp2_with fail
  obtain ⟨w9, hw9⟩ : ∃ w9, Hid (w9 = back6 w2 rb st sv sb sbt (.slice As2 ns cs2) (.slice Al2 nl cl2)) := ⟨_, show _ = _ from rfl⟩
  have hx9 : SIs w9 rb st sv sb sbt (.slice As2 ns cs2) (.slice Al2 nl cl2) := by rw [hw9.out]; exact back6_s HR2.out
  have HF9 : Hid (Fr (fun q => q = rb) w2 w9) := (show Fr _ _ _ from by rw [hw9.out]; exact back6_fr _ _ _ _ _ _ _ _)
  unfold back6 at hw9
  rw [← hw9.out]
  obtain ⟨y0, y1, y2, y3, y4, y5⟩ := s_cells hx9
  clear r0 r1 r2 r3 r4 r5 z0 z1 z2 z3 z4 z5
  (try simp only [Exit.inBlock, Exit.then])
  refine bodyPost_ret (by simp [results, Try.results43, go_sem, y0, y1, y2, y3, y4, y5]; try rfl) rfl ?_
  have hs1 : rb < w1.heap.size := heap_lt HR1.out
  refine (show SvPost _ _ _ _ from ⟨_, rfl, ⟨_, rfl, ⟨_, _, rfl, ?_, ?_, HI2.out⟩⟩, (HF1.out.then HF2.out).trans HF9.out (fun _ _ h => h) (fun q hq h => by have h' : q = rb := h; have := HRB.out; omega)⟩)
  · exact (HB2.out.fr HF9.out (fun k _ hk h => by have h' : k = rb := h; have hk' : w1.heap.size ≤ k := hk; omega)).mono (fun k hk => by have hk' : w1.heap.size ≤ k := hk; have := HF1.out.size; show w.heap.size ≤ k; omega)
  · exact (HL2.out.fr (by decide) HF9.out (fun k _ hk h => by have h' : k = rb := h; have hk' : w1.heap.size ≤ k := hk; omega)).mono (fun k hk => by have hk' : w1.heap.size ≤ k := hk; have := HF1.out.size; show w.heap.size ≤ k; omega)
/-- What is small enough to be written. -/
def Sv.small (s : Sv) : Prop := s.l.length ≤ 1048576 ∧ (itSv s).bulk ≤ 1048576
theorem sv_check (s : Sv) : checkI (itSv s) = 0 := by
  have hp : ∀ l : List En, It.oks (l.map itEn) = true ∧ It.deeps (l.map itEn) ≤ 2 := by
    intro l
    induction l with
    | nil => exact ⟨rfl, by simp [It.deeps]⟩
    | cons a r ih =>
      obtain ⟨h1, h2⟩ := ih
      simp only [List.map_cons, It.oks, It.deeps, h1, Bool.and_true]
      refine ⟨by simp [itEn, itList, itNum, itText, It.ok, It.oks, headOk], ?_⟩
      have : (itEn a).deep = 2 := by simp [itEn, itList, itNum, itText, It.deep, It.deeps]
      omega
  obtain ⟨h1, h2⟩ := hp s.l
  unfold checkI
  have hok : (itSv s).ok = true := by simp [itSv, itEns, itList, itNum, itText, It.ok, It.oks, headOk, h1]
  have hdp : (itSv s).deep ≤ 40 := by
    simp only [itSv, itEns, itList, itNum, itText, It.deep, It.deeps]
    omega
  rw [if_pos hok, if_neg (by omega)]
theorem ch_check (s : Ch) : checkI (itCh s) = 0 := by
  have h := sv_check ⟨s.kind, s.term, s.vote, s.at_, s.b, s.l⟩
  exact h
/-- The store as the other half is begun. -/
def St.over (x : St) : St := { x with half := 1 - x.d.told x.mark, at_ := 0 }
def recS (s : Sv) : List UInt8 := sealB (itSv s).enc
def recC (c : Ch) : List UInt8 := sealB (itCh c).enc
def rewS (x : St) (s : Sv) : St := if roomB x.over (recS s) then x.over.laid (recS s) else x
set_option maxRecDepth 100000 in
set_option maxHeartbeats 4000000 in
theorem rewrite_any {w : World} {X O R G F : Nat → Prop} {bp : Nat} {pd vs vl vv : Value} {x : St} {s : Sv} (h : StAt w X O R G bp pd vs vl x) (hfine : x.fine) (htold : x.d.told x.mark ≤ 1) (hv : KV SvK w F vv s) (hF : ∀ k, F k → k ≠ bp) (hsm : s.small) :
    Calls Try.prog 79 #[.pointer (some ⟨bp, 0, none⟩), vv] w (StPost w X (.pointer (some ⟨bp, 0, none⟩)) pd (.bool (roomB x.over (recS s))) (rewS x s)) := by
  obtain ⟨st, sv, sb, sbt, As, ns, cs, Al, nl, cl, rfl⟩ := hv.sh
  have HKV : Hid (KV SvK w (fun k => F k ∧ k < w.heap.size) (.agg #[.int .i64 st, .int .i64 sv, .int .i64 sb, .int .i64 sbt, .slice As ns cs, .slice Al nl cl]) s) := (show KV _ _ _ _ _ from hv.bound)
  have HF := Lib.hid hF
  have HSM := Lib.hid hsm
  obtain ⟨T, hT⟩ : ∃ T, T = x.d.told x.mark := ⟨_, rfl⟩
  have HT := Lib.hid hT
  rw [← hT] at htold
  have HFI := Lib.hid hfine
  obtain ⟨hi, hhi⟩ : ∃ hi : Int, hi = (x.half : Int) := ⟨_, rfl⟩
  obtain ⟨ai, hai⟩ : ∃ ai : Int, ai = (x.at_ : Int) := ⟨_, rfl⟩
  have hblk := h.blk
  rw [← hhi, ← hai] at hblk
  have HHI : Hid (hi = (x.half : Int) ∧ ai = (x.at_ : Int)) := (show _ ∧ _ from ⟨hhi, hai⟩)
  have HLT : Hid (bp < w.heap.size) := (show _ < _ from h.lt bp h.top)
  obtain ⟨rb, hrb⟩ : ∃ b, b = w.heap.size := ⟨_, rfl⟩
  have HRB := Lib.hid hrb
  obtain ⟨w1, hw1⟩ : ∃ w1, Hid (w1 = w.alloc (.cells #[.int .i64 st, .int .i64 sv, .int .i64 sb, .int .i64 sbt, .slice As ns cs, .slice Al nl cl] 68 (0, 0))) := ⟨_, show _ = _ from rfl⟩
  have hf1 : Fr No w w1 := by rw [hw1.out]; exact (Fr.refl _ _).alloc _
  have hr1 : SIs w1 rb st sv sb sbt (.slice As ns cs) (.slice Al nl cl) := by rw [hw1.out, hrb]; exact blk_new _ _
  have HAT1 : Hid (StAt w1 X O R G bp pd vs vl x) := (show StAt _ _ _ _ _ _ _ _ _ _ from h.no hf1)
  obtain ⟨_, _, _, _, _, _, _, c7, c8, _⟩ := st_cells (hf1.heap hblk (fun h => h))
  have HF1 := Lib.hid hf1
  have HR1 := Lib.hid hr1
  obtain ⟨RB, hRB⟩ : ∃ RB, RB = roomB x.over (recS s) := ⟨_, rfl⟩
  have HROOM := Lib.hid hRB
  obtain ⟨XX, hXX⟩ : ∃ XX, XX = rewS x s := ⟨_, rfl⟩
  have HXX := Lib.hid hXX
  rw [← hRB, ← hXX]
  clear hv hF hsm hT hfine hhi hai hblk hrb hf1 hr1 h hRB hXX
  go_enter Try.func79, Try.ntmps79
  go_upto_region 1 with fail
  rw [← hw1.out]
  have HS : Hid (w1.drew.cell? ⟨bp, 7, none⟩ = some (.int .i64 hi) ∧ w1.drew.cell? ⟨bp, 8, none⟩ = some (.int .i64 ai)) := (show _ ∧ _ from ⟨c7, c8⟩)
  refine wp_seq_region (fun W => W.cell? ⟨bp, 7, none⟩ = some (.int .i64 hi) ∧ W.cell? ⟨bp, 8, none⟩ = some (.int .i64 ai)) [] [3, 7] [] [0, 1, 2, 3, 4, 5, 6, 7, 8, 9] (by kernel_rfl) (by kernel_rfl) rfl (by kernel_rfl) (fun _ _ _ _ _ h => h) ?_
  clear c7 c8
  repeat (first
    | (refine sq_off (a' := ?_) rfl rfl (by rfl) (fun _ => (HS).out) ?ha ?_; (case ha => simp only [Act.put, List.setIfInBounds_toArray, List.set_cons_zero, List.set_cons_succ]; rfl))
    | (refine sq_any (v := ?_) (a' := ?_) rfl rfl rfl (by rfl) (fun W => ?hr) ?ha ?_; (case hr => go_simp; first | done | rfl); (case ha => simp only [Act.put, List.setIfInBounds_toArray, List.set_cons_zero, List.set_cons_succ]; rfl))
    | (refine sq_load (v := ?_) (a' := ?_) rfl rfl rfl (by rfl) (fun W hSW => ?hr) (HS).out ?ha ?_; (case hr => (try dsimp only at hSW); go_simp; first | done | rfl); (case ha => simp only [Act.put, List.setIfInBounds_toArray, List.set_cons_zero, List.set_cons_succ]; rfl)))
  refine sq_done ?_
  go_wp2_with fail
  refine (counts_any (w := w1.drew) (HAT1.out.no (Fr.refl No _).drew) (by have := HFI.out.1; omega) HFI.out.2.2.1).mono ?_
  rw [← HT.out]
  rintro e w2 ⟨rfl, hf2⟩
  have HF2 : Hid (Fr No w1 w2) := (show Fr No w1 w2 from (show Fr No w1 w1.drew from (Fr.refl No _).drew).then hf2)
  have HAT2 : Hid (StAt w2 X O R G bp pd vs vl x) := (show StAt _ _ _ _ _ _ _ _ _ _ from HAT1.out.no HF2.out)
  obtain ⟨_, _, _, _, _, _, _, c7, c8, _⟩ := st_cells HAT2.out.blk
  have z7 := st_free HAT2.out.blk 7
  have z8 := st_free HAT2.out.blk 8
  have hq1 : IntKind.i64.wrap (1 - (T : Int)) = 1 - (T : Int) := by rw [IntKind.wrap_i64]; omega
  clear hf2
  go_upto_region 3 with fail
  obtain ⟨w3, hw3⟩ : ∃ w3, Hid (w3 = (w2.setCell ⟨bp, 7, none⟩ (.int .i64 (1 - (T : Int)))).setCell ⟨bp, 8, none⟩ (.int .i64 0)) := ⟨_, show _ = _ from rfl⟩
  rw [← hw3.out, ← HRB.out]
  have HF3 : Hid (Fr (fun q => q = bp) w2 w3) := (show Fr _ _ _ from by rw [hw3.out]; exact (Fr.one _ _).then (Fr.one _ _))
  have HAT3 : Hid (StAt w3 X O R G bp pd vs vl x.over) := (show StAt _ _ _ _ _ _ _ _ _ _ from by
    refine HAT2.out.own (x' := x.over) HF3.out ?_ rfl rfl
    have h1 : ((x.over.half : Nat) : Int) = 1 - (T : Int) := by
      show ((1 - x.d.told x.mark : Nat) : Int) = _
      rw [← HT.out]
      omega
    rw [h1, hw3.out]
    exact (st_set ((st_set HAT2.out.blk).1 _)).2.1 0)
  have hr3 : SIs w3 rb st sv sb sbt (.slice As ns cs) (.slice Al nl cl) := HF3.out.heap (HF2.out.heap HR1.out (fun h => h)) (fun h => by have h' : rb = bp := h; have := HLT.out; have := HRB.out; omega)
  have HFW3 : Hid (Fr (fun q => q = bp) w w3) := (show Fr _ _ _ from (HF1.out.then HF2.out).trans HF3.out (fun _ _ h => h.elim) (fun _ _ h => h))
  obtain ⟨b0, b1, b2, b3, b4, b5⟩ := s_cells hr3
  clear hr3 c7 c8 z7 z8 hq1
  go_wp2_with fail
  refine (sitem_any (w := w3) (HKV.out.fr HFW3.out (fun k _ hk h => HF.out k hk.1 h)) HSM.out.1).mono ?_
  rintro e w4 ⟨vv4, rfl, hiv, hf4⟩
  have HIV := Lib.hid hiv
  have HF4 : Hid (Fr No w3 w4) := (show Fr No w3 w4 from hf4)
  clear hiv hf4 b0 b1 b2 b3 b4 b5
  go_wp2_with fail
  refine (lay_any (w := w4) (x := x.over) (HAT3.out.no HF4.out) ⟨HFI.out.1, (show 1 - x.d.told x.mark ≤ 1 by omega), HFI.out.2.2.1, Nat.zero_le _, HFI.out.2.2.2.2⟩ HIV.out HSM.out.2 (sv_check s)).mono ?_
  rintro e w5 ⟨X', rfl, hst, hX, hf5⟩
  have HXW : Hid (∀ k, X' k → X k ∨ w.heap.size ≤ k) := (show ∀ k, _ → _ from fun k hk => (hX k hk).imp id (fun h => by have h1 : w4.heap.size ≤ k := h; have := HF4.out.size; have := HFW3.out.size; omega))
  have HF5 : Hid (Fr X w w5) := (show Fr X w w5 from (HFW3.out.trans HF4.out (U := X) (fun k _ h => by have h' : k = bp := h; rw [h']; exact HAT1.out.top) (fun _ _ h => h.elim)).then hf5)
  have HR : Hid (RB = roomB x.over (sealB (itSv s).enc)) := (show _ = _ from HROOM.out)
  rw [← HR.out]
  unfold layS at hst
  rw [← HR.out] at hst
  have HX2 : Hid (XX = if RB then x.over.laid (recS s) else x) := (show _ = _ from by rw [HXX.out, HROOM.out]; rfl)
  have HST := Lib.hid hst
  clear hst hX hf5
  cases RB
  · obtain ⟨bp', O', R', G', vs', vl', he, h5⟩ := HST.out
    cases he
    rw [if_neg (by decide)] at h5
    obtain ⟨_, _, _, _, _, _, _, c7, c8, _⟩ := st_cells h5.blk
    have z7 := st_free h5.blk 7
    have z8 := st_free h5.blk 8
    have H5 := Lib.hid h5
    clear h5
    go_wp2_with fail
    go_ret
    have hx : XX = x := by rw [HX2.out, if_neg (by decide)]
    refine (show StPost _ _ _ _ _ _ _ _ from ⟨X', rfl, ⟨bp, O', R', G', vs', vl', rfl, ?_⟩, HXW.out, HF5.out.then (((Fr.one _ _).then (Fr.one _ _)).mono (fun k _ hk => by have h' : k = bp := hk; rw [h']; exact HAT1.out.top))⟩)
    rw [hx]
    refine H5.out.own (x' := x) ((Fr.one _ _).then (Fr.one _ _)) ?_ rfl rfl
    rw [← HHI.out.1, ← HHI.out.2]
    exact (st_set ((st_set H5.out.blk).1 _)).2.1 _
  · go_wp2_with fail
    go_ret
    have hx : XX = x.over.laid (recS s) := by rw [HX2.out, if_pos trivial]
    refine (show StPost _ _ _ _ _ _ _ _ from ⟨X', rfl, ?_, HXW.out, HF5.out⟩)
    rw [hx]
    have h := HST.out
    rw [if_pos trivial] at h
    exact h
end Go.Proofs.Ytbaohngnpgappaa
