/- store's Do: a change is made. -/
import Derived.Test.YtbaohngnpgappaaA4
import Derived.Test.YtbaohngnpgappaaS10
import Derived.Test.YtbaohngnpgappaaS15
set_option linter.unusedVariables false
set_option linter.unusedSimpArgs false
namespace Go.Proofs.Ytbaohngnpgappaa
open Go.RowKit
/-- What a change makes of a store, and what is answered. -/
def doS (x : St) (c : Ch) : St × Int :=
  match nextS x.s c with
  | none => (x, 1)
  | some s => if roomB x (recC c) then ({ x.laid (recC c) with s := s }, 0) else if roomB x.over (recS s) then ({ x.over.laid (recS s) with s := s }, 0) else (x, 210)
theorem st_save {w : World} {b : Nat} {pd vs vl : Value} {s : Sv} {a c m : Int} (h : w.heap[b]? = some (stBlk pd s vs vl a c m)) (s' : Sv) (vs' vl' : Value) :
    ((((((w.setCell ⟨b, 1, none⟩ (.int .i64 s'.term)).setCell ⟨b, 2, none⟩ (.int .i64 s'.vote)).setCell ⟨b, 3, none⟩ (.int .i64 s'.base)).setCell ⟨b, 4, none⟩ (.int .i64 s'.bterm)).setCell ⟨b, 5, none⟩ vs').setCell ⟨b, 6, none⟩ vl').heap[b]? = some (stBlk pd s' vs' vl' a c m) := by
  have h1 := blk_set h 1 (.int .i64 s'.term)
  have h2 := blk_set h1 2 (.int .i64 s'.vote)
  have h3 := blk_set h2 3 (.int .i64 s'.base)
  have h4 := blk_set h3 4 (.int .i64 s'.bterm)
  have h5 := blk_set h4 5 vs'
  exact blk_set h5 6 vl'
/-- What is saved has turned. -/
theorem StAt.save {w w' : World} {X O R G G' : Nat → Prop} {bp : Nat} {pd vs vl vs' vl' : Value} {x : St} (h : StAt w X O R G bp pd vs vl x) {s' : Sv} (hf : Fr (fun q => q = bp) w w') (hblk : w'.heap[bp]? = some (stBlk pd s' vs' vl' x.half x.at_ x.mark))
    (hkv : KV SvK w G' (.agg #[.int .i64 s'.term, .int .i64 s'.vote, .int .i64 s'.base, .int .i64 s'.bterm, vs', vl']) s') (hG : ∀ k, G' k → ¬ X k ∧ k < w.heap.size) : StAt w' (fun k => X k ∨ G' k) O R G' bp pd vs' vl' { x with s := s' } := by
  obtain ⟨cs, he, ⟨ws, wl, hcs, hsn, hen, hnum⟩⟩ := hkv
  subst hcs
  simp only [Value.agg.injEq, Array.mk.injEq, List.cons.injEq, and_true] at he
  obtain ⟨_, _, _, _, e1, e2⟩ := he
  subst e1
  subst e2
  have hbp : ¬ G' bp := fun hg => (hG bp hg).1 h.top
  refine ⟨hblk, h.disk.fr hf (fun k _ hk e => by subst e; rcases hk with hk | hk; exact h.sep.1 hk; exact h.sep.2.1 hk), hsn.fr hf (fun k _ hk e => by subst e; exact hbp hk), hen.fr (by decide) hf (fun k _ hk e => by subst e; exact hbp hk), hnum, .inl h.top, ⟨h.sep.1, h.sep.2.1, hbp⟩, fun k hk => .inl (h.dx k hk), fun k hk => ⟨.inr hk, fun ho => (hG k hk).1 (h.dx k (.inl ho))⟩, fun k hk => ?_⟩
  rcases hk with hk | hk
  · exact Nat.lt_of_lt_of_le (h.lt k hk) hf.size
  · exact Nat.lt_of_lt_of_le (hG k hk).2 hf.size
theorem StAt.saved {w w6 : World} {X X6 O R G G' : Nat → Prop} {bp : Nat} {pd vs vl vs' vl' : Value} {y : St} {s' : Sv} {t v ba bt : Int} (h : StAt w6 X6 O R G bp pd vs vl y) (hX : ∀ k, X6 k → X k ∨ w.heap.size ≤ k) (hf : Fr X w w6) (hbp : X bp)
    (hkv : KV SvK w6 G' (.agg #[.int .i64 t, .int .i64 v, .int .i64 ba, .int .i64 bt, vs', vl']) s') (hG : ∀ k, G' k → ¬ X6 k ∧ k < w6.heap.size ∧ w.heap.size ≤ k) (u : Value) :
    StPost w X (.pointer (some ⟨bp, 0, none⟩)) pd u { y with s := s' } (.returned u) ((((((w6.setCell ⟨bp, 1, none⟩ (.int .i64 t)).setCell ⟨bp, 2, none⟩ (.int .i64 v)).setCell ⟨bp, 3, none⟩ (.int .i64 ba)).setCell ⟨bp, 4, none⟩ (.int .i64 bt)).setCell ⟨bp, 5, none⟩ vs').setCell ⟨bp, 6, none⟩ vl') := by
  obtain ⟨cs, he, hr⟩ := hkv
  have hr0 := hr
  obtain ⟨ws, wl, rfl, _⟩ := hr0
  simp only [Value.agg.injEq, List.mem_toArray, Array.mk.injEq, List.cons.injEq, Value.int.injEq, true_and, and_true] at he
  obtain ⟨rfl, rfl, rfl, rfl, rfl, rfl⟩ := he
  have hfr : ∀ i u, Fr (fun q => q = bp) w6 (w6.setCell ⟨bp, i, none⟩ u) := fun i u => Fr.one _ _
  have hf6 : Fr (fun q => q = bp) w6 ((((((w6.setCell ⟨bp, 1, none⟩ (.int .i64 s'.term)).setCell ⟨bp, 2, none⟩ (.int .i64 s'.vote)).setCell ⟨bp, 3, none⟩ (.int .i64 s'.base)).setCell ⟨bp, 4, none⟩ (.int .i64 s'.bterm)).setCell ⟨bp, 5, none⟩ vs').setCell ⟨bp, 6, none⟩ vl') :=
    (((((Fr.one _ _).then (Fr.one _ _)).then (Fr.one _ _)).then (Fr.one _ _)).then (Fr.one _ _)).then (Fr.one _ _)
  have h7 := h.save (G' := G') hf6 (st_save h.blk s' vs' vl') ⟨_, rfl, hr⟩ (fun k hk => ⟨(hG k hk).1, (hG k hk).2.1⟩)
  exact ⟨_, rfl, ⟨bp, O, R, G', vs', vl', rfl, h7⟩, fun k hk => hk.elim (hX k) (fun hg => .inr (hG k hg).2.2), hf.trans hf6 (fun _ _ h => h) (fun k _ hk => by have h' : k = bp := hk; rw [h']; exact hbp)⟩
def DoS (bp xb : Nat) (st sv sb sbt : Int) (vs vl : Value) (ck ct cv ca : Int) (vcl vcb : Value) (W : World) : Prop :=
  (W.cell? ⟨bp, 1, none⟩ = some (.int .i64 st) ∧ W.cell? ⟨bp, 2, none⟩ = some (.int .i64 sv) ∧ W.cell? ⟨bp, 3, none⟩ = some (.int .i64 sb) ∧ W.cell? ⟨bp, 4, none⟩ = some (.int .i64 sbt) ∧ W.cell? ⟨bp, 5, none⟩ = some vs ∧ W.cell? ⟨bp, 6, none⟩ = some vl) ∧
    W.cell? ⟨xb, 0, none⟩ = some (.int .i64 ck) ∧ W.cell? ⟨xb, 1, none⟩ = some (.int .i64 ct) ∧ W.cell? ⟨xb, 2, none⟩ = some (.int .i64 cv) ∧ W.cell? ⟨xb, 3, none⟩ = some (.int .i64 ca) ∧ W.cell? ⟨xb, 4, none⟩ = some vcl ∧ W.cell? ⟨xb, 5, none⟩ = some vcb
theorem DoS.fr {S : Nat → Prop} {w w' : World} {bp xb : Nat} {st sv sb sbt : Int} {vs vl : Value} {ck ct cv ca : Int} {vcl vcb : Value} (h : DoS bp xb st sv sb sbt vs vl ck ct cv ca vcl vcb w) (hf : Fr S w w') (h1 : ¬ S bp) (h2 : ¬ S xb) : DoS bp xb st sv sb sbt vs vl ck ct cv ca vcl vcb w' := by
  obtain ⟨⟨e1, e2, e3, e4, e5, e6⟩, g0, g1, g2, g3, g4, g5⟩ := h
  exact ⟨⟨hf.cell e1 h1, hf.cell e2 h1, hf.cell e3 h1, hf.cell e4 h1, hf.cell e5 h1, hf.cell e6 h1⟩, hf.cell g0 h2, hf.cell g1 h2, hf.cell g2 h2, hf.cell g3 h2, hf.cell g4 h2, hf.cell g5 h2⟩
/-- What stands behind Next, whatever came first. -/
def DoMid (w1 : World) (r : Option Sv) (sb : Nat) (t v ba bt : Int) (ws wl : Value) (W : World) : Prop :=
  w1.heap.size ≤ sb ∧ SIs W sb t v ba bt ws wl ∧ Fr No w1 W ∧ KV SvK W (fun k => w1.heap.size ≤ k ∧ k ≠ sb ∧ k < W.heap.size) (.agg #[.int .i64 t, .int .i64 v, .int .i64 ba, .int .i64 bt, ws, wl]) (r.getD Sv.zero)
set_option maxRecDepth 100000 in
set_option maxHeartbeats 4000000 in
theorem do_any {w : World} {X O R G F : Nat → Prop} {bp : Nat} {pd vs vl vc : Value} {x : St} {c : Ch} (h : StAt w X O R G bp pd vs vl x) (hfine : x.fine) (htold : x.d.told x.mark ≤ 1) (hc : KV ChK w F vc c) (hF : ∀ k, F k → ¬ X k)
    (hok : x.s.ok) (hlim : c.lim) (hcb : (itCh c).bulk ≤ 1048576) (hsb : ∀ s, nextS x.s c = some s → s.small) :
    Calls Try.prog 41 #[.pointer (some ⟨bp, 0, none⟩), vc] w (StPost w X (.pointer (some ⟨bp, 0, none⟩)) pd (.int .i64 (doS x c).2) (doS x c).1) := by
  obtain ⟨hd, ⟨st, sv, sb, sbt, sn, sl⟩, hhalf, hat, hmark⟩ := x
  obtain ⟨As, cs, rfl, _, _⟩ := h.snap.shape
  obtain ⟨Al, cl, rfl, _, _⟩ := h.ents.shape
  obtain ⟨ck, ct, cv, ca, Ac, nc, cc, Ad, nd, cd, rfl⟩ := kvc_sh hc
  simp only at h ⊢
  obtain ⟨ns, hns⟩ : ∃ n, n = sn.length := ⟨_, rfl⟩
  obtain ⟨nl, hnl⟩ : ∃ n, n = sl.length := ⟨_, rfl⟩
  rw [← hns, ← hnl] at h
  obtain ⟨x, hx⟩ : ∃ x : St, x = ⟨hd, ⟨st, sv, sb, sbt, sn, sl⟩, hhalf, hat, hmark⟩ := ⟨_, rfl⟩
  have HX : Hid (x = ⟨hd, ⟨st, sv, sb, sbt, sn, sl⟩, hhalf, hat, hmark⟩) := (show _ = _ from hx)
  have hblk := h.blk
  simp only at hblk
  have hkv := h.kv
  simp only at hkv
  rw [show (⟨st, sv, sb, sbt, sn, sl⟩ : Sv) = x.s from by rw [hx]] at hkv
  rw [← hx] at h hfine htold hok hsb ⊢
  have HKV := Lib.hid hkv
  have HAT := Lib.hid h
  have HFI := Lib.hid hfine
  have HTO := Lib.hid htold
  have HC := Lib.hid hc.bound
  have HFX := Lib.hid hF
  have HOK := Lib.hid hok
  have HLIM := Lib.hid hlim
  have HCB := Lib.hid hcb
  have HSB := Lib.hid hsb
  obtain ⟨xb, hxb⟩ : ∃ b, b = w.heap.size := ⟨_, rfl⟩
  have HXB := Lib.hid hxb
  have HLT : Hid (bp < w.heap.size) := (show _ < _ from h.lt bp h.top)
  obtain ⟨w1, hw1⟩ : ∃ w1, Hid (w1 = w.alloc (.cells #[.int .i64 ck, .int .i64 ct, .int .i64 cv, .int .i64 ca, .slice Ac nc cc, .slice Ad nd cd] 62 (0, 0))) := ⟨_, show _ = _ from rfl⟩
  have hf1 : Fr No w w1 := by rw [hw1.out]; exact (Fr.refl _ _).alloc _
  have hc1 : CIs w1 xb ck ct cv ca (.slice Ac nc cc) (.slice Ad nd cd) := by rw [hw1.out, hxb]; exact blk_new _ _
  obtain ⟨_, c1, c2, c3, c4, c5, c6, _⟩ := st_cells (hf1.heap hblk (fun h => h))
  simp only at c1 c2 c3 c4
  obtain ⟨d0, d1, d2, d3, d4, d5⟩ := c_cells hc1
  have HS : Hid (DoS bp xb st sv sb sbt (.slice As ns cs) (.slice Al nl cl) ck ct cv ca (.slice Ac nc cc) (.slice Ad nd cd) w1.drew) := (show DoS _ _ _ _ _ _ _ _ _ _ _ _ _ _ _ from ⟨⟨c1, c2, c3, c4, c5, c6⟩, d0, d1, d2, d3, d4, d5⟩)
  have HF1 := Lib.hid hf1
  have HC1 := Lib.hid hc1
  clear hns hnl hx hblk hkv h hfine htold hc hF hok hlim hcb hsb hxb hf1 hc1 c1 c2 c3 c4 c5 c6 d0 d1 d2 d3 d4 d5
  go_enter Try.func41, Try.ntmps41
  go_upto_region 1 with fail
  rw [← HXB.out, ← hw1.out]
  obtain ⟨r, hr⟩ : ∃ r, r = nextS x.s c := ⟨_, rfl⟩
  have HR := Lib.hid hr
  obtain ⟨ec, hec⟩ : ∃ ec : Int, ec = (if r.isSome then 0 else 1) := ⟨_, rfl⟩
  have HEC := Lib.hid hec
  clear hr hec
  refine Code.wp_mono (Q := fun e a' W => ∃ (nb : Nat) (t2 o2 b2 e2 : Int) (As2 : Option Addr) (ns2 cs2 : Nat) (Al2 : Option Addr) (nl2 cl2 : Nat) (u7 u8 u9 u10 u11 u12 u13 u14 u15 : Value), e = .normal ∧ a' = { tmps := #[.pointer (some ⟨bp, 0, none⟩), .agg #[.int .i64 ck, .int .i64 ct, .int .i64 cv, .int .i64 ca, .slice Ac nc cc, .slice Ad nd cd], undef, .pointer (some ⟨xb, 0, none⟩), .int .i64 0, .pointer (some ⟨nb, 0, none⟩), .int .i64 ec, u7, u8, u9, u10, u11, u12, u13, u14, u15, undef, undef, undef, undef, undef, undef, undef, undef, undef, undef, undef, undef, undef, undef, undef, undef, undef, undef], defers := [] } ∧ Hid (DoMid w1 r nb t2 o2 b2 e2 (.slice As2 ns2 cs2) (.slice Al2 nl2 cl2) W)) ?imp ?reg
  case reg =>
    refine wp_pl_region (fun W => (W.cell? ⟨bp, 1, none⟩ = some (.int .i64 st) ∧ W.cell? ⟨bp, 2, none⟩ = some (.int .i64 sv) ∧ W.cell? ⟨bp, 3, none⟩ = some (.int .i64 sb) ∧ W.cell? ⟨bp, 4, none⟩ = some (.int .i64 sbt) ∧ W.cell? ⟨bp, 5, none⟩ = some (.slice As ns cs) ∧ W.cell? ⟨bp, 6, none⟩ = some (.slice Al nl cl)) ∧
    W.cell? ⟨xb, 0, none⟩ = some (.int .i64 ck) ∧ W.cell? ⟨xb, 1, none⟩ = some (.int .i64 ct) ∧ W.cell? ⟨xb, 2, none⟩ = some (.int .i64 cv) ∧ W.cell? ⟨xb, 3, none⟩ = some (.int .i64 ca) ∧ W.cell? ⟨xb, 4, none⟩ = some (.slice Ac nc cc) ∧ W.cell? ⟨xb, 5, none⟩ = some (.slice Ad nd cd)) [5, 9, 10] [3, 4] [] (.op 0 (.op 1 (.op 2 (.op 3 (.op 4 (.alt 5 (.op 6 (.op 7 (.op 8 (.op 9 (.op 10 (.op 11 (.nil))))))) (.alt 9 (.op 5 (.op 6 (.op 7 (.op 8 (.op 10 (.op 11 (.nil))))))) (.nil)))))))) (by kernel_rfl) (by kernel_rfl) (by kernel_rfl) (fun _ _ _ _ _ ⟨_, _, _, _, _, _, _, _, _, _, _, _, _, _, _, _, _, _, _, _, he, _⟩ => by cases he) ?_
    have HW1 : Hid (Fr No w w1.drew) := (show Fr No w w1.drew from HF1.out.drew)
    have HXW : Hid (xb < w1.heap.size) := (show _ < _ from heap_lt HC1.out)
    repeat (first
      | (refine pl_off (a' := ?_) rfl rfl (by rfl) (fun _ => (HS).out) ?ha ?_; (case ha => simp only [Act.put, List.setIfInBounds_toArray, List.set_cons_zero, List.set_cons_succ]; rfl))
      | (refine pl_any (v := ?_) (a' := ?_) rfl rfl rfl (by rfl) (fun W => ?hr) ?ha ?_; (case hr => go_simp; first | done | rfl); (case ha => simp only [Act.put, List.setIfInBounds_toArray, List.set_cons_zero, List.set_cons_succ]; rfl))
      | (refine pl_load (v := ?_) (a' := ?_) rfl rfl rfl (by rfl) (fun W hSW => ?hr) (HS).out ?ha ?_; (case hr => (try dsimp only at hSW); go_simp; first | done | rfl); (case ha => simp only [Act.put, List.setIfInBounds_toArray, List.set_cons_zero, List.set_cons_succ]; rfl)))
    refine pl_alt rfl ?_ (pl_alt rfl ?_ pl_end)
    · refine pl_call rfl rfl (by rfl) rfl Try.func60 rfl rfl [.agg #[.int .i64 st, .int .i64 sv, .int .i64 sb, .int .i64 sbt, .slice As ns cs, .slice Al nl cl], .agg #[.int .i64 ck, .int .i64 ct, .int .i64 cv, .int .i64 ca, .slice Ac nc cc, .slice Ad nd cd]] rfl ?_
      refine (snext_any (w := w1.drew) (s := x.s) (c := c) (HKV.out.fr HW1.out (fun _ _ _ h => h)) (HC.out.fr HW1.out (fun _ _ _ h => h)) HOK.out HLIM.out).mono ?_
      rw [← HR.out]
      rintro e w2 ⟨v2, rfl, hkv2, hf2⟩
      rw [← HEC.out]
      obtain ⟨t2, o2, b2, e2, As2, ns2, cs2, Al2, nl2, cl2, rfl⟩ := hkv2.sh
      have HKV2 := Lib.hid hkv2.bound
      have HF2 := Lib.hid hf2
      have HS2 : Hid (DoS bp xb st sv sb sbt (.slice As ns cs) (.slice Al nl cl) ck ct cv ca (.slice Ac nc cc) (.slice Ad nd cd) w2) := (show DoS _ _ _ _ _ _ _ _ _ _ _ _ _ _ _ from HS.out.fr hf2 (fun h => h) (fun h => h))
      refine ⟨_, rfl, fun _ => HS2.out, ?_⟩
      simp only [Act.put, List.setIfInBounds_toArray, List.set_cons_zero, List.set_cons_succ]
      clear hkv2 hf2
      repeat (first
        | (refine pl_off (a' := ?_) rfl rfl (by rfl) (fun _ => (HS2).out) ?ha ?_; (case ha => simp only [Act.put, List.setIfInBounds_toArray, List.set_cons_zero, List.set_cons_succ]; rfl))
        | (refine pl_any (v := ?_) (a' := ?_) rfl rfl rfl (by rfl) (fun W => ?hr) ?ha ?_; (case hr => go_simp; first | done | rfl); (case ha => simp only [Act.put, List.setIfInBounds_toArray, List.set_cons_zero, List.set_cons_succ]; rfl))
        | (refine pl_load (v := ?_) (a' := ?_) rfl rfl rfl (by rfl) (fun W hSW => ?hr) (HS2).out ?ha ?_; (case hr => (try dsimp only at hSW); go_simp; first | done | rfl); (case ha => simp only [Act.put, List.setIfInBounds_toArray, List.set_cons_zero, List.set_cons_succ]; rfl)))
      obtain ⟨nb, hnb⟩ : ∃ b, b = w2.heap.size := ⟨_, rfl⟩
      have HNB2 := Lib.hid hnb
      obtain ⟨w3, hw3⟩ : ∃ w3, Hid (w3 = w2.alloc (.cells #[.int .i64 0, .int .i64 0, .int .i64 0, .int .i64 0, .slice none 0 0, .slice none 0 0] 68 (0, 0))) := ⟨_, show _ = _ from rfl⟩
      have hs3 : SIs w3 nb 0 0 0 0 (.slice none 0 0) (.slice none 0 0) := by rw [hw3.out, hnb]; exact blk_new _ _
      have HF3 : Hid (Fr No w2 w3) := (show Fr No _ _ from by rw [hw3.out]; exact (Fr.refl No _).alloc _)
      have HS3 : Hid (DoS bp xb st sv sb sbt (.slice As ns cs) (.slice Al nl cl) ck ct cv ca (.slice Ac nc cc) (.slice Ad nd cd) w3) := (show DoS _ _ _ _ _ _ _ _ _ _ _ _ _ _ _ from HS2.out.fr HF3.out (fun h => h) (fun h => h))
      have HSI3 := Lib.hid hs3
      refine pl_value (v := .pointer (some ⟨nb, 0, none⟩)) (w1 := w3) (a' := ?_) rfl rfl (by rfl) ?hr (fun _ => HS3.out) ?ha ?_
      case hr => rw [hnb, hw3.out]; go_simp; first | done | rfl
      case ha => simp only [Act.put, List.setIfInBounds_toArray, List.set_cons_zero, List.set_cons_succ]; rfl
      clear hs3 hnb
      have HNB1 : Hid (xb < nb) := (show _ < _ from by have := HNB2.out; have := HF2.out.size; have h9 : w1.drew.heap.size = w1.heap.size := rfl; have := HXW.out; omega)
      obtain ⟨r0, r1, r2, r3, r4, r5⟩ := s_cells HSI3.out
      have z0 := s_free HSI3.out 0
      have z1 := s_free HSI3.out 1
      have z2 := s_free HSI3.out 2
      have z3 := s_free HSI3.out 3
      have z4 := s_free HSI3.out 4
      have z5 := s_free HSI3.out 5
      obtain ⟨w4, hw4⟩ : ∃ w4, Hid (w4 = back6 w3 nb t2 o2 b2 e2 (.slice As2 ns2 cs2) (.slice Al2 nl2 cl2)) := ⟨_, show _ = _ from rfl⟩
      have HSI4 : Hid (SIs w4 nb t2 o2 b2 e2 (.slice As2 ns2 cs2) (.slice Al2 nl2 cl2)) := (show SIs _ _ _ _ _ _ _ _ from by rw [hw4.out]; exact back6_s HSI3.out)
      have HF4 : Hid (Fr (fun q => q = nb) w3 w4) := (show Fr _ _ _ from by rw [hw4.out]; exact back6_fr _ _ _ _ _ _ _ _)
      have HS4 : Hid (DoS bp xb st sv sb sbt (.slice As ns cs) (.slice Al nl cl) ck ct cv ca (.slice Ac nc cc) (.slice Ad nd cd) w4) := (show DoS _ _ _ _ _ _ _ _ _ _ _ _ _ _ _ from HS3.out.fr HF4.out (fun h => by have h' : bp = nb := h; have := HNB1.out; have := HLT.out; have := HXB.out; omega) (fun h => by have h' : xb = nb := h; have := HNB1.out; omega))
      unfold back6 at hw4
      refine pl_store (w1 := w4) rfl rfl (by rfl) rfl ?hr (fun _ => HS4.out) ?_
      case hr => rw [hw4.out]; go_simp; first | done | rfl | (constructor <;> rfl)
      clear r0 r1 r2 r3 r4 r5 z0 z1 z2 z3 z4 z5
      repeat (first
        | (refine pl_off (a' := ?_) rfl rfl (by rfl) (fun _ => (HS4).out) ?ha ?_; (case ha => simp only [Act.put, List.setIfInBounds_toArray, List.set_cons_zero, List.set_cons_succ]; rfl))
        | (refine pl_any (v := ?_) (a' := ?_) rfl rfl rfl (by rfl) (fun W => ?hr) ?ha ?_; (case hr => go_simp; first | done | rfl); (case ha => simp only [Act.put, List.setIfInBounds_toArray, List.set_cons_zero, List.set_cons_succ]; rfl))
        | (refine pl_load (v := ?_) (a' := ?_) rfl rfl rfl (by rfl) (fun W hSW => ?hr) (HS4).out ?ha ?_; (case hr => (try dsimp only at hSW); go_simp; first | done | rfl); (case ha => simp only [Act.put, List.setIfInBounds_toArray, List.set_cons_zero, List.set_cons_succ]; rfl)))
      refine pl_done ?_
      have hsz : w1.drew.heap.size = w1.heap.size := rfl
      have hnb := HNB2.out
      have hf12 : Fr No w1 w2 := (show Fr No w1 w1.drew from (Fr.refl No _).drew).then HF2.out
      have h12 := hf12.size
      refine ⟨nb, t2, o2, b2, e2, As2, ns2, cs2, Al2, nl2, cl2, _, _, _, _, _, _, _, _, _, rfl, rfl, Lib.hid (show DoMid _ _ _ _ _ _ _ _ _ _ from ⟨by omega, HSI4.out, (hf12.then HF3.out).trans HF4.out (fun _ _ h => h) (fun q hq h => by have h' : q = nb := h; omega), ?_⟩)⟩
      refine (HKV2.out.fr (HF3.out.trans HF4.out (U := fun q => q = nb) (fun _ _ h => h.elim) (fun _ _ h => h)) (fun k hk h1 h => by have h' : k = nb := h; have := h1.2; omega)).mono (fun k hk => ?_)
      have h1 : w1.drew.heap.size ≤ k := hk.1
      have h2 := hk.2
      have h3 := HF3.out.size
      have h4 := HF4.out.size
      exact ⟨by omega, by omega, by omega⟩
    · obtain ⟨nb, hnb⟩ : ∃ b, b = w1.drew.heap.size := ⟨_, rfl⟩
      have HNB2 := Lib.hid hnb
      obtain ⟨w2, hw2⟩ : ∃ w2, Hid (w2 = w1.drew.alloc (.cells #[.int .i64 0, .int .i64 0, .int .i64 0, .int .i64 0, .slice none 0 0, .slice none 0 0] 68 (0, 0))) := ⟨_, show _ = _ from rfl⟩
      have hs3 : SIs w2 nb 0 0 0 0 (.slice none 0 0) (.slice none 0 0) := by rw [hw2.out, hnb]; exact blk_new _ _
      have HFA : Hid (Fr No w1.drew w2) := (show Fr No _ _ from by rw [hw2.out]; exact (Fr.refl No _).alloc _)
      have HSA : Hid (DoS bp xb st sv sb sbt (.slice As ns cs) (.slice Al nl cl) ck ct cv ca (.slice Ac nc cc) (.slice Ad nd cd) w2) := (show DoS _ _ _ _ _ _ _ _ _ _ _ _ _ _ _ from HS.out.fr HFA.out (fun h => h) (fun h => h))
      have HSIA := Lib.hid hs3
      refine pl_value (v := .pointer (some ⟨nb, 0, none⟩)) (w1 := w2) (a' := ?_) rfl rfl (by rfl) ?hr (fun _ => HSA.out) ?ha ?_
      case hr => rw [hnb, hw2.out]; go_simp; first | done | rfl
      case ha => simp only [Act.put, List.setIfInBounds_toArray, List.set_cons_zero, List.set_cons_succ]; rfl
      clear hs3 hnb
      refine pl_call rfl rfl (by rfl) rfl Try.func60 rfl rfl [.agg #[.int .i64 st, .int .i64 sv, .int .i64 sb, .int .i64 sbt, .slice As ns cs, .slice Al nl cl], .agg #[.int .i64 ck, .int .i64 ct, .int .i64 cv, .int .i64 ca, .slice Ac nc cc, .slice Ad nd cd]] rfl ?_
      refine (snext_any (w := w2) (s := x.s) (c := c) (HKV.out.fr (HW1.out.then HFA.out) (fun _ _ _ h => h)) (HC.out.fr (HW1.out.then HFA.out) (fun _ _ _ h => h)) HOK.out HLIM.out).mono ?_
      rw [← HR.out]
      rintro e w3 ⟨v2, rfl, hkv2, hf2⟩
      rw [← HEC.out]
      obtain ⟨t2, o2, b2, e2, As2, ns2, cs2, Al2, nl2, cl2, rfl⟩ := hkv2.sh
      have HKV2 := Lib.hid hkv2.bound
      have HF2 := Lib.hid hf2
      have HS2 : Hid (DoS bp xb st sv sb sbt (.slice As ns cs) (.slice Al nl cl) ck ct cv ca (.slice Ac nc cc) (.slice Ad nd cd) w3) := (show DoS _ _ _ _ _ _ _ _ _ _ _ _ _ _ _ from HSA.out.fr hf2 (fun h => h) (fun h => h))
      refine ⟨_, rfl, fun _ => HS2.out, ?_⟩
      simp only [Act.put, List.setIfInBounds_toArray, List.set_cons_zero, List.set_cons_succ]
      clear hkv2 hf2
      repeat (first
        | (refine pl_off (a' := ?_) rfl rfl (by rfl) (fun _ => (HS2).out) ?ha ?_; (case ha => simp only [Act.put, List.setIfInBounds_toArray, List.set_cons_zero, List.set_cons_succ]; rfl))
        | (refine pl_any (v := ?_) (a' := ?_) rfl rfl rfl (by rfl) (fun W => ?hr) ?ha ?_; (case hr => go_simp; first | done | rfl); (case ha => simp only [Act.put, List.setIfInBounds_toArray, List.set_cons_zero, List.set_cons_succ]; rfl))
        | (refine pl_load (v := ?_) (a' := ?_) rfl rfl rfl (by rfl) (fun W hSW => ?hr) (HS2).out ?ha ?_; (case hr => (try dsimp only at hSW); go_simp; first | done | rfl); (case ha => simp only [Act.put, List.setIfInBounds_toArray, List.set_cons_zero, List.set_cons_succ]; rfl)))
      have HSIB : Hid (SIs w3 nb 0 0 0 0 (.slice none 0 0) (.slice none 0 0)) := (show SIs _ _ _ _ _ _ _ _ from HF2.out.heap HSIA.out (fun h => h))
      have HNB1 : Hid (xb < nb) := (show _ < _ from by have := HNB2.out; have h9 : w1.drew.heap.size = w1.heap.size := rfl; have := HXW.out; omega)
      obtain ⟨r0, r1, r2, r3, r4, r5⟩ := s_cells HSIB.out
      have z0 := s_free HSIB.out 0
      have z1 := s_free HSIB.out 1
      have z2 := s_free HSIB.out 2
      have z3 := s_free HSIB.out 3
      have z4 := s_free HSIB.out 4
      have z5 := s_free HSIB.out 5
      obtain ⟨w4, hw4⟩ : ∃ w4, Hid (w4 = back6 w3 nb t2 o2 b2 e2 (.slice As2 ns2 cs2) (.slice Al2 nl2 cl2)) := ⟨_, show _ = _ from rfl⟩
      have HSI4 : Hid (SIs w4 nb t2 o2 b2 e2 (.slice As2 ns2 cs2) (.slice Al2 nl2 cl2)) := (show SIs _ _ _ _ _ _ _ _ from by rw [hw4.out]; exact back6_s HSIB.out)
      have HF4 : Hid (Fr (fun q => q = nb) w3 w4) := (show Fr _ _ _ from by rw [hw4.out]; exact back6_fr _ _ _ _ _ _ _ _)
      have HS4 : Hid (DoS bp xb st sv sb sbt (.slice As ns cs) (.slice Al nl cl) ck ct cv ca (.slice Ac nc cc) (.slice Ad nd cd) w4) := (show DoS _ _ _ _ _ _ _ _ _ _ _ _ _ _ _ from HS2.out.fr HF4.out (fun h => by have h' : bp = nb := h; have := HNB1.out; have := HLT.out; have := HXB.out; omega) (fun h => by have h' : xb = nb := h; have := HNB1.out; omega))
      unfold back6 at hw4
      refine pl_store (w1 := w4) rfl rfl (by rfl) rfl ?hr (fun _ => HS4.out) ?_
      case hr => rw [hw4.out]; go_simp; first | done | rfl | (constructor <;> rfl)
      clear r0 r1 r2 r3 r4 r5 z0 z1 z2 z3 z4 z5
      repeat (first
        | (refine pl_off (a' := ?_) rfl rfl (by rfl) (fun _ => (HS4).out) ?ha ?_; (case ha => simp only [Act.put, List.setIfInBounds_toArray, List.set_cons_zero, List.set_cons_succ]; rfl))
        | (refine pl_any (v := ?_) (a' := ?_) rfl rfl rfl (by rfl) (fun W => ?hr) ?ha ?_; (case hr => go_simp; first | done | rfl); (case ha => simp only [Act.put, List.setIfInBounds_toArray, List.set_cons_zero, List.set_cons_succ]; rfl))
        | (refine pl_load (v := ?_) (a' := ?_) rfl rfl rfl (by rfl) (fun W hSW => ?hr) (HS4).out ?ha ?_; (case hr => (try dsimp only at hSW); go_simp; first | done | rfl); (case ha => simp only [Act.put, List.setIfInBounds_toArray, List.set_cons_zero, List.set_cons_succ]; rfl)))
      refine pl_done ?_
      have hsz : w1.drew.heap.size = w1.heap.size := rfl
      have hnb := HNB2.out
      have hw2s : nb < w2.heap.size := heap_lt HSIA.out
      have hf13 : Fr No w1 w3 := ((show Fr No w1 w1.drew from (Fr.refl No _).drew).then HFA.out).then HF2.out
      have h13 := hf13.size
      refine ⟨nb, t2, o2, b2, e2, As2, ns2, cs2, Al2, nl2, cl2, _, _, _, _, _, _, _, _, _, rfl, rfl, Lib.hid (show DoMid _ _ _ _ _ _ _ _ _ _ from ⟨by omega, HSI4.out, hf13.trans HF4.out (fun _ _ h => h) (fun q hq h => by have h' : q = nb := h; omega), ?_⟩)⟩
      refine (HKV2.out.fr HF4.out (fun k hk h1 h => by have h' : k = nb := h; have h2 : w2.heap.size ≤ k := h1.1; omega)).mono (fun k hk => ?_)
      have h1 : w2.heap.size ≤ k := hk.1
      have h2 := hk.2
      have h4 := HF4.out.size
      exact ⟨by omega, by omega, by omega⟩
  case imp =>
    rintro e a' W ⟨nb, t2, o2, b2, e2, As2, ns2, cs2, Al2, nl2, cl2, u7, u8, u9, u10, u11, u12, u13, u14, u15, rfl, rfl, HM⟩
    obtain ⟨hM1, hM2, hM3, hM4⟩ := HM.out
    have HM4 : Hid (KV SvK W (fun k => w1.heap.size ≤ k ∧ k ≠ nb ∧ k < W.heap.size) (.agg #[.int .i64 t2, .int .i64 o2, .int .i64 b2, .int .i64 e2, .slice As2 ns2 cs2, .slice Al2 nl2 cl2]) (r.getD Sv.zero)) := (show KV _ _ _ _ _ from hM4)
    have HM2 := Lib.hid hM2
    have HFW : Hid (Fr No w W) := (show Fr No w W from HF1.out.then hM3)
    have HATW : Hid (StAt W X O R G bp pd (.slice As ns cs) (.slice Al nl cl) x) := (show StAt _ _ _ _ _ _ _ _ _ _ from HAT.out.no HFW.out)
    have HNB : Hid (w.heap.size < nb ∧ w.heap.size < w1.heap.size) := (show _ ∧ _ from by have := HXB.out; have := heap_lt HC1.out; omega)
    have hcw : CIs W xb ck ct cv ca (.slice Ac nc cc) (.slice Ad nd cd) := hM3.heap HC1.out (fun h => h)
    obtain ⟨d0, d1, d2, d3, d4, d5⟩ := c_cells hcw
    clear hM1 hM2 hM3 hM4 hcw
    cases r with
    | none =>
      have hec : ec = 1 := HEC.out
      subst hec
      clear d0 d1 d2 d3 d4 d5
      go_wp2_with fail
      go_ret
      have hd : doS x c = (x, 1) := by unfold doS; rw [← HR.out]
      rw [hd]
      exact (show StPost _ _ _ _ _ _ _ _ from ⟨X, rfl, ⟨bp, O, R, G, _, _, rfl, HATW.out⟩, fun k hk => .inl hk, HFW.out.mono (fun _ _ h => h.elim)⟩)
    | some s' =>
      have hec : ec = 0 := HEC.out
      subst hec
      have HSM : Hid (s'.small) := (show Sv.small _ from HSB.out s' HR.out.symm)
      go_wp2_with fail
      refine (schange_any (w := W) (HC.out.fr HFW.out (fun _ _ _ h => h)) HLIM.out.1).mono ?_
      rintro e w5 ⟨vv5, rfl, hiv, hf5⟩
      have HIV := Lib.hid hiv
      have HF5 := Lib.hid hf5
      have HFW5 : Hid (Fr No w w5) := (show Fr No w w5 from HFW.out.then hf5)
      have HNX : Hid (∀ k, X k → k < w.heap.size) := (show ∀ k, _ → _ from HAT.out.lt)
      clear d0 d1 d2 d3 d4 d5 hiv hf5
      obtain ⟨RB, hRB⟩ : ∃ RB, RB = roomB x (recC c) := ⟨_, rfl⟩
      have HRB := Lib.hid hRB
      clear hRB
      go_wp2_with fail
      refine (lay_any (w := w5) (x := x) (v := itCh c) (HATW.out.no HF5.out) HFI.out HIV.out HCB.out (ch_check c)).mono ?_
      rw [show roomB x (sealB (itCh c).enc) = RB from HRB.out.symm]
      rintro e w6 ⟨X6, rfl, hst, hX6, hf6⟩
      have HX6 : Hid (∀ k, X6 k → X k ∨ w5.heap.size ≤ k) := (show ∀ k, _ → _ from hX6)
      have HF6 : Hid (Fr X w5 w6) := (show Fr X w5 w6 from hf6)
      have HKV6 : Hid (KV SvK w6 (fun k => w1.heap.size ≤ k ∧ k ≠ nb ∧ k < W.heap.size) (.agg #[.int .i64 t2, .int .i64 o2, .int .i64 b2, .int .i64 e2, .slice As2 ns2 cs2, .slice Al2 nl2 cl2]) s') := (show KV _ _ _ _ _ from (HM4.out.fr HF5.out (fun _ _ _ h => h)).fr hf6 (fun k _ hk hx => by have := HNX.out k hx; have := HNB.out; omega))
      have hs6 : SIs w6 nb t2 o2 b2 e2 (.slice As2 ns2 cs2) (.slice Al2 nl2 cl2) := hf6.heap (HF5.out.heap HM2.out (fun h => h)) (fun hx => by have := HNX.out nb hx; have := HNB.out; omega)
      have HS6 := Lib.hid hs6
      obtain ⟨bp', O6, R6, G6, vs6, vl6, he6, h6⟩ := hst
      cases he6
      unfold layS at h6
      have HXX : Hid (recC c = sealB (itCh c).enc) := (show _ = _ from rfl)
      rw [← HXX.out, ← HRB.out] at h6
      have HST := Lib.hid h6
      have HFW6 : Hid (Fr X w w6) := (show Fr X w w6 from HFW5.out.trans hf6 (fun _ _ h => h.elim) (fun _ _ h => h))
      have HXW6 : Hid (∀ k, X6 k → X k ∨ w.heap.size ≤ k) := (show ∀ k, _ → _ from fun k hk => (hX6 k hk).imp id (fun h => by have := HFW5.out.size; omega))
      have HG6 : Hid (∀ k, (w1.heap.size ≤ k ∧ k ≠ nb ∧ k < W.heap.size) → ¬ X6 k ∧ k < w6.heap.size ∧ w.heap.size ≤ k) := (show ∀ k, _ → _ from fun k hk => ⟨fun hx => by
        have h5 := HF5.out.size
        have h9 := HNB.out
        rcases hX6 k hx with h7 | h7
        · have := HNX.out k h7; omega
        · omega, by have h5 := HF5.out.size; have := hf6.size; omega, by have h9 := HNB.out; omega⟩)
      clear hX6 hf6 h6 hs6
      obtain ⟨r0, r1, r2, r3, r4, r5⟩ := s_cells HS6.out
      cases RB with
      | true =>
        have h6 := HST.out
        rw [if_pos rfl] at h6
        have H6 := Lib.hid h6
        obtain ⟨_, c1, c2, c3, c4, c5, c6, _⟩ := st_cells h6.blk
        have z1 := st_free h6.blk 1
        have z2 := st_free h6.blk 2
        have z3 := st_free h6.blk 3
        have z4 := st_free h6.blk 4
        have z5 := st_free h6.blk 5
        have z6 := st_free h6.blk 6
        clear h6
        go_wp2_with fail
        go_ret
        have hd : doS x c = ({ x.laid (recC c) with s := s' }, 0) := by unfold doS; rw [← HR.out]; simp only; rw [← HRB.out, if_pos rfl]
        rw [hd]
        exact H6.out.saved HXW6.out HFW6.out HAT.out.top HKV6.out HG6.out _
      | false =>
        have h6 := HST.out
        rw [if_neg (by decide)] at h6
        have H6 := Lib.hid h6
        clear h6
        obtain ⟨RB2, hRB2⟩ : ∃ RB2, RB2 = roomB x.over (recS s') := ⟨_, rfl⟩
        have HRB2 := Lib.hid hRB2
        clear hRB2
        go_wp2_with fail
        refine (rewrite_any (w := w6) (x := x) (s := s') H6.out HFI.out HTO.out HKV6.out (fun k hk e => by subst e; exact (HG6.out _ hk).1 H6.out.top) HSM.out).mono ?_
        rw [← HRB2.out]
        rintro e w7 ⟨X7, rfl, hst, hX7, hf7⟩
        have hnbx : ¬ X6 nb := fun hx => by
          have h1 := HNB.out
          have h2 := heap_lt HM2.out
          have h3 := HF5.out.size
          rcases HX6.out nb hx with h7 | h7
          · have := HNX.out nb h7; omega
          · omega
        have HKV7 : Hid (KV SvK w7 (fun k => w1.heap.size ≤ k ∧ k ≠ nb ∧ k < W.heap.size) (.agg #[.int .i64 t2, .int .i64 o2, .int .i64 b2, .int .i64 e2, .slice As2 ns2 cs2, .slice Al2 nl2 cl2]) s') := (show KV _ _ _ _ _ from HKV6.out.fr hf7 (fun k _ hk hx => (HG6.out k hk).1 hx))
        have hs7 : SIs w7 nb t2 o2 b2 e2 (.slice As2 ns2 cs2) (.slice Al2 nl2 cl2) := hf7.heap HS6.out hnbx
        have HS7 := Lib.hid hs7
        obtain ⟨bp', O7, R7, G7, vs7, vl7, he7, h7⟩ := hst
        cases he7
        unfold rewS at h7
        rw [← HRB2.out] at h7
        have HST7 := Lib.hid h7
        have HFW7 : Hid (Fr X w w7) := (show Fr X w w7 from HFW6.out.trans hf7 (fun _ _ h => h) (fun k hk hx => by
          rcases HXW6.out k hx with h8 | h8
          · exact h8
          · omega))
        have HXW7 : Hid (∀ k, X7 k → X k ∨ w.heap.size ≤ k) := (show ∀ k, _ → _ from fun k hk => by
          rcases hX7 k hk with h8 | h8
          · exact HXW6.out k h8
          · exact .inr (by have := HFW6.out.size; omega))
        have HG7 : Hid (∀ k, (w1.heap.size ≤ k ∧ k ≠ nb ∧ k < W.heap.size) → ¬ X7 k ∧ k < w7.heap.size ∧ w.heap.size ≤ k) := (show ∀ k, _ → _ from fun k hk => ⟨fun hx => by
          have h5 := HG6.out k hk
          rcases hX7 k hx with h8 | h8
          · exact h5.1 h8
          · omega, by have h5 := HG6.out k hk; have := hf7.size; omega, (HG6.out k hk).2.2⟩)
        clear hX7 hf7 h7 hs7 hnbx r0 r1 r2 r3 r4 r5
        obtain ⟨r0, r1, r2, r3, r4, r5⟩ := s_cells HS7.out
        cases RB2 with
        | true =>
          have h7 := HST7.out
          rw [if_pos rfl] at h7
          have H7 := Lib.hid h7
          obtain ⟨_, c1, c2, c3, c4, c5, c6, _⟩ := st_cells h7.blk
          have z1 := st_free h7.blk 1
          have z2 := st_free h7.blk 2
          have z3 := st_free h7.blk 3
          have z4 := st_free h7.blk 4
          have z5 := st_free h7.blk 5
          have z6 := st_free h7.blk 6
          clear h7
          go_wp2_with fail
          go_ret
          have hd : doS x c = ({ x.over.laid (recS s') with s := s' }, 0) := by unfold doS; rw [← HR.out]; simp only; rw [← HRB.out, if_neg (by decide), ← HRB2.out, if_pos rfl]
          rw [hd]
          exact H7.out.saved HXW7.out HFW7.out HAT.out.top HKV7.out HG7.out _
        | false =>
          have h7 := HST7.out
          rw [if_neg (by decide)] at h7
          have H7 := Lib.hid h7
          clear h7
          go_wp2_with fail
          go_ret
          have hd : doS x c = (x, 210) := by unfold doS; rw [← HR.out]; simp only; rw [← HRB.out, if_neg (by decide), ← HRB2.out, if_neg (by decide)]
          rw [hd]
          exact (show StPost _ _ _ _ _ _ _ _ from ⟨X7, rfl, ⟨bp, O7, R7, G7, vs7, vl7, rfl, H7.out⟩, HXW7.out, HFW7.out⟩)
end Go.Proofs.Ytbaohngnpgappaa
