/- store's Open: of a disk that holds what was saved. -/
import Derived.Test.YtbaohngnpgappaaS21
set_option linter.unusedVariables false
set_option linter.unusedSimpArgs false
namespace Go.Proofs.Ytbaohngnpgappaa
open Go.RowKit
theorem fit_ens {a b c d : Int} {tx : List UInt8} {es : List En} (h : (itRec a b c d tx es).fit) : ∀ x ∈ es, I64 x.1 := by
  intro x hx
  unfold itRec itList at h
  rw [It.fit] at h
  have h1 := It.fits_iff.1 h.2.2 (itEns es) (by simp)
  unfold itEns itList at h1
  rw [It.fit] at h1
  have h2 := It.fits_iff.1 h1.2.2 (itEn x) (List.mem_map_of_mem hx)
  unfold itEn itList at h2
  rw [It.fit] at h2
  have h3 := It.fits_iff.1 h2.2.2 (itNum x.1) (by simp)
  unfold itNum at h3
  rw [It.fit] at h3
  exact h3.2.1
theorem bulk_ens {a b c d : Int} {tx : List UInt8} {es : List En} (h : (itRec a b c d tx es).bulk ≤ 1048576) : ∀ x ∈ es, x.2.length ≤ maxLen := by
  intro x hx
  have h1 := It.bulks_mem (x := itEns es) (l := [itNum a, itNum b, itNum c, itNum d, itText tx, itEns es]) (by simp)
  have h2 : (itRec a b c d tx es).bulk = 0 + 1 + It.bulks [itNum a, itNum b, itNum c, itNum d, itText tx, itEns es] := rfl
  have h3 := It.bulks_mem (x := itEn x) (l := es.map itEn) (List.mem_map_of_mem hx)
  have h4 : (itEns es).bulk = 0 + 1 + It.bulks (es.map itEn) := rfl
  have h5 := It.bulks_mem (x := itText x.2) (l := [itNum x.1, itText x.2]) (by simp)
  have h6 : (itEn x).bulk = 0 + 1 + It.bulks [itNum x.1, itText x.2] := rfl
  have h7 : (itText x.2).bulk = x.2.length + 1 + 0 := rfl
  simp only [maxLen]
  omega
theorem Holds.total {d : Dk} {m h n : Nat} {s0 : Sv} {cs : List Ch} {s : Sv} (H : Holds d m h n s0 cs s) : (recS s0 ++ logC cs).length = n ∧ 16 + h * d.half + n ≤ d.now.length := by
  have h1 := congrArg List.length H.all
  have h2 := H.n1
  have h3 := H.len
  have h4 : h * d.half = 0 ∨ h * d.half = d.half := by
    rcases (show h = 0 ∨ h = 1 by have := H.h1; omega) with h0 | h0
    · left; rw [h0, Nat.zero_mul]
    · right; rw [h0, Nat.one_mul]
  unfold Dk.half at *
  rw [List.length_take, List.length_drop] at h1
  omega
theorem Holds.read {d : Dk} {m h n : Nat} {s0 : Sv} {cs : List Ch} {s : Sv} (H : Holds d m h n s0 cs s) {p r : List UInt8} (he : recS s0 ++ logC cs = p ++ r) (hr : 0 < r.length) : readB d.now ((16 + h * d.half + p.length : Nat) : Int) ((n : Int) - (p.length : Int)) = r :=
  read_log (by rw [H.all, he]) H.total.2 hr
/-- What a record's item and the block that holds it show. -/
def RecS (vb b5 o5 c6 : Nat) (a b c d : Int) (tx : List UInt8) (A5 : Option Addr) (n5 c5 : Nat) (W : World) : Prop :=
  W.cell? ⟨vb, 3, none⟩ = some (.slice (some ⟨b5, o5, none⟩) 6 c6) ∧ W.cell? ⟨b5, o5 + 1, none⟩ = some (.int .i64 a) ∧ W.cell? ⟨b5, o5 + 5, none⟩ = some (.int .i64 b) ∧ W.cell? ⟨b5, o5 + 9, none⟩ = some (.int .i64 c) ∧ W.cell? ⟨b5, o5 + 13, none⟩ = some (.int .i64 d) ∧ W.cell? ⟨b5, o5 + 18, none⟩ = some (.string ⟨tx.toArray⟩) ∧
    W.cell? ⟨b5, o5 + 20, none⟩ = some (.int .i64 3) ∧ W.cell? ⟨b5, o5 + 21, none⟩ = some (.int .i64 0) ∧ W.cell? ⟨b5, o5 + 22, none⟩ = some (.string ⟨#[]⟩) ∧ W.cell? ⟨b5, o5 + 23, none⟩ = some (.slice A5 n5 c5)
theorem RecS.fr {S : Nat → Prop} {vb b5 o5 c6 : Nat} {a b c d : Int} {tx : List UInt8} {A5 : Option Addr} {n5 c5 : Nat} {w w' : World} (h : RecS vb b5 o5 c6 a b c d tx A5 n5 c5 w) (hf : Fr S w w') (h1 : ¬ S vb) (h2 : ¬ S b5) : RecS vb b5 o5 c6 a b c d tx A5 n5 c5 w' := by
  obtain ⟨e0, e1, e2, e3, e4, e5, e6, e7, e8, e9⟩ := h
  exact ⟨hf.cell e0 h1, hf.cell e1 h2, hf.cell e2 h2, hf.cell e3 h2, hf.cell e4 h2, hf.cell e5 h2, hf.cell e6 h2, hf.cell e7 h2, hf.cell e8 h2, hf.cell e9 h2⟩
theorem StAt.save2 {w6 : World} {X6 O R G G' : Nat → Prop} {bp : Nat} {pd vs vl vs' vl' : Value} {y : St} {s' : Sv} {t v ba bt : Int} (h : StAt w6 X6 O R G bp pd vs vl y)
    (hkv : KV SvK w6 G' (.agg #[.int .i64 t, .int .i64 v, .int .i64 ba, .int .i64 bt, vs', vl']) s') (hG : ∀ k, G' k → ¬ X6 k ∧ k < w6.heap.size) :
    StAt ((((((w6.setCell ⟨bp, 1, none⟩ (.int .i64 t)).setCell ⟨bp, 2, none⟩ (.int .i64 v)).setCell ⟨bp, 3, none⟩ (.int .i64 ba)).setCell ⟨bp, 4, none⟩ (.int .i64 bt)).setCell ⟨bp, 5, none⟩ vs').setCell ⟨bp, 6, none⟩ vl') (fun k => X6 k ∨ G' k) O R G' bp pd vs' vl' { y with s := s' } ∧
      Fr (fun q => q = bp) w6 ((((((w6.setCell ⟨bp, 1, none⟩ (.int .i64 t)).setCell ⟨bp, 2, none⟩ (.int .i64 v)).setCell ⟨bp, 3, none⟩ (.int .i64 ba)).setCell ⟨bp, 4, none⟩ (.int .i64 bt)).setCell ⟨bp, 5, none⟩ vs').setCell ⟨bp, 6, none⟩ vl') := by
  obtain ⟨cs, he, hr⟩ := hkv
  have hr0 := hr
  obtain ⟨ws, wl, rfl, _⟩ := hr0
  simp only [Value.agg.injEq, List.mem_toArray, Array.mk.injEq, List.cons.injEq, Value.int.injEq, true_and, and_true] at he
  obtain ⟨rfl, rfl, rfl, rfl, rfl, rfl⟩ := he
  have hf6 : Fr (fun q => q = bp) w6 ((((((w6.setCell ⟨bp, 1, none⟩ (.int .i64 s'.term)).setCell ⟨bp, 2, none⟩ (.int .i64 s'.vote)).setCell ⟨bp, 3, none⟩ (.int .i64 s'.base)).setCell ⟨bp, 4, none⟩ (.int .i64 s'.bterm)).setCell ⟨bp, 5, none⟩ vs').setCell ⟨bp, 6, none⟩ vl') :=
    (((((Fr.one _ _).then (Fr.one _ _)).then (Fr.one _ _)).then (Fr.one _ _)).then (Fr.one _ _)).then (Fr.one _ _)
  exact ⟨h.save (G' := G') hf6 (st_save h.blk s' vs' vl') ⟨_, rfl, hr⟩ hG, hf6⟩
def O15 (bp : Nat) (s : Sv) (vs vl : Value) (vb b5 o5 c6 : Nat) (a b c d : Int) (tx : List UInt8) (A5 : Option Addr) (n5 c5 : Nat) (W : World) : Prop :=
  W.cell? ⟨vb, 3, none⟩ = some (.slice (some ⟨b5, o5, none⟩) 6 c6) ∧ W.cell? ⟨b5, o5 + 1, none⟩ = some (.int .i64 a) ∧ W.cell? ⟨b5, o5 + 5, none⟩ = some (.int .i64 b) ∧ W.cell? ⟨b5, o5 + 9, none⟩ = some (.int .i64 c) ∧ W.cell? ⟨b5, o5 + 13, none⟩ = some (.int .i64 d) ∧ W.cell? ⟨b5, o5 + 18, none⟩ = some (.string ⟨tx.toArray⟩) ∧
    W.cell? ⟨b5, o5 + 20, none⟩ = some (.int .i64 3) ∧ W.cell? ⟨b5, o5 + 21, none⟩ = some (.int .i64 0) ∧ W.cell? ⟨b5, o5 + 22, none⟩ = some (.string ⟨#[]⟩) ∧ W.cell? ⟨b5, o5 + 23, none⟩ = some (.slice A5 n5 c5) ∧
    W.cell? ⟨bp, 1, none⟩ = some (.int .i64 s.term) ∧ W.cell? ⟨bp, 2, none⟩ = some (.int .i64 s.vote) ∧ W.cell? ⟨bp, 3, none⟩ = some (.int .i64 s.base) ∧ W.cell? ⟨bp, 4, none⟩ = some (.int .i64 s.bterm) ∧ W.cell? ⟨bp, 5, none⟩ = some vs ∧ W.cell? ⟨bp, 6, none⟩ = some vl
theorem O15.fr {S : Nat → Prop} {bp : Nat} {s : Sv} {vs vl : Value} {vb b5 o5 c6 : Nat} {a b c d : Int} {tx : List UInt8} {A5 : Option Addr} {n5 c5 : Nat} {w w' : World} (h : O15 bp s vs vl vb b5 o5 c6 a b c d tx A5 n5 c5 w) (hf : Fr S w w') (h1 : ¬ S vb) (h2 : ¬ S b5) (h3 : ¬ S bp) : O15 bp s vs vl vb b5 o5 c6 a b c d tx A5 n5 c5 w' := by
  obtain ⟨e0, e1, e2, e3, e4, e5, e6, e7, e8, e9, f1, f2, f3, f4, f5, f6⟩ := h
  exact ⟨hf.cell e0 h1, hf.cell e1 h2, hf.cell e2 h2, hf.cell e3 h2, hf.cell e4 h2, hf.cell e5 h2, hf.cell e6 h2, hf.cell e7 h2, hf.cell e8 h2, hf.cell e9 h2, hf.cell f1 h3, hf.cell f2 h3, hf.cell f3 h3, hf.cell f4 h3, hf.cell f5 h3, hf.cell f6 h3⟩
/-- Where Open stands: what is saved up to here, what is to come. -/
def LoopRel (w : World) (O R : Nat → Prop) (bp : Nat) (pd : Value) (d : Dk) (hh n m : Nat) (s0 : Sv) (cs : List Ch) (s : Sv) (wr : World) : Prop :=
  ∃ (s1 : Sv) (cs1 : List Ch) (p : List UInt8) (X G : Nat → Prop) (vt ve : Value), StAt wr X O R G bp pd vt ve ⟨d, s1, hh, p.length, m⟩ ∧ (∀ k, X k → (O k ∨ R k) ∨ w.heap.size ≤ k) ∧ Fr (fun k => O k ∨ R k) w wr ∧ Goes s1 cs1 s ∧ s1.ok ∧ recS s0 ++ logC cs = p ++ logC cs1
def meas (bp n : Nat) (wr : World) : Nat := match wr.cell? ⟨bp, 8, none⟩ with
  | some (.int _ z) => ((n : Int) - z).toNat
  | _ => 0
/-- What is saved stands in the store's block, its slices in new memory. -/
def Mid10 (w1 : World) (bp : Nat) (pd : Value) (s : Sv) (half at_ mark : Int) (W : World) : Prop :=
  ∃ vt ve, W.heap[bp]? = some (stBlk pd s vt ve half at_ mark) ∧ Fr (fun q => q = bp) w1 W ∧ Rb W (fun k => w1.heap.size ≤ k ∧ k < W.heap.size) vt s.snap ∧ Row EnK W (fun k => w1.heap.size ≤ k ∧ k < W.heap.size) ve s.l
set_option maxRecDepth 100000 in
set_option maxHeartbeats 8000000 in
theorem open_disk {w : World} {O R : Nat → Prop} {pd : Value} {d : Dk} {m hh n : Nat} {s0 s : Sv} {cs : List Ch} (h : DiskIs w O R pd d) (H : Holds d m hh n s0 cs s) :
    Calls Try.prog 47 #[pd] w (FmtPost w (fun k => O k ∨ R k) pd ⟨d, s, hh, n, m⟩) := by
  obtain ⟨dp, rfl⟩ := h.ptr
  have HD := Lib.hid h
  have HH := Lib.hid H
  obtain ⟨nn, hn⟩ : ∃ n, n = d.now.length := ⟨_, rfl⟩
  have HN := Lib.hid hn
  have hlen : 4096 ≤ nn := by rw [hn]; exact H.len
  have hg : decide ((nn : Int) < 4096) = false := by simp; omega
  have hm1 := H.m1
  have hh1 := H.h1
  obtain ⟨mi, hmi⟩ : ∃ mi : Int, mi = (m : Int) := ⟨_, rfl⟩
  have HMI := Lib.hid hmi
  have hmb0 : 0 ≤ mi := by omega
  have hmb1 : mi ≤ 1 := by omega
  have hmand : bits .and .i64 mi 1 = mi := by
    rcases (show mi = 0 ∨ mi = 1 by omega) with h0 | h0
    · subst h0; decide
    · subst h0; decide
  have HU8 : Hid (∀ z : Int, 0 ≤ z → z ≤ 255 → enc8 (byteOf z) = .int .u8 z) := (show ∀ z : Int, _ from fun z h0 h1 => by rw [byteOf_enc, IntKind.wrap_u8]; congr 1; omega)
  clear hn h H hmi hm1
  go_enter Try.func47, Try.ntmps47
  go_wp2_with fail
  refine (size_any HD.out).mono ?_
  rw [← HN.out]
  rintro e _ ⟨rfl, rfl⟩
  go_wp2_with fail
  refine (read_any (w := w) (d := d) (at_ := 0) (n := 1) HD.out (by omega) (by omega) (by omega)).mono ?_
  rw [HH.out.top]
  rintro e w1 ⟨v1, rfl, hown1, hf1⟩
  have hown1' : Ow w1 (New w) 5 1 v1 1 ([byteOf (m : Int)].map enc8) := hown1
  obtain ⟨g1, q1, cur1, rfl, _, _, _, _, _, _⟩ := hown1'.form (by decide)
  have k1 : w1.cell? ⟨g1, 0, none⟩ = some (.int .u8 mi) := by
    obtain ⟨_, _, he, _, _, hc⟩ := hown1'.cells
    obtain ⟨g', hg', _, hc', _⟩ := hc 0 _ rfl
    injection he with he
    rw [hg'] at he
    injection he with he
    injection he with he
    rw [he, hc', ← HMI.out, HU8.out _ hmb0 (by omega)]
  have HF1 := Lib.hid hf1
  clear hown1 hown1' hf1
  go_wp2_with fail
  obtain ⟨bp, hbp⟩ : ∃ b, b = w1.heap.size := ⟨_, rfl⟩
  obtain ⟨w2, hw2⟩ : ∃ w2, Hid (w2 = w1.alloc (.cells #[.pointer (some ⟨dp, 0, none⟩), .int .i64 0, .int .i64 0, .int .i64 0, .int .i64 0, .slice none 0 0, .slice none 0 0, .int .i64 0, .int .i64 0, .int .i64 mi] 111 (0, 0))) := ⟨_, show _ = _ from rfl⟩
  have hf2 : Fr No w1 w2 := by rw [hw2.out]; exact (Fr.refl _ _).alloc _
  have hb2 : w2.heap[bp]? = some (stBlk (.pointer (some ⟨dp, 0, none⟩)) Sv.zero (.slice none 0 0) (.slice none 0 0) 0 0 mi) := by rw [hw2.out, hbp]; exact blk_new _ _
  have HT2 : Hid (StAt w2 (fun k => (O k ∨ R k) ∨ k = bp) O R No bp (.pointer (some ⟨dp, 0, none⟩)) (.slice none 0 0) (.slice none 0 0) ⟨d, Sv.zero, 0, 0, m⟩) := (show StAt _ _ _ _ _ _ _ _ _ _ from by
    have hlt := HD.out.lt
    have hs1 := HF1.out.size
    have hs2 : w2.heap.size = bp + 1 := by rw [hw2.out, hbp]; simp
    refine ⟨by rw [HMI.out] at hb2; exact hb2, HD.out.no (HF1.out.then hf2), Rds.nil _ _ _ _ _ (Nat.zero_le _), Row.nil _ _ _ _ _ (Nat.zero_le _), by unfold I64 Sv.zero; simp, .inr rfl, ⟨fun ho => ?_, fun ho => ?_, fun h => h⟩, fun k hk => .inl hk, fun k hk => hk.elim, fun k hk => ?_⟩
    · have := hlt bp (.inl ho); omega
    · have := hlt bp (.inr ho); omega
    · rcases hk with hk | hk
      · have := hlt k hk; omega
      · omega)
  have HBP : Hid (bp = w1.heap.size) := (show _ = _ from hbp)
  have HF2 : Hid (Fr No w w2) := (show Fr No w w2 from HF1.out.then hf2)
  rw [← hw2.out, ← hbp]
  clear k1 hbp hf2 hb2 hmand hg
  refine (read_any (w := w2) (d := d) (at_ := 1 + 5 * mi) (n := 5) HT2.out.disk (by omega) (by omega) (by omega)).mono ?_
  rw [show 1 + 5 * mi = ((1 + 5 * m : Nat) : Int) from by have := HMI.out; omega, HH.out.mark]
  rintro e w3 ⟨v3, rfl, hown3, hf3⟩
  obtain ⟨hi, hhi⟩ : ∃ hi : Int, hi = (hh : Int) := ⟨_, rfl⟩
  obtain ⟨y1, hy1⟩ : ∃ y : Nat, y = (byteOf ((n : Int) / 16777216)).toNat := ⟨_, rfl⟩
  obtain ⟨y2, hy2⟩ : ∃ y : Nat, y = (byteOf ((n : Int) / 65536)).toNat := ⟨_, rfl⟩
  obtain ⟨y3, hy3⟩ : ∃ y : Nat, y = (byteOf ((n : Int) / 256)).toNat := ⟨_, rfl⟩
  obtain ⟨y4, hy4⟩ : ∃ y : Nat, y = (byteOf (n : Int)).toNat := ⟨_, rfl⟩
  have hn5 : n ≤ 524288 := by have h1 := HH.out.n1; have h2 := HD.out.len.1; unfold Dk.half at h1; omega
  have HY : Hid (y1 * 16777216 + y2 * 65536 + y3 * 256 + y4 = n) := (show _ = _ from by rw [hy1, hy2, hy3, hy4]; exact mark_rdn n (by omega))
  have hyb1 : y1 ≤ 255 := by have := (byteOf ((n : Int) / 16777216)).toNat_lt; omega
  have hyb2 : y2 ≤ 255 := by have := (byteOf ((n : Int) / 65536)).toNat_lt; omega
  have hyb3 : y3 ≤ 255 := by have := (byteOf ((n : Int) / 256)).toNat_lt; omega
  have hyb4 : y4 ≤ 255 := by have := (byteOf (n : Int)).toNat_lt; omega
  have hown3' : Ow w3 (New w2) 5 1 v3 5 [.int .u8 hi, .int .u8 y1, .int .u8 y2, .int .u8 y3, .int .u8 y4] := by
    have h1 : (markB hh n).map enc8 = [.int .u8 hi, .int .u8 y1, .int .u8 y2, .int .u8 y3, .int .u8 y4] := by
      rw [markB, be4_lit, hy1, hy2, hy3, hy4]
      simp only [List.map_cons, List.map_nil]
      rw [hhi, HU8.out _ (by omega) (by omega)]
      rfl
    rw [← h1, ← markB_len hh n]
    exact hown3
  obtain ⟨g3, q3, cur3, rfl, _, _, hq3, _, _, _⟩ := hown3'.form (by decide)
  have kk : ∀ j u, [Value.int .u8 hi, .int .u8 y1, .int .u8 y2, .int .u8 y3, .int .u8 y4][j]? = some u → w3.cell? ⟨g3, j, none⟩ = some u := by
    intro j u hu
    obtain ⟨_, _, he, _, _, hc⟩ := hown3'.cells
    obtain ⟨g', hg', _, hc', _⟩ := hc j u hu
    injection he with he
    rw [hg'] at he
    injection he with he
    injection he with he
    rw [he, hc']
  have k0 := kk 0 _ rfl
  have k1 := kk 1 _ rfl
  have k2 := kk 2 _ rfl
  have k3 := kk 3 _ rfl
  have k4 := kk 4 _ rfl
  have HF3 : Hid (Fr No w2 w3) := (show Fr No w2 w3 from hf3)
  obtain ⟨a1, a2, a3, e1, e2, ⟨hb1, hb2, hb3, hb4⟩, hc1, hc2, hc3, ho1, ho2, ho3⟩ := mark_ors hyb1 hyb2 hyb3 hyb4 HY.out
  have HHI := Lib.hid hhi
  have hh0 : 0 ≤ hi := by omega
  have hh2 : hi ≤ 1 := by omega
  clear hown3 hown3' hf3 kk hy1 hy2 hy3 hy4 hhi hh1
  go_upto_region 5 with fail
  have HS : Hid (w3.drew.cell? ⟨g3, 1, none⟩ = some (.int .u8 y1) ∧ w3.drew.cell? ⟨g3, 2, none⟩ = some (.int .u8 y2) ∧ w3.drew.cell? ⟨g3, 3, none⟩ = some (.int .u8 y3) ∧ w3.drew.cell? ⟨g3, 4, none⟩ = some (.int .u8 y4)) := (show _ ∧ _ ∧ _ ∧ _ from ⟨k1, k2, k3, k4⟩)
  refine wp_seq_region (fun W => W.cell? ⟨g3, 1, none⟩ = some (.int .u8 y1) ∧ W.cell? ⟨g3, 2, none⟩ = some (.int .u8 y2) ∧ W.cell? ⟨g3, 3, none⟩ = some (.int .u8 y3) ∧ W.cell? ⟨g3, 4, none⟩ = some (.int .u8 y4)) [] [2, 7, 13, 19] [] [0, 1, 2, 3, 4, 5, 6, 7, 8, 9, 10, 11, 12, 13, 14, 15, 16, 17, 18, 19, 20, 21, 22] (by kernel_rfl) (by kernel_rfl) rfl (by kernel_rfl) (fun _ _ _ _ _ h => h) ?_
  repeat (first
    | (refine sq_off (a' := ?_) rfl rfl (by rfl) (fun _ => (HS).out) ?ha ?_; (case ha => simp only [Act.put, List.setIfInBounds_toArray, List.set_cons_zero, List.set_cons_succ]; rfl))
    | (refine sq_any (v := ?_) (a' := ?_) rfl rfl rfl (by rfl) (fun W => ?hr) ?ha ?_; (case hr => go_simp; first | done | rfl); (case ha => simp only [Act.put, List.setIfInBounds_toArray, List.set_cons_zero, List.set_cons_succ]; rfl))
    | (refine sq_load (v := ?_) (a' := ?_) rfl rfl rfl (by rfl) (fun W hSW => ?hr) (HS).out ?ha ?_; (case hr => (try dsimp only at hSW); go_simp; first | done | rfl); (case ha => simp only [Act.put, List.setIfInBounds_toArray, List.set_cons_zero, List.set_cons_succ]; rfl)))
  refine sq_done ?_
  have hmand : bits .and .i64 hi 1 = hi := by
    rcases (show hi = 0 ∨ hi = 1 by omega) with h0 | h0
    · subst h0; decide
    · subst h0; decide
  have HAT3 : Hid (StAt w3 (fun k => (O k ∨ R k) ∨ k = bp) O R No bp (.pointer (some ⟨dp, 0, none⟩)) (.slice none 0 0) (.slice none 0 0) ⟨d, Sv.zero, 0, 0, m⟩) := (show StAt _ _ _ _ _ _ _ _ _ _ from HT2.out.no HF3.out)
  have c7 := (st_cells HAT3.out.blk).2.2.2.2.2.2.2.1
  have z7 := st_free HAT3.out.blk 7
  clear hb1 hb2 hb3 hb4 hc1 hc2 hc3 ho1 ho2 ho3 hyb1 hyb2 hyb3 hyb4 k1 k2 k3 k4
  go_upto_region 7 with fail
  obtain ⟨w4, hw4⟩ : ∃ w4, Hid (w4 = (w3.setCell ⟨bp, 7, none⟩ (.int .i64 hi)).drew) := ⟨_, show _ = _ from rfl⟩
  rw [← hw4.out]
  have HF4 : Hid (Fr (fun q => q = bp) w3 w4) := (show Fr _ _ _ from by rw [hw4.out]; exact (Fr.one _ _).drew)
  have HAT4 : Hid (StAt w4 (fun k => (O k ∨ R k) ∨ k = bp) O R No bp (.pointer (some ⟨dp, 0, none⟩)) (.slice none 0 0) (.slice none 0 0) ⟨d, Sv.zero, hh, 0, m⟩) := (show StAt _ _ _ _ _ _ _ _ _ _ from by
    refine HAT3.out.own (x' := ⟨d, Sv.zero, hh, 0, m⟩) HF4.out ?_ rfl rfl
    rw [hw4.out]
    rw [HHI.out]
    exact (st_set HAT3.out.blk).1 _)
  clear c7 z7 hmand k0 HS
  go_wp2_with fail
  obtain ⟨hz, hhz⟩ : ∃ k, k = d.half := ⟨_, rfl⟩
  have HHZ := Lib.hid hhz
  have hnz : n ≤ hz := by rw [hhz]; exact HH.out.n1
  have hgz : decide ((n : Int) > (hz : Int)) = false := by simp; omega
  have hl0 : 0 < (recS s0 ++ logC cs).length := by
    rw [List.length_append]
    unfold recS
    rw [sealB_len]
    omega
  refine (record_any (w := w4) (x := ⟨d, Sv.zero, hh, 0, m⟩) (tl := n) (a := s0.term) (b := s0.vote) (c := s0.base) (d := s0.bterm) (tx := s0.snap) (es := s0.l) (q := logC cs) HAT4.out (by show 16 ≤ d.now.length; have := HN.out; omega) HH.out.h1 (Nat.zero_le _) HH.out.n1
    (HH.out.read (p := []) (r := recS s0 ++ logC cs) rfl hl0) HH.out.fit HH.out.bulk).mono ?_
  rintro e w5 ⟨vv, rfl, hiv, hst5, hf5⟩
  obtain ⟨cs0, rfl, hir⟩ := hiv
  unfold itRec itList at hir
  obtain ⟨vx, rfl, hrow, _⟩ := itR_row hir
  obtain ⟨A6, c6, hvx, _, _⟩ := hrow.shape
  have hvx' : vx = .slice A6 6 c6 := hvx
  clear hvx
  subst hvx'
  obtain ⟨b5, o5, A5, n5, c5, rfl, hF5, hc61, hc62, k1, k2, k3, k4, k5, k6, k7, k8, k9, hit5, i1, i2, i3, i4, htx⟩ := rec_cells hrow
  have hstr : str [] = .string ⟨#[]⟩ := rfl
  rw [hstr]
  have HREC : Hid (StAt w5 (fun k => (O k ∨ R k) ∨ k = bp) O R No bp (.pointer (some ⟨dp, 0, none⟩)) (.slice none 0 0) (.slice none 0 0) ⟨d, Sv.zero, hh, (recS s0).length, m⟩) := (show StAt _ _ _ _ _ _ _ _ _ _ from by
    have h := hst5
    simp only [Nat.zero_add] at h
    exact h)
  have HF5 : Hid (Fr (fun q => q = bp) w4 w5) := (show Fr _ _ _ from hf5)
  have HI : Hid (I64 s0.term ∧ I64 s0.vote ∧ I64 s0.base ∧ I64 s0.bterm ∧ s0.snap.length ≤ maxLen) := (show _ ∧ _ from ⟨i1, i2, i3, i4, htx⟩)
  have HIT5 := Lib.hid hit5
  have HNB5 : Hid (w4.heap.size ≤ b5 ∧ b5 < w5.heap.size ∧ bp < w4.heap.size) := (show _ ∧ _ ∧ _ from ⟨hF5, World.block_lt_of_cell? _ _ k1, HAT4.out.lt bp (.inr rfl)⟩)
  obtain ⟨vb, hvb⟩ : ∃ b, b = w5.heap.size := ⟨_, rfl⟩
  have HVB := Lib.hid hvb
  obtain ⟨w6, hw6⟩ : ∃ w6, Hid (w6 = w5.alloc (.cells #[.int .i64 3, .int .i64 0, .string ⟨#[]⟩, .slice (some ⟨b5, o5, none⟩) 6 c6] 48 (0, 0))) := ⟨_, show _ = _ from rfl⟩
  have hf6 : Fr No w5 w6 := by rw [hw6.out]; exact (Fr.refl _ _).alloc _
  have hv6 : VIs w6 vb 3 0 [] (.slice (some ⟨b5, o5, none⟩) 6 c6) := by rw [hw6.out, hvb]; exact blk_new _ _
  have HR6 : Hid (RecS vb b5 o5 c6 s0.term s0.vote s0.base s0.bterm s0.snap A5 n5 c5 w6) := (show RecS _ _ _ _ _ _ _ _ _ _ _ _ _ from ⟨(v_cells hv6).2.2.2, hf6.cell k1 (fun h => h), hf6.cell k2 (fun h => h), hf6.cell k3 (fun h => h), hf6.cell k4 (fun h => h), hf6.cell k5 (fun h => h), hf6.cell k6 (fun h => h), hf6.cell k7 (fun h => h), hf6.cell k8 (fun h => h), hf6.cell k9 (fun h => h)⟩)
  have HF6 := Lib.hid hf6
  have HAT6 : Hid (StAt w6 (fun k => (O k ∨ R k) ∨ k = bp) O R No bp (.pointer (some ⟨dp, 0, none⟩)) (.slice none 0 0) (.slice none 0 0) ⟨d, Sv.zero, hh, (recS s0).length, m⟩) := (show StAt _ _ _ _ _ _ _ _ _ _ from HREC.out.no hf6)
  have H84 : Hid (Calls Try.prog 84 #[.pointer (some ⟨bp, 0, none⟩)] w6 fun e w' => e = .returned (.int .i64 (hz : Int)) ∧ w6 = w') := (show Calls _ _ _ _ _ from by
    have h := ssize_any HAT6.out (show 16 ≤ d.now.length by have := HN.out; omega)
    rw [HHZ.out]
    exact h)
  have HTXL : Hid (s0.snap.length ≤ maxLen) := (show _ ≤ _ from htx)
  have HES : Hid (s0.l.length ≤ 1048576 ∧ ∀ x ∈ s0.l, I64 x.1 ∧ x.2.length ≤ maxLen) := (show _ ∧ _ from ⟨HH.out.ok.1.1, fun y hy => ⟨fit_ens HH.out.fit y hy, bulk_ens HH.out.bulk y hy⟩⟩)
  clear hir hrow hst5 hf5 hF5 hc61 hc62 k1 k2 k3 k4 k5 k6 k7 k8 k9 hit5 i1 i2 i3 i4 htx hstr hvb hf6 hv6 hhz hl0
  go_wp2_with fail
  rw [← hw6.out, ← HVB.out]
  refine H84.out.mono ?_
  rintro e _ ⟨rfl, rfl⟩
  go_upto_region 10 with fail
  go_cut [] from 75 to 111 (fun wx => Hid (Mid10 w6 bp (.pointer (some ⟨dp, 0, none⟩)) s0 hh (recS s0).length m wx))
  case first =>
    have HS : Hid (RecS vb b5 o5 c6 s0.term s0.vote s0.base s0.bterm s0.snap A5 n5 c5 w6.drew) := (show RecS vb b5 o5 c6 s0.term s0.vote s0.base s0.bterm s0.snap A5 n5 c5 w6.drew from HR6.out.fr ((Fr.refl No w6).drew) (fun h => h) (fun h => h))
    have HIT6 : Hid (ItV w6.drew (New w4) (.agg #[.int .i64 3, .int .i64 0, .string ⟨#[]⟩, .slice A5 n5 c5]) (itEns s0.l)) := (show ItV _ _ _ _ from HIT5.out.fr HF6.out.drew (fun _ _ _ h => h))
    have HBW : Hid (bp < w6.heap.size) := (show _ < _ from HAT6.out.lt bp (.inr rfl))
    have HBV : Hid (vb ≠ bp) := (show _ ≠ _ from by have := HVB.out; have := HNB5.out; have := HF5.out.size; omega)
    have HB5 : Hid (b5 ≠ bp) := (show _ ≠ _ from by have := HNB5.out; omega)
    refine wp_pl_region (fun W => W.cell? ⟨vb, 3, none⟩ = some (.slice (some ⟨b5, o5, none⟩) 6 c6) ∧ W.cell? ⟨b5, o5 + 1, none⟩ = some (.int .i64 s0.term) ∧ W.cell? ⟨b5, o5 + 5, none⟩ = some (.int .i64 s0.vote) ∧ W.cell? ⟨b5, o5 + 9, none⟩ = some (.int .i64 s0.base) ∧ W.cell? ⟨b5, o5 + 13, none⟩ = some (.int .i64 s0.bterm) ∧ W.cell? ⟨b5, o5 + 18, none⟩ = some (.string ⟨(s0.snap).toArray⟩) ∧ W.cell? ⟨b5, o5 + 20, none⟩ = some (.int .i64 3) ∧ W.cell? ⟨b5, o5 + 21, none⟩ = some (.int .i64 0) ∧ W.cell? ⟨b5, o5 + 22, none⟩ = some (.string ⟨#[]⟩) ∧ W.cell? ⟨b5, o5 + 23, none⟩ = some (.slice A5 n5 c5)) [26, 31, 35] [2, 5, 7, 10, 12, 15, 17, 20, 22, 25, 28, 30] [] (.op 0 (.op 1 (.op 2 (.op 3 (.op 4 (.op 5 (.op 6 (.op 7 (.op 8 (.op 9 (.op 10 (.op 11 (.op 12 (.op 13 (.op 14 (.op 15 (.op 16 (.op 17 (.op 18 (.op 19 (.op 20 (.op 21 (.op 22 (.op 23 (.op 24 (.op 25 (.op 27 (.op 28 (.op 29 (.op 30 (.alt 26 (.op 31 (.op 32 (.op 33 (.op 34 (.op 35 (.nil)))))) (.alt 31 (.op 26 (.op 32 (.op 33 (.op 34 (.op 35 (.nil)))))) (.nil))))))))))))))))))))))))))))))))) (by kernel_rfl) (by kernel_rfl) (by kernel_rfl) (fun _ _ _ _ _ h => h) ?_
    repeat (first
      | (refine pl_off (a' := ?_) rfl rfl (by rfl) (fun _ => (HS).out) ?ha ?_; (case ha => simp only [Act.put, List.setIfInBounds_toArray, List.set_cons_zero, List.set_cons_succ]; rfl))
      | (refine pl_any (v := ?_) (a' := ?_) rfl rfl rfl (by rfl) (fun W => ?hr) ?ha ?_; (case hr => go_simp; first | done | rfl); (case ha => simp only [Act.put, List.setIfInBounds_toArray, List.set_cons_zero, List.set_cons_succ]; rfl))
      | (refine pl_load (v := ?_) (a' := ?_) rfl rfl rfl (by rfl) (fun W hSW => ?hr) (HS).out ?ha ?_; (case hr => (try dsimp only at hSW); go_simp; first | done | rfl); (case ha => simp only [Act.put, List.setIfInBounds_toArray, List.set_cons_zero, List.set_cons_succ]; rfl)))
    refine pl_alt rfl ?_ (pl_alt rfl ?_ pl_end)
    · obtain ⟨qa, hqa⟩ : ∃ q, q = w6.drew.heap.size := ⟨_, rfl⟩
      obtain ⟨qca, hqca⟩ : ∃ q, q = grownCap (w6.drew) (s0.snap).length 0 5 := ⟨_, rfl⟩
      obtain ⟨nta, hnta⟩ : ∃ q, q = (s0.snap).length := ⟨_, rfl⟩
      obtain ⟨w7, hwa⟩ : ∃ W, Hid (W = Lib.bytesWorld (w6.drew) 5 ⟨(s0.snap).toArray⟩) := ⟨_, show _ = _ from rfl⟩
      have HFca : Hid (Fr No (w6.drew) w7) := (show Fr No _ _ from by rw [hwa.out]; exact bw_fr _ _ _)
      have HRBca : Hid (Rb w7 (fun k => (w6.drew).heap.size ≤ k ∧ k < w7.heap.size) (.slice (some ⟨qa, 0, none⟩) nta qca) (s0.snap)) := (show Rb _ _ _ _ from by
        have h1 : w7.heap.size = (w6.drew).heap.size + 1 := by rw [hwa.out]; exact Lib.bytesWorld_size _ _ _
        have h2 : Rb w7 (fun k => k = (w6.drew).heap.size) (.slice (some ⟨qa, 0, none⟩) nta qca) (s0.snap) := by rw [hwa.out, hqa, hqca, hnta]; exact bw_rb _ _ HTXL.out
        exact h2.mono (fun k hk => by have h' : k = (w6.drew).heap.size := hk; exact ⟨by omega, by omega⟩))
      have HSca : Hid (RecS vb b5 o5 c6 s0.term s0.vote s0.base s0.bterm s0.snap A5 n5 c5 w7) := (show RecS vb b5 o5 c6 s0.term s0.vote s0.base s0.bterm s0.snap A5 n5 c5 w7 from HS.out.fr HFca.out (fun h => h) (fun h => h))
      refine pl_value (v := .slice (some ⟨qa, 0, none⟩) nta qca) (w1 := w7) (a' := ?_) rfl rfl (by rfl) ?hr (fun _ => HSca.out) ?ha ?_
      case hr =>
        have h1 := Lib.run_convert_string_bytes (P := Try.prog) (w6.drew) 9 22 5 ⟨(s0.snap).toArray⟩ Try.underlying9 Try.underlying22 Try.underlying5
        rw [← hwa.out, ← hqa, show (⟨(s0.snap).toArray⟩ : ByteArray).size = nta from by rw [hnta]; exact List.size_toArray .., hnta, ← hqca, ← hnta] at h1
        first | exact h1 | (unfold execOp; exact h1) | (unfold execOp; simp [Act.eval, h1])
      case ha => simp only [Act.put, List.setIfInBounds_toArray, List.set_cons_zero, List.set_cons_succ]; rfl
      clear hqa hqca hnta
      repeat (first
        | (refine pl_off (a' := ?_) rfl rfl (by rfl) (fun _ => (HSca).out) ?ha ?_; (case ha => simp only [Act.put, List.setIfInBounds_toArray, List.set_cons_zero, List.set_cons_succ]; rfl))
        | (refine pl_any (v := ?_) (a' := ?_) rfl rfl rfl (by rfl) (fun W => ?hr) ?ha ?_; (case hr => go_simp; first | done | rfl); (case ha => simp only [Act.put, List.setIfInBounds_toArray, List.set_cons_zero, List.set_cons_succ]; rfl))
        | (refine pl_load (v := ?_) (a' := ?_) rfl rfl rfl (by rfl) (fun W hSW => ?hr) (HSca).out ?ha ?_; (case hr => (try dsimp only at hSW); go_simp; first | done | rfl); (case ha => simp only [Act.put, List.setIfInBounds_toArray, List.set_cons_zero, List.set_cons_succ]; rfl)))
      refine pl_call rfl rfl (by rfl) rfl Try.func85 rfl rfl [.agg #[.int .i64 3, .int .i64 0, .string ⟨#[]⟩, .slice A5 n5 c5]] rfl ?_
      refine (taken_any (w := w7) (l := s0.l) (HIT6.out.fr HFca.out (fun _ _ _ h => h)) HES.out.1 HES.out.2).mono ?_
      rintro e w8 ⟨vtb, rfl, hrowb, hftb⟩
      obtain ⟨Atb, ctb, rfl, _, _⟩ := hrowb.shape
      obtain ⟨mtb, hmtb⟩ : ∃ m, m = (s0.l).length := ⟨_, rfl⟩
      rw [← hmtb] at hrowb ⊢
      have HFtb : Hid (Fr No (w7) w8) := (show Fr No _ _ from hftb)
      have HROWtb : Hid (Row EnK w8 (fun k => (w7).heap.size ≤ k ∧ k < w8.heap.size) (.slice Atb mtb ctb) (s0.l)) := (show Row _ _ _ _ _ from hrowb.bound (by decide))
      have HStb : Hid (RecS vb b5 o5 c6 s0.term s0.vote s0.base s0.bterm s0.snap A5 n5 c5 w8) := (show RecS vb b5 o5 c6 s0.term s0.vote s0.base s0.bterm s0.snap A5 n5 c5 w8 from HSca.out.fr hftb (fun h => h) (fun h => h))
      refine ⟨_, rfl, fun _ => HStb.out, ?_⟩
      simp only [Act.put, List.setIfInBounds_toArray, List.set_cons_zero, List.set_cons_succ]
      clear hrowb hftb hmtb
      repeat (first
        | (refine pl_off (a' := ?_) rfl rfl (by rfl) (fun _ => (HStb).out) ?ha ?_; (case ha => simp only [Act.put, List.setIfInBounds_toArray, List.set_cons_zero, List.set_cons_succ]; rfl))
        | (refine pl_any (v := ?_) (a' := ?_) rfl rfl rfl (by rfl) (fun W => ?hr) ?ha ?_; (case hr => go_simp; first | done | rfl); (case ha => simp only [Act.put, List.setIfInBounds_toArray, List.set_cons_zero, List.set_cons_succ]; rfl))
        | (refine pl_load (v := ?_) (a' := ?_) rfl rfl rfl (by rfl) (fun W hSW => ?hr) (HStb).out ?ha ?_; (case hr => (try dsimp only at hSW); go_simp; first | done | rfl); (case ha => simp only [Act.put, List.setIfInBounds_toArray, List.set_cons_zero, List.set_cons_succ]; rfl)))
      have HF68 : Hid (Fr No w6 w8) := (show Fr No w6 w8 from (show Fr No w6 w6.drew from (Fr.refl No _).drew).then (HFca.out.then HFtb.out))
      have HATX : Hid (StAt w8 (fun k => (O k ∨ R k) ∨ k = bp) O R No bp (.pointer (some ⟨dp, 0, none⟩)) (.slice none 0 0) (.slice none 0 0) ⟨d, Sv.zero, hh, (recS s0).length, m⟩) := (show StAt _ _ _ _ _ _ _ _ _ _ from HAT6.out.no HF68.out)
      obtain ⟨_, r1, r2, r3, r4, r5, r6, _⟩ := st_cells HATX.out.blk
      have z1 := st_free HATX.out.blk 1
      have z2 := st_free HATX.out.blk 2
      have z3 := st_free HATX.out.blk 3
      have z4 := st_free HATX.out.blk 4
      have z5 := st_free HATX.out.blk 5
      have z6 := st_free HATX.out.blk 6
      obtain ⟨w9, hw9⟩ : ∃ w9, Hid (w9 = (((((w8.setCell ⟨bp, 1, none⟩ (.int .i64 s0.term)).setCell ⟨bp, 2, none⟩ (.int .i64 s0.vote)).setCell ⟨bp, 3, none⟩ (.int .i64 s0.base)).setCell ⟨bp, 4, none⟩ (.int .i64 s0.bterm)).setCell ⟨bp, 5, none⟩ (.slice (some ⟨qa, 0, none⟩) nta qca)).setCell ⟨bp, 6, none⟩ (.slice Atb mtb ctb)) := ⟨_, show _ = _ from rfl⟩
      have HFs : Hid (Fr (fun q => q = bp) w8 w9) := (show Fr _ _ _ from by rw [hw9.out]; exact (((((Fr.one _ _).then (Fr.one _ _)).then (Fr.one _ _)).then (Fr.one _ _)).then (Fr.one _ _)).then (Fr.one _ _))
      have HB9 : Hid (w9.heap[bp]? = some (stBlk (.pointer (some ⟨dp, 0, none⟩)) s0 (.slice (some ⟨qa, 0, none⟩) nta qca) (.slice Atb mtb ctb) hh (recS s0).length m)) := (show _ = _ from by rw [hw9.out]; exact st_save HATX.out.blk s0 _ _)
      have HS9 : Hid (RecS vb b5 o5 c6 s0.term s0.vote s0.base s0.bterm s0.snap A5 n5 c5 w9) := (show RecS vb b5 o5 c6 s0.term s0.vote s0.base s0.bterm s0.snap A5 n5 c5 w9 from HStb.out.fr HFs.out (fun h => HBV.out h) (fun h => HB5.out h))
      refine pl_store (w1 := w9) rfl rfl (by rfl) rfl ?hr (fun _ => HS9.out) ?_
      case hr => rw [hw9.out]; go_simp; first | done | rfl | (constructor <;> rfl)
      clear r1 r2 r3 r4 r5 r6 z1 z2 z3 z4 z5 z6
      refine pl_done ?_
      go_wp2_with fail
      go_meet
      case rel =>
        refine Lib.hid (show Mid10 _ _ _ _ _ _ _ _ from ⟨_, _, HB9.out, HF68.out.trans HFs.out (fun _ _ h => h.elim) (fun _ _ h => h), ?_, ?_⟩)
        · exact (HRBca.out.fr (HFtb.out.trans HFs.out (U := fun q => q = bp) (fun _ _ h => h.elim) (fun _ _ h => h)) (fun k _ hk h => by have h' : k = bp := h; have h2 : w6.heap.size ≤ k := hk.1; have := HBW.out; omega)).mono (fun k hk => by have h2 : w6.heap.size ≤ k := hk.1; have h3 : k < w7.heap.size := hk.2; have := HFtb.out.size; have := HFs.out.size; exact ⟨h2, by omega⟩)
        · exact (HROWtb.out.fr (by decide) HFs.out (fun k _ hk h => by have h' : k = bp := h; have h2 : w7.heap.size ≤ k := hk.1; have h4 : w6.heap.size ≤ w7.heap.size := HFca.out.size; have := HBW.out; omega)).mono (fun k hk => by have h2 : w7.heap.size ≤ k := hk.1; have h4 : w6.heap.size ≤ w7.heap.size := HFca.out.size; have h3 := hk.2; have := HFs.out.size; exact ⟨by omega, by omega⟩)
    · refine pl_call rfl rfl (by rfl) rfl Try.func85 rfl rfl [.agg #[.int .i64 3, .int .i64 0, .string ⟨#[]⟩, .slice A5 n5 c5]] rfl ?_
      refine (taken_any (w := w6.drew) (l := s0.l) (HIT6.out) HES.out.1 HES.out.2).mono ?_
      rintro e w7 ⟨vtb, rfl, hrowb, hftb⟩
      obtain ⟨Atb, ctb, rfl, _, _⟩ := hrowb.shape
      obtain ⟨mtb, hmtb⟩ : ∃ m, m = (s0.l).length := ⟨_, rfl⟩
      rw [← hmtb] at hrowb ⊢
      have HFtb : Hid (Fr No (w6.drew) w7) := (show Fr No _ _ from hftb)
      have HROWtb : Hid (Row EnK w7 (fun k => (w6.drew).heap.size ≤ k ∧ k < w7.heap.size) (.slice Atb mtb ctb) (s0.l)) := (show Row _ _ _ _ _ from hrowb.bound (by decide))
      have HStb : Hid (RecS vb b5 o5 c6 s0.term s0.vote s0.base s0.bterm s0.snap A5 n5 c5 w7) := (show RecS vb b5 o5 c6 s0.term s0.vote s0.base s0.bterm s0.snap A5 n5 c5 w7 from HS.out.fr hftb (fun h => h) (fun h => h))
      refine ⟨_, rfl, fun _ => HStb.out, ?_⟩
      simp only [Act.put, List.setIfInBounds_toArray, List.set_cons_zero, List.set_cons_succ]
      clear hrowb hftb hmtb
      repeat (first
        | (refine pl_off (a' := ?_) rfl rfl (by rfl) (fun _ => (HStb).out) ?ha ?_; (case ha => simp only [Act.put, List.setIfInBounds_toArray, List.set_cons_zero, List.set_cons_succ]; rfl))
        | (refine pl_any (v := ?_) (a' := ?_) rfl rfl rfl (by rfl) (fun W => ?hr) ?ha ?_; (case hr => go_simp; first | done | rfl); (case ha => simp only [Act.put, List.setIfInBounds_toArray, List.set_cons_zero, List.set_cons_succ]; rfl))
        | (refine pl_load (v := ?_) (a' := ?_) rfl rfl rfl (by rfl) (fun W hSW => ?hr) (HStb).out ?ha ?_; (case hr => (try dsimp only at hSW); go_simp; first | done | rfl); (case ha => simp only [Act.put, List.setIfInBounds_toArray, List.set_cons_zero, List.set_cons_succ]; rfl)))
      obtain ⟨qa, hqa⟩ : ∃ q, q = w7.heap.size := ⟨_, rfl⟩
      obtain ⟨qca, hqca⟩ : ∃ q, q = grownCap (w7) (s0.snap).length 0 5 := ⟨_, rfl⟩
      obtain ⟨nta, hnta⟩ : ∃ q, q = (s0.snap).length := ⟨_, rfl⟩
      obtain ⟨w8, hwa⟩ : ∃ W, Hid (W = Lib.bytesWorld (w7) 5 ⟨(s0.snap).toArray⟩) := ⟨_, show _ = _ from rfl⟩
      have HFca : Hid (Fr No (w7) w8) := (show Fr No _ _ from by rw [hwa.out]; exact bw_fr _ _ _)
      have HRBca : Hid (Rb w8 (fun k => (w7).heap.size ≤ k ∧ k < w8.heap.size) (.slice (some ⟨qa, 0, none⟩) nta qca) (s0.snap)) := (show Rb _ _ _ _ from by
        have h1 : w8.heap.size = (w7).heap.size + 1 := by rw [hwa.out]; exact Lib.bytesWorld_size _ _ _
        have h2 : Rb w8 (fun k => k = (w7).heap.size) (.slice (some ⟨qa, 0, none⟩) nta qca) (s0.snap) := by rw [hwa.out, hqa, hqca, hnta]; exact bw_rb _ _ HTXL.out
        exact h2.mono (fun k hk => by have h' : k = (w7).heap.size := hk; exact ⟨by omega, by omega⟩))
      have HSca : Hid (RecS vb b5 o5 c6 s0.term s0.vote s0.base s0.bterm s0.snap A5 n5 c5 w8) := (show RecS vb b5 o5 c6 s0.term s0.vote s0.base s0.bterm s0.snap A5 n5 c5 w8 from HStb.out.fr HFca.out (fun h => h) (fun h => h))
      refine pl_value (v := .slice (some ⟨qa, 0, none⟩) nta qca) (w1 := w8) (a' := ?_) rfl rfl (by rfl) ?hr (fun _ => HSca.out) ?ha ?_
      case hr =>
        have h1 := Lib.run_convert_string_bytes (P := Try.prog) (w7) 9 22 5 ⟨(s0.snap).toArray⟩ Try.underlying9 Try.underlying22 Try.underlying5
        rw [← hwa.out, ← hqa, show (⟨(s0.snap).toArray⟩ : ByteArray).size = nta from by rw [hnta]; exact List.size_toArray .., hnta, ← hqca, ← hnta] at h1
        first | exact h1 | (unfold execOp; exact h1) | (unfold execOp; simp [Act.eval, h1])
      case ha => simp only [Act.put, List.setIfInBounds_toArray, List.set_cons_zero, List.set_cons_succ]; rfl
      clear hqa hqca hnta
      repeat (first
        | (refine pl_off (a' := ?_) rfl rfl (by rfl) (fun _ => (HSca).out) ?ha ?_; (case ha => simp only [Act.put, List.setIfInBounds_toArray, List.set_cons_zero, List.set_cons_succ]; rfl))
        | (refine pl_any (v := ?_) (a' := ?_) rfl rfl rfl (by rfl) (fun W => ?hr) ?ha ?_; (case hr => go_simp; first | done | rfl); (case ha => simp only [Act.put, List.setIfInBounds_toArray, List.set_cons_zero, List.set_cons_succ]; rfl))
        | (refine pl_load (v := ?_) (a' := ?_) rfl rfl rfl (by rfl) (fun W hSW => ?hr) (HSca).out ?ha ?_; (case hr => (try dsimp only at hSW); go_simp; first | done | rfl); (case ha => simp only [Act.put, List.setIfInBounds_toArray, List.set_cons_zero, List.set_cons_succ]; rfl)))
      have HF68 : Hid (Fr No w6 w8) := (show Fr No w6 w8 from (show Fr No w6 w6.drew from (Fr.refl No _).drew).then (HFtb.out.then HFca.out))
      have HATX : Hid (StAt w8 (fun k => (O k ∨ R k) ∨ k = bp) O R No bp (.pointer (some ⟨dp, 0, none⟩)) (.slice none 0 0) (.slice none 0 0) ⟨d, Sv.zero, hh, (recS s0).length, m⟩) := (show StAt _ _ _ _ _ _ _ _ _ _ from HAT6.out.no HF68.out)
      obtain ⟨_, r1, r2, r3, r4, r5, r6, _⟩ := st_cells HATX.out.blk
      have z1 := st_free HATX.out.blk 1
      have z2 := st_free HATX.out.blk 2
      have z3 := st_free HATX.out.blk 3
      have z4 := st_free HATX.out.blk 4
      have z5 := st_free HATX.out.blk 5
      have z6 := st_free HATX.out.blk 6
      obtain ⟨w9, hw9⟩ : ∃ w9, Hid (w9 = (((((w8.setCell ⟨bp, 1, none⟩ (.int .i64 s0.term)).setCell ⟨bp, 2, none⟩ (.int .i64 s0.vote)).setCell ⟨bp, 3, none⟩ (.int .i64 s0.base)).setCell ⟨bp, 4, none⟩ (.int .i64 s0.bterm)).setCell ⟨bp, 5, none⟩ (.slice (some ⟨qa, 0, none⟩) nta qca)).setCell ⟨bp, 6, none⟩ (.slice Atb mtb ctb)) := ⟨_, show _ = _ from rfl⟩
      have HFs : Hid (Fr (fun q => q = bp) w8 w9) := (show Fr _ _ _ from by rw [hw9.out]; exact (((((Fr.one _ _).then (Fr.one _ _)).then (Fr.one _ _)).then (Fr.one _ _)).then (Fr.one _ _)).then (Fr.one _ _))
      have HB9 : Hid (w9.heap[bp]? = some (stBlk (.pointer (some ⟨dp, 0, none⟩)) s0 (.slice (some ⟨qa, 0, none⟩) nta qca) (.slice Atb mtb ctb) hh (recS s0).length m)) := (show _ = _ from by rw [hw9.out]; exact st_save HATX.out.blk s0 _ _)
      have HS9 : Hid (RecS vb b5 o5 c6 s0.term s0.vote s0.base s0.bterm s0.snap A5 n5 c5 w9) := (show RecS vb b5 o5 c6 s0.term s0.vote s0.base s0.bterm s0.snap A5 n5 c5 w9 from HSca.out.fr HFs.out (fun h => HBV.out h) (fun h => HB5.out h))
      refine pl_store (w1 := w9) rfl rfl (by rfl) rfl ?hr (fun _ => HS9.out) ?_
      case hr => rw [hw9.out]; go_simp; first | done | rfl | (constructor <;> rfl)
      clear r1 r2 r3 r4 r5 r6 z1 z2 z3 z4 z5 z6
      refine pl_done ?_
      go_wp2_with fail
      go_meet
      case rel =>
        refine Lib.hid (show Mid10 _ _ _ _ _ _ _ _ from ⟨_, _, HB9.out, HF68.out.trans HFs.out (fun _ _ h => h.elim) (fun _ _ h => h), ?_, ?_⟩)
        · exact (HRBca.out.fr HFs.out (fun k _ hk h => by have h' : k = bp := h; have h2 : w7.heap.size ≤ k := hk.1; have h4 : w6.heap.size ≤ w7.heap.size := HFtb.out.size; have := HBW.out; omega)).mono (fun k hk => by have h2 : w7.heap.size ≤ k := hk.1; have h4 : w6.heap.size ≤ w7.heap.size := HFtb.out.size; have h3 := hk.2; have := HFs.out.size; exact ⟨by omega, by omega⟩)
        · exact (HROWtb.out.fr (by decide) (HFca.out.trans HFs.out (U := fun q => q = bp) (fun _ _ h => h.elim) (fun _ _ h => h)) (fun k _ hk h => by have h' : k = bp := h; have h2 : w6.heap.size ≤ k := hk.1; have := HBW.out; omega)).mono (fun k hk => by have h2 : w6.heap.size ≤ k := hk.1; have h3 : k < w7.heap.size := hk.2; have := HFca.out.size; have := HFs.out.size; exact ⟨h2, by omega⟩)
  case rest =>
    obtain ⟨vt0, ve0, hblk0, hfr0, hrb0, hrow0⟩ := hcut.out
    have HL0 : Hid (LoopRel w O R bp (.pointer (some ⟨dp, 0, none⟩)) d hh n m s0 cs s wc) := (show LoopRel _ _ _ _ _ _ _ _ _ _ _ _ _ from by
      have hsep := HAT6.out.sep
      have hlt6 := HAT6.out.lt
      have hz1 := HF2.out.size
      have hz3 := HF3.out.size
      have hz4 := HF4.out.size
      have hz5 := HF5.out.size
      have hz6 := HF6.out.size
      have hbz := HBP.out
      have hz0 := HF1.out.size
      have hbw : w.heap.size ≤ bp := by omega
      have hw6 : w.heap.size ≤ w6.heap.size := by omega
      refine ⟨s0, cs, recS s0, fun k => ((O k ∨ R k) ∨ k = bp) ∨ (w6.heap.size ≤ k ∧ k < wc.heap.size), fun k => w6.heap.size ≤ k ∧ k < wc.heap.size, vt0, ve0, ⟨hblk0, HAT6.out.disk.fr hfr0 (fun k _ hk e => by have h' : k = bp := e; rw [h'] at hk; rcases hk with hk | hk; exact hsep.1 hk; exact hsep.2.1 hk), hrb0, hrow0, ⟨HI.out.1, HI.out.2.1, HI.out.2.2.1, HI.out.2.2.2.1⟩, .inl (.inr rfl), ⟨hsep.1, hsep.2.1, fun h => by have := hlt6 bp (.inr rfl); have := h.1; omega⟩, fun k hk => .inl (.inl hk), fun k hk => ⟨.inr hk, fun ho => by have := hlt6 k (.inl (.inl ho)); have := hk.1; omega⟩, fun k hk => ?_⟩, fun k hk => ?_, ?_, HH.out.goes, HH.out.ok, rfl⟩
      · rcases hk with hk | hk
        · have := hlt6 k hk; have := hfr0.size; omega
        · exact hk.2
      · rcases hk with (hk | hk) | hk
        · exact .inl hk
        · exact .inr (by omega)
        · exact .inr (by have := hk.1; omega)
      · exact ((((HF2.out.then HF3.out).trans HF4.out (U := fun q => q = bp) (fun _ _ h => h.elim) (fun _ _ h => h)).then HF5.out).trans (HF6.out.trans hfr0 (U := fun q => q = bp) (fun _ _ h => h.elim) (fun _ _ h => h)) (U := fun q => q = bp) (fun _ _ h => h) (fun _ _ h => h)).trans (Fr.refl No _) (fun q hq h => by have h' : q = bp := h; omega) (fun _ _ h => h.elim))
    clear hblk0 hfr0 hrb0 hrow0
    go_wp2_with fail
    go_loopw [] (fun wr => Hid (LoopRel w O R bp (.pointer (some ⟨dp, 0, none⟩)) d hh n m s0 cs s wr)) (fun wr => meas bp n wr)
    case atStart => exact HL0
    case round =>
      obtain ⟨s1, cs1, p, X, G, vt1, ve1, hst, hX, hfr, hgo, hok1, hlog⟩ := hrel.out
      obtain ⟨As1, cq1, rfl, _, _⟩ := hst.snap.shape
      obtain ⟨Al1, cl1, rfl, _, _⟩ := hst.ents.shape
      simp only at hst
      obtain ⟨ns1, hns1⟩ : ∃ k, k = s1.snap.length := ⟨_, rfl⟩
      obtain ⟨nl1, hnl1⟩ : ∃ k, k = s1.l.length := ⟨_, rfl⟩
      rw [← hns1, ← hnl1] at hst
      obtain ⟨aa, haa⟩ : ∃ k, k = p.length := ⟨_, rfl⟩
      have HAA := Lib.hid haa
      have htot := HH.out.total.1
      rw [hlog, List.length_append, ← haa] at htot
      have c8 := (st_cells hst.blk).2.2.2.2.2.2.2.2.1
      simp only at c8
      rw [← haa] at c8
      have HST := Lib.hid hst
      have HX := Lib.hid hX
      have HFR := Lib.hid hfr
      have HOK1 := Lib.hid hok1
      have HLOG := Lib.hid hlog
      have HME : Hid (meas bp n wr = n - aa) := (show _ = _ from by unfold meas; rw [c8]; show ((n : Int) - (aa : Int)).toNat = n - aa; omega)
      cases cs1 with
      | nil =>
        have hgo' : s1 = s := hgo
        subst hgo'
        have han : aa = n := by simpa [logC] using htot
        have hga : decide (aa < n) = false := by simp; omega
        have HAN := Lib.hid han
        clear hst hX hfr hgo hok1 hlog haa htot hns1 hnl1 han
        go_wp2_with fail
        go_ret2
        refine (show FmtPost _ _ _ _ _ _ from ⟨_, rfl, ⟨bp, rfl⟩, X, ⟨bp, O, R, G, .slice As1 ns1 cq1, .slice Al1 nl1 cl1, rfl, ?_⟩, HX.out, HFR.out⟩)
        have h := HST.out
        rw [← HAA.out, HAN.out] at h
        exact h
      | cons c r =>
        obtain ⟨hcf, hcb, hcl, s2, hnx, hok2, hgo2⟩ := hgo
        have hrl : 0 < (recC c).length := by unfold recC; rw [sealB_len]; omega
        have hlt : aa < n := by rw [logC_cons, List.length_append] at htot; omega
        have hga : decide (aa < n) = true := by simp; omega
        have HLC : Hid (aa + (recC c).length ≤ n ∧ 0 < (recC c).length) := (show _ ∧ _ from by rw [logC_cons, List.length_append] at htot; omega)
        have HREAD : Hid (readB d.now ((16 + hh * d.half + p.length : Nat) : Int) ((n : Int) - (p.length : Int)) = recC c ++ logC r) := (show _ = _ from HH.out.read (p := p) (r := recC c ++ logC r) (by rw [hlog, logC_cons]) (by rw [List.length_append]; omega))
        have HCF := Lib.hid hcf
        have HCB := Lib.hid hcb
        have HCL := Lib.hid hcl
        have HNX := Lib.hid hnx
        have HOK2 := Lib.hid hok2
        have HGO2 := Lib.hid hgo2
        clear hX hfr hok1 hlog haa htot hns1 hnl1 hcf hcb hcl hnx hok2 hgo2 hrl hst
        go_wp2_with fail
        refine (record_any (w := wr) (x := ⟨d, s1, hh, p.length, m⟩) (tl := n) (a := c.kind) (b := c.term) (c := c.vote) (d := c.at_) (tx := c.b) (es := c.l) (q := logC r) HST.out (by show 16 ≤ d.now.length; have := HN.out; omega) HH.out.h1 (by show p.length ≤ n; have := HAA.out; omega) HH.out.n1 HREAD.out HCF.out HCB.out).mono ?_
        rintro e w5r ⟨vv, rfl, hiv, hst5, hf5⟩
        obtain ⟨cs0, rfl, hir⟩ := hiv
        unfold itRec itList at hir
        obtain ⟨vx, rfl, hrow, _⟩ := itR_row hir
        obtain ⟨A6, c6, hvx, _, _⟩ := hrow.shape
        have hvx' : vx = .slice A6 6 c6 := hvx
        clear hvx
        subst hvx'
        obtain ⟨b5, o5, A5, n5, c5, rfl, hF5, hc61, hc62, k1, k2, k3, k4, k5, k6, k7, k8, k9, hit5, i1, i2, i3, i4, htx⟩ := rec_cells hrow
        have hstr : str [] = .string ⟨#[]⟩ := rfl
        rw [hstr]
        have HST5 : Hid (StAt w5r X O R G bp (.pointer (some ⟨dp, 0, none⟩)) (.slice As1 ns1 cq1) (.slice Al1 nl1 cl1) ⟨d, s1, hh, p.length + (recC c).length, m⟩) := (show StAt _ _ _ _ _ _ _ _ _ _ from hst5)
        have HFr5 : Hid (Fr (fun q => q = bp) wr w5r) := (show Fr _ _ _ from hf5)
        have HCI : Hid (I64 c.kind ∧ I64 c.term ∧ I64 c.vote ∧ I64 c.at_) := (show _ ∧ _ from ⟨i1, i2, i3, i4⟩)
        have HTXC : Hid (c.b.length ≤ maxLen) := (show _ ≤ _ from htx)
        have HESC : Hid (c.l.length ≤ 1048576 ∧ ∀ x ∈ c.l, I64 x.1 ∧ x.2.length ≤ maxLen) := (show _ ∧ _ from ⟨HCL.out.1, fun y hy => ⟨fit_ens HCF.out y hy, bulk_ens HCB.out y hy⟩⟩)
        have HNBr : Hid (wr.heap.size ≤ b5 ∧ b5 < w5r.heap.size ∧ bp < w5r.heap.size) := (show _ ∧ _ ∧ _ from ⟨hF5, World.block_lt_of_cell? _ _ k1, hst5.lt bp hst5.top⟩)
        obtain ⟨vb, hvb⟩ : ∃ b, b = w5r.heap.size := ⟨_, rfl⟩
        have HVBr := Lib.hid hvb
        obtain ⟨wa, hwa0⟩ : ∃ W, Hid (W = w5r.alloc (.cells #[.int .i64 3, .int .i64 0, .string ⟨#[]⟩, .slice (some ⟨b5, o5, none⟩) 6 c6] 48 (0, 0))) := ⟨_, show _ = _ from rfl⟩
        have hf6 : Fr No w5r wa := by rw [hwa0.out]; exact (Fr.refl _ _).alloc _
        have hv6 : VIs wa vb 3 0 [] (.slice (some ⟨b5, o5, none⟩) 6 c6) := by rw [hwa0.out, hvb]; exact blk_new _ _
        have hf6d : Fr No w5r wa.drew := hf6.drew
        have HSTa : Hid (StAt wa X O R G bp (.pointer (some ⟨dp, 0, none⟩)) (.slice As1 ns1 cq1) (.slice Al1 nl1 cl1) ⟨d, s1, hh, p.length + (recC c).length, m⟩) := (show StAt _ _ _ _ _ _ _ _ _ _ from hst5.no hf6)
        obtain ⟨_, g1, g2, g3, g4, g5, g6, _⟩ := st_cells HSTa.out.blk
        have HS : Hid (O15 bp s1 (.slice As1 ns1 cq1) (.slice Al1 nl1 cl1) vb b5 o5 c6 c.kind c.term c.vote c.at_ c.b A5 n5 c5 wa.drew) := (show O15 _ _ _ _ _ _ _ _ _ _ _ _ _ _ _ _ _ from ⟨(v_cells hv6).2.2.2, hf6.cell k1 (fun h => h), hf6.cell k2 (fun h => h), hf6.cell k3 (fun h => h), hf6.cell k4 (fun h => h), hf6.cell k5 (fun h => h), hf6.cell k6 (fun h => h), hf6.cell k7 (fun h => h), hf6.cell k8 (fun h => h), hf6.cell k9 (fun h => h), g1, g2, g3, g4, g5, g6⟩)
        have HITC : Hid (ItV wa.drew (New wr) (.agg #[.int .i64 3, .int .i64 0, .string ⟨#[]⟩, .slice A5 n5 c5]) (itEns c.l)) := (show ItV _ _ _ _ from hit5.fr hf6d (fun _ _ _ h => h))
        have HKV : Hid (KV SvK wa.drew G (.agg #[.int .i64 s1.term, .int .i64 s1.vote, .int .i64 s1.base, .int .i64 s1.bterm, .slice As1 ns1 cq1, .slice Al1 nl1 cl1]) s1) := (show KV _ _ _ _ _ from (hst5.no hf6d).kv)
        have HLTS : Hid (vb < wa.heap.size ∧ b5 < wa.heap.size ∧ bp < wa.heap.size) := (show _ ∧ _ ∧ _ from ⟨heap_lt hv6, by have := HNBr.out; have := hf6.size; omega, HSTa.out.lt bp HSTa.out.top⟩)
        have HF6a := Lib.hid hf6
        clear hir hrow hst5 hf5 hF5 hc61 hc62 k1 k2 k3 k4 k5 k6 k7 k8 k9 hit5 i1 i2 i3 i4 htx hstr hvb hf6 hf6d hv6 g1 g2 g3 g4 g5 g6 hga c8
        go_upto_region 15 with fail
        rw [← hwa0.out, ← HVBr.out]
        go_cut [11, 12] from 112 to 165 (fun s11 s12 wx => ∃ (nb : Nat) (t2 o2 b2 e2 : Int) (As2 : Option Addr) (ns2 cs2 : Nat) (Al2 : Option Addr) (nl2 cl2 : Nat), s11 = .pointer (some ⟨nb, 0, none⟩) ∧ s12 = .int .i64 0 ∧ Hid (DoMid wa (some s2) nb t2 o2 b2 e2 (.slice As2 ns2 cs2) (.slice Al2 nl2 cl2) wx))
        case first =>
          refine wp_pl_region (fun W => W.cell? ⟨vb, 3, none⟩ = some (.slice (some ⟨b5, o5, none⟩) 6 c6) ∧ W.cell? ⟨b5, o5 + 1, none⟩ = some (.int .i64 c.kind) ∧ W.cell? ⟨b5, o5 + 5, none⟩ = some (.int .i64 c.term) ∧ W.cell? ⟨b5, o5 + 9, none⟩ = some (.int .i64 c.vote) ∧ W.cell? ⟨b5, o5 + 13, none⟩ = some (.int .i64 c.at_) ∧ W.cell? ⟨b5, o5 + 18, none⟩ = some (.string ⟨(c.b).toArray⟩) ∧ W.cell? ⟨b5, o5 + 20, none⟩ = some (.int .i64 3) ∧ W.cell? ⟨b5, o5 + 21, none⟩ = some (.int .i64 0) ∧ W.cell? ⟨b5, o5 + 22, none⟩ = some (.string ⟨#[]⟩) ∧ W.cell? ⟨b5, o5 + 23, none⟩ = some (.slice A5 n5 c5) ∧ W.cell? ⟨bp, 1, none⟩ = some (.int .i64 s1.term) ∧ W.cell? ⟨bp, 2, none⟩ = some (.int .i64 s1.vote) ∧ W.cell? ⟨bp, 3, none⟩ = some (.int .i64 s1.base) ∧ W.cell? ⟨bp, 4, none⟩ = some (.int .i64 s1.bterm) ∧ W.cell? ⟨bp, 5, none⟩ = some (.slice As1 ns1 cq1) ∧ W.cell? ⟨bp, 6, none⟩ = some (.slice Al1 nl1 cl1)) [29, 34, 36, 40, 41] [3, 5, 8, 10, 13, 15, 18, 20, 23, 25, 28, 31, 33] [] (.op 0 (.op 1 (.op 2 (.op 3 (.op 4 (.op 5 (.op 6 (.op 7 (.op 8 (.op 9 (.op 10 (.op 11 (.op 12 (.op 13 (.op 14 (.op 15 (.op 16 (.op 17 (.op 18 (.op 19 (.op 20 (.op 21 (.op 22 (.op 23 (.op 24 (.op 25 (.op 26 (.op 27 (.op 28 (.op 30 (.op 31 (.op 32 (.op 33 (.alt 29 (.alt 34 (.op 35 (.alt 36 (.op 37 (.op 38 (.op 39 (.op 40 (.op 41 (.op 42 (.nil))))))) (.alt 40 (.op 36 (.op 37 (.op 38 (.op 39 (.op 41 (.op 42 (.nil))))))) (.nil)))) (.alt 40 (.op 34 (.op 35 (.op 36 (.op 37 (.op 38 (.op 39 (.op 41 (.op 42 (.nil))))))))) (.nil))) (.alt 34 (.alt 29 (.op 35 (.alt 36 (.op 37 (.op 38 (.op 39 (.op 40 (.op 41 (.op 42 (.nil))))))) (.alt 40 (.op 36 (.op 37 (.op 38 (.op 39 (.op 41 (.op 42 (.nil))))))) (.nil)))) (.alt 40 (.op 29 (.op 35 (.op 36 (.op 37 (.op 38 (.op 39 (.op 41 (.op 42 (.nil))))))))) (.nil))) (.alt 40 (.alt 29 (.op 34 (.op 35 (.op 36 (.op 37 (.op 38 (.op 39 (.op 41 (.op 42 (.nil))))))))) (.alt 34 (.op 29 (.op 35 (.op 36 (.op 37 (.op 38 (.op 39 (.op 41 (.op 42 (.nil))))))))) (.nil))) (.nil))))))))))))))))))))))))))))))))))))) (by kernel_rfl) (by kernel_rfl) (by kernel_rfl) (fun _ _ _ _ _ h => h) ?_
          repeat (first
            | (refine pl_off (a' := ?_) rfl rfl (by rfl) (fun _ => (HS).out) ?ha ?_; (case ha => simp only [Act.put, List.setIfInBounds_toArray, List.set_cons_zero, List.set_cons_succ]; rfl))
            | (refine pl_any (v := ?_) (a' := ?_) rfl rfl rfl (by rfl) (fun W => ?hr) ?ha ?_; (case hr => go_simp; first | done | rfl); (case ha => simp only [Act.put, List.setIfInBounds_toArray, List.set_cons_zero, List.set_cons_succ]; rfl))
            | (refine pl_load (v := ?_) (a' := ?_) rfl rfl rfl (by rfl) (fun W hSW => ?hr) (HS).out ?ha ?_; (case hr => (try dsimp only at hSW); go_simp; first | done | rfl); (case ha => simp only [Act.put, List.setIfInBounds_toArray, List.set_cons_zero, List.set_cons_succ]; rfl)))
          refine pl_alt rfl ?_ (pl_alt rfl ?_ (pl_alt rfl ?_ (pl_end)))
          · obtain ⟨qc, hqc⟩ : ∃ q, q = wa.drew.heap.size := ⟨_, rfl⟩
            obtain ⟨qcc, hqcc⟩ : ∃ q, q = grownCap (wa.drew) (c.b).length 0 5 := ⟨_, rfl⟩
            obtain ⟨ntc, hntc⟩ : ∃ q, q = (c.b).length := ⟨_, rfl⟩
            obtain ⟨y1, hwc⟩ : ∃ W, Hid (W = Lib.bytesWorld (wa.drew) 5 ⟨(c.b).toArray⟩) := ⟨_, show _ = _ from rfl⟩
            have HFcc : Hid (Fr No (wa.drew) y1) := (show Fr No _ _ from by rw [hwc.out]; exact bw_fr _ _ _)
            have HRBcc : Hid (Rb y1 (fun k => (wa.drew).heap.size ≤ k ∧ k < y1.heap.size) (.slice (some ⟨qc, 0, none⟩) ntc qcc) (c.b)) := (show Rb _ _ _ _ from by
              have h1 : y1.heap.size = (wa.drew).heap.size + 1 := by rw [hwc.out]; exact Lib.bytesWorld_size _ _ _
              have h2 : Rb y1 (fun k => k = (wa.drew).heap.size) (.slice (some ⟨qc, 0, none⟩) ntc qcc) (c.b) := by rw [hwc.out, hqc, hqcc, hntc]; exact bw_rb _ _ HTXC.out
              exact h2.mono (fun k hk => by have h' : k = (wa.drew).heap.size := hk; exact ⟨by omega, by omega⟩))
            have HScc : Hid (O15 bp s1 (.slice As1 ns1 cq1) (.slice Al1 nl1 cl1) vb b5 o5 c6 c.kind c.term c.vote c.at_ c.b A5 n5 c5 y1) := (show O15 bp s1 (.slice As1 ns1 cq1) (.slice Al1 nl1 cl1) vb b5 o5 c6 c.kind c.term c.vote c.at_ c.b A5 n5 c5 y1 from HS.out.fr HFcc.out (fun h => h) (fun h => h) (fun h => h))
            refine pl_value (v := .slice (some ⟨qc, 0, none⟩) ntc qcc) (w1 := y1) (a' := ?_) rfl rfl (by rfl) ?hr (fun _ => HScc.out) ?ha ?_
            case hr =>
              have h1 := Lib.run_convert_string_bytes (P := Try.prog) (wa.drew) 9 22 5 ⟨(c.b).toArray⟩ Try.underlying9 Try.underlying22 Try.underlying5
              rw [← hwc.out, ← hqc, show (⟨(c.b).toArray⟩ : ByteArray).size = ntc from by rw [hntc]; exact List.size_toArray .., hntc, ← hqcc, ← hntc] at h1
              first | exact h1 | (unfold execOp; exact h1) | (unfold execOp; simp [Act.eval, h1])
            case ha => simp only [Act.put, List.setIfInBounds_toArray, List.set_cons_zero, List.set_cons_succ]; rfl
            clear hqc hqcc hntc
            repeat (first
              | (refine pl_off (a' := ?_) rfl rfl (by rfl) (fun _ => (HScc).out) ?ha ?_; (case ha => simp only [Act.put, List.setIfInBounds_toArray, List.set_cons_zero, List.set_cons_succ]; rfl))
              | (refine pl_any (v := ?_) (a' := ?_) rfl rfl rfl (by rfl) (fun W => ?hr) ?ha ?_; (case hr => go_simp; first | done | rfl); (case ha => simp only [Act.put, List.setIfInBounds_toArray, List.set_cons_zero, List.set_cons_succ]; rfl))
              | (refine pl_load (v := ?_) (a' := ?_) rfl rfl rfl (by rfl) (fun W hSW => ?hr) (HScc).out ?ha ?_; (case hr => (try dsimp only at hSW); go_simp; first | done | rfl); (case ha => simp only [Act.put, List.setIfInBounds_toArray, List.set_cons_zero, List.set_cons_succ]; rfl)))
            refine pl_alt rfl ?_ (pl_alt rfl ?_ (pl_end))
            · refine pl_call rfl rfl (by rfl) rfl Try.func85 rfl rfl [.agg #[.int .i64 3, .int .i64 0, .string ⟨#[]⟩, .slice A5 n5 c5]] rfl ?_
              refine (taken_any (w := y1) (l := c.l) (HITC.out.fr (HFcc.out) (fun _ _ _ h => h)) HESC.out.1 HESC.out.2).mono ?_
              rintro e y2 ⟨vtt, rfl, hrowt, hftt⟩
              obtain ⟨Att, ctt, rfl, _, _⟩ := hrowt.shape
              obtain ⟨mtt, hmtt⟩ : ∃ m, m = (c.l).length := ⟨_, rfl⟩
              rw [← hmtt] at hrowt ⊢
              have HFtt : Hid (Fr No (y1) y2) := (show Fr No _ _ from hftt)
              have HROWtt : Hid (Row EnK y2 (fun k => (y1).heap.size ≤ k ∧ k < y2.heap.size) (.slice Att mtt ctt) (c.l)) := (show Row _ _ _ _ _ from hrowt.bound (by decide))
              have HStt : Hid (O15 bp s1 (.slice As1 ns1 cq1) (.slice Al1 nl1 cl1) vb b5 o5 c6 c.kind c.term c.vote c.at_ c.b A5 n5 c5 y2) := (show O15 bp s1 (.slice As1 ns1 cq1) (.slice Al1 nl1 cl1) vb b5 o5 c6 c.kind c.term c.vote c.at_ c.b A5 n5 c5 y2 from HScc.out.fr hftt (fun h => h) (fun h => h) (fun h => h))
              refine ⟨_, rfl, fun _ => HStt.out, ?_⟩
              simp only [Act.put, List.setIfInBounds_toArray, List.set_cons_zero, List.set_cons_succ]
              clear hrowt hftt hmtt
              repeat (first
                | (refine pl_off (a' := ?_) rfl rfl (by rfl) (fun _ => (HStt).out) ?ha ?_; (case ha => simp only [Act.put, List.setIfInBounds_toArray, List.set_cons_zero, List.set_cons_succ]; rfl))
                | (refine pl_any (v := ?_) (a' := ?_) rfl rfl rfl (by rfl) (fun W => ?hr) ?ha ?_; (case hr => go_simp; first | done | rfl); (case ha => simp only [Act.put, List.setIfInBounds_toArray, List.set_cons_zero, List.set_cons_succ]; rfl))
                | (refine pl_load (v := ?_) (a' := ?_) rfl rfl rfl (by rfl) (fun W hSW => ?hr) (HStt).out ?ha ?_; (case hr => (try dsimp only at hSW); go_simp; first | done | rfl); (case ha => simp only [Act.put, List.setIfInBounds_toArray, List.set_cons_zero, List.set_cons_succ]; rfl)))
              refine pl_alt rfl ?_ (pl_alt rfl ?_ (pl_end))
              · refine pl_call rfl rfl (by rfl) rfl Try.func60 rfl rfl [.agg #[.int .i64 s1.term, .int .i64 s1.vote, .int .i64 s1.base, .int .i64 s1.bterm, .slice As1 ns1 cq1, .slice Al1 nl1 cl1], .agg #[.int .i64 c.kind, .int .i64 c.term, .int .i64 c.vote, .int .i64 c.at_, .slice Att mtt ctt, .slice (some ⟨qc, 0, none⟩) ntc qcc]] rfl ?_
                have hnx := snext_any (w := y2) (s := s1) (c := c) (F' := fun _ => True) (HKV.out.fr ((HFcc.out).then HFtt.out) (fun _ _ _ h => h)) ⟨_, rfl, ⟨_, _, rfl, (HROWtt.out.fr (by decide) (Fr.refl No _) (fun _ _ _ h => h)).mono (fun _ _ => trivial), (HRBcc.out.fr (HFtt.out) (fun _ _ _ h => h)).mono (fun _ _ => trivial), HCI.out.1, HCI.out.2.1, HCI.out.2.2.1, HCI.out.2.2.2⟩⟩ HOK1.out HCL.out
                rw [HNX.out] at hnx
                refine hnx.mono ?_
                clear hnx
                rintro e y3 ⟨v2, rfl, hkv2, hf2⟩
                obtain ⟨t2, o2, b2, e2, As2, ns2, cs2, Al2, nl2, cl2, rfl⟩ := hkv2.sh
                have HKVn := Lib.hid hkv2.bound
                have HFn : Hid (Fr No (y2) y3) := (show Fr No _ _ from hf2)
                have HSn : Hid (O15 bp s1 (.slice As1 ns1 cq1) (.slice Al1 nl1 cl1) vb b5 o5 c6 c.kind c.term c.vote c.at_ c.b A5 n5 c5 y3) := (show O15 bp s1 (.slice As1 ns1 cq1) (.slice Al1 nl1 cl1) vb b5 o5 c6 c.kind c.term c.vote c.at_ c.b A5 n5 c5 y3 from HStt.out.fr hf2 (fun h => h) (fun h => h) (fun h => h))
                refine ⟨_, rfl, fun _ => HSn.out, ?_⟩
                simp only [Act.put, List.setIfInBounds_toArray, List.set_cons_zero, List.set_cons_succ, Option.isSome_some, if_true]
                clear hkv2 hf2
                repeat (first
                  | (refine pl_off (a' := ?_) rfl rfl (by rfl) (fun _ => (HSn).out) ?ha ?_; (case ha => simp only [Act.put, List.setIfInBounds_toArray, List.set_cons_zero, List.set_cons_succ]; rfl))
                  | (refine pl_any (v := ?_) (a' := ?_) rfl rfl rfl (by rfl) (fun W => ?hr) ?ha ?_; (case hr => go_simp; first | done | rfl); (case ha => simp only [Act.put, List.setIfInBounds_toArray, List.set_cons_zero, List.set_cons_succ]; rfl))
                  | (refine pl_load (v := ?_) (a' := ?_) rfl rfl rfl (by rfl) (fun W hSW => ?hr) (HSn).out ?ha ?_; (case hr => (try dsimp only at hSW); go_simp; first | done | rfl); (case ha => simp only [Act.put, List.setIfInBounds_toArray, List.set_cons_zero, List.set_cons_succ]; rfl)))
                obtain ⟨nb, hnb⟩ : ∃ b, b = (y3).heap.size := ⟨_, rfl⟩
                have HNBB := Lib.hid hnb
                obtain ⟨y4, hwa⟩ : ∃ W, Hid (W = (y3).alloc (.cells #[.int .i64 0, .int .i64 0, .int .i64 0, .int .i64 0, .slice none 0 0, .slice none 0 0] 68 (0, 0))) := ⟨_, show _ = _ from rfl⟩
                have hs3 : SIs y4 nb 0 0 0 0 (.slice none 0 0) (.slice none 0 0) := by rw [hwa.out, hnb]; exact blk_new _ _
                have HFa : Hid (Fr No (y3) y4) := (show Fr No _ _ from by rw [hwa.out]; exact (Fr.refl No _).alloc _)
                have HSa : Hid (O15 bp s1 (.slice As1 ns1 cq1) (.slice Al1 nl1 cl1) vb b5 o5 c6 c.kind c.term c.vote c.at_ c.b A5 n5 c5 y4) := (show O15 bp s1 (.slice As1 ns1 cq1) (.slice Al1 nl1 cl1) vb b5 o5 c6 c.kind c.term c.vote c.at_ c.b A5 n5 c5 y4 from HSn.out.fr HFa.out (fun h => h) (fun h => h) (fun h => h))
                have HSIa := Lib.hid hs3
                refine pl_value (v := .pointer (some ⟨nb, 0, none⟩)) (w1 := y4) (a' := ?_) rfl rfl (by rfl) ?hr (fun _ => HSa.out) ?ha ?_
                case hr => rw [hnb, hwa.out]; go_simp; first | done | rfl
                case ha => simp only [Act.put, List.setIfInBounds_toArray, List.set_cons_zero, List.set_cons_succ]; rfl
                clear hs3 hnb
                repeat (first
                  | (refine pl_off (a' := ?_) rfl rfl (by rfl) (fun _ => (HSa).out) ?ha ?_; (case ha => simp only [Act.put, List.setIfInBounds_toArray, List.set_cons_zero, List.set_cons_succ]; rfl))
                  | (refine pl_any (v := ?_) (a' := ?_) rfl rfl rfl (by rfl) (fun W => ?hr) ?ha ?_; (case hr => go_simp; first | done | rfl); (case ha => simp only [Act.put, List.setIfInBounds_toArray, List.set_cons_zero, List.set_cons_succ]; rfl))
                  | (refine pl_load (v := ?_) (a' := ?_) rfl rfl rfl (by rfl) (fun W hSW => ?hr) (HSa).out ?ha ?_; (case hr => (try dsimp only at hSW); go_simp; first | done | rfl); (case ha => simp only [Act.put, List.setIfInBounds_toArray, List.set_cons_zero, List.set_cons_succ]; rfl)))
                have HSIx : Hid (SIs y4 nb 0 0 0 0 (.slice none 0 0) (.slice none 0 0)) := (show SIs _ _ _ _ _ _ _ _ from (Fr.refl No _).heap HSIa.out (fun h => h))
                have hz0 : (wa.drew).heap.size ≤ (y1).heap.size := HFcc.out.size
                have hz1 : (y1).heap.size ≤ (y2).heap.size := HFtt.out.size
                have hz2 : (y2).heap.size ≤ (y3).heap.size := HFn.out.size
                have hz3 : (y3).heap.size ≤ (y4).heap.size := HFa.out.size
                have hnbb := HNBB.out
                have hwd : wa.drew.heap.size = wa.heap.size := rfl
                have HNB1 : Hid (wa.heap.size ≤ nb) := (show _ ≤ _ from by omega)
                obtain ⟨r0, r1, r2, r3, r4, r5⟩ := s_cells HSIx.out
                have z0 := s_free HSIx.out 0
                have z1 := s_free HSIx.out 1
                have z2 := s_free HSIx.out 2
                have z3 := s_free HSIx.out 3
                have z4 := s_free HSIx.out 4
                have z5 := s_free HSIx.out 5
                obtain ⟨y5, hws⟩ : ∃ W, Hid (W = back6 y4 nb t2 o2 b2 e2 (.slice As2 ns2 cs2) (.slice Al2 nl2 cl2)) := ⟨_, show _ = _ from rfl⟩
                have HSIy : Hid (SIs y5 nb t2 o2 b2 e2 (.slice As2 ns2 cs2) (.slice Al2 nl2 cl2)) := (show SIs _ _ _ _ _ _ _ _ from by rw [hws.out]; exact back6_s HSIx.out)
                have HFs : Hid (Fr (fun q => q = nb) y4 y5) := (show Fr _ _ _ from by rw [hws.out]; exact back6_fr _ _ _ _ _ _ _ _)
                have HSs : Hid (O15 bp s1 (.slice As1 ns1 cq1) (.slice Al1 nl1 cl1) vb b5 o5 c6 c.kind c.term c.vote c.at_ c.b A5 n5 c5 y5) := (show O15 bp s1 (.slice As1 ns1 cq1) (.slice Al1 nl1 cl1) vb b5 o5 c6 c.kind c.term c.vote c.at_ c.b A5 n5 c5 y5 from HSa.out.fr HFs.out (fun h => by have h' : vb = nb := h; have := HNB1.out; have := HLTS.out; omega) (fun h => by have h' : b5 = nb := h; have := HNB1.out; have := HLTS.out; omega) (fun h => by have h' : bp = nb := h; have := HNB1.out; have := HLTS.out; omega))
                unfold back6 at hws
                clear hnbb hwd hz0 hz1 hz2 hz3
                refine pl_store (w1 := y5) rfl rfl (by rfl) rfl ?hr (fun _ => HSs.out) ?_
                case hr => rw [hws.out]; go_simp; first | done | rfl | (constructor <;> rfl)
                clear r0 r1 r2 r3 r4 r5 z0 z1 z2 z3 z4 z5
                repeat (first
                  | (refine pl_off (a' := ?_) rfl rfl (by rfl) (fun _ => (HSs).out) ?ha ?_; (case ha => simp only [Act.put, List.setIfInBounds_toArray, List.set_cons_zero, List.set_cons_succ]; rfl))
                  | (refine pl_any (v := ?_) (a' := ?_) rfl rfl rfl (by rfl) (fun W => ?hr) ?ha ?_; (case hr => go_simp; first | done | rfl); (case ha => simp only [Act.put, List.setIfInBounds_toArray, List.set_cons_zero, List.set_cons_succ]; rfl))
                  | (refine pl_load (v := ?_) (a' := ?_) rfl rfl rfl (by rfl) (fun W hSW => ?hr) (HSs).out ?ha ?_; (case hr => (try dsimp only at hSW); go_simp; first | done | rfl); (case ha => simp only [Act.put, List.setIfInBounds_toArray, List.set_cons_zero, List.set_cons_succ]; rfl)))
                refine pl_done ?_
                go_wp2_with fail
                go_meet
                case rel =>
                  have hz0 : (wa.drew).heap.size ≤ (y1).heap.size := HFcc.out.size
                  have hz1 : (y1).heap.size ≤ (y2).heap.size := HFtt.out.size
                  have hz2 : (y2).heap.size ≤ (y3).heap.size := HFn.out.size
                  have hz3 : (y3).heap.size ≤ (y4).heap.size := HFa.out.size
                  have hnbb := HNBB.out
                  have hwd : wa.drew.heap.size = wa.heap.size := rfl
                  have hss := HFs.out.size
                  have hnlt := heap_lt HSIa.out
                  have hwn : Fr No wa y4 := (show Fr No wa wa.drew from (Fr.refl No _).drew).then ((((HFcc.out).then HFtt.out).then HFn.out).then HFa.out)
                  refine ⟨nb, t2, o2, b2, e2, As2, ns2, cs2, Al2, nl2, cl2, rfl, rfl, Lib.hid (show DoMid _ _ _ _ _ _ _ _ _ _ from ⟨by omega, HSIy.out, hwn.trans HFs.out (fun _ _ h => h) (fun q hq h => by have h' : q = nb := h; omega), ?_⟩)⟩
                  refine (HKVn.out.fr ((HFa.out).trans HFs.out (U := fun q => q = nb) (fun _ _ h => h.elim) (fun _ _ h => h)) (fun k _ hk h => by have h' : k = nb := h; have h1 : (y2).heap.size ≤ k := hk.1; have h2 := hk.2; omega)).mono (fun k hk => ?_)
                  have h1 : (y2).heap.size ≤ k := hk.1
                  have h2 := hk.2
                  exact ⟨by omega, by omega, by omega⟩
              · obtain ⟨nb, hnb⟩ : ∃ b, b = (y2).heap.size := ⟨_, rfl⟩
                have HNBB := Lib.hid hnb
                obtain ⟨y3, hwa⟩ : ∃ W, Hid (W = (y2).alloc (.cells #[.int .i64 0, .int .i64 0, .int .i64 0, .int .i64 0, .slice none 0 0, .slice none 0 0] 68 (0, 0))) := ⟨_, show _ = _ from rfl⟩
                have hs3 : SIs y3 nb 0 0 0 0 (.slice none 0 0) (.slice none 0 0) := by rw [hwa.out, hnb]; exact blk_new _ _
                have HFa : Hid (Fr No (y2) y3) := (show Fr No _ _ from by rw [hwa.out]; exact (Fr.refl No _).alloc _)
                have HSa : Hid (O15 bp s1 (.slice As1 ns1 cq1) (.slice Al1 nl1 cl1) vb b5 o5 c6 c.kind c.term c.vote c.at_ c.b A5 n5 c5 y3) := (show O15 bp s1 (.slice As1 ns1 cq1) (.slice Al1 nl1 cl1) vb b5 o5 c6 c.kind c.term c.vote c.at_ c.b A5 n5 c5 y3 from HStt.out.fr HFa.out (fun h => h) (fun h => h) (fun h => h))
                have HSIa := Lib.hid hs3
                refine pl_value (v := .pointer (some ⟨nb, 0, none⟩)) (w1 := y3) (a' := ?_) rfl rfl (by rfl) ?hr (fun _ => HSa.out) ?ha ?_
                case hr => rw [hnb, hwa.out]; go_simp; first | done | rfl
                case ha => simp only [Act.put, List.setIfInBounds_toArray, List.set_cons_zero, List.set_cons_succ]; rfl
                clear hs3 hnb
                repeat (first
                  | (refine pl_off (a' := ?_) rfl rfl (by rfl) (fun _ => (HSa).out) ?ha ?_; (case ha => simp only [Act.put, List.setIfInBounds_toArray, List.set_cons_zero, List.set_cons_succ]; rfl))
                  | (refine pl_any (v := ?_) (a' := ?_) rfl rfl rfl (by rfl) (fun W => ?hr) ?ha ?_; (case hr => go_simp; first | done | rfl); (case ha => simp only [Act.put, List.setIfInBounds_toArray, List.set_cons_zero, List.set_cons_succ]; rfl))
                  | (refine pl_load (v := ?_) (a' := ?_) rfl rfl rfl (by rfl) (fun W hSW => ?hr) (HSa).out ?ha ?_; (case hr => (try dsimp only at hSW); go_simp; first | done | rfl); (case ha => simp only [Act.put, List.setIfInBounds_toArray, List.set_cons_zero, List.set_cons_succ]; rfl)))
                refine pl_call rfl rfl (by rfl) rfl Try.func60 rfl rfl [.agg #[.int .i64 s1.term, .int .i64 s1.vote, .int .i64 s1.base, .int .i64 s1.bterm, .slice As1 ns1 cq1, .slice Al1 nl1 cl1], .agg #[.int .i64 c.kind, .int .i64 c.term, .int .i64 c.vote, .int .i64 c.at_, .slice Att mtt ctt, .slice (some ⟨qc, 0, none⟩) ntc qcc]] rfl ?_
                have hnx := snext_any (w := y3) (s := s1) (c := c) (F' := fun _ => True) (HKV.out.fr (((HFcc.out).then HFtt.out).then HFa.out) (fun _ _ _ h => h)) ⟨_, rfl, ⟨_, _, rfl, (HROWtt.out.fr (by decide) (HFa.out) (fun _ _ _ h => h)).mono (fun _ _ => trivial), (HRBcc.out.fr ((HFtt.out).then HFa.out) (fun _ _ _ h => h)).mono (fun _ _ => trivial), HCI.out.1, HCI.out.2.1, HCI.out.2.2.1, HCI.out.2.2.2⟩⟩ HOK1.out HCL.out
                rw [HNX.out] at hnx
                refine hnx.mono ?_
                clear hnx
                rintro e y4 ⟨v2, rfl, hkv2, hf2⟩
                obtain ⟨t2, o2, b2, e2, As2, ns2, cs2, Al2, nl2, cl2, rfl⟩ := hkv2.sh
                have HKVn := Lib.hid hkv2.bound
                have HFn : Hid (Fr No (y3) y4) := (show Fr No _ _ from hf2)
                have HSn : Hid (O15 bp s1 (.slice As1 ns1 cq1) (.slice Al1 nl1 cl1) vb b5 o5 c6 c.kind c.term c.vote c.at_ c.b A5 n5 c5 y4) := (show O15 bp s1 (.slice As1 ns1 cq1) (.slice Al1 nl1 cl1) vb b5 o5 c6 c.kind c.term c.vote c.at_ c.b A5 n5 c5 y4 from HSa.out.fr hf2 (fun h => h) (fun h => h) (fun h => h))
                refine ⟨_, rfl, fun _ => HSn.out, ?_⟩
                simp only [Act.put, List.setIfInBounds_toArray, List.set_cons_zero, List.set_cons_succ, Option.isSome_some, if_true]
                clear hkv2 hf2
                repeat (first
                  | (refine pl_off (a' := ?_) rfl rfl (by rfl) (fun _ => (HSn).out) ?ha ?_; (case ha => simp only [Act.put, List.setIfInBounds_toArray, List.set_cons_zero, List.set_cons_succ]; rfl))
                  | (refine pl_any (v := ?_) (a' := ?_) rfl rfl rfl (by rfl) (fun W => ?hr) ?ha ?_; (case hr => go_simp; first | done | rfl); (case ha => simp only [Act.put, List.setIfInBounds_toArray, List.set_cons_zero, List.set_cons_succ]; rfl))
                  | (refine pl_load (v := ?_) (a' := ?_) rfl rfl rfl (by rfl) (fun W hSW => ?hr) (HSn).out ?ha ?_; (case hr => (try dsimp only at hSW); go_simp; first | done | rfl); (case ha => simp only [Act.put, List.setIfInBounds_toArray, List.set_cons_zero, List.set_cons_succ]; rfl)))
                have HSIx : Hid (SIs y4 nb 0 0 0 0 (.slice none 0 0) (.slice none 0 0)) := (show SIs _ _ _ _ _ _ _ _ from (HFn.out).heap HSIa.out (fun h => h))
                have hz0 : (wa.drew).heap.size ≤ (y1).heap.size := HFcc.out.size
                have hz1 : (y1).heap.size ≤ (y2).heap.size := HFtt.out.size
                have hz2 : (y2).heap.size ≤ (y3).heap.size := HFa.out.size
                have hz3 : (y3).heap.size ≤ (y4).heap.size := HFn.out.size
                have hnbb := HNBB.out
                have hwd : wa.drew.heap.size = wa.heap.size := rfl
                have HNB1 : Hid (wa.heap.size ≤ nb) := (show _ ≤ _ from by omega)
                obtain ⟨r0, r1, r2, r3, r4, r5⟩ := s_cells HSIx.out
                have z0 := s_free HSIx.out 0
                have z1 := s_free HSIx.out 1
                have z2 := s_free HSIx.out 2
                have z3 := s_free HSIx.out 3
                have z4 := s_free HSIx.out 4
                have z5 := s_free HSIx.out 5
                obtain ⟨y5, hws⟩ : ∃ W, Hid (W = back6 y4 nb t2 o2 b2 e2 (.slice As2 ns2 cs2) (.slice Al2 nl2 cl2)) := ⟨_, show _ = _ from rfl⟩
                have HSIy : Hid (SIs y5 nb t2 o2 b2 e2 (.slice As2 ns2 cs2) (.slice Al2 nl2 cl2)) := (show SIs _ _ _ _ _ _ _ _ from by rw [hws.out]; exact back6_s HSIx.out)
                have HFs : Hid (Fr (fun q => q = nb) y4 y5) := (show Fr _ _ _ from by rw [hws.out]; exact back6_fr _ _ _ _ _ _ _ _)
                have HSs : Hid (O15 bp s1 (.slice As1 ns1 cq1) (.slice Al1 nl1 cl1) vb b5 o5 c6 c.kind c.term c.vote c.at_ c.b A5 n5 c5 y5) := (show O15 bp s1 (.slice As1 ns1 cq1) (.slice Al1 nl1 cl1) vb b5 o5 c6 c.kind c.term c.vote c.at_ c.b A5 n5 c5 y5 from HSn.out.fr HFs.out (fun h => by have h' : vb = nb := h; have := HNB1.out; have := HLTS.out; omega) (fun h => by have h' : b5 = nb := h; have := HNB1.out; have := HLTS.out; omega) (fun h => by have h' : bp = nb := h; have := HNB1.out; have := HLTS.out; omega))
                unfold back6 at hws
                clear hnbb hwd hz0 hz1 hz2 hz3
                refine pl_store (w1 := y5) rfl rfl (by rfl) rfl ?hr (fun _ => HSs.out) ?_
                case hr => rw [hws.out]; go_simp; first | done | rfl | (constructor <;> rfl)
                clear r0 r1 r2 r3 r4 r5 z0 z1 z2 z3 z4 z5
                repeat (first
                  | (refine pl_off (a' := ?_) rfl rfl (by rfl) (fun _ => (HSs).out) ?ha ?_; (case ha => simp only [Act.put, List.setIfInBounds_toArray, List.set_cons_zero, List.set_cons_succ]; rfl))
                  | (refine pl_any (v := ?_) (a' := ?_) rfl rfl rfl (by rfl) (fun W => ?hr) ?ha ?_; (case hr => go_simp; first | done | rfl); (case ha => simp only [Act.put, List.setIfInBounds_toArray, List.set_cons_zero, List.set_cons_succ]; rfl))
                  | (refine pl_load (v := ?_) (a' := ?_) rfl rfl rfl (by rfl) (fun W hSW => ?hr) (HSs).out ?ha ?_; (case hr => (try dsimp only at hSW); go_simp; first | done | rfl); (case ha => simp only [Act.put, List.setIfInBounds_toArray, List.set_cons_zero, List.set_cons_succ]; rfl)))
                refine pl_done ?_
                go_wp2_with fail
                go_meet
                case rel =>
                  have hz0 : (wa.drew).heap.size ≤ (y1).heap.size := HFcc.out.size
                  have hz1 : (y1).heap.size ≤ (y2).heap.size := HFtt.out.size
                  have hz2 : (y2).heap.size ≤ (y3).heap.size := HFa.out.size
                  have hz3 : (y3).heap.size ≤ (y4).heap.size := HFn.out.size
                  have hnbb := HNBB.out
                  have hwd : wa.drew.heap.size = wa.heap.size := rfl
                  have hss := HFs.out.size
                  have hnlt := heap_lt HSIa.out
                  have hwn : Fr No wa y4 := (show Fr No wa wa.drew from (Fr.refl No _).drew).then ((((HFcc.out).then HFtt.out).then HFa.out).then HFn.out)
                  refine ⟨nb, t2, o2, b2, e2, As2, ns2, cs2, Al2, nl2, cl2, rfl, rfl, Lib.hid (show DoMid _ _ _ _ _ _ _ _ _ _ from ⟨by omega, HSIy.out, hwn.trans HFs.out (fun _ _ h => h) (fun q hq h => by have h' : q = nb := h; omega), ?_⟩)⟩
                  refine (HKVn.out.fr ((Fr.refl No _).trans HFs.out (U := fun q => q = nb) (fun _ _ h => h.elim) (fun _ _ h => h)) (fun k _ hk h => by have h' : k = nb := h; have h1 : (y3).heap.size ≤ k := hk.1; have h2 := hk.2; omega)).mono (fun k hk => ?_)
                  have h1 : (y3).heap.size ≤ k := hk.1
                  have h2 := hk.2
                  exact ⟨by omega, by omega, by omega⟩
            · obtain ⟨nb, hnb⟩ : ∃ b, b = (y1).heap.size := ⟨_, rfl⟩
              have HNBB := Lib.hid hnb
              obtain ⟨y2, hwa⟩ : ∃ W, Hid (W = (y1).alloc (.cells #[.int .i64 0, .int .i64 0, .int .i64 0, .int .i64 0, .slice none 0 0, .slice none 0 0] 68 (0, 0))) := ⟨_, show _ = _ from rfl⟩
              have hs3 : SIs y2 nb 0 0 0 0 (.slice none 0 0) (.slice none 0 0) := by rw [hwa.out, hnb]; exact blk_new _ _
              have HFa : Hid (Fr No (y1) y2) := (show Fr No _ _ from by rw [hwa.out]; exact (Fr.refl No _).alloc _)
              have HSa : Hid (O15 bp s1 (.slice As1 ns1 cq1) (.slice Al1 nl1 cl1) vb b5 o5 c6 c.kind c.term c.vote c.at_ c.b A5 n5 c5 y2) := (show O15 bp s1 (.slice As1 ns1 cq1) (.slice Al1 nl1 cl1) vb b5 o5 c6 c.kind c.term c.vote c.at_ c.b A5 n5 c5 y2 from HScc.out.fr HFa.out (fun h => h) (fun h => h) (fun h => h))
              have HSIa := Lib.hid hs3
              refine pl_value (v := .pointer (some ⟨nb, 0, none⟩)) (w1 := y2) (a' := ?_) rfl rfl (by rfl) ?hr (fun _ => HSa.out) ?ha ?_
              case hr => rw [hnb, hwa.out]; go_simp; first | done | rfl
              case ha => simp only [Act.put, List.setIfInBounds_toArray, List.set_cons_zero, List.set_cons_succ]; rfl
              clear hs3 hnb
              repeat (first
                | (refine pl_off (a' := ?_) rfl rfl (by rfl) (fun _ => (HSa).out) ?ha ?_; (case ha => simp only [Act.put, List.setIfInBounds_toArray, List.set_cons_zero, List.set_cons_succ]; rfl))
                | (refine pl_any (v := ?_) (a' := ?_) rfl rfl rfl (by rfl) (fun W => ?hr) ?ha ?_; (case hr => go_simp; first | done | rfl); (case ha => simp only [Act.put, List.setIfInBounds_toArray, List.set_cons_zero, List.set_cons_succ]; rfl))
                | (refine pl_load (v := ?_) (a' := ?_) rfl rfl rfl (by rfl) (fun W hSW => ?hr) (HSa).out ?ha ?_; (case hr => (try dsimp only at hSW); go_simp; first | done | rfl); (case ha => simp only [Act.put, List.setIfInBounds_toArray, List.set_cons_zero, List.set_cons_succ]; rfl)))
              refine pl_call rfl rfl (by rfl) rfl Try.func85 rfl rfl [.agg #[.int .i64 3, .int .i64 0, .string ⟨#[]⟩, .slice A5 n5 c5]] rfl ?_
              refine (taken_any (w := y2) (l := c.l) (HITC.out.fr ((HFcc.out).then HFa.out) (fun _ _ _ h => h)) HESC.out.1 HESC.out.2).mono ?_
              rintro e y3 ⟨vtt, rfl, hrowt, hftt⟩
              obtain ⟨Att, ctt, rfl, _, _⟩ := hrowt.shape
              obtain ⟨mtt, hmtt⟩ : ∃ m, m = (c.l).length := ⟨_, rfl⟩
              rw [← hmtt] at hrowt ⊢
              have HFtt : Hid (Fr No (y2) y3) := (show Fr No _ _ from hftt)
              have HROWtt : Hid (Row EnK y3 (fun k => (y2).heap.size ≤ k ∧ k < y3.heap.size) (.slice Att mtt ctt) (c.l)) := (show Row _ _ _ _ _ from hrowt.bound (by decide))
              have HStt : Hid (O15 bp s1 (.slice As1 ns1 cq1) (.slice Al1 nl1 cl1) vb b5 o5 c6 c.kind c.term c.vote c.at_ c.b A5 n5 c5 y3) := (show O15 bp s1 (.slice As1 ns1 cq1) (.slice Al1 nl1 cl1) vb b5 o5 c6 c.kind c.term c.vote c.at_ c.b A5 n5 c5 y3 from HSa.out.fr hftt (fun h => h) (fun h => h) (fun h => h))
              refine ⟨_, rfl, fun _ => HStt.out, ?_⟩
              simp only [Act.put, List.setIfInBounds_toArray, List.set_cons_zero, List.set_cons_succ]
              clear hrowt hftt hmtt
              repeat (first
                | (refine pl_off (a' := ?_) rfl rfl (by rfl) (fun _ => (HStt).out) ?ha ?_; (case ha => simp only [Act.put, List.setIfInBounds_toArray, List.set_cons_zero, List.set_cons_succ]; rfl))
                | (refine pl_any (v := ?_) (a' := ?_) rfl rfl rfl (by rfl) (fun W => ?hr) ?ha ?_; (case hr => go_simp; first | done | rfl); (case ha => simp only [Act.put, List.setIfInBounds_toArray, List.set_cons_zero, List.set_cons_succ]; rfl))
                | (refine pl_load (v := ?_) (a' := ?_) rfl rfl rfl (by rfl) (fun W hSW => ?hr) (HStt).out ?ha ?_; (case hr => (try dsimp only at hSW); go_simp; first | done | rfl); (case ha => simp only [Act.put, List.setIfInBounds_toArray, List.set_cons_zero, List.set_cons_succ]; rfl)))
              refine pl_call rfl rfl (by rfl) rfl Try.func60 rfl rfl [.agg #[.int .i64 s1.term, .int .i64 s1.vote, .int .i64 s1.base, .int .i64 s1.bterm, .slice As1 ns1 cq1, .slice Al1 nl1 cl1], .agg #[.int .i64 c.kind, .int .i64 c.term, .int .i64 c.vote, .int .i64 c.at_, .slice Att mtt ctt, .slice (some ⟨qc, 0, none⟩) ntc qcc]] rfl ?_
              have hnx := snext_any (w := y3) (s := s1) (c := c) (F' := fun _ => True) (HKV.out.fr (((HFcc.out).then HFa.out).then HFtt.out) (fun _ _ _ h => h)) ⟨_, rfl, ⟨_, _, rfl, (HROWtt.out.fr (by decide) (Fr.refl No _) (fun _ _ _ h => h)).mono (fun _ _ => trivial), (HRBcc.out.fr ((HFa.out).then HFtt.out) (fun _ _ _ h => h)).mono (fun _ _ => trivial), HCI.out.1, HCI.out.2.1, HCI.out.2.2.1, HCI.out.2.2.2⟩⟩ HOK1.out HCL.out
              rw [HNX.out] at hnx
              refine hnx.mono ?_
              clear hnx
              rintro e y4 ⟨v2, rfl, hkv2, hf2⟩
              obtain ⟨t2, o2, b2, e2, As2, ns2, cs2, Al2, nl2, cl2, rfl⟩ := hkv2.sh
              have HKVn := Lib.hid hkv2.bound
              have HFn : Hid (Fr No (y3) y4) := (show Fr No _ _ from hf2)
              have HSn : Hid (O15 bp s1 (.slice As1 ns1 cq1) (.slice Al1 nl1 cl1) vb b5 o5 c6 c.kind c.term c.vote c.at_ c.b A5 n5 c5 y4) := (show O15 bp s1 (.slice As1 ns1 cq1) (.slice Al1 nl1 cl1) vb b5 o5 c6 c.kind c.term c.vote c.at_ c.b A5 n5 c5 y4 from HStt.out.fr hf2 (fun h => h) (fun h => h) (fun h => h))
              refine ⟨_, rfl, fun _ => HSn.out, ?_⟩
              simp only [Act.put, List.setIfInBounds_toArray, List.set_cons_zero, List.set_cons_succ, Option.isSome_some, if_true]
              clear hkv2 hf2
              repeat (first
                | (refine pl_off (a' := ?_) rfl rfl (by rfl) (fun _ => (HSn).out) ?ha ?_; (case ha => simp only [Act.put, List.setIfInBounds_toArray, List.set_cons_zero, List.set_cons_succ]; rfl))
                | (refine pl_any (v := ?_) (a' := ?_) rfl rfl rfl (by rfl) (fun W => ?hr) ?ha ?_; (case hr => go_simp; first | done | rfl); (case ha => simp only [Act.put, List.setIfInBounds_toArray, List.set_cons_zero, List.set_cons_succ]; rfl))
                | (refine pl_load (v := ?_) (a' := ?_) rfl rfl rfl (by rfl) (fun W hSW => ?hr) (HSn).out ?ha ?_; (case hr => (try dsimp only at hSW); go_simp; first | done | rfl); (case ha => simp only [Act.put, List.setIfInBounds_toArray, List.set_cons_zero, List.set_cons_succ]; rfl)))
              have HSIx : Hid (SIs y4 nb 0 0 0 0 (.slice none 0 0) (.slice none 0 0)) := (show SIs _ _ _ _ _ _ _ _ from ((HFtt.out).then HFn.out).heap HSIa.out (fun h => h))
              have hz0 : (wa.drew).heap.size ≤ (y1).heap.size := HFcc.out.size
              have hz1 : (y1).heap.size ≤ (y2).heap.size := HFa.out.size
              have hz2 : (y2).heap.size ≤ (y3).heap.size := HFtt.out.size
              have hz3 : (y3).heap.size ≤ (y4).heap.size := HFn.out.size
              have hnbb := HNBB.out
              have hwd : wa.drew.heap.size = wa.heap.size := rfl
              have HNB1 : Hid (wa.heap.size ≤ nb) := (show _ ≤ _ from by omega)
              obtain ⟨r0, r1, r2, r3, r4, r5⟩ := s_cells HSIx.out
              have z0 := s_free HSIx.out 0
              have z1 := s_free HSIx.out 1
              have z2 := s_free HSIx.out 2
              have z3 := s_free HSIx.out 3
              have z4 := s_free HSIx.out 4
              have z5 := s_free HSIx.out 5
              obtain ⟨y5, hws⟩ : ∃ W, Hid (W = back6 y4 nb t2 o2 b2 e2 (.slice As2 ns2 cs2) (.slice Al2 nl2 cl2)) := ⟨_, show _ = _ from rfl⟩
              have HSIy : Hid (SIs y5 nb t2 o2 b2 e2 (.slice As2 ns2 cs2) (.slice Al2 nl2 cl2)) := (show SIs _ _ _ _ _ _ _ _ from by rw [hws.out]; exact back6_s HSIx.out)
              have HFs : Hid (Fr (fun q => q = nb) y4 y5) := (show Fr _ _ _ from by rw [hws.out]; exact back6_fr _ _ _ _ _ _ _ _)
              have HSs : Hid (O15 bp s1 (.slice As1 ns1 cq1) (.slice Al1 nl1 cl1) vb b5 o5 c6 c.kind c.term c.vote c.at_ c.b A5 n5 c5 y5) := (show O15 bp s1 (.slice As1 ns1 cq1) (.slice Al1 nl1 cl1) vb b5 o5 c6 c.kind c.term c.vote c.at_ c.b A5 n5 c5 y5 from HSn.out.fr HFs.out (fun h => by have h' : vb = nb := h; have := HNB1.out; have := HLTS.out; omega) (fun h => by have h' : b5 = nb := h; have := HNB1.out; have := HLTS.out; omega) (fun h => by have h' : bp = nb := h; have := HNB1.out; have := HLTS.out; omega))
              unfold back6 at hws
              clear hnbb hwd hz0 hz1 hz2 hz3
              refine pl_store (w1 := y5) rfl rfl (by rfl) rfl ?hr (fun _ => HSs.out) ?_
              case hr => rw [hws.out]; go_simp; first | done | rfl | (constructor <;> rfl)
              clear r0 r1 r2 r3 r4 r5 z0 z1 z2 z3 z4 z5
              repeat (first
                | (refine pl_off (a' := ?_) rfl rfl (by rfl) (fun _ => (HSs).out) ?ha ?_; (case ha => simp only [Act.put, List.setIfInBounds_toArray, List.set_cons_zero, List.set_cons_succ]; rfl))
                | (refine pl_any (v := ?_) (a' := ?_) rfl rfl rfl (by rfl) (fun W => ?hr) ?ha ?_; (case hr => go_simp; first | done | rfl); (case ha => simp only [Act.put, List.setIfInBounds_toArray, List.set_cons_zero, List.set_cons_succ]; rfl))
                | (refine pl_load (v := ?_) (a' := ?_) rfl rfl rfl (by rfl) (fun W hSW => ?hr) (HSs).out ?ha ?_; (case hr => (try dsimp only at hSW); go_simp; first | done | rfl); (case ha => simp only [Act.put, List.setIfInBounds_toArray, List.set_cons_zero, List.set_cons_succ]; rfl)))
              refine pl_done ?_
              go_wp2_with fail
              go_meet
              case rel =>
                have hz0 : (wa.drew).heap.size ≤ (y1).heap.size := HFcc.out.size
                have hz1 : (y1).heap.size ≤ (y2).heap.size := HFa.out.size
                have hz2 : (y2).heap.size ≤ (y3).heap.size := HFtt.out.size
                have hz3 : (y3).heap.size ≤ (y4).heap.size := HFn.out.size
                have hnbb := HNBB.out
                have hwd : wa.drew.heap.size = wa.heap.size := rfl
                have hss := HFs.out.size
                have hnlt := heap_lt HSIa.out
                have hwn : Fr No wa y4 := (show Fr No wa wa.drew from (Fr.refl No _).drew).then ((((HFcc.out).then HFa.out).then HFtt.out).then HFn.out)
                refine ⟨nb, t2, o2, b2, e2, As2, ns2, cs2, Al2, nl2, cl2, rfl, rfl, Lib.hid (show DoMid _ _ _ _ _ _ _ _ _ _ from ⟨by omega, HSIy.out, hwn.trans HFs.out (fun _ _ h => h) (fun q hq h => by have h' : q = nb := h; omega), ?_⟩)⟩
                refine (HKVn.out.fr ((Fr.refl No _).trans HFs.out (U := fun q => q = nb) (fun _ _ h => h.elim) (fun _ _ h => h)) (fun k _ hk h => by have h' : k = nb := h; have h1 : (y3).heap.size ≤ k := hk.1; have h2 := hk.2; omega)).mono (fun k hk => ?_)
                have h1 : (y3).heap.size ≤ k := hk.1
                have h2 := hk.2
                exact ⟨by omega, by omega, by omega⟩
          · refine pl_call rfl rfl (by rfl) rfl Try.func85 rfl rfl [.agg #[.int .i64 3, .int .i64 0, .string ⟨#[]⟩, .slice A5 n5 c5]] rfl ?_
            refine (taken_any (w := wa.drew) (l := c.l) (HITC.out.fr (Fr.refl No _) (fun _ _ _ h => h)) HESC.out.1 HESC.out.2).mono ?_
            rintro e y1 ⟨vtt, rfl, hrowt, hftt⟩
            obtain ⟨Att, ctt, rfl, _, _⟩ := hrowt.shape
            obtain ⟨mtt, hmtt⟩ : ∃ m, m = (c.l).length := ⟨_, rfl⟩
            rw [← hmtt] at hrowt ⊢
            have HFtt : Hid (Fr No (wa.drew) y1) := (show Fr No _ _ from hftt)
            have HROWtt : Hid (Row EnK y1 (fun k => (wa.drew).heap.size ≤ k ∧ k < y1.heap.size) (.slice Att mtt ctt) (c.l)) := (show Row _ _ _ _ _ from hrowt.bound (by decide))
            have HStt : Hid (O15 bp s1 (.slice As1 ns1 cq1) (.slice Al1 nl1 cl1) vb b5 o5 c6 c.kind c.term c.vote c.at_ c.b A5 n5 c5 y1) := (show O15 bp s1 (.slice As1 ns1 cq1) (.slice Al1 nl1 cl1) vb b5 o5 c6 c.kind c.term c.vote c.at_ c.b A5 n5 c5 y1 from HS.out.fr hftt (fun h => h) (fun h => h) (fun h => h))
            refine ⟨_, rfl, fun _ => HStt.out, ?_⟩
            simp only [Act.put, List.setIfInBounds_toArray, List.set_cons_zero, List.set_cons_succ]
            clear hrowt hftt hmtt
            repeat (first
              | (refine pl_off (a' := ?_) rfl rfl (by rfl) (fun _ => (HStt).out) ?ha ?_; (case ha => simp only [Act.put, List.setIfInBounds_toArray, List.set_cons_zero, List.set_cons_succ]; rfl))
              | (refine pl_any (v := ?_) (a' := ?_) rfl rfl rfl (by rfl) (fun W => ?hr) ?ha ?_; (case hr => go_simp; first | done | rfl); (case ha => simp only [Act.put, List.setIfInBounds_toArray, List.set_cons_zero, List.set_cons_succ]; rfl))
              | (refine pl_load (v := ?_) (a' := ?_) rfl rfl rfl (by rfl) (fun W hSW => ?hr) (HStt).out ?ha ?_; (case hr => (try dsimp only at hSW); go_simp; first | done | rfl); (case ha => simp only [Act.put, List.setIfInBounds_toArray, List.set_cons_zero, List.set_cons_succ]; rfl)))
            refine pl_alt rfl ?_ (pl_alt rfl ?_ (pl_end))
            · obtain ⟨qc, hqc⟩ : ∃ q, q = y1.heap.size := ⟨_, rfl⟩
              obtain ⟨qcc, hqcc⟩ : ∃ q, q = grownCap (y1) (c.b).length 0 5 := ⟨_, rfl⟩
              obtain ⟨ntc, hntc⟩ : ∃ q, q = (c.b).length := ⟨_, rfl⟩
              obtain ⟨y2, hwc⟩ : ∃ W, Hid (W = Lib.bytesWorld (y1) 5 ⟨(c.b).toArray⟩) := ⟨_, show _ = _ from rfl⟩
              have HFcc : Hid (Fr No (y1) y2) := (show Fr No _ _ from by rw [hwc.out]; exact bw_fr _ _ _)
              have HRBcc : Hid (Rb y2 (fun k => (y1).heap.size ≤ k ∧ k < y2.heap.size) (.slice (some ⟨qc, 0, none⟩) ntc qcc) (c.b)) := (show Rb _ _ _ _ from by
                have h1 : y2.heap.size = (y1).heap.size + 1 := by rw [hwc.out]; exact Lib.bytesWorld_size _ _ _
                have h2 : Rb y2 (fun k => k = (y1).heap.size) (.slice (some ⟨qc, 0, none⟩) ntc qcc) (c.b) := by rw [hwc.out, hqc, hqcc, hntc]; exact bw_rb _ _ HTXC.out
                exact h2.mono (fun k hk => by have h' : k = (y1).heap.size := hk; exact ⟨by omega, by omega⟩))
              have HScc : Hid (O15 bp s1 (.slice As1 ns1 cq1) (.slice Al1 nl1 cl1) vb b5 o5 c6 c.kind c.term c.vote c.at_ c.b A5 n5 c5 y2) := (show O15 bp s1 (.slice As1 ns1 cq1) (.slice Al1 nl1 cl1) vb b5 o5 c6 c.kind c.term c.vote c.at_ c.b A5 n5 c5 y2 from HStt.out.fr HFcc.out (fun h => h) (fun h => h) (fun h => h))
              refine pl_value (v := .slice (some ⟨qc, 0, none⟩) ntc qcc) (w1 := y2) (a' := ?_) rfl rfl (by rfl) ?hr (fun _ => HScc.out) ?ha ?_
              case hr =>
                have h1 := Lib.run_convert_string_bytes (P := Try.prog) (y1) 9 22 5 ⟨(c.b).toArray⟩ Try.underlying9 Try.underlying22 Try.underlying5
                rw [← hwc.out, ← hqc, show (⟨(c.b).toArray⟩ : ByteArray).size = ntc from by rw [hntc]; exact List.size_toArray .., hntc, ← hqcc, ← hntc] at h1
                first | exact h1 | (unfold execOp; exact h1) | (unfold execOp; simp [Act.eval, h1])
              case ha => simp only [Act.put, List.setIfInBounds_toArray, List.set_cons_zero, List.set_cons_succ]; rfl
              clear hqc hqcc hntc
              repeat (first
                | (refine pl_off (a' := ?_) rfl rfl (by rfl) (fun _ => (HScc).out) ?ha ?_; (case ha => simp only [Act.put, List.setIfInBounds_toArray, List.set_cons_zero, List.set_cons_succ]; rfl))
                | (refine pl_any (v := ?_) (a' := ?_) rfl rfl rfl (by rfl) (fun W => ?hr) ?ha ?_; (case hr => go_simp; first | done | rfl); (case ha => simp only [Act.put, List.setIfInBounds_toArray, List.set_cons_zero, List.set_cons_succ]; rfl))
                | (refine pl_load (v := ?_) (a' := ?_) rfl rfl rfl (by rfl) (fun W hSW => ?hr) (HScc).out ?ha ?_; (case hr => (try dsimp only at hSW); go_simp; first | done | rfl); (case ha => simp only [Act.put, List.setIfInBounds_toArray, List.set_cons_zero, List.set_cons_succ]; rfl)))
              refine pl_alt rfl ?_ (pl_alt rfl ?_ (pl_end))
              · refine pl_call rfl rfl (by rfl) rfl Try.func60 rfl rfl [.agg #[.int .i64 s1.term, .int .i64 s1.vote, .int .i64 s1.base, .int .i64 s1.bterm, .slice As1 ns1 cq1, .slice Al1 nl1 cl1], .agg #[.int .i64 c.kind, .int .i64 c.term, .int .i64 c.vote, .int .i64 c.at_, .slice Att mtt ctt, .slice (some ⟨qc, 0, none⟩) ntc qcc]] rfl ?_
                have hnx := snext_any (w := y2) (s := s1) (c := c) (F' := fun _ => True) (HKV.out.fr ((HFtt.out).then HFcc.out) (fun _ _ _ h => h)) ⟨_, rfl, ⟨_, _, rfl, (HROWtt.out.fr (by decide) (HFcc.out) (fun _ _ _ h => h)).mono (fun _ _ => trivial), (HRBcc.out.fr (Fr.refl No _) (fun _ _ _ h => h)).mono (fun _ _ => trivial), HCI.out.1, HCI.out.2.1, HCI.out.2.2.1, HCI.out.2.2.2⟩⟩ HOK1.out HCL.out
                rw [HNX.out] at hnx
                refine hnx.mono ?_
                clear hnx
                rintro e y3 ⟨v2, rfl, hkv2, hf2⟩
                obtain ⟨t2, o2, b2, e2, As2, ns2, cs2, Al2, nl2, cl2, rfl⟩ := hkv2.sh
                have HKVn := Lib.hid hkv2.bound
                have HFn : Hid (Fr No (y2) y3) := (show Fr No _ _ from hf2)
                have HSn : Hid (O15 bp s1 (.slice As1 ns1 cq1) (.slice Al1 nl1 cl1) vb b5 o5 c6 c.kind c.term c.vote c.at_ c.b A5 n5 c5 y3) := (show O15 bp s1 (.slice As1 ns1 cq1) (.slice Al1 nl1 cl1) vb b5 o5 c6 c.kind c.term c.vote c.at_ c.b A5 n5 c5 y3 from HScc.out.fr hf2 (fun h => h) (fun h => h) (fun h => h))
                refine ⟨_, rfl, fun _ => HSn.out, ?_⟩
                simp only [Act.put, List.setIfInBounds_toArray, List.set_cons_zero, List.set_cons_succ, Option.isSome_some, if_true]
                clear hkv2 hf2
                repeat (first
                  | (refine pl_off (a' := ?_) rfl rfl (by rfl) (fun _ => (HSn).out) ?ha ?_; (case ha => simp only [Act.put, List.setIfInBounds_toArray, List.set_cons_zero, List.set_cons_succ]; rfl))
                  | (refine pl_any (v := ?_) (a' := ?_) rfl rfl rfl (by rfl) (fun W => ?hr) ?ha ?_; (case hr => go_simp; first | done | rfl); (case ha => simp only [Act.put, List.setIfInBounds_toArray, List.set_cons_zero, List.set_cons_succ]; rfl))
                  | (refine pl_load (v := ?_) (a' := ?_) rfl rfl rfl (by rfl) (fun W hSW => ?hr) (HSn).out ?ha ?_; (case hr => (try dsimp only at hSW); go_simp; first | done | rfl); (case ha => simp only [Act.put, List.setIfInBounds_toArray, List.set_cons_zero, List.set_cons_succ]; rfl)))
                obtain ⟨nb, hnb⟩ : ∃ b, b = (y3).heap.size := ⟨_, rfl⟩
                have HNBB := Lib.hid hnb
                obtain ⟨y4, hwa⟩ : ∃ W, Hid (W = (y3).alloc (.cells #[.int .i64 0, .int .i64 0, .int .i64 0, .int .i64 0, .slice none 0 0, .slice none 0 0] 68 (0, 0))) := ⟨_, show _ = _ from rfl⟩
                have hs3 : SIs y4 nb 0 0 0 0 (.slice none 0 0) (.slice none 0 0) := by rw [hwa.out, hnb]; exact blk_new _ _
                have HFa : Hid (Fr No (y3) y4) := (show Fr No _ _ from by rw [hwa.out]; exact (Fr.refl No _).alloc _)
                have HSa : Hid (O15 bp s1 (.slice As1 ns1 cq1) (.slice Al1 nl1 cl1) vb b5 o5 c6 c.kind c.term c.vote c.at_ c.b A5 n5 c5 y4) := (show O15 bp s1 (.slice As1 ns1 cq1) (.slice Al1 nl1 cl1) vb b5 o5 c6 c.kind c.term c.vote c.at_ c.b A5 n5 c5 y4 from HSn.out.fr HFa.out (fun h => h) (fun h => h) (fun h => h))
                have HSIa := Lib.hid hs3
                refine pl_value (v := .pointer (some ⟨nb, 0, none⟩)) (w1 := y4) (a' := ?_) rfl rfl (by rfl) ?hr (fun _ => HSa.out) ?ha ?_
                case hr => rw [hnb, hwa.out]; go_simp; first | done | rfl
                case ha => simp only [Act.put, List.setIfInBounds_toArray, List.set_cons_zero, List.set_cons_succ]; rfl
                clear hs3 hnb
                repeat (first
                  | (refine pl_off (a' := ?_) rfl rfl (by rfl) (fun _ => (HSa).out) ?ha ?_; (case ha => simp only [Act.put, List.setIfInBounds_toArray, List.set_cons_zero, List.set_cons_succ]; rfl))
                  | (refine pl_any (v := ?_) (a' := ?_) rfl rfl rfl (by rfl) (fun W => ?hr) ?ha ?_; (case hr => go_simp; first | done | rfl); (case ha => simp only [Act.put, List.setIfInBounds_toArray, List.set_cons_zero, List.set_cons_succ]; rfl))
                  | (refine pl_load (v := ?_) (a' := ?_) rfl rfl rfl (by rfl) (fun W hSW => ?hr) (HSa).out ?ha ?_; (case hr => (try dsimp only at hSW); go_simp; first | done | rfl); (case ha => simp only [Act.put, List.setIfInBounds_toArray, List.set_cons_zero, List.set_cons_succ]; rfl)))
                have HSIx : Hid (SIs y4 nb 0 0 0 0 (.slice none 0 0) (.slice none 0 0)) := (show SIs _ _ _ _ _ _ _ _ from (Fr.refl No _).heap HSIa.out (fun h => h))
                have hz0 : (wa.drew).heap.size ≤ (y1).heap.size := HFtt.out.size
                have hz1 : (y1).heap.size ≤ (y2).heap.size := HFcc.out.size
                have hz2 : (y2).heap.size ≤ (y3).heap.size := HFn.out.size
                have hz3 : (y3).heap.size ≤ (y4).heap.size := HFa.out.size
                have hnbb := HNBB.out
                have hwd : wa.drew.heap.size = wa.heap.size := rfl
                have HNB1 : Hid (wa.heap.size ≤ nb) := (show _ ≤ _ from by omega)
                obtain ⟨r0, r1, r2, r3, r4, r5⟩ := s_cells HSIx.out
                have z0 := s_free HSIx.out 0
                have z1 := s_free HSIx.out 1
                have z2 := s_free HSIx.out 2
                have z3 := s_free HSIx.out 3
                have z4 := s_free HSIx.out 4
                have z5 := s_free HSIx.out 5
                obtain ⟨y5, hws⟩ : ∃ W, Hid (W = back6 y4 nb t2 o2 b2 e2 (.slice As2 ns2 cs2) (.slice Al2 nl2 cl2)) := ⟨_, show _ = _ from rfl⟩
                have HSIy : Hid (SIs y5 nb t2 o2 b2 e2 (.slice As2 ns2 cs2) (.slice Al2 nl2 cl2)) := (show SIs _ _ _ _ _ _ _ _ from by rw [hws.out]; exact back6_s HSIx.out)
                have HFs : Hid (Fr (fun q => q = nb) y4 y5) := (show Fr _ _ _ from by rw [hws.out]; exact back6_fr _ _ _ _ _ _ _ _)
                have HSs : Hid (O15 bp s1 (.slice As1 ns1 cq1) (.slice Al1 nl1 cl1) vb b5 o5 c6 c.kind c.term c.vote c.at_ c.b A5 n5 c5 y5) := (show O15 bp s1 (.slice As1 ns1 cq1) (.slice Al1 nl1 cl1) vb b5 o5 c6 c.kind c.term c.vote c.at_ c.b A5 n5 c5 y5 from HSa.out.fr HFs.out (fun h => by have h' : vb = nb := h; have := HNB1.out; have := HLTS.out; omega) (fun h => by have h' : b5 = nb := h; have := HNB1.out; have := HLTS.out; omega) (fun h => by have h' : bp = nb := h; have := HNB1.out; have := HLTS.out; omega))
                unfold back6 at hws
                clear hnbb hwd hz0 hz1 hz2 hz3
                refine pl_store (w1 := y5) rfl rfl (by rfl) rfl ?hr (fun _ => HSs.out) ?_
                case hr => rw [hws.out]; go_simp; first | done | rfl | (constructor <;> rfl)
                clear r0 r1 r2 r3 r4 r5 z0 z1 z2 z3 z4 z5
                repeat (first
                  | (refine pl_off (a' := ?_) rfl rfl (by rfl) (fun _ => (HSs).out) ?ha ?_; (case ha => simp only [Act.put, List.setIfInBounds_toArray, List.set_cons_zero, List.set_cons_succ]; rfl))
                  | (refine pl_any (v := ?_) (a' := ?_) rfl rfl rfl (by rfl) (fun W => ?hr) ?ha ?_; (case hr => go_simp; first | done | rfl); (case ha => simp only [Act.put, List.setIfInBounds_toArray, List.set_cons_zero, List.set_cons_succ]; rfl))
                  | (refine pl_load (v := ?_) (a' := ?_) rfl rfl rfl (by rfl) (fun W hSW => ?hr) (HSs).out ?ha ?_; (case hr => (try dsimp only at hSW); go_simp; first | done | rfl); (case ha => simp only [Act.put, List.setIfInBounds_toArray, List.set_cons_zero, List.set_cons_succ]; rfl)))
                refine pl_done ?_
                go_wp2_with fail
                go_meet
                case rel =>
                  have hz0 : (wa.drew).heap.size ≤ (y1).heap.size := HFtt.out.size
                  have hz1 : (y1).heap.size ≤ (y2).heap.size := HFcc.out.size
                  have hz2 : (y2).heap.size ≤ (y3).heap.size := HFn.out.size
                  have hz3 : (y3).heap.size ≤ (y4).heap.size := HFa.out.size
                  have hnbb := HNBB.out
                  have hwd : wa.drew.heap.size = wa.heap.size := rfl
                  have hss := HFs.out.size
                  have hnlt := heap_lt HSIa.out
                  have hwn : Fr No wa y4 := (show Fr No wa wa.drew from (Fr.refl No _).drew).then ((((HFtt.out).then HFcc.out).then HFn.out).then HFa.out)
                  refine ⟨nb, t2, o2, b2, e2, As2, ns2, cs2, Al2, nl2, cl2, rfl, rfl, Lib.hid (show DoMid _ _ _ _ _ _ _ _ _ _ from ⟨by omega, HSIy.out, hwn.trans HFs.out (fun _ _ h => h) (fun q hq h => by have h' : q = nb := h; omega), ?_⟩)⟩
                  refine (HKVn.out.fr ((HFa.out).trans HFs.out (U := fun q => q = nb) (fun _ _ h => h.elim) (fun _ _ h => h)) (fun k _ hk h => by have h' : k = nb := h; have h1 : (y2).heap.size ≤ k := hk.1; have h2 := hk.2; omega)).mono (fun k hk => ?_)
                  have h1 : (y2).heap.size ≤ k := hk.1
                  have h2 := hk.2
                  exact ⟨by omega, by omega, by omega⟩
              · obtain ⟨nb, hnb⟩ : ∃ b, b = (y2).heap.size := ⟨_, rfl⟩
                have HNBB := Lib.hid hnb
                obtain ⟨y3, hwa⟩ : ∃ W, Hid (W = (y2).alloc (.cells #[.int .i64 0, .int .i64 0, .int .i64 0, .int .i64 0, .slice none 0 0, .slice none 0 0] 68 (0, 0))) := ⟨_, show _ = _ from rfl⟩
                have hs3 : SIs y3 nb 0 0 0 0 (.slice none 0 0) (.slice none 0 0) := by rw [hwa.out, hnb]; exact blk_new _ _
                have HFa : Hid (Fr No (y2) y3) := (show Fr No _ _ from by rw [hwa.out]; exact (Fr.refl No _).alloc _)
                have HSa : Hid (O15 bp s1 (.slice As1 ns1 cq1) (.slice Al1 nl1 cl1) vb b5 o5 c6 c.kind c.term c.vote c.at_ c.b A5 n5 c5 y3) := (show O15 bp s1 (.slice As1 ns1 cq1) (.slice Al1 nl1 cl1) vb b5 o5 c6 c.kind c.term c.vote c.at_ c.b A5 n5 c5 y3 from HScc.out.fr HFa.out (fun h => h) (fun h => h) (fun h => h))
                have HSIa := Lib.hid hs3
                refine pl_value (v := .pointer (some ⟨nb, 0, none⟩)) (w1 := y3) (a' := ?_) rfl rfl (by rfl) ?hr (fun _ => HSa.out) ?ha ?_
                case hr => rw [hnb, hwa.out]; go_simp; first | done | rfl
                case ha => simp only [Act.put, List.setIfInBounds_toArray, List.set_cons_zero, List.set_cons_succ]; rfl
                clear hs3 hnb
                repeat (first
                  | (refine pl_off (a' := ?_) rfl rfl (by rfl) (fun _ => (HSa).out) ?ha ?_; (case ha => simp only [Act.put, List.setIfInBounds_toArray, List.set_cons_zero, List.set_cons_succ]; rfl))
                  | (refine pl_any (v := ?_) (a' := ?_) rfl rfl rfl (by rfl) (fun W => ?hr) ?ha ?_; (case hr => go_simp; first | done | rfl); (case ha => simp only [Act.put, List.setIfInBounds_toArray, List.set_cons_zero, List.set_cons_succ]; rfl))
                  | (refine pl_load (v := ?_) (a' := ?_) rfl rfl rfl (by rfl) (fun W hSW => ?hr) (HSa).out ?ha ?_; (case hr => (try dsimp only at hSW); go_simp; first | done | rfl); (case ha => simp only [Act.put, List.setIfInBounds_toArray, List.set_cons_zero, List.set_cons_succ]; rfl)))
                refine pl_call rfl rfl (by rfl) rfl Try.func60 rfl rfl [.agg #[.int .i64 s1.term, .int .i64 s1.vote, .int .i64 s1.base, .int .i64 s1.bterm, .slice As1 ns1 cq1, .slice Al1 nl1 cl1], .agg #[.int .i64 c.kind, .int .i64 c.term, .int .i64 c.vote, .int .i64 c.at_, .slice Att mtt ctt, .slice (some ⟨qc, 0, none⟩) ntc qcc]] rfl ?_
                have hnx := snext_any (w := y3) (s := s1) (c := c) (F' := fun _ => True) (HKV.out.fr (((HFtt.out).then HFcc.out).then HFa.out) (fun _ _ _ h => h)) ⟨_, rfl, ⟨_, _, rfl, (HROWtt.out.fr (by decide) ((HFcc.out).then HFa.out) (fun _ _ _ h => h)).mono (fun _ _ => trivial), (HRBcc.out.fr (HFa.out) (fun _ _ _ h => h)).mono (fun _ _ => trivial), HCI.out.1, HCI.out.2.1, HCI.out.2.2.1, HCI.out.2.2.2⟩⟩ HOK1.out HCL.out
                rw [HNX.out] at hnx
                refine hnx.mono ?_
                clear hnx
                rintro e y4 ⟨v2, rfl, hkv2, hf2⟩
                obtain ⟨t2, o2, b2, e2, As2, ns2, cs2, Al2, nl2, cl2, rfl⟩ := hkv2.sh
                have HKVn := Lib.hid hkv2.bound
                have HFn : Hid (Fr No (y3) y4) := (show Fr No _ _ from hf2)
                have HSn : Hid (O15 bp s1 (.slice As1 ns1 cq1) (.slice Al1 nl1 cl1) vb b5 o5 c6 c.kind c.term c.vote c.at_ c.b A5 n5 c5 y4) := (show O15 bp s1 (.slice As1 ns1 cq1) (.slice Al1 nl1 cl1) vb b5 o5 c6 c.kind c.term c.vote c.at_ c.b A5 n5 c5 y4 from HSa.out.fr hf2 (fun h => h) (fun h => h) (fun h => h))
                refine ⟨_, rfl, fun _ => HSn.out, ?_⟩
                simp only [Act.put, List.setIfInBounds_toArray, List.set_cons_zero, List.set_cons_succ, Option.isSome_some, if_true]
                clear hkv2 hf2
                repeat (first
                  | (refine pl_off (a' := ?_) rfl rfl (by rfl) (fun _ => (HSn).out) ?ha ?_; (case ha => simp only [Act.put, List.setIfInBounds_toArray, List.set_cons_zero, List.set_cons_succ]; rfl))
                  | (refine pl_any (v := ?_) (a' := ?_) rfl rfl rfl (by rfl) (fun W => ?hr) ?ha ?_; (case hr => go_simp; first | done | rfl); (case ha => simp only [Act.put, List.setIfInBounds_toArray, List.set_cons_zero, List.set_cons_succ]; rfl))
                  | (refine pl_load (v := ?_) (a' := ?_) rfl rfl rfl (by rfl) (fun W hSW => ?hr) (HSn).out ?ha ?_; (case hr => (try dsimp only at hSW); go_simp; first | done | rfl); (case ha => simp only [Act.put, List.setIfInBounds_toArray, List.set_cons_zero, List.set_cons_succ]; rfl)))
                have HSIx : Hid (SIs y4 nb 0 0 0 0 (.slice none 0 0) (.slice none 0 0)) := (show SIs _ _ _ _ _ _ _ _ from (HFn.out).heap HSIa.out (fun h => h))
                have hz0 : (wa.drew).heap.size ≤ (y1).heap.size := HFtt.out.size
                have hz1 : (y1).heap.size ≤ (y2).heap.size := HFcc.out.size
                have hz2 : (y2).heap.size ≤ (y3).heap.size := HFa.out.size
                have hz3 : (y3).heap.size ≤ (y4).heap.size := HFn.out.size
                have hnbb := HNBB.out
                have hwd : wa.drew.heap.size = wa.heap.size := rfl
                have HNB1 : Hid (wa.heap.size ≤ nb) := (show _ ≤ _ from by omega)
                obtain ⟨r0, r1, r2, r3, r4, r5⟩ := s_cells HSIx.out
                have z0 := s_free HSIx.out 0
                have z1 := s_free HSIx.out 1
                have z2 := s_free HSIx.out 2
                have z3 := s_free HSIx.out 3
                have z4 := s_free HSIx.out 4
                have z5 := s_free HSIx.out 5
                obtain ⟨y5, hws⟩ : ∃ W, Hid (W = back6 y4 nb t2 o2 b2 e2 (.slice As2 ns2 cs2) (.slice Al2 nl2 cl2)) := ⟨_, show _ = _ from rfl⟩
                have HSIy : Hid (SIs y5 nb t2 o2 b2 e2 (.slice As2 ns2 cs2) (.slice Al2 nl2 cl2)) := (show SIs _ _ _ _ _ _ _ _ from by rw [hws.out]; exact back6_s HSIx.out)
                have HFs : Hid (Fr (fun q => q = nb) y4 y5) := (show Fr _ _ _ from by rw [hws.out]; exact back6_fr _ _ _ _ _ _ _ _)
                have HSs : Hid (O15 bp s1 (.slice As1 ns1 cq1) (.slice Al1 nl1 cl1) vb b5 o5 c6 c.kind c.term c.vote c.at_ c.b A5 n5 c5 y5) := (show O15 bp s1 (.slice As1 ns1 cq1) (.slice Al1 nl1 cl1) vb b5 o5 c6 c.kind c.term c.vote c.at_ c.b A5 n5 c5 y5 from HSn.out.fr HFs.out (fun h => by have h' : vb = nb := h; have := HNB1.out; have := HLTS.out; omega) (fun h => by have h' : b5 = nb := h; have := HNB1.out; have := HLTS.out; omega) (fun h => by have h' : bp = nb := h; have := HNB1.out; have := HLTS.out; omega))
                unfold back6 at hws
                clear hnbb hwd hz0 hz1 hz2 hz3
                refine pl_store (w1 := y5) rfl rfl (by rfl) rfl ?hr (fun _ => HSs.out) ?_
                case hr => rw [hws.out]; go_simp; first | done | rfl | (constructor <;> rfl)
                clear r0 r1 r2 r3 r4 r5 z0 z1 z2 z3 z4 z5
                repeat (first
                  | (refine pl_off (a' := ?_) rfl rfl (by rfl) (fun _ => (HSs).out) ?ha ?_; (case ha => simp only [Act.put, List.setIfInBounds_toArray, List.set_cons_zero, List.set_cons_succ]; rfl))
                  | (refine pl_any (v := ?_) (a' := ?_) rfl rfl rfl (by rfl) (fun W => ?hr) ?ha ?_; (case hr => go_simp; first | done | rfl); (case ha => simp only [Act.put, List.setIfInBounds_toArray, List.set_cons_zero, List.set_cons_succ]; rfl))
                  | (refine pl_load (v := ?_) (a' := ?_) rfl rfl rfl (by rfl) (fun W hSW => ?hr) (HSs).out ?ha ?_; (case hr => (try dsimp only at hSW); go_simp; first | done | rfl); (case ha => simp only [Act.put, List.setIfInBounds_toArray, List.set_cons_zero, List.set_cons_succ]; rfl)))
                refine pl_done ?_
                go_wp2_with fail
                go_meet
                case rel =>
                  have hz0 : (wa.drew).heap.size ≤ (y1).heap.size := HFtt.out.size
                  have hz1 : (y1).heap.size ≤ (y2).heap.size := HFcc.out.size
                  have hz2 : (y2).heap.size ≤ (y3).heap.size := HFa.out.size
                  have hz3 : (y3).heap.size ≤ (y4).heap.size := HFn.out.size
                  have hnbb := HNBB.out
                  have hwd : wa.drew.heap.size = wa.heap.size := rfl
                  have hss := HFs.out.size
                  have hnlt := heap_lt HSIa.out
                  have hwn : Fr No wa y4 := (show Fr No wa wa.drew from (Fr.refl No _).drew).then ((((HFtt.out).then HFcc.out).then HFa.out).then HFn.out)
                  refine ⟨nb, t2, o2, b2, e2, As2, ns2, cs2, Al2, nl2, cl2, rfl, rfl, Lib.hid (show DoMid _ _ _ _ _ _ _ _ _ _ from ⟨by omega, HSIy.out, hwn.trans HFs.out (fun _ _ h => h) (fun q hq h => by have h' : q = nb := h; omega), ?_⟩)⟩
                  refine (HKVn.out.fr ((Fr.refl No _).trans HFs.out (U := fun q => q = nb) (fun _ _ h => h.elim) (fun _ _ h => h)) (fun k _ hk h => by have h' : k = nb := h; have h1 : (y3).heap.size ≤ k := hk.1; have h2 := hk.2; omega)).mono (fun k hk => ?_)
                  have h1 : (y3).heap.size ≤ k := hk.1
                  have h2 := hk.2
                  exact ⟨by omega, by omega, by omega⟩
            · obtain ⟨nb, hnb⟩ : ∃ b, b = (y1).heap.size := ⟨_, rfl⟩
              have HNBB := Lib.hid hnb
              obtain ⟨y2, hwa⟩ : ∃ W, Hid (W = (y1).alloc (.cells #[.int .i64 0, .int .i64 0, .int .i64 0, .int .i64 0, .slice none 0 0, .slice none 0 0] 68 (0, 0))) := ⟨_, show _ = _ from rfl⟩
              have hs3 : SIs y2 nb 0 0 0 0 (.slice none 0 0) (.slice none 0 0) := by rw [hwa.out, hnb]; exact blk_new _ _
              have HFa : Hid (Fr No (y1) y2) := (show Fr No _ _ from by rw [hwa.out]; exact (Fr.refl No _).alloc _)
              have HSa : Hid (O15 bp s1 (.slice As1 ns1 cq1) (.slice Al1 nl1 cl1) vb b5 o5 c6 c.kind c.term c.vote c.at_ c.b A5 n5 c5 y2) := (show O15 bp s1 (.slice As1 ns1 cq1) (.slice Al1 nl1 cl1) vb b5 o5 c6 c.kind c.term c.vote c.at_ c.b A5 n5 c5 y2 from HStt.out.fr HFa.out (fun h => h) (fun h => h) (fun h => h))
              have HSIa := Lib.hid hs3
              refine pl_value (v := .pointer (some ⟨nb, 0, none⟩)) (w1 := y2) (a' := ?_) rfl rfl (by rfl) ?hr (fun _ => HSa.out) ?ha ?_
              case hr => rw [hnb, hwa.out]; go_simp; first | done | rfl
              case ha => simp only [Act.put, List.setIfInBounds_toArray, List.set_cons_zero, List.set_cons_succ]; rfl
              clear hs3 hnb
              repeat (first
                | (refine pl_off (a' := ?_) rfl rfl (by rfl) (fun _ => (HSa).out) ?ha ?_; (case ha => simp only [Act.put, List.setIfInBounds_toArray, List.set_cons_zero, List.set_cons_succ]; rfl))
                | (refine pl_any (v := ?_) (a' := ?_) rfl rfl rfl (by rfl) (fun W => ?hr) ?ha ?_; (case hr => go_simp; first | done | rfl); (case ha => simp only [Act.put, List.setIfInBounds_toArray, List.set_cons_zero, List.set_cons_succ]; rfl))
                | (refine pl_load (v := ?_) (a' := ?_) rfl rfl rfl (by rfl) (fun W hSW => ?hr) (HSa).out ?ha ?_; (case hr => (try dsimp only at hSW); go_simp; first | done | rfl); (case ha => simp only [Act.put, List.setIfInBounds_toArray, List.set_cons_zero, List.set_cons_succ]; rfl)))
              obtain ⟨qc, hqc⟩ : ∃ q, q = y2.heap.size := ⟨_, rfl⟩
              obtain ⟨qcc, hqcc⟩ : ∃ q, q = grownCap (y2) (c.b).length 0 5 := ⟨_, rfl⟩
              obtain ⟨ntc, hntc⟩ : ∃ q, q = (c.b).length := ⟨_, rfl⟩
              obtain ⟨y3, hwc⟩ : ∃ W, Hid (W = Lib.bytesWorld (y2) 5 ⟨(c.b).toArray⟩) := ⟨_, show _ = _ from rfl⟩
              have HFcc : Hid (Fr No (y2) y3) := (show Fr No _ _ from by rw [hwc.out]; exact bw_fr _ _ _)
              have HRBcc : Hid (Rb y3 (fun k => (y2).heap.size ≤ k ∧ k < y3.heap.size) (.slice (some ⟨qc, 0, none⟩) ntc qcc) (c.b)) := (show Rb _ _ _ _ from by
                have h1 : y3.heap.size = (y2).heap.size + 1 := by rw [hwc.out]; exact Lib.bytesWorld_size _ _ _
                have h2 : Rb y3 (fun k => k = (y2).heap.size) (.slice (some ⟨qc, 0, none⟩) ntc qcc) (c.b) := by rw [hwc.out, hqc, hqcc, hntc]; exact bw_rb _ _ HTXC.out
                exact h2.mono (fun k hk => by have h' : k = (y2).heap.size := hk; exact ⟨by omega, by omega⟩))
              have HScc : Hid (O15 bp s1 (.slice As1 ns1 cq1) (.slice Al1 nl1 cl1) vb b5 o5 c6 c.kind c.term c.vote c.at_ c.b A5 n5 c5 y3) := (show O15 bp s1 (.slice As1 ns1 cq1) (.slice Al1 nl1 cl1) vb b5 o5 c6 c.kind c.term c.vote c.at_ c.b A5 n5 c5 y3 from HSa.out.fr HFcc.out (fun h => h) (fun h => h) (fun h => h))
              refine pl_value (v := .slice (some ⟨qc, 0, none⟩) ntc qcc) (w1 := y3) (a' := ?_) rfl rfl (by rfl) ?hr (fun _ => HScc.out) ?ha ?_
              case hr =>
                have h1 := Lib.run_convert_string_bytes (P := Try.prog) (y2) 9 22 5 ⟨(c.b).toArray⟩ Try.underlying9 Try.underlying22 Try.underlying5
                rw [← hwc.out, ← hqc, show (⟨(c.b).toArray⟩ : ByteArray).size = ntc from by rw [hntc]; exact List.size_toArray .., hntc, ← hqcc, ← hntc] at h1
                first | exact h1 | (unfold execOp; exact h1) | (unfold execOp; simp [Act.eval, h1])
              case ha => simp only [Act.put, List.setIfInBounds_toArray, List.set_cons_zero, List.set_cons_succ]; rfl
              clear hqc hqcc hntc
              repeat (first
                | (refine pl_off (a' := ?_) rfl rfl (by rfl) (fun _ => (HScc).out) ?ha ?_; (case ha => simp only [Act.put, List.setIfInBounds_toArray, List.set_cons_zero, List.set_cons_succ]; rfl))
                | (refine pl_any (v := ?_) (a' := ?_) rfl rfl rfl (by rfl) (fun W => ?hr) ?ha ?_; (case hr => go_simp; first | done | rfl); (case ha => simp only [Act.put, List.setIfInBounds_toArray, List.set_cons_zero, List.set_cons_succ]; rfl))
                | (refine pl_load (v := ?_) (a' := ?_) rfl rfl rfl (by rfl) (fun W hSW => ?hr) (HScc).out ?ha ?_; (case hr => (try dsimp only at hSW); go_simp; first | done | rfl); (case ha => simp only [Act.put, List.setIfInBounds_toArray, List.set_cons_zero, List.set_cons_succ]; rfl)))
              refine pl_call rfl rfl (by rfl) rfl Try.func60 rfl rfl [.agg #[.int .i64 s1.term, .int .i64 s1.vote, .int .i64 s1.base, .int .i64 s1.bterm, .slice As1 ns1 cq1, .slice Al1 nl1 cl1], .agg #[.int .i64 c.kind, .int .i64 c.term, .int .i64 c.vote, .int .i64 c.at_, .slice Att mtt ctt, .slice (some ⟨qc, 0, none⟩) ntc qcc]] rfl ?_
              have hnx := snext_any (w := y3) (s := s1) (c := c) (F' := fun _ => True) (HKV.out.fr (((HFtt.out).then HFa.out).then HFcc.out) (fun _ _ _ h => h)) ⟨_, rfl, ⟨_, _, rfl, (HROWtt.out.fr (by decide) ((HFa.out).then HFcc.out) (fun _ _ _ h => h)).mono (fun _ _ => trivial), (HRBcc.out.fr (Fr.refl No _) (fun _ _ _ h => h)).mono (fun _ _ => trivial), HCI.out.1, HCI.out.2.1, HCI.out.2.2.1, HCI.out.2.2.2⟩⟩ HOK1.out HCL.out
              rw [HNX.out] at hnx
              refine hnx.mono ?_
              clear hnx
              rintro e y4 ⟨v2, rfl, hkv2, hf2⟩
              obtain ⟨t2, o2, b2, e2, As2, ns2, cs2, Al2, nl2, cl2, rfl⟩ := hkv2.sh
              have HKVn := Lib.hid hkv2.bound
              have HFn : Hid (Fr No (y3) y4) := (show Fr No _ _ from hf2)
              have HSn : Hid (O15 bp s1 (.slice As1 ns1 cq1) (.slice Al1 nl1 cl1) vb b5 o5 c6 c.kind c.term c.vote c.at_ c.b A5 n5 c5 y4) := (show O15 bp s1 (.slice As1 ns1 cq1) (.slice Al1 nl1 cl1) vb b5 o5 c6 c.kind c.term c.vote c.at_ c.b A5 n5 c5 y4 from HScc.out.fr hf2 (fun h => h) (fun h => h) (fun h => h))
              refine ⟨_, rfl, fun _ => HSn.out, ?_⟩
              simp only [Act.put, List.setIfInBounds_toArray, List.set_cons_zero, List.set_cons_succ, Option.isSome_some, if_true]
              clear hkv2 hf2
              repeat (first
                | (refine pl_off (a' := ?_) rfl rfl (by rfl) (fun _ => (HSn).out) ?ha ?_; (case ha => simp only [Act.put, List.setIfInBounds_toArray, List.set_cons_zero, List.set_cons_succ]; rfl))
                | (refine pl_any (v := ?_) (a' := ?_) rfl rfl rfl (by rfl) (fun W => ?hr) ?ha ?_; (case hr => go_simp; first | done | rfl); (case ha => simp only [Act.put, List.setIfInBounds_toArray, List.set_cons_zero, List.set_cons_succ]; rfl))
                | (refine pl_load (v := ?_) (a' := ?_) rfl rfl rfl (by rfl) (fun W hSW => ?hr) (HSn).out ?ha ?_; (case hr => (try dsimp only at hSW); go_simp; first | done | rfl); (case ha => simp only [Act.put, List.setIfInBounds_toArray, List.set_cons_zero, List.set_cons_succ]; rfl)))
              have HSIx : Hid (SIs y4 nb 0 0 0 0 (.slice none 0 0) (.slice none 0 0)) := (show SIs _ _ _ _ _ _ _ _ from ((HFcc.out).then HFn.out).heap HSIa.out (fun h => h))
              have hz0 : (wa.drew).heap.size ≤ (y1).heap.size := HFtt.out.size
              have hz1 : (y1).heap.size ≤ (y2).heap.size := HFa.out.size
              have hz2 : (y2).heap.size ≤ (y3).heap.size := HFcc.out.size
              have hz3 : (y3).heap.size ≤ (y4).heap.size := HFn.out.size
              have hnbb := HNBB.out
              have hwd : wa.drew.heap.size = wa.heap.size := rfl
              have HNB1 : Hid (wa.heap.size ≤ nb) := (show _ ≤ _ from by omega)
              obtain ⟨r0, r1, r2, r3, r4, r5⟩ := s_cells HSIx.out
              have z0 := s_free HSIx.out 0
              have z1 := s_free HSIx.out 1
              have z2 := s_free HSIx.out 2
              have z3 := s_free HSIx.out 3
              have z4 := s_free HSIx.out 4
              have z5 := s_free HSIx.out 5
              obtain ⟨y5, hws⟩ : ∃ W, Hid (W = back6 y4 nb t2 o2 b2 e2 (.slice As2 ns2 cs2) (.slice Al2 nl2 cl2)) := ⟨_, show _ = _ from rfl⟩
              have HSIy : Hid (SIs y5 nb t2 o2 b2 e2 (.slice As2 ns2 cs2) (.slice Al2 nl2 cl2)) := (show SIs _ _ _ _ _ _ _ _ from by rw [hws.out]; exact back6_s HSIx.out)
              have HFs : Hid (Fr (fun q => q = nb) y4 y5) := (show Fr _ _ _ from by rw [hws.out]; exact back6_fr _ _ _ _ _ _ _ _)
              have HSs : Hid (O15 bp s1 (.slice As1 ns1 cq1) (.slice Al1 nl1 cl1) vb b5 o5 c6 c.kind c.term c.vote c.at_ c.b A5 n5 c5 y5) := (show O15 bp s1 (.slice As1 ns1 cq1) (.slice Al1 nl1 cl1) vb b5 o5 c6 c.kind c.term c.vote c.at_ c.b A5 n5 c5 y5 from HSn.out.fr HFs.out (fun h => by have h' : vb = nb := h; have := HNB1.out; have := HLTS.out; omega) (fun h => by have h' : b5 = nb := h; have := HNB1.out; have := HLTS.out; omega) (fun h => by have h' : bp = nb := h; have := HNB1.out; have := HLTS.out; omega))
              unfold back6 at hws
              clear hnbb hwd hz0 hz1 hz2 hz3
              refine pl_store (w1 := y5) rfl rfl (by rfl) rfl ?hr (fun _ => HSs.out) ?_
              case hr => rw [hws.out]; go_simp; first | done | rfl | (constructor <;> rfl)
              clear r0 r1 r2 r3 r4 r5 z0 z1 z2 z3 z4 z5
              repeat (first
                | (refine pl_off (a' := ?_) rfl rfl (by rfl) (fun _ => (HSs).out) ?ha ?_; (case ha => simp only [Act.put, List.setIfInBounds_toArray, List.set_cons_zero, List.set_cons_succ]; rfl))
                | (refine pl_any (v := ?_) (a' := ?_) rfl rfl rfl (by rfl) (fun W => ?hr) ?ha ?_; (case hr => go_simp; first | done | rfl); (case ha => simp only [Act.put, List.setIfInBounds_toArray, List.set_cons_zero, List.set_cons_succ]; rfl))
                | (refine pl_load (v := ?_) (a' := ?_) rfl rfl rfl (by rfl) (fun W hSW => ?hr) (HSs).out ?ha ?_; (case hr => (try dsimp only at hSW); go_simp; first | done | rfl); (case ha => simp only [Act.put, List.setIfInBounds_toArray, List.set_cons_zero, List.set_cons_succ]; rfl)))
              refine pl_done ?_
              go_wp2_with fail
              go_meet
              case rel =>
                have hz0 : (wa.drew).heap.size ≤ (y1).heap.size := HFtt.out.size
                have hz1 : (y1).heap.size ≤ (y2).heap.size := HFa.out.size
                have hz2 : (y2).heap.size ≤ (y3).heap.size := HFcc.out.size
                have hz3 : (y3).heap.size ≤ (y4).heap.size := HFn.out.size
                have hnbb := HNBB.out
                have hwd : wa.drew.heap.size = wa.heap.size := rfl
                have hss := HFs.out.size
                have hnlt := heap_lt HSIa.out
                have hwn : Fr No wa y4 := (show Fr No wa wa.drew from (Fr.refl No _).drew).then ((((HFtt.out).then HFa.out).then HFcc.out).then HFn.out)
                refine ⟨nb, t2, o2, b2, e2, As2, ns2, cs2, Al2, nl2, cl2, rfl, rfl, Lib.hid (show DoMid _ _ _ _ _ _ _ _ _ _ from ⟨by omega, HSIy.out, hwn.trans HFs.out (fun _ _ h => h) (fun q hq h => by have h' : q = nb := h; omega), ?_⟩)⟩
                refine (HKVn.out.fr ((Fr.refl No _).trans HFs.out (U := fun q => q = nb) (fun _ _ h => h.elim) (fun _ _ h => h)) (fun k _ hk h => by have h' : k = nb := h; have h1 : (y3).heap.size ≤ k := hk.1; have h2 := hk.2; omega)).mono (fun k hk => ?_)
                have h1 : (y3).heap.size ≤ k := hk.1
                have h2 := hk.2
                exact ⟨by omega, by omega, by omega⟩
          · obtain ⟨nb, hnb⟩ : ∃ b, b = (wa.drew).heap.size := ⟨_, rfl⟩
            have HNBB := Lib.hid hnb
            obtain ⟨y1, hwa⟩ : ∃ W, Hid (W = (wa.drew).alloc (.cells #[.int .i64 0, .int .i64 0, .int .i64 0, .int .i64 0, .slice none 0 0, .slice none 0 0] 68 (0, 0))) := ⟨_, show _ = _ from rfl⟩
            have hs3 : SIs y1 nb 0 0 0 0 (.slice none 0 0) (.slice none 0 0) := by rw [hwa.out, hnb]; exact blk_new _ _
            have HFa : Hid (Fr No (wa.drew) y1) := (show Fr No _ _ from by rw [hwa.out]; exact (Fr.refl No _).alloc _)
            have HSa : Hid (O15 bp s1 (.slice As1 ns1 cq1) (.slice Al1 nl1 cl1) vb b5 o5 c6 c.kind c.term c.vote c.at_ c.b A5 n5 c5 y1) := (show O15 bp s1 (.slice As1 ns1 cq1) (.slice Al1 nl1 cl1) vb b5 o5 c6 c.kind c.term c.vote c.at_ c.b A5 n5 c5 y1 from HS.out.fr HFa.out (fun h => h) (fun h => h) (fun h => h))
            have HSIa := Lib.hid hs3
            refine pl_value (v := .pointer (some ⟨nb, 0, none⟩)) (w1 := y1) (a' := ?_) rfl rfl (by rfl) ?hr (fun _ => HSa.out) ?ha ?_
            case hr => rw [hnb, hwa.out]; go_simp; first | done | rfl
            case ha => simp only [Act.put, List.setIfInBounds_toArray, List.set_cons_zero, List.set_cons_succ]; rfl
            clear hs3 hnb
            repeat (first
              | (refine pl_off (a' := ?_) rfl rfl (by rfl) (fun _ => (HSa).out) ?ha ?_; (case ha => simp only [Act.put, List.setIfInBounds_toArray, List.set_cons_zero, List.set_cons_succ]; rfl))
              | (refine pl_any (v := ?_) (a' := ?_) rfl rfl rfl (by rfl) (fun W => ?hr) ?ha ?_; (case hr => go_simp; first | done | rfl); (case ha => simp only [Act.put, List.setIfInBounds_toArray, List.set_cons_zero, List.set_cons_succ]; rfl))
              | (refine pl_load (v := ?_) (a' := ?_) rfl rfl rfl (by rfl) (fun W hSW => ?hr) (HSa).out ?ha ?_; (case hr => (try dsimp only at hSW); go_simp; first | done | rfl); (case ha => simp only [Act.put, List.setIfInBounds_toArray, List.set_cons_zero, List.set_cons_succ]; rfl)))
            refine pl_alt rfl ?_ (pl_alt rfl ?_ (pl_end))
            · obtain ⟨qc, hqc⟩ : ∃ q, q = y1.heap.size := ⟨_, rfl⟩
              obtain ⟨qcc, hqcc⟩ : ∃ q, q = grownCap (y1) (c.b).length 0 5 := ⟨_, rfl⟩
              obtain ⟨ntc, hntc⟩ : ∃ q, q = (c.b).length := ⟨_, rfl⟩
              obtain ⟨y2, hwc⟩ : ∃ W, Hid (W = Lib.bytesWorld (y1) 5 ⟨(c.b).toArray⟩) := ⟨_, show _ = _ from rfl⟩
              have HFcc : Hid (Fr No (y1) y2) := (show Fr No _ _ from by rw [hwc.out]; exact bw_fr _ _ _)
              have HRBcc : Hid (Rb y2 (fun k => (y1).heap.size ≤ k ∧ k < y2.heap.size) (.slice (some ⟨qc, 0, none⟩) ntc qcc) (c.b)) := (show Rb _ _ _ _ from by
                have h1 : y2.heap.size = (y1).heap.size + 1 := by rw [hwc.out]; exact Lib.bytesWorld_size _ _ _
                have h2 : Rb y2 (fun k => k = (y1).heap.size) (.slice (some ⟨qc, 0, none⟩) ntc qcc) (c.b) := by rw [hwc.out, hqc, hqcc, hntc]; exact bw_rb _ _ HTXC.out
                exact h2.mono (fun k hk => by have h' : k = (y1).heap.size := hk; exact ⟨by omega, by omega⟩))
              have HScc : Hid (O15 bp s1 (.slice As1 ns1 cq1) (.slice Al1 nl1 cl1) vb b5 o5 c6 c.kind c.term c.vote c.at_ c.b A5 n5 c5 y2) := (show O15 bp s1 (.slice As1 ns1 cq1) (.slice Al1 nl1 cl1) vb b5 o5 c6 c.kind c.term c.vote c.at_ c.b A5 n5 c5 y2 from HSa.out.fr HFcc.out (fun h => h) (fun h => h) (fun h => h))
              refine pl_value (v := .slice (some ⟨qc, 0, none⟩) ntc qcc) (w1 := y2) (a' := ?_) rfl rfl (by rfl) ?hr (fun _ => HScc.out) ?ha ?_
              case hr =>
                have h1 := Lib.run_convert_string_bytes (P := Try.prog) (y1) 9 22 5 ⟨(c.b).toArray⟩ Try.underlying9 Try.underlying22 Try.underlying5
                rw [← hwc.out, ← hqc, show (⟨(c.b).toArray⟩ : ByteArray).size = ntc from by rw [hntc]; exact List.size_toArray .., hntc, ← hqcc, ← hntc] at h1
                first | exact h1 | (unfold execOp; exact h1) | (unfold execOp; simp [Act.eval, h1])
              case ha => simp only [Act.put, List.setIfInBounds_toArray, List.set_cons_zero, List.set_cons_succ]; rfl
              clear hqc hqcc hntc
              repeat (first
                | (refine pl_off (a' := ?_) rfl rfl (by rfl) (fun _ => (HScc).out) ?ha ?_; (case ha => simp only [Act.put, List.setIfInBounds_toArray, List.set_cons_zero, List.set_cons_succ]; rfl))
                | (refine pl_any (v := ?_) (a' := ?_) rfl rfl rfl (by rfl) (fun W => ?hr) ?ha ?_; (case hr => go_simp; first | done | rfl); (case ha => simp only [Act.put, List.setIfInBounds_toArray, List.set_cons_zero, List.set_cons_succ]; rfl))
                | (refine pl_load (v := ?_) (a' := ?_) rfl rfl rfl (by rfl) (fun W hSW => ?hr) (HScc).out ?ha ?_; (case hr => (try dsimp only at hSW); go_simp; first | done | rfl); (case ha => simp only [Act.put, List.setIfInBounds_toArray, List.set_cons_zero, List.set_cons_succ]; rfl)))
              refine pl_call rfl rfl (by rfl) rfl Try.func85 rfl rfl [.agg #[.int .i64 3, .int .i64 0, .string ⟨#[]⟩, .slice A5 n5 c5]] rfl ?_
              refine (taken_any (w := y2) (l := c.l) (HITC.out.fr ((HFa.out).then HFcc.out) (fun _ _ _ h => h)) HESC.out.1 HESC.out.2).mono ?_
              rintro e y3 ⟨vtt, rfl, hrowt, hftt⟩
              obtain ⟨Att, ctt, rfl, _, _⟩ := hrowt.shape
              obtain ⟨mtt, hmtt⟩ : ∃ m, m = (c.l).length := ⟨_, rfl⟩
              rw [← hmtt] at hrowt ⊢
              have HFtt : Hid (Fr No (y2) y3) := (show Fr No _ _ from hftt)
              have HROWtt : Hid (Row EnK y3 (fun k => (y2).heap.size ≤ k ∧ k < y3.heap.size) (.slice Att mtt ctt) (c.l)) := (show Row _ _ _ _ _ from hrowt.bound (by decide))
              have HStt : Hid (O15 bp s1 (.slice As1 ns1 cq1) (.slice Al1 nl1 cl1) vb b5 o5 c6 c.kind c.term c.vote c.at_ c.b A5 n5 c5 y3) := (show O15 bp s1 (.slice As1 ns1 cq1) (.slice Al1 nl1 cl1) vb b5 o5 c6 c.kind c.term c.vote c.at_ c.b A5 n5 c5 y3 from HScc.out.fr hftt (fun h => h) (fun h => h) (fun h => h))
              refine ⟨_, rfl, fun _ => HStt.out, ?_⟩
              simp only [Act.put, List.setIfInBounds_toArray, List.set_cons_zero, List.set_cons_succ]
              clear hrowt hftt hmtt
              repeat (first
                | (refine pl_off (a' := ?_) rfl rfl (by rfl) (fun _ => (HStt).out) ?ha ?_; (case ha => simp only [Act.put, List.setIfInBounds_toArray, List.set_cons_zero, List.set_cons_succ]; rfl))
                | (refine pl_any (v := ?_) (a' := ?_) rfl rfl rfl (by rfl) (fun W => ?hr) ?ha ?_; (case hr => go_simp; first | done | rfl); (case ha => simp only [Act.put, List.setIfInBounds_toArray, List.set_cons_zero, List.set_cons_succ]; rfl))
                | (refine pl_load (v := ?_) (a' := ?_) rfl rfl rfl (by rfl) (fun W hSW => ?hr) (HStt).out ?ha ?_; (case hr => (try dsimp only at hSW); go_simp; first | done | rfl); (case ha => simp only [Act.put, List.setIfInBounds_toArray, List.set_cons_zero, List.set_cons_succ]; rfl)))
              refine pl_call rfl rfl (by rfl) rfl Try.func60 rfl rfl [.agg #[.int .i64 s1.term, .int .i64 s1.vote, .int .i64 s1.base, .int .i64 s1.bterm, .slice As1 ns1 cq1, .slice Al1 nl1 cl1], .agg #[.int .i64 c.kind, .int .i64 c.term, .int .i64 c.vote, .int .i64 c.at_, .slice Att mtt ctt, .slice (some ⟨qc, 0, none⟩) ntc qcc]] rfl ?_
              have hnx := snext_any (w := y3) (s := s1) (c := c) (F' := fun _ => True) (HKV.out.fr (((HFa.out).then HFcc.out).then HFtt.out) (fun _ _ _ h => h)) ⟨_, rfl, ⟨_, _, rfl, (HROWtt.out.fr (by decide) (Fr.refl No _) (fun _ _ _ h => h)).mono (fun _ _ => trivial), (HRBcc.out.fr (HFtt.out) (fun _ _ _ h => h)).mono (fun _ _ => trivial), HCI.out.1, HCI.out.2.1, HCI.out.2.2.1, HCI.out.2.2.2⟩⟩ HOK1.out HCL.out
              rw [HNX.out] at hnx
              refine hnx.mono ?_
              clear hnx
              rintro e y4 ⟨v2, rfl, hkv2, hf2⟩
              obtain ⟨t2, o2, b2, e2, As2, ns2, cs2, Al2, nl2, cl2, rfl⟩ := hkv2.sh
              have HKVn := Lib.hid hkv2.bound
              have HFn : Hid (Fr No (y3) y4) := (show Fr No _ _ from hf2)
              have HSn : Hid (O15 bp s1 (.slice As1 ns1 cq1) (.slice Al1 nl1 cl1) vb b5 o5 c6 c.kind c.term c.vote c.at_ c.b A5 n5 c5 y4) := (show O15 bp s1 (.slice As1 ns1 cq1) (.slice Al1 nl1 cl1) vb b5 o5 c6 c.kind c.term c.vote c.at_ c.b A5 n5 c5 y4 from HStt.out.fr hf2 (fun h => h) (fun h => h) (fun h => h))
              refine ⟨_, rfl, fun _ => HSn.out, ?_⟩
              simp only [Act.put, List.setIfInBounds_toArray, List.set_cons_zero, List.set_cons_succ, Option.isSome_some, if_true]
              clear hkv2 hf2
              repeat (first
                | (refine pl_off (a' := ?_) rfl rfl (by rfl) (fun _ => (HSn).out) ?ha ?_; (case ha => simp only [Act.put, List.setIfInBounds_toArray, List.set_cons_zero, List.set_cons_succ]; rfl))
                | (refine pl_any (v := ?_) (a' := ?_) rfl rfl rfl (by rfl) (fun W => ?hr) ?ha ?_; (case hr => go_simp; first | done | rfl); (case ha => simp only [Act.put, List.setIfInBounds_toArray, List.set_cons_zero, List.set_cons_succ]; rfl))
                | (refine pl_load (v := ?_) (a' := ?_) rfl rfl rfl (by rfl) (fun W hSW => ?hr) (HSn).out ?ha ?_; (case hr => (try dsimp only at hSW); go_simp; first | done | rfl); (case ha => simp only [Act.put, List.setIfInBounds_toArray, List.set_cons_zero, List.set_cons_succ]; rfl)))
              have HSIx : Hid (SIs y4 nb 0 0 0 0 (.slice none 0 0) (.slice none 0 0)) := (show SIs _ _ _ _ _ _ _ _ from (((HFcc.out).then HFtt.out).then HFn.out).heap HSIa.out (fun h => h))
              have hz0 : (wa.drew).heap.size ≤ (y1).heap.size := HFa.out.size
              have hz1 : (y1).heap.size ≤ (y2).heap.size := HFcc.out.size
              have hz2 : (y2).heap.size ≤ (y3).heap.size := HFtt.out.size
              have hz3 : (y3).heap.size ≤ (y4).heap.size := HFn.out.size
              have hnbb := HNBB.out
              have hwd : wa.drew.heap.size = wa.heap.size := rfl
              have HNB1 : Hid (wa.heap.size ≤ nb) := (show _ ≤ _ from by omega)
              obtain ⟨r0, r1, r2, r3, r4, r5⟩ := s_cells HSIx.out
              have z0 := s_free HSIx.out 0
              have z1 := s_free HSIx.out 1
              have z2 := s_free HSIx.out 2
              have z3 := s_free HSIx.out 3
              have z4 := s_free HSIx.out 4
              have z5 := s_free HSIx.out 5
              obtain ⟨y5, hws⟩ : ∃ W, Hid (W = back6 y4 nb t2 o2 b2 e2 (.slice As2 ns2 cs2) (.slice Al2 nl2 cl2)) := ⟨_, show _ = _ from rfl⟩
              have HSIy : Hid (SIs y5 nb t2 o2 b2 e2 (.slice As2 ns2 cs2) (.slice Al2 nl2 cl2)) := (show SIs _ _ _ _ _ _ _ _ from by rw [hws.out]; exact back6_s HSIx.out)
              have HFs : Hid (Fr (fun q => q = nb) y4 y5) := (show Fr _ _ _ from by rw [hws.out]; exact back6_fr _ _ _ _ _ _ _ _)
              have HSs : Hid (O15 bp s1 (.slice As1 ns1 cq1) (.slice Al1 nl1 cl1) vb b5 o5 c6 c.kind c.term c.vote c.at_ c.b A5 n5 c5 y5) := (show O15 bp s1 (.slice As1 ns1 cq1) (.slice Al1 nl1 cl1) vb b5 o5 c6 c.kind c.term c.vote c.at_ c.b A5 n5 c5 y5 from HSn.out.fr HFs.out (fun h => by have h' : vb = nb := h; have := HNB1.out; have := HLTS.out; omega) (fun h => by have h' : b5 = nb := h; have := HNB1.out; have := HLTS.out; omega) (fun h => by have h' : bp = nb := h; have := HNB1.out; have := HLTS.out; omega))
              unfold back6 at hws
              clear hnbb hwd hz0 hz1 hz2 hz3
              refine pl_store (w1 := y5) rfl rfl (by rfl) rfl ?hr (fun _ => HSs.out) ?_
              case hr => rw [hws.out]; go_simp; first | done | rfl | (constructor <;> rfl)
              clear r0 r1 r2 r3 r4 r5 z0 z1 z2 z3 z4 z5
              repeat (first
                | (refine pl_off (a' := ?_) rfl rfl (by rfl) (fun _ => (HSs).out) ?ha ?_; (case ha => simp only [Act.put, List.setIfInBounds_toArray, List.set_cons_zero, List.set_cons_succ]; rfl))
                | (refine pl_any (v := ?_) (a' := ?_) rfl rfl rfl (by rfl) (fun W => ?hr) ?ha ?_; (case hr => go_simp; first | done | rfl); (case ha => simp only [Act.put, List.setIfInBounds_toArray, List.set_cons_zero, List.set_cons_succ]; rfl))
                | (refine pl_load (v := ?_) (a' := ?_) rfl rfl rfl (by rfl) (fun W hSW => ?hr) (HSs).out ?ha ?_; (case hr => (try dsimp only at hSW); go_simp; first | done | rfl); (case ha => simp only [Act.put, List.setIfInBounds_toArray, List.set_cons_zero, List.set_cons_succ]; rfl)))
              refine pl_done ?_
              go_wp2_with fail
              go_meet
              case rel =>
                have hz0 : (wa.drew).heap.size ≤ (y1).heap.size := HFa.out.size
                have hz1 : (y1).heap.size ≤ (y2).heap.size := HFcc.out.size
                have hz2 : (y2).heap.size ≤ (y3).heap.size := HFtt.out.size
                have hz3 : (y3).heap.size ≤ (y4).heap.size := HFn.out.size
                have hnbb := HNBB.out
                have hwd : wa.drew.heap.size = wa.heap.size := rfl
                have hss := HFs.out.size
                have hnlt := heap_lt HSIa.out
                have hwn : Fr No wa y4 := (show Fr No wa wa.drew from (Fr.refl No _).drew).then ((((HFa.out).then HFcc.out).then HFtt.out).then HFn.out)
                refine ⟨nb, t2, o2, b2, e2, As2, ns2, cs2, Al2, nl2, cl2, rfl, rfl, Lib.hid (show DoMid _ _ _ _ _ _ _ _ _ _ from ⟨by omega, HSIy.out, hwn.trans HFs.out (fun _ _ h => h) (fun q hq h => by have h' : q = nb := h; omega), ?_⟩)⟩
                refine (HKVn.out.fr ((Fr.refl No _).trans HFs.out (U := fun q => q = nb) (fun _ _ h => h.elim) (fun _ _ h => h)) (fun k _ hk h => by have h' : k = nb := h; have h1 : (y3).heap.size ≤ k := hk.1; have h2 := hk.2; omega)).mono (fun k hk => ?_)
                have h1 : (y3).heap.size ≤ k := hk.1
                have h2 := hk.2
                exact ⟨by omega, by omega, by omega⟩
            · refine pl_call rfl rfl (by rfl) rfl Try.func85 rfl rfl [.agg #[.int .i64 3, .int .i64 0, .string ⟨#[]⟩, .slice A5 n5 c5]] rfl ?_
              refine (taken_any (w := y1) (l := c.l) (HITC.out.fr (HFa.out) (fun _ _ _ h => h)) HESC.out.1 HESC.out.2).mono ?_
              rintro e y2 ⟨vtt, rfl, hrowt, hftt⟩
              obtain ⟨Att, ctt, rfl, _, _⟩ := hrowt.shape
              obtain ⟨mtt, hmtt⟩ : ∃ m, m = (c.l).length := ⟨_, rfl⟩
              rw [← hmtt] at hrowt ⊢
              have HFtt : Hid (Fr No (y1) y2) := (show Fr No _ _ from hftt)
              have HROWtt : Hid (Row EnK y2 (fun k => (y1).heap.size ≤ k ∧ k < y2.heap.size) (.slice Att mtt ctt) (c.l)) := (show Row _ _ _ _ _ from hrowt.bound (by decide))
              have HStt : Hid (O15 bp s1 (.slice As1 ns1 cq1) (.slice Al1 nl1 cl1) vb b5 o5 c6 c.kind c.term c.vote c.at_ c.b A5 n5 c5 y2) := (show O15 bp s1 (.slice As1 ns1 cq1) (.slice Al1 nl1 cl1) vb b5 o5 c6 c.kind c.term c.vote c.at_ c.b A5 n5 c5 y2 from HSa.out.fr hftt (fun h => h) (fun h => h) (fun h => h))
              refine ⟨_, rfl, fun _ => HStt.out, ?_⟩
              simp only [Act.put, List.setIfInBounds_toArray, List.set_cons_zero, List.set_cons_succ]
              clear hrowt hftt hmtt
              repeat (first
                | (refine pl_off (a' := ?_) rfl rfl (by rfl) (fun _ => (HStt).out) ?ha ?_; (case ha => simp only [Act.put, List.setIfInBounds_toArray, List.set_cons_zero, List.set_cons_succ]; rfl))
                | (refine pl_any (v := ?_) (a' := ?_) rfl rfl rfl (by rfl) (fun W => ?hr) ?ha ?_; (case hr => go_simp; first | done | rfl); (case ha => simp only [Act.put, List.setIfInBounds_toArray, List.set_cons_zero, List.set_cons_succ]; rfl))
                | (refine pl_load (v := ?_) (a' := ?_) rfl rfl rfl (by rfl) (fun W hSW => ?hr) (HStt).out ?ha ?_; (case hr => (try dsimp only at hSW); go_simp; first | done | rfl); (case ha => simp only [Act.put, List.setIfInBounds_toArray, List.set_cons_zero, List.set_cons_succ]; rfl)))
              obtain ⟨qc, hqc⟩ : ∃ q, q = y2.heap.size := ⟨_, rfl⟩
              obtain ⟨qcc, hqcc⟩ : ∃ q, q = grownCap (y2) (c.b).length 0 5 := ⟨_, rfl⟩
              obtain ⟨ntc, hntc⟩ : ∃ q, q = (c.b).length := ⟨_, rfl⟩
              obtain ⟨y3, hwc⟩ : ∃ W, Hid (W = Lib.bytesWorld (y2) 5 ⟨(c.b).toArray⟩) := ⟨_, show _ = _ from rfl⟩
              have HFcc : Hid (Fr No (y2) y3) := (show Fr No _ _ from by rw [hwc.out]; exact bw_fr _ _ _)
              have HRBcc : Hid (Rb y3 (fun k => (y2).heap.size ≤ k ∧ k < y3.heap.size) (.slice (some ⟨qc, 0, none⟩) ntc qcc) (c.b)) := (show Rb _ _ _ _ from by
                have h1 : y3.heap.size = (y2).heap.size + 1 := by rw [hwc.out]; exact Lib.bytesWorld_size _ _ _
                have h2 : Rb y3 (fun k => k = (y2).heap.size) (.slice (some ⟨qc, 0, none⟩) ntc qcc) (c.b) := by rw [hwc.out, hqc, hqcc, hntc]; exact bw_rb _ _ HTXC.out
                exact h2.mono (fun k hk => by have h' : k = (y2).heap.size := hk; exact ⟨by omega, by omega⟩))
              have HScc : Hid (O15 bp s1 (.slice As1 ns1 cq1) (.slice Al1 nl1 cl1) vb b5 o5 c6 c.kind c.term c.vote c.at_ c.b A5 n5 c5 y3) := (show O15 bp s1 (.slice As1 ns1 cq1) (.slice Al1 nl1 cl1) vb b5 o5 c6 c.kind c.term c.vote c.at_ c.b A5 n5 c5 y3 from HStt.out.fr HFcc.out (fun h => h) (fun h => h) (fun h => h))
              refine pl_value (v := .slice (some ⟨qc, 0, none⟩) ntc qcc) (w1 := y3) (a' := ?_) rfl rfl (by rfl) ?hr (fun _ => HScc.out) ?ha ?_
              case hr =>
                have h1 := Lib.run_convert_string_bytes (P := Try.prog) (y2) 9 22 5 ⟨(c.b).toArray⟩ Try.underlying9 Try.underlying22 Try.underlying5
                rw [← hwc.out, ← hqc, show (⟨(c.b).toArray⟩ : ByteArray).size = ntc from by rw [hntc]; exact List.size_toArray .., hntc, ← hqcc, ← hntc] at h1
                first | exact h1 | (unfold execOp; exact h1) | (unfold execOp; simp [Act.eval, h1])
              case ha => simp only [Act.put, List.setIfInBounds_toArray, List.set_cons_zero, List.set_cons_succ]; rfl
              clear hqc hqcc hntc
              repeat (first
                | (refine pl_off (a' := ?_) rfl rfl (by rfl) (fun _ => (HScc).out) ?ha ?_; (case ha => simp only [Act.put, List.setIfInBounds_toArray, List.set_cons_zero, List.set_cons_succ]; rfl))
                | (refine pl_any (v := ?_) (a' := ?_) rfl rfl rfl (by rfl) (fun W => ?hr) ?ha ?_; (case hr => go_simp; first | done | rfl); (case ha => simp only [Act.put, List.setIfInBounds_toArray, List.set_cons_zero, List.set_cons_succ]; rfl))
                | (refine pl_load (v := ?_) (a' := ?_) rfl rfl rfl (by rfl) (fun W hSW => ?hr) (HScc).out ?ha ?_; (case hr => (try dsimp only at hSW); go_simp; first | done | rfl); (case ha => simp only [Act.put, List.setIfInBounds_toArray, List.set_cons_zero, List.set_cons_succ]; rfl)))
              refine pl_call rfl rfl (by rfl) rfl Try.func60 rfl rfl [.agg #[.int .i64 s1.term, .int .i64 s1.vote, .int .i64 s1.base, .int .i64 s1.bterm, .slice As1 ns1 cq1, .slice Al1 nl1 cl1], .agg #[.int .i64 c.kind, .int .i64 c.term, .int .i64 c.vote, .int .i64 c.at_, .slice Att mtt ctt, .slice (some ⟨qc, 0, none⟩) ntc qcc]] rfl ?_
              have hnx := snext_any (w := y3) (s := s1) (c := c) (F' := fun _ => True) (HKV.out.fr (((HFa.out).then HFtt.out).then HFcc.out) (fun _ _ _ h => h)) ⟨_, rfl, ⟨_, _, rfl, (HROWtt.out.fr (by decide) (HFcc.out) (fun _ _ _ h => h)).mono (fun _ _ => trivial), (HRBcc.out.fr (Fr.refl No _) (fun _ _ _ h => h)).mono (fun _ _ => trivial), HCI.out.1, HCI.out.2.1, HCI.out.2.2.1, HCI.out.2.2.2⟩⟩ HOK1.out HCL.out
              rw [HNX.out] at hnx
              refine hnx.mono ?_
              clear hnx
              rintro e y4 ⟨v2, rfl, hkv2, hf2⟩
              obtain ⟨t2, o2, b2, e2, As2, ns2, cs2, Al2, nl2, cl2, rfl⟩ := hkv2.sh
              have HKVn := Lib.hid hkv2.bound
              have HFn : Hid (Fr No (y3) y4) := (show Fr No _ _ from hf2)
              have HSn : Hid (O15 bp s1 (.slice As1 ns1 cq1) (.slice Al1 nl1 cl1) vb b5 o5 c6 c.kind c.term c.vote c.at_ c.b A5 n5 c5 y4) := (show O15 bp s1 (.slice As1 ns1 cq1) (.slice Al1 nl1 cl1) vb b5 o5 c6 c.kind c.term c.vote c.at_ c.b A5 n5 c5 y4 from HScc.out.fr hf2 (fun h => h) (fun h => h) (fun h => h))
              refine ⟨_, rfl, fun _ => HSn.out, ?_⟩
              simp only [Act.put, List.setIfInBounds_toArray, List.set_cons_zero, List.set_cons_succ, Option.isSome_some, if_true]
              clear hkv2 hf2
              repeat (first
                | (refine pl_off (a' := ?_) rfl rfl (by rfl) (fun _ => (HSn).out) ?ha ?_; (case ha => simp only [Act.put, List.setIfInBounds_toArray, List.set_cons_zero, List.set_cons_succ]; rfl))
                | (refine pl_any (v := ?_) (a' := ?_) rfl rfl rfl (by rfl) (fun W => ?hr) ?ha ?_; (case hr => go_simp; first | done | rfl); (case ha => simp only [Act.put, List.setIfInBounds_toArray, List.set_cons_zero, List.set_cons_succ]; rfl))
                | (refine pl_load (v := ?_) (a' := ?_) rfl rfl rfl (by rfl) (fun W hSW => ?hr) (HSn).out ?ha ?_; (case hr => (try dsimp only at hSW); go_simp; first | done | rfl); (case ha => simp only [Act.put, List.setIfInBounds_toArray, List.set_cons_zero, List.set_cons_succ]; rfl)))
              have HSIx : Hid (SIs y4 nb 0 0 0 0 (.slice none 0 0) (.slice none 0 0)) := (show SIs _ _ _ _ _ _ _ _ from (((HFtt.out).then HFcc.out).then HFn.out).heap HSIa.out (fun h => h))
              have hz0 : (wa.drew).heap.size ≤ (y1).heap.size := HFa.out.size
              have hz1 : (y1).heap.size ≤ (y2).heap.size := HFtt.out.size
              have hz2 : (y2).heap.size ≤ (y3).heap.size := HFcc.out.size
              have hz3 : (y3).heap.size ≤ (y4).heap.size := HFn.out.size
              have hnbb := HNBB.out
              have hwd : wa.drew.heap.size = wa.heap.size := rfl
              have HNB1 : Hid (wa.heap.size ≤ nb) := (show _ ≤ _ from by omega)
              obtain ⟨r0, r1, r2, r3, r4, r5⟩ := s_cells HSIx.out
              have z0 := s_free HSIx.out 0
              have z1 := s_free HSIx.out 1
              have z2 := s_free HSIx.out 2
              have z3 := s_free HSIx.out 3
              have z4 := s_free HSIx.out 4
              have z5 := s_free HSIx.out 5
              obtain ⟨y5, hws⟩ : ∃ W, Hid (W = back6 y4 nb t2 o2 b2 e2 (.slice As2 ns2 cs2) (.slice Al2 nl2 cl2)) := ⟨_, show _ = _ from rfl⟩
              have HSIy : Hid (SIs y5 nb t2 o2 b2 e2 (.slice As2 ns2 cs2) (.slice Al2 nl2 cl2)) := (show SIs _ _ _ _ _ _ _ _ from by rw [hws.out]; exact back6_s HSIx.out)
              have HFs : Hid (Fr (fun q => q = nb) y4 y5) := (show Fr _ _ _ from by rw [hws.out]; exact back6_fr _ _ _ _ _ _ _ _)
              have HSs : Hid (O15 bp s1 (.slice As1 ns1 cq1) (.slice Al1 nl1 cl1) vb b5 o5 c6 c.kind c.term c.vote c.at_ c.b A5 n5 c5 y5) := (show O15 bp s1 (.slice As1 ns1 cq1) (.slice Al1 nl1 cl1) vb b5 o5 c6 c.kind c.term c.vote c.at_ c.b A5 n5 c5 y5 from HSn.out.fr HFs.out (fun h => by have h' : vb = nb := h; have := HNB1.out; have := HLTS.out; omega) (fun h => by have h' : b5 = nb := h; have := HNB1.out; have := HLTS.out; omega) (fun h => by have h' : bp = nb := h; have := HNB1.out; have := HLTS.out; omega))
              unfold back6 at hws
              clear hnbb hwd hz0 hz1 hz2 hz3
              refine pl_store (w1 := y5) rfl rfl (by rfl) rfl ?hr (fun _ => HSs.out) ?_
              case hr => rw [hws.out]; go_simp; first | done | rfl | (constructor <;> rfl)
              clear r0 r1 r2 r3 r4 r5 z0 z1 z2 z3 z4 z5
              repeat (first
                | (refine pl_off (a' := ?_) rfl rfl (by rfl) (fun _ => (HSs).out) ?ha ?_; (case ha => simp only [Act.put, List.setIfInBounds_toArray, List.set_cons_zero, List.set_cons_succ]; rfl))
                | (refine pl_any (v := ?_) (a' := ?_) rfl rfl rfl (by rfl) (fun W => ?hr) ?ha ?_; (case hr => go_simp; first | done | rfl); (case ha => simp only [Act.put, List.setIfInBounds_toArray, List.set_cons_zero, List.set_cons_succ]; rfl))
                | (refine pl_load (v := ?_) (a' := ?_) rfl rfl rfl (by rfl) (fun W hSW => ?hr) (HSs).out ?ha ?_; (case hr => (try dsimp only at hSW); go_simp; first | done | rfl); (case ha => simp only [Act.put, List.setIfInBounds_toArray, List.set_cons_zero, List.set_cons_succ]; rfl)))
              refine pl_done ?_
              go_wp2_with fail
              go_meet
              case rel =>
                have hz0 : (wa.drew).heap.size ≤ (y1).heap.size := HFa.out.size
                have hz1 : (y1).heap.size ≤ (y2).heap.size := HFtt.out.size
                have hz2 : (y2).heap.size ≤ (y3).heap.size := HFcc.out.size
                have hz3 : (y3).heap.size ≤ (y4).heap.size := HFn.out.size
                have hnbb := HNBB.out
                have hwd : wa.drew.heap.size = wa.heap.size := rfl
                have hss := HFs.out.size
                have hnlt := heap_lt HSIa.out
                have hwn : Fr No wa y4 := (show Fr No wa wa.drew from (Fr.refl No _).drew).then ((((HFa.out).then HFtt.out).then HFcc.out).then HFn.out)
                refine ⟨nb, t2, o2, b2, e2, As2, ns2, cs2, Al2, nl2, cl2, rfl, rfl, Lib.hid (show DoMid _ _ _ _ _ _ _ _ _ _ from ⟨by omega, HSIy.out, hwn.trans HFs.out (fun _ _ h => h) (fun q hq h => by have h' : q = nb := h; omega), ?_⟩)⟩
                refine (HKVn.out.fr ((Fr.refl No _).trans HFs.out (U := fun q => q = nb) (fun _ _ h => h.elim) (fun _ _ h => h)) (fun k _ hk h => by have h' : k = nb := h; have h1 : (y3).heap.size ≤ k := hk.1; have h2 := hk.2; omega)).mono (fun k hk => ?_)
                have h1 : (y3).heap.size ≤ k := hk.1
                have h2 := hk.2
                exact ⟨by omega, by omega, by omega⟩
        case rest =>
          obtain ⟨nb, t2, o2, b2, e2, As2, ns2, cs2, Al2, nl2, cl2, rfl, rfl, HM⟩ := hcut
          obtain ⟨hM1, hM2, hM3, hM4⟩ := HM.out
          have HSTX : Hid (StAt wc X O R G bp (.pointer (some ⟨dp, 0, none⟩)) (.slice As1 ns1 cq1) (.slice Al1 nl1 cl1) ⟨d, s1, hh, p.length + (recC c).length, m⟩) := (show StAt _ _ _ _ _ _ _ _ _ _ from HSTa.out.no hM3)
          have HM2 := Lib.hid hM2
          have HM3 := Lib.hid hM3
          have HM4 : Hid (KV SvK wc (fun k => wa.heap.size ≤ k ∧ k ≠ nb ∧ k < wc.heap.size) (.agg #[.int .i64 t2, .int .i64 o2, .int .i64 b2, .int .i64 e2, .slice As2 ns2 cs2, .slice Al2 nl2 cl2]) s2) := (show KV _ _ _ _ _ from hM4)
          obtain ⟨r0, r1, r2, r3, r4, r5⟩ := s_cells hM2
          obtain ⟨_, g1, g2, g3', g4, g5, g6, _⟩ := st_cells HSTX.out.blk
          have z1 := st_free HSTX.out.blk 1
          have z2 := st_free HSTX.out.blk 2
          have z3 := st_free HSTX.out.blk 3
          have z4 := st_free HSTX.out.blk 4
          have z5 := st_free HSTX.out.blk 5
          have z6 := st_free HSTX.out.blk 6
          clear hM1 hM2 hM3 hM4
          go_wp2_with fail
          obtain ⟨h9, hf9⟩ := HSTX.out.save2 HM4.out (fun k hk => ⟨fun hx => by have := HSTa.out.lt k hx; have := hk.1; omega, hk.2.2⟩)
          have hlen2 : (p ++ recC c).length = p.length + (recC c).length := List.length_append ..
          have hfrx : Fr (fun q => q = bp) wr wc := HFr5.out.trans (HF6a.out.then HM3.out) (fun _ _ h => h) (fun _ _ h => h.elim)
          have hwr : w.heap.size ≤ wr.heap.size := HFR.out.size
          have hwa : wr.heap.size ≤ wa.heap.size := Nat.le_trans HFr5.out.size HF6a.out.size
          refine ⟨Lib.hid (show LoopRel _ _ _ _ _ _ _ _ _ _ _ _ _ from ⟨s2, r, p ++ recC c, _, _, _, _, by rw [hlen2]; exact h9, fun k hk => ?_, HFR.out.trans (hfrx.trans hf9 (fun _ _ h => h) (fun _ _ h => h)) (fun _ _ h => h) (fun k hk h => ?_), HGO2.out, HOK2.out, by rw [HLOG.out, logC_cons, List.append_assoc]⟩), ?_⟩
          · rcases hk with hk | hk
            · exact HX.out k hk
            · exact .inr (by have := hk.1; omega)
          · have h' : k = bp := h
            rcases HX.out k (by rw [h']; exact HST.out.top) with h2 | h2
            · exact h2
            · omega
          · have h8 := (st_cells h9.blk).2.2.2.2.2.2.2.2.1
            rw [HME.out]
            unfold meas
            rw [h8]
            show ((n : Int) - ((p.length + (recC c).length : Nat) : Int)).toNat < n - aa
            have := HLC.out
            have := HAA.out
            omega
end Go.Proofs.Ytbaohngnpgappaa
