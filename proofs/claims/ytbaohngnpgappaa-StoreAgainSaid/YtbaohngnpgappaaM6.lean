/- Joined texts: W36, W37, W38, W39. -/
import Derived.Test.YtbaohngnpgappaaM5
import Derived.Deep.Cut
import Derived.Deep.CutRange
import Derived.Handy
import Derived.Test.YtbaohngnpgappaaM4
set_option linter.unusedVariables false
set_option linter.unusedSimpArgs false
namespace Go.Proofs.Ytbaohngnpgappaa
open Go.RowKit
def ItemPost (w : World) (bp : Nat) (A : Option Addr) (n c : Nat) (x : It) (s : RS) (e : Ending) (w' : World) : Prop :=
  ∃ vv, e = .returned vv ∧ ItV w' (New w) vv x ∧ RdIs w' bp A n c s ∧ Fr (fun k => k = bp) w w'
/-- The item that is being read. -/
def VIs (w : World) (vb : Nat) (k n : Int) (s : List UInt8) (vl : Value) : Prop := w.heap[vb]? = some (.cells #[.int .i64 k, .int .i64 n, .string ⟨s.toArray⟩, vl] 48 (0, 0))
theorem v_cells {w : World} {vb : Nat} {k n : Int} {s : List UInt8} {vl : Value} (h : VIs w vb k n s vl) : w.cell? ⟨vb, 0, none⟩ = some (.int .i64 k) ∧ w.cell? ⟨vb, 1, none⟩ = some (.int .i64 n) ∧ w.cell? ⟨vb, 2, none⟩ = some (.string ⟨s.toArray⟩) ∧ w.cell? ⟨vb, 3, none⟩ = some vl :=
  ⟨blk_cell h 0, blk_cell h 1, blk_cell h 2, blk_cell h 3⟩
theorem v_free {w : World} {vb : Nat} {k n : Int} {s : List UInt8} {vl : Value} (h : VIs w vb k n s vl) (i : Nat) : w.frozen? ⟨vb, i, none⟩ = false := blk_free h i
theorem v_k {w : World} {vb : Nat} {k n : Int} {s : List UInt8} {vl : Value} (h : VIs w vb k n s vl) (z : Int) : VIs (w.setCell ⟨vb, 0, none⟩ (.int .i64 z)) vb z n s vl := blk_set h 0 _
theorem v_n {w : World} {vb : Nat} {k n : Int} {s : List UInt8} {vl : Value} (h : VIs w vb k n s vl) (z : Int) : VIs (w.setCell ⟨vb, 1, none⟩ (.int .i64 z)) vb k z s vl := blk_set h 1 _
theorem v_s {w : World} {vb : Nat} {k n : Int} {s : List UInt8} {vl : Value} (h : VIs w vb k n s vl) (z : List UInt8) : VIs (w.setCell ⟨vb, 2, none⟩ (.string ⟨z.toArray⟩)) vb k n z vl := blk_set h 2 _
theorem v_l {w : World} {vb : Nat} {k n : Int} {s : List UInt8} {vl : Value} (h : VIs w vb k n s vl) (z : Value) : VIs (w.setCell ⟨vb, 3, none⟩ z) vb k n s z := blk_set h 3 _
theorem nextsR_snoc (L : List UInt8) : ∀ (j : Nat) (s : RS), nextsR L (j + 1) s = ((nextsR L j s).1 ++ [(nextR L (nextsR L j s).2).1], (nextR L (nextsR L j s).2).2) := by
  intro j
  induction j with
  | zero => intro s; rfl
  | succ j ih =>
    intro s
    rw [nextsR, ih (nextR L s).2]
    rfl
theorem rdn_app (l : List UInt8) (c : UInt8) : rdn (l ++ [c]) = rdn l * 256 + c.toNat := by unfold rdn; rw [List.foldl_append]; rfl
theorem wrap_or (V c : Nat) (hc : c < 256) : bits .or .i64 (IntKind.i64.wrap (IntKind.i64.wrap (V : Int) * 256)) (c : Int) = IntKind.i64.wrap ((V * 256 + c : Nat) : Int) := by
  show IntKind.i64.wrap ((BitVec.ofInt 64 (IntKind.i64.wrap (IntKind.i64.wrap (V : Int) * 256)) ||| BitVec.ofInt 64 (c : Int)).toNat : Int) = _
  have h1 : (BitVec.ofInt 64 (IntKind.i64.wrap (IntKind.i64.wrap (V : Int) * 256))).toNat = 2 ^ 8 * (V % 2 ^ 56) := by
    rw [BitVec.toNat_ofInt, IntKind.wrap_i64, IntKind.wrap_i64]
    omega
  have h2 : (BitVec.ofInt 64 (c : Int)).toNat = c := by
    rw [BitVec.toNat_ofInt]
    omega
  rw [BitVec.toNat_or, h1, h2, ← Nat.two_pow_add_eq_or_of_lt (i := 8) (by omega), IntKind.wrap_i64, IntKind.wrap_i64]
  omega
theorem info48 : (Try.prog.info? 48).map (fun i => (i.zero, i.size, i.bytes)) = some (some (.agg #[.int .i64 0, .int .i64 0, .string ⟨#[]⟩, .slice none 0 0]), 4, 56) := by kernel_rfl
theorem cntR_le (L : List UInt8) : ∀ (f : Nat) (first : Bool) (n : Nat) (s : RS), (cntR L f first n s).1 ≤ 2147483647 := by
  intro f
  induction f with
  | zero => exact fun _ _ s => Nat.zero_le _
  | succ f ih =>
    intro first n s
    rw [cntR]
    split
    · exact Nat.zero_le _
    · split
      · exact Nat.zero_le _
      · rename_i h
        split
        · show n * 128 + (nextR L s).1.toNat % 128 ≤ 2147483647
          omega
        · exact ih _ _ _
theorem countR_le (L : List UInt8) (s : RS) : (countR L s).1 ≤ 2147483647 := cntR_le L _ _ _ s
def LF (w0 : World) (v : Value) : Nat → Prop := fun k => w0.heap.size ≤ k ∧ ¬ v.ownBlock = some k
/-- The world behind the last store. -/
def backW (w : World) (vb : Nat) (k n : Int) (s : List UInt8) (vl : Value) : World := (((w.setCell ⟨vb, 0, none⟩ (.int .i64 k)).setCell ⟨vb, 1, none⟩ (.int .i64 n)).setCell ⟨vb, 2, none⟩ (.string ⟨s.toArray⟩)).setCell ⟨vb, 3, none⟩ vl
theorem back_v {w : World} {vb : Nat} {k n : Int} {s : List UInt8} {vl : Value} (h : VIs w vb k n s vl) : VIs (backW w vb k n s vl) vb k n s vl := v_l (v_s (v_n (v_k h k) n) s) vl
theorem back_fr (w : World) (vb : Nat) (k n : Int) (s : List UInt8) (vl : Value) : Fr (fun q => q = vb) w (backW w vb k n s vl) := (((Fr.one _ _).then (Fr.one _ _)).then (Fr.one _ _)).then (Fr.one _ _)
theorem item_end {w w0 wz : World} {bp vb nn c : Nat} {A : Option Addr} {k n : Int} {s : List UInt8} {l : List It} {vl : Value} {t : RS} (hbp : bp < w.heap.size) (hvb : vb = w.heap.size) (hw0 : Fr No w w0) (hs0 : w0.heap.size = vb + 1) (hfit : Fits k n s)
    (hrow : Row ItK wz (New w0) vl l) (hrd : RdIs wz bp A nn c t) (hfr : Fr (fun q => q = bp ∨ q = vb) w0 wz) : ItemPost w bp A nn c (.mk k n s l) t (.returned (.agg #[.int .i64 k, .int .i64 n, .string ⟨s.toArray⟩, vl])) (backW wz vb k n s vl) := by
  have hb := back_fr wz vb k n s vl
  refine ⟨_, rfl, ⟨_, rfl, itR_of_row (s := s) ((hrow.fr (by decide) hb (fun q _ hq h => ?_)).mono (fun q hq => ?_)) hfit⟩, hb.heap hrd (fun h => by have h' : bp = vb := h; omega), ?_⟩
  · have h1 : w0.heap.size ≤ q := hq
    have h2 : q = vb := h
    omega
  · have h1 : w0.heap.size ≤ q := hq
    show w.heap.size ≤ q
    omega
  · refine hw0.trans (hfr.trans hb (U := fun q => q = bp ∨ q = vb) (fun _ _ h => h) (fun _ _ h => .inr h)) (fun _ _ h => h.elim) (fun q hq h => ?_)
    rcases h with h | h
    · exact h
    · omega
set_option maxRecDepth 100000 in
set_option maxHeartbeats 8000000 in
theorem item_any : ∀ (d : Nat) (w : World) (F : Nat → Prop) (bp c : Nat) (A : Option Addr) (L : List UInt8) (s : RS), Rb w F (.slice A L.length c) L → (∀ k, F k → ¬ k = bp) → RdIs w bp A L.length c s → s.at_ ≤ L.length → s.win ≤ 40 → 41 ≤ d + s.win → L.length ≤ 1099511627776 →
    Calls Try.prog 90 #[.pointer (some ⟨bp, 0, none⟩)] w (ItemPost w bp A L.length c (itemR L d s).1 (itemR L d s).2) := by
  intro d
  induction d with
  | zero => intro w F bp c A L s _ _ _ _ hw hd _; omega
  | succ d ih =>
    intro w F bp c A L s hr hF hs ha hwin hdw hl
    obtain ⟨a, wi, E⟩ := s
    simp only at ha hwin hdw
    obtain ⟨N, hN⟩ : ∃ N, N = L.length := ⟨_, rfl⟩
    have HN := Lib.hid hN
    have IH := Lib.hid ih
    have H : Hid (Rb w (fun k => F k ∧ k < w.heap.size) (.slice A L.length c) L) := (show Rb _ _ _ _ from hr.bound)
    have HF := Lib.hid hF
    have HL := Lib.hid hl
    have HCC : Hid (N ≤ c) := (show _ ≤ _ from by obtain ⟨_, _, he, h1, _⟩ := hr.shape; cases he; rw [hN]; exact h1)
    have hbp : bp < w.heap.size := heap_lt hs
    obtain ⟨X, hX⟩ : ∃ X, Hid (X = itemR L (d + 1) ⟨a, wi, E⟩) := ⟨_, show _ = _ from rfl⟩
    rw [← hX.out]
    obtain ⟨w0, hw0⟩ : ∃ w0, Hid (w0 = w.alloc (.cells #[.int .i64 0, .int .i64 0, .string ⟨#[]⟩, .slice none 0 0] 48 (0, 0))) := ⟨_, show _ = _ from rfl⟩
    have hf0 : Fr No w w0 := by rw [hw0.out]; exact (Fr.refl _ _).alloc _
    obtain ⟨vb, hvb⟩ : ∃ vb, vb = w.heap.size := ⟨_, rfl⟩
    have HS0 : Hid (w0.heap.size = vb + 1) := (show _ = _ from by rw [hw0.out, hvb]; simp)
    have HV0 : Hid (VIs w0 vb 0 0 [] (.slice none 0 0)) := (show VIs _ _ _ _ _ _ from by rw [hw0.out, hvb]; exact blk_new _ _)
    rw [← hN] at hs ⊢
    rw [← hN] at ha
    have hs0 : RdIs w0 bp A N c ⟨a, wi, E⟩ := hf0.heap hs (fun h => h)
    have HR0 := Lib.hid hs0
    have HF0 := Lib.hid hf0
    have HVB := Lib.hid hvb
    have hne : ¬ bp = vb := by omega
    obtain ⟨d0, d1, d2, d3⟩ := rd_cells hs0
    simp only at d1 d2 d3
    clear hr hF hs hl hN ih hf0 hs0 hvb
    by_cases hstop : a < N ∧ wi = 40 ∧ E = 0
    · obtain ⟨haN, rfl, rfl⟩ := hstop
      have hXe : Hid (X = (.mk 0 0 [] [], ⟨a, 40, 3⟩)) := (show _ = _ from by
        have h3 : startR L ⟨a, 40, 0⟩ = ⟨a, 40, 3⟩ := by unfold startR; rw [if_pos ⟨by rw [← HN.out]; exact haN, rfl, rfl⟩]
        rw [hX.out, itemR, h3, nextR_off (show (3 : Int) ≠ 0 by decide)]
        simp only
        rw [if_pos (show (3 : Int) ≠ 0 by decide)]; rfl)
      have hb : Hid (decide ((a : Int) < (N : Int)) = true) := (show _ = _ from decide_eq_true (by omega))
      go_enter Try.func90, Try.ntmps90
      go_upto_region 1 with fail
      rw [← hw0.out, ← HVB.out]
      refine wp_seq_region (fun W => W.cell? ⟨bp, 0, none⟩ = some (.slice A N c) ∧ W.cell? ⟨bp, 1, none⟩ = some (.int .i64 a) ∧ W.cell? ⟨bp, 2, none⟩ = some (.int .i64 40) ∧ W.cell? ⟨bp, 3, none⟩ = some (.int .i64 0)) [] [3, 7, 14, 21] [] [0, 1, 2, 3, 4, 5, 6, 7, 8, 9, 10, 11, 12, 13, 14, 15, 16, 17, 18, 19, 20, 21, 22, 23] (by kernel_rfl) (by kernel_rfl) rfl (by kernel_rfl) (fun _ _ _ _ _ h => h) ?_
      have HS : Hid (w0.drew.cell? ⟨bp, 0, none⟩ = some (.slice A N c) ∧ w0.drew.cell? ⟨bp, 1, none⟩ = some (.int .i64 a) ∧ w0.drew.cell? ⟨bp, 2, none⟩ = some (.int .i64 40) ∧ w0.drew.cell? ⟨bp, 3, none⟩ = some (.int .i64 0)) := (show _ ∧ _ from ⟨d0, d1, d2, d3⟩)
      repeat (first
        | (refine sq_off (a' := ?_) rfl rfl (by rfl) (fun _ => (HS).out) ?ha ?_; (case ha => simp only [Act.put, List.setIfInBounds_toArray, List.set_cons_zero, List.set_cons_succ]; rfl))
        | (refine sq_any (v := ?_) (a' := ?_) rfl rfl rfl (by rfl) (fun W => ?hr) ?ha ?_; (case hr => go_simp; first | done | (simp only [(hb).out]; done) | (simp only [(hb).out]; rfl) | rfl); (case ha => simp only [Act.put, List.setIfInBounds_toArray, List.set_cons_zero, List.set_cons_succ]; rfl))
        | (refine sq_load (v := ?_) (a' := ?_) rfl rfl rfl (by rfl) (fun W hSW => ?hr) (HS).out ?ha ?_; (case hr => (try dsimp only at hSW); go_simp; first | done | rfl); (case ha => simp only [Act.put, List.setIfInBounds_toArray, List.set_cons_zero, List.set_cons_succ]; rfl)))
      refine sq_done ?_
      obtain ⟨wd, hwd⟩ : ∃ wd, Hid (wd = w0.drew) := ⟨_, show _ = _ from rfl⟩
      rw [← hwd.out]
      have hsd : RdIs wd bp A N c ⟨a, 40, 0⟩ := by rw [hwd.out]; exact HR0.out
      have HVd : Hid (VIs wd vb 0 0 [] (.slice none 0 0)) := (show VIs _ _ _ _ _ _ from by rw [hwd.out]; exact HV0.out)
      have hfd : Fr No w0 wd := by rw [hwd.out]; exact (Fr.refl _ _).drew
      have HFD := Lib.hid hfd
      obtain ⟨e0, e1, e2, e3⟩ := rd_cells hsd
      simp only at e1 e2 e3
      have f3 := rd_free hsd 3
      have HRD := Lib.hid hsd
      clear d0 d1 d2 d3 hsd hfd HS
      go_upto_region 3 with fail
      obtain ⟨w1, hw1⟩ : ∃ w1, Hid (w1 = wd.setCell ⟨bp, 3, none⟩ (.int .i64 3)) := ⟨_, show _ = _ from rfl⟩
      rw [← hw1.out]
      have HR1 : Hid (RdIs w1 bp A N c ⟨a, 40, 3⟩) := (show RdIs _ _ _ _ _ _ from by rw [hw1.out]; exact rd_e HRD.out 3)
      have hf1 : Fr (fun q => q = bp) wd w1 := by rw [hw1.out]; exact Fr.one _ _
      have HV1 : Hid (VIs w1 vb 0 0 [] (.slice none 0 0)) := (show VIs _ _ _ _ _ _ from hf1.heap HVd.out (fun h => hne h.symm))
      have HF1 : Hid (Fr (fun q => q = bp) w0 w1) := (show Fr _ _ _ from (HFD.out.mono (fun _ _ h => h.elim)).then hf1)
      clear e0 e1 e2 e3 f3 hf1
      have hnx : Hid (nextR L ⟨a, 40, 3⟩ = (0, ⟨a, 40, 3⟩)) := (show _ = _ from nextR_off (show (3 : Int) ≠ 0 by decide))

      go_wp2_with fail
      refine (next_any (L := L) (s := ⟨a, 40, 3⟩) (F := fun k => F k ∧ k < w.heap.size) (show Rb w1 _ (.slice A L.length c) L from H.out.fr (HF0.out.trans HF1.out (U := fun q => q = bp) (fun _ _ h => h.elim) (fun _ _ h => h)) (fun k _ hk h => HF.out k hk.1 h)) (fun k hk => HF.out k hk.1) (by rw [← HN.out]; exact HR1.out) (by rw [← HN.out]; exact ha) HL.out).mono ?_
      rw [hnx.out, ← HN.out]
      rintro e w2 ⟨rfl, hr2, hf2⟩
      have HR2 := Lib.hid hr2
      have HF2 : Hid (Fr (fun q => q = bp) w0 w2) := (show Fr _ _ _ from HF1.out.then hf2)
      have hv2 : VIs w2 vb 0 0 [] (.slice none 0 0) := hf2.heap HV1.out (fun h => hne h.symm)
      obtain ⟨b0, _, _, _⟩ := v_cells hv2
      have bz0 := v_free hv2 0
      have HV2 := Lib.hid hv2
      clear hr2 hf2 hv2
      go_upto_region 5 with fail
      obtain ⟨w3, hw3⟩ : ∃ w3, Hid (w3 = w2.setCell ⟨vb, 0, none⟩ (.int .i64 0)) := ⟨_, show _ = _ from rfl⟩
      rw [← hw3.out]
      have HV3 : Hid (VIs w3 vb 0 0 [] (.slice none 0 0)) := (show VIs _ _ _ _ _ _ from by rw [hw3.out]; exact v_k HV2.out _)
      have hf3 : Fr (fun q => q = vb) w2 w3 := by rw [hw3.out]; exact Fr.one _ _
      have HF3 : Hid (Fr (fun q => q = bp ∨ q = vb) w0 w3) := (show Fr _ _ _ from HF2.out.trans hf3 (U := fun q => q = bp ∨ q = vb) (fun _ _ h => .inl h) (fun _ _ h => .inr h))
      have HR3 : Hid (RdIs w3 bp A N c ⟨a, 40, 3⟩) := (show RdIs _ _ _ _ _ _ from hf3.heap HR2.out (fun h => hne h))
      clear b0 bz0 hf3
      obtain ⟨e0, e1, e2, e3⟩ := rd_cells HR3.out
      simp only at e1 e2 e3
      obtain ⟨c0, c1, c2, c3⟩ := v_cells HV3.out
      have z0 := v_free HV3.out 0
      have z1 := v_free HV3.out 1
      have z2 := v_free HV3.out 2
      have z3 := v_free HV3.out 3
      go_wp2_with fail
      obtain ⟨w9, hw9⟩ : ∃ w9, Hid (w9 = (((w3.setCell ⟨vb, 0, none⟩ (.int .i64 0)).setCell ⟨vb, 1, none⟩ (.int .i64 0)).setCell ⟨vb, 2, none⟩ (.string ⟨#[]⟩)).setCell ⟨vb, 3, none⟩ (.slice none 0 0)) := ⟨_, show _ = _ from rfl⟩
      rw [← hw9.out]
      have HEND : Hid (ItemPost w bp A N c (.mk 0 0 [] []) ⟨a, 40, 3⟩ (.returned (.agg #[.int .i64 0, .int .i64 0, .string ⟨#[]⟩, (.slice none 0 0)])) w9) := (show ItemPost _ _ _ _ _ _ _ _ _ from by rw [hw9.out]; exact item_end (w0 := w0) hbp HVB.out HF0.out HS0.out ⟨by unfold I64; omega, by unfold I64; omega, Nat.zero_le _⟩ (Row.nil _ _ _ _ _ (Nat.zero_le _)) HR3.out HF3.out)
      obtain ⟨y0, y1, y2, y3⟩ := v_cells (show VIs w9 vb 0 0 [] (.slice none 0 0) from by rw [hw9.out]; exact back_v HV3.out)
      clear c0 c1 c2 c3 z0 z1 z2 z3
      (try simp only [Exit.inBlock, Exit.then])
      refine bodyPost_ret (by simp [results, Try.results90, go_sem, y0, y1, y2, y3]; try rfl) rfl ?_
      rw [hXe.out]
      exact HEND.out
    · have hst : Hid (startR L ⟨a, wi, E⟩ = ⟨a, wi, E⟩) := (show _ = _ from by unfold startR; rw [if_neg (by rw [← HN.out]; exact hstop)])
      go_enter Try.func90, Try.ntmps90
      go_upto_region 1 with fail
      rw [← hw0.out, ← HVB.out]
      go_cut [29] from 6 to 28 (fun o wx => o = .bool false ∧ wx = w0.drew)
      case first =>
        have HS : Hid (w0.drew.cell? ⟨bp, 0, none⟩ = some (.slice A N c) ∧ w0.drew.cell? ⟨bp, 1, none⟩ = some (.int .i64 a) ∧ w0.drew.cell? ⟨bp, 2, none⟩ = some (.int .i64 wi) ∧ w0.drew.cell? ⟨bp, 3, none⟩ = some (.int .i64 E)) := (show _ ∧ _ from ⟨d0, d1, d2, d3⟩)
        by_cases h1 : a < N
        · by_cases h2 : wi = 40
          · have hb : Hid (decide ((a : Int) < (N : Int)) = true ∧ ((wi : Int) == 40) = true ∧ (E == 0) = false) := (show _ ∧ _ from by refine ⟨decide_eq_true (by omega), by simp; omega, by simp; exact fun h3 => hstop ⟨h1, h2, h3⟩⟩)
            refine wp_seq_region (fun W => W.cell? ⟨bp, 0, none⟩ = some (.slice A N c) ∧ W.cell? ⟨bp, 1, none⟩ = some (.int .i64 a) ∧ W.cell? ⟨bp, 2, none⟩ = some (.int .i64 wi) ∧ W.cell? ⟨bp, 3, none⟩ = some (.int .i64 E)) [] [3, 7, 14, 21] [] [0, 1, 2, 3, 4, 5, 6, 7, 8, 9, 10, 11, 12, 13, 14, 15, 16, 17, 18, 19, 20, 21, 22, 23] (by kernel_rfl) (by kernel_rfl) rfl (by kernel_rfl) (fun _ _ _ _ _ h => h) ?_
            repeat (first
              | (refine sq_off (a' := ?_) rfl rfl (by rfl) (fun _ => (HS).out) ?ha ?_; (case ha => simp only [Act.put, List.setIfInBounds_toArray, List.set_cons_zero, List.set_cons_succ]; rfl))
              | (refine sq_any (v := ?_) (a' := ?_) rfl rfl rfl (by rfl) (fun W => ?hr) ?ha ?_; (case hr => go_simp; first | done | (simp only [(hb).out]; done) | (simp only [(hb).out]; rfl) | rfl); (case ha => simp only [Act.put, List.setIfInBounds_toArray, List.set_cons_zero, List.set_cons_succ]; rfl))
              | (refine sq_load (v := ?_) (a' := ?_) rfl rfl rfl (by rfl) (fun W hSW => ?hr) (HS).out ?ha ?_; (case hr => (try dsimp only at hSW); go_simp; first | done | rfl); (case ha => simp only [Act.put, List.setIfInBounds_toArray, List.set_cons_zero, List.set_cons_succ]; rfl)))
            refine sq_done ?_
            go_wp2_with fail
            go_meet
            exact ⟨rfl, rfl⟩
          · have hb : Hid (decide ((a : Int) < (N : Int)) = true ∧ ((wi : Int) == 40) = false) := (show _ ∧ _ from by refine ⟨decide_eq_true (by omega), by simp; omega⟩)
            refine wp_seq_region (fun W => W.cell? ⟨bp, 0, none⟩ = some (.slice A N c) ∧ W.cell? ⟨bp, 1, none⟩ = some (.int .i64 a) ∧ W.cell? ⟨bp, 2, none⟩ = some (.int .i64 wi) ∧ W.cell? ⟨bp, 3, none⟩ = some (.int .i64 E)) [] [3, 7, 14, 21] [] [0, 1, 2, 3, 4, 5, 6, 7, 8, 9, 10, 11, 12, 13, 14, 15, 16, 17, 18, 19, 20, 21, 22, 23] (by kernel_rfl) (by kernel_rfl) rfl (by kernel_rfl) (fun _ _ _ _ _ h => h) ?_
            repeat (first
              | (refine sq_off (a' := ?_) rfl rfl (by rfl) (fun _ => (HS).out) ?ha ?_; (case ha => simp only [Act.put, List.setIfInBounds_toArray, List.set_cons_zero, List.set_cons_succ]; rfl))
              | (refine sq_any (v := ?_) (a' := ?_) rfl rfl rfl (by rfl) (fun W => ?hr) ?ha ?_; (case hr => go_simp; first | done | (simp only [(hb).out]; done) | (simp only [(hb).out]; rfl) | rfl); (case ha => simp only [Act.put, List.setIfInBounds_toArray, List.set_cons_zero, List.set_cons_succ]; rfl))
              | (refine sq_load (v := ?_) (a' := ?_) rfl rfl rfl (by rfl) (fun W hSW => ?hr) (HS).out ?ha ?_; (case hr => (try dsimp only at hSW); go_simp; first | done | rfl); (case ha => simp only [Act.put, List.setIfInBounds_toArray, List.set_cons_zero, List.set_cons_succ]; rfl)))
            refine sq_done ?_
            go_wp2_with fail
            go_meet
            exact ⟨rfl, rfl⟩
        · have hb : Hid (decide ((a : Int) < (N : Int)) = false) := (show _ = _ from by refine decide_eq_false (by omega))
          refine wp_seq_region (fun W => W.cell? ⟨bp, 0, none⟩ = some (.slice A N c) ∧ W.cell? ⟨bp, 1, none⟩ = some (.int .i64 a) ∧ W.cell? ⟨bp, 2, none⟩ = some (.int .i64 wi) ∧ W.cell? ⟨bp, 3, none⟩ = some (.int .i64 E)) [] [3, 7, 14, 21] [] [0, 1, 2, 3, 4, 5, 6, 7, 8, 9, 10, 11, 12, 13, 14, 15, 16, 17, 18, 19, 20, 21, 22, 23] (by kernel_rfl) (by kernel_rfl) rfl (by kernel_rfl) (fun _ _ _ _ _ h => h) ?_
          repeat (first
            | (refine sq_off (a' := ?_) rfl rfl (by rfl) (fun _ => (HS).out) ?ha ?_; (case ha => simp only [Act.put, List.setIfInBounds_toArray, List.set_cons_zero, List.set_cons_succ]; rfl))
            | (refine sq_any (v := ?_) (a' := ?_) rfl rfl rfl (by rfl) (fun W => ?hr) ?ha ?_; (case hr => go_simp; first | done | (simp only [(hb).out]; done) | (simp only [(hb).out]; rfl) | rfl); (case ha => simp only [Act.put, List.setIfInBounds_toArray, List.set_cons_zero, List.set_cons_succ]; rfl))
            | (refine sq_load (v := ?_) (a' := ?_) rfl rfl rfl (by rfl) (fun W hSW => ?hr) (HS).out ?ha ?_; (case hr => (try dsimp only at hSW); go_simp; first | done | rfl); (case ha => simp only [Act.put, List.setIfInBounds_toArray, List.set_cons_zero, List.set_cons_succ]; rfl)))
          refine sq_done ?_
          go_wp2_with fail
          go_meet
          exact ⟨rfl, rfl⟩
      case rest =>
        obtain ⟨rfl, rfl⟩ := hcut
        obtain ⟨w1, hw1⟩ : ∃ w1, Hid (w1 = w0.drew) := ⟨_, show _ = _ from rfl⟩
        rw [← hw1.out]
        have HR1 : Hid (RdIs w1 bp A N c ⟨a, wi, E⟩) := (show RdIs _ _ _ _ _ _ from by rw [hw1.out]; exact HR0.out)
        have HV1 : Hid (VIs w1 vb 0 0 [] (.slice none 0 0)) := (show VIs _ _ _ _ _ _ from by rw [hw1.out]; exact HV0.out)
        have HF1 : Hid (Fr (fun q => q = bp) w0 w1) := (show Fr _ _ _ from by rw [hw1.out]; exact (Fr.refl _ _).drew)
        obtain ⟨x, t1, hY⟩ : ∃ x t1, nextR L ⟨a, wi, E⟩ = (x, t1) := ⟨_, _, rfl⟩
        have HK1 : Hid (Kept L ⟨a, wi, E⟩ t1) := (show Kept _ _ _ from by have h := nextR_kept L ⟨a, wi, E⟩; rw [hY] at h; exact h)
        obtain ⟨a1, wi1, E1⟩ := t1
        have hwi1 : wi1 = wi := HK1.out.win
        subst hwi1
        have ha1 : a1 ≤ N := by have h := HK1.out.at2 (by rw [← HN.out]; exact ha); rw [← HN.out] at h; exact h
        have hnx := Lib.hid hY
        have gx := x.toNat_lt
        have hstop' := Lib.hid hstop
        clear d0 d1 d2 d3 hY hstop
        go_wp2_with fail
        refine (next_any (L := L) (s := ⟨a, wi1, E⟩) (F := fun k => F k ∧ k < w.heap.size) (show Rb w1 _ (.slice A L.length c) L from H.out.fr (HF0.out.trans HF1.out (U := fun q => q = bp) (fun _ _ h => h.elim) (fun _ _ h => h)) (fun k _ hk h => HF.out k hk.1 h)) (fun k hk => HF.out k hk.1) (by rw [← HN.out]; exact HR1.out) (by rw [← HN.out]; exact ha) HL.out).mono ?_
        rw [hnx.out, ← HN.out]
        rintro e w2 ⟨rfl, hr2, hf2⟩
        obtain ⟨K, hK⟩ : ∃ K, K = x.toNat := ⟨_, rfl⟩
        have HK := Lib.hid hK
        have hK256 : K < 256 := by omega
        rw [← hK]
        clear hK gx
        have HR2 := Lib.hid hr2
        have HF2 : Hid (Fr (fun q => q = bp) w0 w2) := (show Fr _ _ _ from HF1.out.then hf2)
        have hv2 : VIs w2 vb 0 0 [] (.slice none 0 0) := hf2.heap HV1.out (fun h => hne h.symm)
        obtain ⟨b0, _, _, _⟩ := v_cells hv2
        have bz0 := v_free hv2 0
        have HV2 := Lib.hid hv2
        clear hr2 hf2 hv2
        go_upto_region 5 with fail
        obtain ⟨w3, hw3⟩ : ∃ w3, Hid (w3 = w2.setCell ⟨vb, 0, none⟩ (.int .i64 (K : Int))) := ⟨_, show _ = _ from rfl⟩
        rw [← hw3.out]
        have HV3 : Hid (VIs w3 vb (K : Int) 0 [] (.slice none 0 0)) := (show VIs _ _ _ _ _ _ from by rw [hw3.out]; exact v_k HV2.out _)
        have hf3 : Fr (fun q => q = vb) w2 w3 := by rw [hw3.out]; exact Fr.one _ _
        have HF3 : Hid (Fr (fun q => q = bp ∨ q = vb) w0 w3) := (show Fr _ _ _ from HF2.out.trans hf3 (U := fun q => q = bp ∨ q = vb) (fun _ _ h => .inl h) (fun _ _ h => .inr h))
        have HR3 : Hid (RdIs w3 bp A N c ⟨a1, wi1, E1⟩) := (show RdIs _ _ _ _ _ _ from hf3.heap HR2.out (fun h => hne h))
        clear b0 bz0 hf3
        obtain ⟨e0, e1, e2, e3⟩ := rd_cells HR3.out
        simp only at e1 e2 e3
        have HXU : Hid (X = if E1 ≠ 0 then (.mk (K : Int) 0 [] [], ⟨a1, wi1, E1⟩)
            else if K = 1 then (.mk 1 (IntKind.i64.wrap (rdn (nextsR L 8 ⟨a1, wi1, E1⟩).1 : Int)) [] [], (nextsR L 8 ⟨a1, wi1, E1⟩).2)
            else if K = 2 then (.mk 2 0 (textR L (countR L ⟨a1, wi1, E1⟩).1 (countR L ⟨a1, wi1, E1⟩).2).1 [], (textR L (countR L ⟨a1, wi1, E1⟩).1 (countR L ⟨a1, wi1, E1⟩).2).2)
            else if K = 3 then (.mk 3 0 [] (itemsR (itemR L d) (countR L ⟨a1, wi1 + 1, E1⟩).1 (countR L ⟨a1, wi1 + 1, E1⟩).2).1, { (itemsR (itemR L d) (countR L ⟨a1, wi1 + 1, E1⟩).1 (countR L ⟨a1, wi1 + 1, E1⟩).2).2 with win := (itemsR (itemR L d) (countR L ⟨a1, wi1 + 1, E1⟩).1 (countR L ⟨a1, wi1 + 1, E1⟩).2).2.win - 1 })
            else (.mk (K : Int) 0 [] [], ⟨a1, wi1, 11⟩)) := (show _ = _ from by
          rw [hX.out, itemR, hst.out, hnx.out, HK.out])
        by_cases hE : E1 = 0
        · subst hE
          by_cases hk1 : K = 1
          · skip
            subst hk1
            have hXe : Hid (X = (.mk 1 (IntKind.i64.wrap (rdn (nextsR L 8 ⟨a1, wi1, 0⟩).1 : Int)) [] [], (nextsR L 8 ⟨a1, wi1, 0⟩).2)) := (show _ = _ from by rw [HXU.out, if_neg (by simp), if_pos rfl])
            have HV3' : Hid (VIs w3 vb 1 0 [] (.slice none 0 0)) := (show VIs _ _ _ _ _ _ from HV3.out)
            obtain ⟨b0, b1, b2, b3⟩ := v_cells HV3'.out
            have HJ0 : Hid (RdIs w3 bp A N c (nextsR L 0 ⟨a1, wi1, 0⟩).2 ∧ VIs w3 vb 1 (IntKind.i64.wrap (rdn (nextsR L 0 ⟨a1, wi1, 0⟩).1 : Int)) [] (.slice none 0 0) ∧ Fr (fun q => q = bp ∨ q = vb) w0 w3) := (show _ ∧ _ from ⟨HR3.out, HV3'.out, HF3.out⟩)
            go_wp2_with fail
            go_loopw [50] (fun i wr => ∃ j : Nat, j ≤ 8 ∧ i = .int .i64 j ∧ Hid (RdIs wr bp A N c (nextsR L j ⟨a1, wi1, 0⟩).2 ∧ VIs wr vb 1 (IntKind.i64.wrap (rdn (nextsR L j ⟨a1, wi1, 0⟩).1 : Int)) [] (.slice none 0 0) ∧ Fr (fun q => q = bp ∨ q = vb) w0 wr)) (fun i _ => 8 - (intOf i).toNat)
            case atStart => exact ⟨0, Nat.zero_le _, rfl, HJ0⟩
            case round =>
              clear e0 e1 e2 e3 b0 b1 b2 b3
              obtain ⟨j, hj, rfl, HJ⟩ := hrel
              by_cases hj8 : (j : Int) < 8
              · obtain ⟨l, t, hlt⟩ : ∃ l t, nextsR L j ⟨a1, wi1, 0⟩ = (l, t) := ⟨_, _, rfl⟩
                have HKj : Hid (Kept L ⟨a1, wi1, 0⟩ t) := (show Kept _ _ _ from by have h := nextsR_kept L j ⟨a1, wi1, 0⟩; rw [hlt] at h; exact h)
                have hat : t.at_ ≤ L.length := HKj.out.at2 (by rw [← HN.out]; exact ha1)
                have HLT := Lib.hid hlt
                rw [hlt] at HJ
                obtain ⟨Vj, hVj⟩ : ∃ V, Hid (V = IntKind.i64.wrap (rdn l : Int)) := ⟨_, show _ = _ from rfl⟩
                rw [← hVj.out] at HJ
                have HAT := Lib.hid hat
                obtain ⟨g0, g1, g2, g3⟩ := v_cells HJ.out.2.1
                clear hlt hat
                go_wp2_with fail
                refine wp_seq_region (fun W => W.cell? ⟨vb, 1, none⟩ = some (.int .i64 Vj)) [4, 8] [1] [8] [0, 1, 2, 3, 4, 5, 6, 7, 8] (by kernel_rfl) (by kernel_rfl) rfl (by kernel_rfl) (fun _ _ _ _ _ h => h) ?_
                have HS : Hid (wr.drew.cell? ⟨vb, 1, none⟩ = some (.int .i64 Vj)) := (show _ = _ from g1)
                clear g0 g1 g2 g3
                repeat (first
                  | (refine sq_off (a' := ?_) rfl rfl (by rfl) (fun _ => (HS).out) ?ha ?_; (case ha => simp only [Act.put, List.setIfInBounds_toArray, List.set_cons_zero, List.set_cons_succ]; rfl))
                  | (refine sq_any (v := ?_) (a' := ?_) rfl rfl rfl (by rfl) (fun W => ?hr) ?ha ?_; (case hr => go_simp; first | done | rfl); (case ha => simp only [Act.put, List.setIfInBounds_toArray, List.set_cons_zero, List.set_cons_succ]; rfl))
                  | (refine sq_load (v := ?_) (a' := ?_) rfl rfl rfl (by rfl) (fun W hSW => ?hr) (HS).out ?ha ?_; (case hr => (try dsimp only at hSW); go_simp; first | done | rfl); (case ha => simp only [Act.put, List.setIfInBounds_toArray, List.set_cons_zero, List.set_cons_succ]; rfl)))
                refine sq_call rfl rfl (by rfl) rfl Try.func106 rfl rfl [.pointer (some ⟨bp, 0, none⟩)] rfl ?_
                have hfd : Fr No wr wr.drew := (Fr.refl _ _).drew
                obtain ⟨y, t', hy⟩ : ∃ y t', nextR L t = (y, t') := ⟨_, _, rfl⟩
                have HY := Lib.hid hy
                refine (next_any (w := wr.drew) (L := L) (s := t) (F := fun k => F k ∧ k < w.heap.size) (show Rb wr.drew _ (.slice A L.length c) L from H.out.fr (((HF0.out.trans HJ.out.2.2 (U := fun q => q = bp ∨ q = vb) (fun _ _ h => h.elim) (fun _ _ h => h)).trans hfd (U := fun q => q = bp ∨ q = vb) (fun _ _ h => h) (fun _ _ h => h.elim))) (fun k _ hk h => by rcases h with h | h; exact HF.out k hk.1 h; have := HVB.out; omega)) (fun k hk => HF.out k hk.1) (by rw [← HN.out]; exact HJ.out.1) HAT.out HL.out).mono ?_
                rw [hy, ← HN.out]
                rintro e w4 ⟨rfl, hr4, hf4⟩
                have hv4 : VIs w4 vb 1 Vj [] (.slice none 0 0) := (hfd.mono (fun _ _ h => h.elim) |>.then hf4).heap HJ.out.2.1 (fun h => hne h.symm)
                have HF4 : Hid (Fr (fun q => q = bp ∨ q = vb) w0 w4) := (show Fr _ _ _ from HJ.out.2.2.trans ((hfd.mono (fun _ _ h => h.elim)).then hf4) (U := fun q => q = bp ∨ q = vb) (fun _ _ h => h) (fun _ _ h => .inl h))
                have HV4 := Lib.hid hv4
                have HR4 := Lib.hid hr4
                obtain ⟨g0, g1, g2, g3⟩ := v_cells hv4
                have z1 := v_free hv4 1
                have gy := y.toNat_lt
                refine ⟨_, rfl, fun _ => g1, ?_⟩
                simp only [Act.put, List.setIfInBounds_toArray, List.set_cons_zero, List.set_cons_succ]
                obtain ⟨V', hV'⟩ : ∃ V, Hid (V = IntKind.i64.wrap (rdn (l ++ [y]) : Int)) := ⟨_, show _ = _ from rfl⟩
                have hor : Hid (bits .or .i64 (IntKind.i64.wrap (Vj * 256)) (y.toNat : Int) = V') := (show _ = _ from by rw [hV'.out, rdn_app, hVj.out]; exact wrap_or _ _ gy)
                have hwy : Hid (IntKind.i64.wrap (y.toNat : Int) = (y.toNat : Int)) := (show _ = _ from by rw [IntKind.wrap_i64]; omega)
                have HSN : Hid (nextsR L (j + 1) ⟨a1, wi1, 0⟩ = (l ++ [y], t')) := (show _ = _ from by rw [nextsR_snoc, HLT.out]; simp only; rw [HY.out])
                clear hfd hr4 hf4 hv4 hy
                have HS4 : Hid (w4.cell? ⟨vb, 1, none⟩ = some (.int .i64 Vj)) := (show _ = _ from g1)
                refine sq_any (v := .int .i64 (y.toNat : Int)) (a' := ?_) rfl rfl rfl (by rfl) (fun W => ?hr) ?ha ?_
                case hr => go_simp; first | done | rw [hwy.out]
                case ha => simp only [Act.put, List.setIfInBounds_toArray, List.set_cons_zero, List.set_cons_succ]; rfl
                refine sq_any (v := .int .i64 V') (a' := ?_) rfl rfl rfl (by rfl) (fun W => ?hr) ?ha ?_
                case hr => go_simp; first | done | rw [hor.out]
                case ha => simp only [Act.put, List.setIfInBounds_toArray, List.set_cons_zero, List.set_cons_succ]; rfl
                repeat (first
                  | (refine sq_off (a' := ?_) rfl rfl (by rfl) (fun _ => (HS4).out) ?ha ?_; (case ha => simp only [Act.put, List.setIfInBounds_toArray, List.set_cons_zero, List.set_cons_succ]; rfl))
                  | (refine sq_any (v := ?_) (a' := ?_) rfl rfl rfl (by rfl) (fun W => ?hr) ?ha ?_; (case hr => go_simp; first | done | rfl); (case ha => simp only [Act.put, List.setIfInBounds_toArray, List.set_cons_zero, List.set_cons_succ]; rfl))
                  | (refine sq_load (v := ?_) (a' := ?_) rfl rfl rfl (by rfl) (fun W hSW => ?hr) (HS4).out ?ha ?_; (case hr => (try dsimp only at hSW); go_simp; first | done | rfl); (case ha => simp only [Act.put, List.setIfInBounds_toArray, List.set_cons_zero, List.set_cons_succ]; rfl)))
                refine sq_store (w1 := w4.setCell ⟨vb, 1, none⟩ (.int .i64 V')) rfl rfl (by rfl) rfl ?hr (fun h => absurd (by decide) h) ?_
                case hr => go_simp; first | done | rfl | (constructor <;> rfl)
                refine sq_done ?_
                have HJ2 : Hid (RdIs (w4.setCell ⟨vb, 1, none⟩ (.int .i64 V')) bp A N c (nextsR L (j + 1) ⟨a1, wi1, 0⟩).2 ∧ VIs (w4.setCell ⟨vb, 1, none⟩ (.int .i64 V')) vb 1 (IntKind.i64.wrap (rdn (nextsR L (j + 1) ⟨a1, wi1, 0⟩).1 : Int)) [] (.slice none 0 0) ∧ Fr (fun q => q = bp ∨ q = vb) w0 (w4.setCell ⟨vb, 1, none⟩ (.int .i64 V'))) := (show _ ∧ _ from by
                  have hf : Fr (fun q => q = vb) w4 (w4.setCell ⟨vb, 1, none⟩ (.int .i64 V')) := Fr.one _ _
                  rw [HSN.out]
                  refine ⟨hf.heap HR4.out (fun h => hne h), ?_, HF4.out.trans hf (U := fun q => q = bp ∨ q = vb) (fun _ _ h => h) (fun _ _ h => .inr h)⟩
                  show VIs _ vb 1 (IntKind.i64.wrap (rdn (l ++ [y]) : Int)) _ _
                  rw [← hV'.out]
                  exact v_n HV4.out V')
                clear g0 g1 g2 g3 z1
                go_wp2_with fail
                go_roundw
                case rel => exact ⟨j + 1, by omega, by go_num, HJ2⟩
                case measure => simp [intOf]; omega
              · have hj9 : j = 8 := by omega
                subst hj9
                clear hj8 hj
                obtain ⟨l, t, hlt⟩ : ∃ l t, nextsR L 8 ⟨a1, wi1, 0⟩ = (l, t) := ⟨_, _, rfl⟩
                rw [hlt] at HJ
                obtain ⟨Vj, hVj⟩ : ∃ V, Hid (V = IntKind.i64.wrap (rdn l : Int)) := ⟨_, show _ = _ from rfl⟩
                have hXe : Hid (X = (.mk 1 Vj [] [], t)) := (show _ = _ from by rw [hXe.out, hlt, hVj.out])
                rw [← hVj.out] at HJ
                have HFIT : Hid (Fits 1 Vj []) := (show Fits _ _ _ from ⟨by unfold I64; omega, by rw [hVj.out]; exact i64_wrap _, Nat.zero_le _⟩)
                have HVz : Hid (VIs wr vb 1 Vj [] (.slice none 0 0)) := (show VIs _ _ _ _ _ _ from HJ.out.2.1)
                have HRz : Hid (RdIs wr bp A N c t) := (show RdIs _ _ _ _ _ _ from HJ.out.1)
                have HFz : Hid (Fr (fun q => q = bp ∨ q = vb) w0 wr) := (show Fr _ _ _ from HJ.out.2.2)
                clear hlt
                obtain ⟨c0, c1, c2, c3⟩ := v_cells HVz.out
                have z0 := v_free HVz.out 0
                have z1 := v_free HVz.out 1
                have z2 := v_free HVz.out 2
                have z3 := v_free HVz.out 3
                go_wp2_with fail
                obtain ⟨w9, hw9⟩ : ∃ w9, Hid (w9 = (((wr.setCell ⟨vb, 0, none⟩ (.int .i64 1)).setCell ⟨vb, 1, none⟩ (.int .i64 Vj)).setCell ⟨vb, 2, none⟩ (.string ⟨#[]⟩)).setCell ⟨vb, 3, none⟩ (.slice none 0 0)) := ⟨_, show _ = _ from rfl⟩
                rw [← hw9.out]
                have HEND : Hid (ItemPost w bp A N c (.mk 1 Vj [] []) t (.returned (.agg #[.int .i64 1, .int .i64 Vj, .string ⟨#[]⟩, (.slice none 0 0)])) w9) := (show ItemPost _ _ _ _ _ _ _ _ _ from by rw [hw9.out]; exact item_end (w0 := w0) hbp HVB.out HF0.out HS0.out HFIT.out (Row.nil _ _ _ _ _ (Nat.zero_le _)) HRz.out HFz.out)
                obtain ⟨y0, y1, y2, y3⟩ := v_cells (show VIs w9 vb 1 Vj [] (.slice none 0 0) from by rw [hw9.out]; exact back_v HVz.out)
                clear c0 c1 c2 c3 z0 z1 z2 z3
                (try simp only [Exit.inBlock, Exit.then])
                refine bodyPost_ret (by simp [results, Try.results90, go_sem, y0, y1, y2, y3]; try rfl) rfl ?_
                rw [hXe.out]
                exact HEND.out
          · by_cases hk2 : K = 2
            · skip
              subst hk2
              have HXT : Hid (X = (.mk 2 0 (textR L (countR L ⟨a1, wi1, 0⟩).1 (countR L ⟨a1, wi1, 0⟩).2).1 [], (textR L (countR L ⟨a1, wi1, 0⟩).1 (countR L ⟨a1, wi1, 0⟩).2).2)) := (show _ = _ from by rw [HXU.out, if_neg (by simp), if_neg hk1, if_pos rfl])
              have HV3' : Hid (VIs w3 vb 2 0 [] (.slice none 0 0)) := (show VIs _ _ _ _ _ _ from HV3.out)
              obtain ⟨b0, b1, b2, b3⟩ := v_cells HV3'.out
              clear hk1
              go_wp2_with fail
              obtain ⟨n, t2, hy⟩ : ∃ n t, countR L ⟨a1, wi1, 0⟩ = (n, t) := ⟨_, _, rfl⟩
              have HKc : Hid (Kept L ⟨a1, wi1, 0⟩ t2) := (show Kept _ _ _ from by have h := countR_kept L ⟨a1, wi1, 0⟩; rw [hy] at h; exact h)
              refine (rcount_any (L := L) (s := ⟨a1, wi1, 0⟩) (F := fun k => F k ∧ k < w.heap.size) (show Rb w3 _ (.slice A L.length c) L from H.out.fr (HF0.out.trans HF3.out (U := fun q => q = bp ∨ q = vb) (fun _ _ h => h.elim) (fun _ _ h => h)) (fun k _ hk h => by rcases h with h | h; exact HF.out k hk.1 h; have := HVB.out; omega)) (fun k hk => HF.out k hk.1) (by rw [← HN.out]; exact HR3.out) (by rw [← HN.out]; exact ha1) HL.out).mono ?_
              rw [hy, ← HN.out]
              rw [hy] at HXT
              have HNB : Hid (t2.e = 0 → n ≤ 2147483647) := (show t2.e = 0 → n ≤ 2147483647 from fun h => by have h1 := (countR_back (L := L) (s := ⟨a1, wi1, 0⟩) (by rw [hy]; exact h) (by rw [← HN.out]; exact ha1)).2.2; rw [hy] at h1; exact h1)
              rintro e w4 ⟨rfl, hr4, hf4⟩
              obtain ⟨a2, w2', E2⟩ := t2
              have hw2 : w2' = wi1 := HKc.out.win
              subst hw2
              have ha2 : a2 ≤ N := by have h := HKc.out.at2 (by rw [← HN.out]; exact ha1); rw [← HN.out] at h; exact h
              simp only at HXT hr4
              have HR4 := Lib.hid hr4
              have HV4 : Hid (VIs w4 vb 2 0 [] (.slice none 0 0)) := (show VIs _ _ _ _ _ _ from hf4.heap HV3'.out (fun h => hne h.symm))
              have HF4 : Hid (Fr (fun q => q = bp ∨ q = vb) w0 w4) := (show Fr _ _ _ from HF3.out.trans hf4 (U := fun q => q = bp ∨ q = vb) (fun _ _ h => h) (fun _ _ h => .inl h))
              clear e0 e1 e2 e3 b0 b1 b2 b3 hr4 hf4 hy
              obtain ⟨g0, g1, g2, g3⟩ := rd_cells HR4.out
              simp only at g0 g1 g2 g3
              go_wp2_with fail
              by_cases hE2 : E2 = 0
              · subst hE2
                have hnb := HNB.out rfl
                have hNb : N ≤ 1099511627776 := by rw [HN.out]; exact HL.out
                have hw83 : IntKind.i64.wrap ((N : Int) - (a2 : Int)) = (N : Int) - (a2 : Int) := by rw [IntKind.wrap_i64]; omega
                by_cases hsh : N < n + a2
                · have hXe : Hid (X = (.mk 2 0 [] [], ⟨a2, w2', 10⟩)) := (show _ = _ from by
                    rw [HXT.out]
                    unfold textR
                    rw [if_pos rfl, ← HN.out]
                    simp only
                    rw [if_pos hsh])
                  have hb : Hid (decide ((N : Int) - (a2 : Int) < (n : Int)) = true ∧ decide (IntKind.i64.wrap ((N : Int) - (a2 : Int)) < (n : Int)) = true) := (show _ ∧ _ from by rw [hw83]; exact ⟨decide_eq_true (by omega), decide_eq_true (by omega)⟩)
                  clear hw83
                  refine wp_seq_region (fun W => W.cell? ⟨bp, 0, none⟩ = some (.slice A N c) ∧ W.cell? ⟨bp, 1, none⟩ = some (.int .i64 a2) ∧ W.cell? ⟨bp, 3, none⟩ = some (.int .i64 0)) [] [3, 10, 15] [] [0, 1, 2, 3, 4, 5, 6, 7, 8, 9, 10, 11, 12, 13, 14, 15, 16, 17, 18] (by kernel_rfl) (by kernel_rfl) rfl (by kernel_rfl) (fun _ _ _ _ _ h => h) ?_
                  have HS : Hid (w4.drew.cell? ⟨bp, 0, none⟩ = some (.slice A N c) ∧ w4.drew.cell? ⟨bp, 1, none⟩ = some (.int .i64 a2) ∧ w4.drew.cell? ⟨bp, 3, none⟩ = some (.int .i64 0)) := (show _ ∧ _ from ⟨g0, g1, g3⟩)
                  repeat (first
                    | (refine sq_off (a' := ?_) rfl rfl (by rfl) (fun _ => (HS).out) ?ha ?_; (case ha => simp only [Act.put, List.setIfInBounds_toArray, List.set_cons_zero, List.set_cons_succ]; rfl))
                    | (refine sq_any (v := ?_) (a' := ?_) rfl rfl rfl (by rfl) (fun W => ?hr) ?ha ?_; (case hr => go_simp; first | done | (simp only [(hb).out]; done) | (simp only [(hb).out]; rfl) | rfl); (case ha => simp only [Act.put, List.setIfInBounds_toArray, List.set_cons_zero, List.set_cons_succ]; rfl))
                    | (refine sq_load (v := ?_) (a' := ?_) rfl rfl rfl (by rfl) (fun W hSW => ?hr) (HS).out ?ha ?_; (case hr => (try dsimp only at hSW); go_simp; first | done | rfl); (case ha => simp only [Act.put, List.setIfInBounds_toArray, List.set_cons_zero, List.set_cons_succ]; rfl)))
                  refine sq_done ?_
                  obtain ⟨w5, hw5⟩ : ∃ w5, Hid (w5 = w4.drew) := ⟨_, show _ = _ from rfl⟩
                  rw [← hw5.out]
                  have HR5 : Hid (RdIs w5 bp A N c ⟨a2, w2', 0⟩) := (show RdIs _ _ _ _ _ _ from by rw [hw5.out]; exact HR4.out)
                  have HV5 : Hid (VIs w5 vb 2 0 [] (.slice none 0 0)) := (show VIs _ _ _ _ _ _ from by rw [hw5.out]; exact HV4.out)
                  have HF5 : Hid (Fr (fun q => q = bp ∨ q = vb) w0 w5) := (show Fr _ _ _ from by rw [hw5.out]; exact HF4.out.drew)
                  clear g0 g1 g2 g3 HS
                  obtain ⟨g0, g1, g2, g3⟩ := rd_cells HR5.out
                  simp only at g0 g1 g2 g3
                  obtain ⟨b0, b1, b2, b3⟩ := v_cells HV5.out
                  have f3 := rd_free HR5.out 3
                  go_upto_region 15 with fail
                  obtain ⟨w6, hw6⟩ : ∃ w6, Hid (w6 = w5.setCell ⟨bp, 3, none⟩ (.int .i64 10)) := ⟨_, show _ = _ from rfl⟩
                  rw [← hw6.out]
                  have HR6 : Hid (RdIs w6 bp A N c ⟨a2, w2', 10⟩) := (show RdIs _ _ _ _ _ _ from by rw [hw6.out]; exact rd_e HR5.out 10)
                  have hf6 : Fr (fun q => q = bp) w5 w6 := by rw [hw6.out]; exact Fr.one _ _
                  have HV6 : Hid (VIs w6 vb 2 0 [] (.slice none 0 0)) := (show VIs _ _ _ _ _ _ from hf6.heap HV5.out (fun h => hne h.symm))
                  have HF6 : Hid (Fr (fun q => q = bp ∨ q = vb) w0 w6) := (show Fr _ _ _ from HF5.out.trans hf6 (U := fun q => q = bp ∨ q = vb) (fun _ _ h => h) (fun _ _ h => .inl h))
                  clear g0 g1 g2 g3 b0 b1 b2 b3 f3 hf6
                  obtain ⟨g0, g1, g2, g3⟩ := rd_cells HR6.out
                  simp only at g0 g1 g2 g3
                  obtain ⟨c0, c1, c2, c3⟩ := v_cells HV6.out
                  have z0 := v_free HV6.out 0
                  have z1 := v_free HV6.out 1
                  have z2 := v_free HV6.out 2
                  have z3 := v_free HV6.out 3
                  go_wp2_with fail
                  obtain ⟨w9, hw9⟩ : ∃ w9, Hid (w9 = (((w6.setCell ⟨vb, 0, none⟩ (.int .i64 2)).setCell ⟨vb, 1, none⟩ (.int .i64 0)).setCell ⟨vb, 2, none⟩ (.string ⟨#[]⟩)).setCell ⟨vb, 3, none⟩ (.slice none 0 0)) := ⟨_, show _ = _ from rfl⟩
                  rw [← hw9.out]
                  have HEND : Hid (ItemPost w bp A N c (.mk 2 0 [] []) ⟨a2, w2', 10⟩ (.returned (.agg #[.int .i64 2, .int .i64 0, .string ⟨#[]⟩, (.slice none 0 0)])) w9) := (show ItemPost _ _ _ _ _ _ _ _ _ from by rw [hw9.out]; exact item_end (w0 := w0) hbp HVB.out HF0.out HS0.out ⟨by unfold I64; omega, by unfold I64; omega, Nat.zero_le _⟩ (Row.nil _ _ _ _ _ (Nat.zero_le _)) HR6.out HF6.out)
                  obtain ⟨y0, y1, y2, y3⟩ := v_cells (show VIs w9 vb 2 0 [] (.slice none 0 0) from by rw [hw9.out]; exact back_v HV6.out)
                  clear c0 c1 c2 c3 z0 z1 z2 z3
                  (try simp only [Exit.inBlock, Exit.then])
                  refine bodyPost_ret (by simp [results, Try.results90, go_sem, y0, y1, y2, y3]; try rfl) rfl ?_
                  rw [hXe.out]
                  exact HEND.out
                · obtain ⟨T, hT⟩ : ∃ T, Hid (T = (L.drop a2).take n) := ⟨_, show _ = _ from rfl⟩
                  have hXe : Hid (X = (.mk 2 0 T [], ⟨a2 + n, w2', 0⟩)) := (show _ = _ from by
                    rw [HXT.out, hT.out]
                    unfold textR
                    rw [if_pos rfl, ← HN.out]
                    simp only
                    rw [if_neg hsh])
                  have hTl : Hid (T.length = n) := (show _ = _ from by rw [hT.out, List.length_take, List.length_drop, ← HN.out]; omega)
                  have hb : Hid (decide ((N : Int) - (a2 : Int) < (n : Int)) = false ∧ decide (IntKind.i64.wrap ((N : Int) - (a2 : Int)) < (n : Int)) = false) := (show _ ∧ _ from by rw [hw83]; exact ⟨decide_eq_false (by omega), decide_eq_false (by omega)⟩)
                  clear hw83
                  refine wp_seq_region (fun W => W.cell? ⟨bp, 0, none⟩ = some (.slice A N c) ∧ W.cell? ⟨bp, 1, none⟩ = some (.int .i64 a2) ∧ W.cell? ⟨bp, 3, none⟩ = some (.int .i64 0)) [] [3, 10, 15] [] [0, 1, 2, 3, 4, 5, 6, 7, 8, 9, 10, 11, 12, 13, 14, 15, 16, 17, 18] (by kernel_rfl) (by kernel_rfl) rfl (by kernel_rfl) (fun _ _ _ _ _ h => h) ?_
                  have HS : Hid (w4.drew.cell? ⟨bp, 0, none⟩ = some (.slice A N c) ∧ w4.drew.cell? ⟨bp, 1, none⟩ = some (.int .i64 a2) ∧ w4.drew.cell? ⟨bp, 3, none⟩ = some (.int .i64 0)) := (show _ ∧ _ from ⟨g0, g1, g3⟩)
                  repeat (first
                    | (refine sq_off (a' := ?_) rfl rfl (by rfl) (fun _ => (HS).out) ?ha ?_; (case ha => simp only [Act.put, List.setIfInBounds_toArray, List.set_cons_zero, List.set_cons_succ]; rfl))
                    | (refine sq_any (v := ?_) (a' := ?_) rfl rfl rfl (by rfl) (fun W => ?hr) ?ha ?_; (case hr => go_simp; first | done | (simp only [(hb).out]; done) | (simp only [(hb).out]; rfl) | rfl); (case ha => simp only [Act.put, List.setIfInBounds_toArray, List.set_cons_zero, List.set_cons_succ]; rfl))
                    | (refine sq_load (v := ?_) (a' := ?_) rfl rfl rfl (by rfl) (fun W hSW => ?hr) (HS).out ?ha ?_; (case hr => (try dsimp only at hSW); go_simp; first | done | rfl); (case ha => simp only [Act.put, List.setIfInBounds_toArray, List.set_cons_zero, List.set_cons_succ]; rfl)))
                  refine sq_done ?_
                  obtain ⟨w5, hw5⟩ : ∃ w5, Hid (w5 = w4.drew) := ⟨_, show _ = _ from rfl⟩
                  rw [← hw5.out]
                  have HR5 : Hid (RdIs w5 bp A N c ⟨a2, w2', 0⟩) := (show RdIs _ _ _ _ _ _ from by rw [hw5.out]; exact HR4.out)
                  have HV5 : Hid (VIs w5 vb 2 0 [] (.slice none 0 0)) := (show VIs _ _ _ _ _ _ from by rw [hw5.out]; exact HV4.out)
                  have HF5 : Hid (Fr (fun q => q = bp ∨ q = vb) w0 w5) := (show Fr _ _ _ from by rw [hw5.out]; exact HF4.out.drew)
                  clear g0 g1 g2 g3 HS
                  obtain ⟨g0, g1, g2, g3⟩ := rd_cells HR5.out
                  simp only at g0 g1 g2 g3
                  obtain ⟨b0, b1, b2, b3⟩ := v_cells HV5.out
                  have hc1 := HCC.out
                  obtain ⟨A2, hcut, hA2⟩ := cut2_run (P := Try.prog) 22 5 Try.underlying22 sz5 A N c (a2 : Int) ((a2 : Int) + (n : Int)) (by omega) (by omega) (by omega)
                  rw [show ((a2 : Int) + (n : Int)).toNat - (a2 : Int).toNat = n from by omega, show (a2 : Int).toNat = a2 from by omega] at hcut
                  rw [show (a2 : Int).toNat = a2 from by omega] at hA2
                  have HRT : Hid (Rb w5 (fun k => F k ∧ k < w.heap.size) (.slice A2 n (c - a2)) T) := (show Rb _ _ _ _ from by
                    have h := (show Rb w5 (fun k => F k ∧ k < w.heap.size) (.slice A L.length c) L from H.out.fr (HF0.out.trans HF5.out (U := fun q => q = bp ∨ q = vb) (fun _ _ h => h.elim) (fun _ _ h => h)) (fun k _ hk h => by rcases h with h | h; exact HF.out k hk.1 h; have := HVB.out; omega))
                    have h5 := h.cut a2 (a2 + n) (by omega) (by rw [← HN.out]; omega)
                    rw [← hA2, show a2 + n - a2 = n from by omega, show (L.take (a2 + n)).drop a2 = T from by rw [hT.out, List.drop_take, show a2 + n - a2 = n from by omega]] at h5
                    exact h5)
                  have HA2 := Lib.hid hA2
                  have hsum : Hid (IntKind.i64.wrap ((a2 : Int) + (n : Int)) = (a2 : Int) + (n : Int)) := (show _ = _ from by rw [IntKind.wrap_i64]; omega)
                  have z2 := v_free HV5.out 2
                  clear hA2 hcut hc1
                  go_upto_region 16 with fail
                  refine wp_seq_region (fun W => W.cell? ⟨bp, 0, none⟩ = some (.slice A N c) ∧ W.cell? ⟨bp, 1, none⟩ = some (.int .i64 a2) ∧ Rb W (fun k => F k ∧ k < w.heap.size) (.slice A2 n (c - a2)) T) [17] [3, 7, 11, 15] [17] [0, 1, 2, 3, 4, 5, 6, 7, 8, 9, 10, 11, 12, 13, 14, 15, 16, 17] (by kernel_rfl) (by kernel_rfl) rfl (by kernel_rfl) (fun _ _ _ _ _ h => h) ?_
                  obtain ⟨w6, hw6⟩ : ∃ w6, Hid (w6 = w5.drew) := ⟨_, show _ = _ from rfl⟩
                  rw [← hw6.out]
                  have HR6 : Hid (RdIs w6 bp A N c ⟨a2, w2', 0⟩) := (show RdIs _ _ _ _ _ _ from by rw [hw6.out]; exact HR5.out)
                  have HV6 : Hid (VIs w6 vb 2 0 [] (.slice none 0 0)) := (show VIs _ _ _ _ _ _ from by rw [hw6.out]; exact HV5.out)
                  have HF6 : Hid (Fr (fun q => q = bp ∨ q = vb) w0 w6) := (show Fr _ _ _ from by rw [hw6.out]; exact HF5.out.drew)
                  have HS6 : Hid (w6.cell? ⟨bp, 0, none⟩ = some (.slice A N c) ∧ w6.cell? ⟨bp, 1, none⟩ = some (.int .i64 a2) ∧ Rb w6 (fun k => F k ∧ k < w.heap.size) (.slice A2 n (c - a2)) T) := (show _ ∧ _ from by rw [hw6.out]; exact ⟨g0, g1, HRT.out⟩)
                  clear g0 g1 g2 g3 b0 b1 b2 b3 z2
                  obtain ⟨b0, b1, b2, b3⟩ := v_cells HV6.out
                  have z2 := v_free HV6.out 2
                  repeat (first
                    | (refine sq_off (a' := ?_) rfl rfl (by rfl) (fun _ => (HS6).out) ?ha ?_; (case ha => simp only [Act.put, List.setIfInBounds_toArray, List.set_cons_zero, List.set_cons_succ]; rfl))
                    | (refine sq_any (v := ?_) (a' := ?_) rfl rfl rfl (by rfl) (fun W => ?hr) ?ha ?_; (case hr => go_simp; first | done | rfl); (case ha => simp only [Act.put, List.setIfInBounds_toArray, List.set_cons_zero, List.set_cons_succ]; rfl))
                    | (refine sq_load (v := ?_) (a' := ?_) rfl rfl rfl (by rfl) (fun W hSW => ?hr) (HS6).out ?ha ?_; (case hr => (try dsimp only at hSW); go_simp; first | done | rfl); (case ha => simp only [Act.put, List.setIfInBounds_toArray, List.set_cons_zero, List.set_cons_succ]; rfl)))
                  refine sq_any (v := .slice A2 n (c - a2)) (a' := ?_) rfl rfl rfl (by rfl) (fun W => ?hr) ?ha ?_
                  case hr =>
                    have h9 := HCC.out
                    go_simp
                    rw [hsum.out, if_pos ⟨by omega, by omega⟩, if_pos (by omega), ← HA2.out, show ((a2 : Int) + (n : Int)).toNat - a2 = n from by omega]
                  case ha => simp only [Act.put, List.setIfInBounds_toArray, List.set_cons_zero, List.set_cons_succ]; rfl
                  refine sq_load (v := .string ⟨T.toArray⟩) (a' := ?_) rfl rfl rfl (by rfl) (fun W hSW => ?hr) HS6.out ?ha ?_
                  case hr =>
                    unfold execOp
                    simp [Act.eval, conv_str Try.underlying22 Try.underlying5 Try.underlying9 hSW.2.2]
                  case ha => simp only [Act.put, List.setIfInBounds_toArray, List.set_cons_zero, List.set_cons_succ]; rfl
                  repeat (first
                    | (refine sq_off (a' := ?_) rfl rfl (by rfl) (fun _ => (HS6).out) ?ha ?_; (case ha => simp only [Act.put, List.setIfInBounds_toArray, List.set_cons_zero, List.set_cons_succ]; rfl))
                    | (refine sq_any (v := ?_) (a' := ?_) rfl rfl rfl (by rfl) (fun W => ?hr) ?ha ?_; (case hr => go_simp; first | done | rfl); (case ha => simp only [Act.put, List.setIfInBounds_toArray, List.set_cons_zero, List.set_cons_succ]; rfl))
                    | (refine sq_load (v := ?_) (a' := ?_) rfl rfl rfl (by rfl) (fun W hSW => ?hr) (HS6).out ?ha ?_; (case hr => (try dsimp only at hSW); go_simp; first | done | rfl); (case ha => simp only [Act.put, List.setIfInBounds_toArray, List.set_cons_zero, List.set_cons_succ]; rfl)))
                  refine sq_store (w1 := w6.setCell ⟨vb, 2, none⟩ (.string ⟨T.toArray⟩)) rfl rfl (by rfl) rfl ?hr (fun h => absurd (by decide) h) ?_
                  case hr => go_simp; first | done | rfl | (constructor <;> rfl)
                  refine sq_done ?_
                  obtain ⟨w7, hw7⟩ : ∃ w7, Hid (w7 = w6.setCell ⟨vb, 2, none⟩ (.string ⟨T.toArray⟩)) := ⟨_, show _ = _ from rfl⟩
                  rw [← hw7.out]
                  have hf7 : Fr (fun q => q = vb) w6 w7 := by rw [hw7.out]; exact Fr.one _ _
                  have HR7 : Hid (RdIs w7 bp A N c ⟨a2, w2', 0⟩) := (show RdIs _ _ _ _ _ _ from hf7.heap HR6.out (fun h => hne h))
                  have HV7 : Hid (VIs w7 vb 2 0 T (.slice none 0 0)) := (show VIs _ _ _ _ _ _ from by rw [hw7.out]; exact v_s HV6.out T)
                  have HF7 : Hid (Fr (fun q => q = bp ∨ q = vb) w0 w7) := (show Fr _ _ _ from HF6.out.trans hf7 (U := fun q => q = bp ∨ q = vb) (fun _ _ h => h) (fun _ _ h => .inr h))
                  clear b0 b1 b2 b3 z2 hf7
                  obtain ⟨g0, g1, g2, g3⟩ := rd_cells HR7.out
                  simp only at g0 g1 g2 g3
                  have f1 := rd_free HR7.out 1
                  obtain ⟨b0, b1, b2, b3⟩ := v_cells HV7.out
                  go_upto_region 26 with fail
                  obtain ⟨w8, hw8⟩ : ∃ w8, Hid (w8 = w7.setCell ⟨bp, 1, none⟩ (.int .i64 ((a2 : Int) + (n : Int)))) := ⟨_, show _ = _ from rfl⟩
                  rw [← hw8.out]
                  have hf8 : Fr (fun q => q = bp) w7 w8 := by rw [hw8.out]; exact Fr.one _ _
                  have HR8 : Hid (RdIs w8 bp A N c ⟨a2 + n, w2', 0⟩) := (show RdIs _ _ _ _ _ _ from by rw [hw8.out]; exact rd_at HR7.out (a2 + n))
                  have HV8 : Hid (VIs w8 vb 2 0 T (.slice none 0 0)) := (show VIs _ _ _ _ _ _ from hf8.heap HV7.out (fun h => hne h.symm))
                  have HF8 : Hid (Fr (fun q => q = bp ∨ q = vb) w0 w8) := (show Fr _ _ _ from HF7.out.trans hf8 (U := fun q => q = bp ∨ q = vb) (fun _ _ h => h) (fun _ _ h => .inl h))
                  have HFIT : Hid (Fits 2 0 T) := (show Fits _ _ _ from ⟨by unfold I64; omega, by unfold I64; omega, by rw [hTl.out]; simp only [maxLen]; omega⟩)
                  clear g0 g1 g2 g3 b0 b1 b2 b3 f1 hf8
                  obtain ⟨c0, c1, c2, c3⟩ := v_cells HV8.out
                  have z0 := v_free HV8.out 0
                  have z1 := v_free HV8.out 1
                  have z2 := v_free HV8.out 2
                  have z3 := v_free HV8.out 3
                  go_wp2_with fail
                  obtain ⟨w9, hw9⟩ : ∃ w9, Hid (w9 = (((w8.setCell ⟨vb, 0, none⟩ (.int .i64 2)).setCell ⟨vb, 1, none⟩ (.int .i64 0)).setCell ⟨vb, 2, none⟩ (.string ⟨T.toArray⟩)).setCell ⟨vb, 3, none⟩ (.slice none 0 0)) := ⟨_, show _ = _ from rfl⟩
                  rw [← hw9.out]
                  have HEND : Hid (ItemPost w bp A N c (.mk 2 0 T []) ⟨a2 + n, w2', 0⟩ (.returned (.agg #[.int .i64 2, .int .i64 0, .string ⟨T.toArray⟩, (.slice none 0 0)])) w9) := (show ItemPost _ _ _ _ _ _ _ _ _ from by rw [hw9.out]; exact item_end (w0 := w0) hbp HVB.out HF0.out HS0.out HFIT.out (Row.nil _ _ _ _ _ (Nat.zero_le _)) HR8.out HF8.out)
                  obtain ⟨y0, y1, y2, y3⟩ := v_cells (show VIs w9 vb 2 0 T (.slice none 0 0) from by rw [hw9.out]; exact back_v HV8.out)
                  clear c0 c1 c2 c3 z0 z1 z2 z3
                  (try simp only [Exit.inBlock, Exit.then])
                  refine bodyPost_ret (by simp [results, Try.results90, go_sem, y0, y1, y2, y3]; try rfl) rfl ?_
                  rw [hXe.out]
                  exact HEND.out
              · have hXe : Hid (X = (.mk 2 0 [] [], ⟨a2, w2', E2⟩)) := (show _ = _ from by
                  rw [HXT.out]
                  unfold textR
                  rw [if_neg hE2])
                have hb : Hid ((E2 == 0) = false) := (show _ = _ from by simpa using hE2)
                refine wp_seq_region (fun W => W.cell? ⟨bp, 0, none⟩ = some (.slice A N c) ∧ W.cell? ⟨bp, 1, none⟩ = some (.int .i64 a2) ∧ W.cell? ⟨bp, 3, none⟩ = some (.int .i64 E2)) [] [3, 10, 15] [] [0, 1, 2, 3, 4, 5, 6, 7, 8, 9, 10, 11, 12, 13, 14, 15, 16, 17, 18] (by kernel_rfl) (by kernel_rfl) rfl (by kernel_rfl) (fun _ _ _ _ _ h => h) ?_
                have HS : Hid (w4.drew.cell? ⟨bp, 0, none⟩ = some (.slice A N c) ∧ w4.drew.cell? ⟨bp, 1, none⟩ = some (.int .i64 a2) ∧ w4.drew.cell? ⟨bp, 3, none⟩ = some (.int .i64 E2)) := (show _ ∧ _ from ⟨g0, g1, g3⟩)
                repeat (first
                  | (refine sq_off (a' := ?_) rfl rfl (by rfl) (fun _ => (HS).out) ?ha ?_; (case ha => simp only [Act.put, List.setIfInBounds_toArray, List.set_cons_zero, List.set_cons_succ]; rfl))
                  | (refine sq_any (v := ?_) (a' := ?_) rfl rfl rfl (by rfl) (fun W => ?hr) ?ha ?_; (case hr => go_simp; first | done | (simp only [(hb).out]; done) | (simp only [(hb).out]; rfl) | rfl); (case ha => simp only [Act.put, List.setIfInBounds_toArray, List.set_cons_zero, List.set_cons_succ]; rfl))
                  | (refine sq_load (v := ?_) (a' := ?_) rfl rfl rfl (by rfl) (fun W hSW => ?hr) (HS).out ?ha ?_; (case hr => (try dsimp only at hSW); go_simp; first | done | rfl); (case ha => simp only [Act.put, List.setIfInBounds_toArray, List.set_cons_zero, List.set_cons_succ]; rfl)))
                refine sq_done ?_
                obtain ⟨w5, hw5⟩ : ∃ w5, Hid (w5 = w4.drew) := ⟨_, show _ = _ from rfl⟩
                rw [← hw5.out]
                have HR5 : Hid (RdIs w5 bp A N c ⟨a2, w2', E2⟩) := (show RdIs _ _ _ _ _ _ from by rw [hw5.out]; exact HR4.out)
                have HV5 : Hid (VIs w5 vb 2 0 [] (.slice none 0 0)) := (show VIs _ _ _ _ _ _ from by rw [hw5.out]; exact HV4.out)
                have HF5 : Hid (Fr (fun q => q = bp ∨ q = vb) w0 w5) := (show Fr _ _ _ from by rw [hw5.out]; exact HF4.out.drew)
                clear g0 g1 g2 g3 HS
                obtain ⟨g0, g1, g2, g3⟩ := rd_cells HR5.out
                simp only at g0 g1 g2 g3
                obtain ⟨b0, b1, b2, b3⟩ := v_cells HV5.out
                obtain ⟨c0, c1, c2, c3⟩ := v_cells HV5.out
                have z0 := v_free HV5.out 0
                have z1 := v_free HV5.out 1
                have z2 := v_free HV5.out 2
                have z3 := v_free HV5.out 3
                go_wp2_with fail
                obtain ⟨w9, hw9⟩ : ∃ w9, Hid (w9 = (((w5.setCell ⟨vb, 0, none⟩ (.int .i64 2)).setCell ⟨vb, 1, none⟩ (.int .i64 0)).setCell ⟨vb, 2, none⟩ (.string ⟨#[]⟩)).setCell ⟨vb, 3, none⟩ (.slice none 0 0)) := ⟨_, show _ = _ from rfl⟩
                rw [← hw9.out]
                have HEND : Hid (ItemPost w bp A N c (.mk 2 0 [] []) ⟨a2, w2', E2⟩ (.returned (.agg #[.int .i64 2, .int .i64 0, .string ⟨#[]⟩, (.slice none 0 0)])) w9) := (show ItemPost _ _ _ _ _ _ _ _ _ from by rw [hw9.out]; exact item_end (w0 := w0) hbp HVB.out HF0.out HS0.out ⟨by unfold I64; omega, by unfold I64; omega, Nat.zero_le _⟩ (Row.nil _ _ _ _ _ (Nat.zero_le _)) HR5.out HF5.out)
                obtain ⟨y0, y1, y2, y3⟩ := v_cells (show VIs w9 vb 2 0 [] (.slice none 0 0) from by rw [hw9.out]; exact back_v HV5.out)
                clear c0 c1 c2 c3 z0 z1 z2 z3
                (try simp only [Exit.inBlock, Exit.then])
                refine bodyPost_ret (by simp [results, Try.results90, go_sem, y0, y1, y2, y3]; try rfl) rfl ?_
                rw [hXe.out]
                exact HEND.out
            · by_cases hk3 : K = 3
              · skip
                subst hk3
                obtain ⟨n, t2, hy⟩ : ∃ n t, countR L ⟨a1, wi1 + 1, 0⟩ = (n, t) := ⟨_, _, rfl⟩
                have HXL : Hid (X = (.mk 3 0 [] (itemsR (itemR L d) n t2).1, { (itemsR (itemR L d) n t2).2 with win := (itemsR (itemR L d) n t2).2.win - 1 })) := (show _ = _ from by rw [HXU.out, if_neg (by simp), if_neg hk1, if_neg hk2, if_pos rfl, hy])
                have HV3' : Hid (VIs w3 vb 3 0 [] (.slice none 0 0)) := (show VIs _ _ _ _ _ _ from HV3.out)
                have hwi39 : wi1 ≤ 39 := by
                  have h1 : (nextR L ⟨a, wi1, E⟩).2.e = 0 := by rw [hnx.out]
                  have h2 := nextR_e h1
                  have h3 := (next_back h1 (by rw [← HN.out]; exact ha)).2.2.2
                  have h4 := hstop'.out
                  simp only at h2 h3
                  rw [← HN.out] at h3
                  have h5 : ¬ wi1 = 40 := fun h => h4 ⟨h3, h, h2⟩
                  omega
                obtain ⟨b0, b1, b2, b3⟩ := v_cells HV3'.out
                have f2 := rd_free HR3.out 2
                clear hk1 hk2
                go_upto_region 20 with fail
                obtain ⟨w4, hw4⟩ : ∃ w4, Hid (w4 = w3.setCell ⟨bp, 2, none⟩ (.int .i64 ((wi1 : Int) + 1))) := ⟨_, show _ = _ from rfl⟩
                rw [← hw4.out]
                have hf4 : Fr (fun q => q = bp) w3 w4 := by rw [hw4.out]; exact Fr.one _ _
                have HR4 : Hid (RdIs w4 bp A N c ⟨a1, wi1 + 1, 0⟩) := (show RdIs _ _ _ _ _ _ from by rw [hw4.out]; exact rd_win HR3.out (wi1 + 1))
                have HV4 : Hid (VIs w4 vb 3 0 [] (.slice none 0 0)) := (show VIs _ _ _ _ _ _ from hf4.heap HV3'.out (fun h => hne h.symm))
                have HF4 : Hid (Fr (fun q => q = bp ∨ q = vb) w0 w4) := (show Fr _ _ _ from HF3.out.trans hf4 (U := fun q => q = bp ∨ q = vb) (fun _ _ h => h) (fun _ _ h => .inl h))
                clear e0 e1 e2 e3 b0 b1 b2 b3 f2 hf4
                go_wp2_with fail
                have HKc : Hid (Kept L ⟨a1, wi1 + 1, 0⟩ t2) := (show Kept _ _ _ from by have h := countR_kept L ⟨a1, wi1 + 1, 0⟩; rw [hy] at h; exact h)
                refine (rcount_any (L := L) (s := ⟨a1, wi1 + 1, 0⟩) (F := fun k => F k ∧ k < w.heap.size) (show Rb w4 _ (.slice A L.length c) L from H.out.fr (HF0.out.trans HF4.out (U := fun q => q = bp ∨ q = vb) (fun _ _ h => h.elim) (fun _ _ h => h)) (fun k _ hk h => by rcases h with h | h; exact HF.out k hk.1 h; have := HVB.out; omega)) (fun k hk => HF.out k hk.1) (by rw [← HN.out]; exact HR4.out) (by rw [← HN.out]; exact ha1) HL.out).mono ?_
                rw [hy, ← HN.out]
                have ht2 : t2.at_ ≤ N := by have h := HKc.out.at2 (by rw [← HN.out]; exact ha1); rw [← HN.out] at h; exact h
                have hnb : n ≤ 2147483647 := by
                  have h := countR_le L ⟨a1, wi1 + 1, 0⟩
                  rw [hy] at h
                  exact h
                rintro e w5 ⟨rfl, hr5, hf5⟩
                simp only at hr5
                have HLP0 : Hid (itemsR (itemR L d) n t2 = ([] ++ (itemsR (itemR L d) n t2).1, (itemsR (itemR L d) n t2).2)) := (show _ = _ from rfl)
                have HV5 : VIs w5 vb 3 0 [] (.slice none 0 0) := hf5.heap HV4.out (fun h => hne h.symm)
                have HM0 : Hid (RdIs w5 bp A N c t2 ∧ VIs w5 vb 3 0 [] (.slice none 0 0) ∧ OwK ItK 48 w5 (New w0) (LF w0 (.slice none 0 0)) (.slice none 0 0) [] ∧ Fr (fun q => q = bp ∨ q = vb) w0 w5) := (show _ ∧ _ from ⟨hr5, HV5, OwK.nil _ _ _ _ _, HF4.out.trans hf5 (U := fun q => q = bp ∨ q = vb) (fun _ _ h => h) (fun _ _ h => .inl h)⟩)
                have HQ0 : Hid (t2.at_ ≤ N ∧ t2.win = wi1 + 1 ∧ (t2.e = 0 → ([] : List It).length ≤ t2.at_)) := (show _ ∧ _ from ⟨ht2, HKc.out.win, fun _ => Nat.zero_le _⟩)
                clear hr5 hf5 HV5 hy ht2
                go_wp2_with fail
                go_loopw [4] (fun nn wr => ∃ (m : Nat) (t : RS) (xs : List It) (vl : Value), nn = .int .i64 m ∧ m ≤ n ∧ Hid (itemsR (itemR L d) n t2 = (xs ++ (itemsR (itemR L d) m t).1, (itemsR (itemR L d) m t).2)) ∧ Hid (RdIs wr bp A N c t ∧ VIs wr vb 3 0 [] vl ∧ OwK ItK 48 wr (New w0) (LF w0 vl) vl xs ∧ Fr (fun q => q = bp ∨ q = vb) w0 wr) ∧ Hid (t.at_ ≤ N ∧ t.win = wi1 + 1 ∧ (t.e = 0 → xs.length ≤ t.at_))) (fun nn _ => (intOf nn).toNat)
                case atStart => exact ⟨n, t2, [], _, rfl, Nat.le_refl _, HLP0, HM0, HQ0⟩
                case round =>
                  obtain ⟨m, t, xs, vl, rfl, hmn, HLP, HM, HQ⟩ := hrel
                  obtain ⟨at_, wt, Et⟩ := t
                  have HWT : Hid (wt = wi1 + 1) := (show _ = _ from HQ.out.2.1)
                  have hwt40 : wt ≤ 40 := by have := HWT.out; omega
                  have hwtd : 41 ≤ d + wt := by have := HWT.out; omega
                  have hwt1 : 1 ≤ wt := by have := HWT.out; omega
                  obtain ⟨Av, cv, rfl, hcv1, _⟩ := HM.out.2.2.1.shape
                  obtain ⟨g0, g1, g2, g3⟩ := rd_cells HM.out.1
                  simp only at g0 g1 g2 g3
                  by_cases hgo : 0 < m ∧ Et = 0
                  · obtain ⟨hm0, rfl⟩ := hgo
                    obtain ⟨q, rfl⟩ : ∃ q, m = q + 1 := ⟨m - 1, by omega⟩
                    obtain ⟨x, t', hx⟩ : ∃ x t', itemR L d ⟨at_, wt, 0⟩ = (x, t') := ⟨_, _, rfl⟩
                    have HLP2 : Hid (itemsR (itemR L d) n t2 = ((xs ++ [x]) ++ (itemsR (itemR L d) q t').1, (itemsR (itemR L d) q t').2)) := (show _ = _ from by
                      rw [HLP.out, itemsR, if_pos rfl, hx, List.append_assoc]; rfl)
                    have hatN : at_ ≤ N := HQ.out.1
                    have hxl : xs.length ≤ 1099511627776 := by have h1 := HQ.out.2.2 rfl; have h2 := HL.out; rw [← HN.out] at h2; simp only at h1; omega
                    have HKx : Hid (Kept L ⟨at_, wt, 0⟩ t') := (show Kept _ _ _ from by have h := itemR_kept L d ⟨at_, wt, 0⟩; rw [hx] at h; exact h)
                    have HQ2 : Hid (t'.at_ ≤ N ∧ t'.win = wi1 + 1 ∧ (t'.e = 0 → (xs ++ [x]).length ≤ t'.at_)) := (show _ ∧ _ from by
                      refine ⟨by have h := HKx.out.at2 (by rw [← HN.out]; exact hatN); rw [← HN.out] at h; exact h, HKx.out.win.trans HWT.out, fun h => ?_⟩
                      have h1 := item_back (L := L) d ⟨at_, wt, 0⟩ (by rw [hx]; exact h) rfl (by rw [← HN.out]; exact hatN) hwt40 hwtd
                      rw [hx] at h1
                      have h2 := h1.2.2.2.2.1
                      have h3 := It.size_enc x h1.1
                      have h4 := It.size_pos x
                      have h5 := HQ.out.2.2 rfl
                      rw [List.length_append, List.length_singleton]
                      simp only at h2 h5
                      omega)
                    have hq0 : (0 : Int) < ((q + 1 : Nat) : Int) := by omega
                    go_wp2_with (with_reducible refine halt_dst 133 rfl ?_)
                    refine wpListG_run (by rfl) (v := .bool true) (w' := wr) ?hr ?_
                    case hr => go_simp; first | done | omega
                    go_wp2_with fail
                    refine (IH.out wr (fun k => F k ∧ k < w.heap.size) bp c A L ⟨at_, wt, 0⟩ (H.out.fr (HF0.out.trans HM.out.2.2.2 (U := fun q => q = bp ∨ q = vb) (fun _ _ h => h.elim) (fun _ _ h => h)) (fun k _ hk h => by rcases h with h | h; exact HF.out k hk.1 h; have := HVB.out; omega)) (fun k hk => HF.out k hk.1) (by rw [← HN.out]; exact HM.out.1) (by rw [← HN.out]; exact hatN) hwt40 hwtd HL.out).mono ?_
                    rw [hx, ← HN.out]
                    rintro e w6 ⟨vv, rfl, hiv, hr6, hf6⟩
                    obtain ⟨xk, xn, xt, xl⟩ := x
                    obtain ⟨cs, rfl, hir⟩ := hiv
                    have hir0 := hir
                    have HWR6 : Hid (wr.heap.size ≤ w6.heap.size) := (show _ ≤ _ from hf6.size)
                    have HOWN : Hid (∀ k, (Value.slice Av xs.length cv).ownBlock = some k → k < wr.heap.size) := (show ∀ k, (Value.slice Av xs.length cv).ownBlock = some k → k < wr.heap.size from by obtain ⟨_, ho, _⟩ := HM.out.2.2.1; exact fun k hk => (ho.bound.2 k hk).2)
                    obtain ⟨vx, rfl, hxrow, hxfit⟩ := itR_row hir
                    obtain ⟨A2, c2, rfl, _, _⟩ := hxrow.shape
                    have HIR := Lib.hid hir0
                    have HR6 := Lib.hid hr6
                    have hnw : ∀ k, w0.heap.size ≤ k → ¬ k = bp := fun k h1 h2 => by have := HS0.out; have := HVB.out; omega
                    have hv6 : VIs w6 vb 3 0 [] (.slice Av xs.length cv) := hf6.heap HM.out.2.1 (fun h => hne h.symm)
                    have HV6 := Lib.hid hv6
                    have hw06 : w0.heap.size ≤ wr.heap.size := HM.out.2.2.2.size
                    have HO6 : Hid (OwK ItK 48 w6 (New w0) (LF w0 (.slice Av xs.length cv)) (.slice Av xs.length cv) xs) := (show OwK _ _ _ _ _ _ _ from HM.out.2.2.1.fr hf6 (fun k _ hk h => by rcases hk with hk | hk; exact hnw k hk h; exact hnw k hk.1 h))
                    have HF6 : Hid (Fr (fun q => q = bp ∨ q = vb) w0 w6) := (show Fr _ _ _ from HM.out.2.2.2.trans hf6 (U := fun q => q = bp ∨ q = vb) (fun _ _ h => h) (fun _ _ h => .inl h))
                    clear hir hir0 hr6 hf6 hv6 hxrow hxfit g0 g1 g2 g3 hx
                    unfold str at *
                    go_upto_region 24 with fail
                    obtain ⟨w7, hw7⟩ : ∃ w7, Hid (w7 = w6.alloc (.cells #[.int .i64 xk, .int .i64 xn, .string ⟨xt.toArray⟩, .slice A2 xl.length c2] 48 (0, 0))) := ⟨_, show _ = _ from rfl⟩
                    rw [← hw7.out]
                    have hf7 : Fr No w6 w7 := by rw [hw7.out]; exact (Fr.refl _ _).alloc _
                    have hb7 : w7.heap[w6.heap.size]? = some (.cells #[.int .i64 xk, .int .i64 xn, .string ⟨xt.toArray⟩, .slice A2 xl.length c2] 48 (0, 0)) := by rw [hw7.out]; exact blk_new _ _
                    have hv7 : VIs w7 vb 3 0 [] (.slice Av xs.length cv) := hf7.heap HV6.out (fun h => h)
                    obtain ⟨b0, b1, b2, b3⟩ := v_cells hv7
                    have k0 := blk_cell hb7 0
                    have k1 := blk_cell hb7 1
                    have k2 := blk_cell hb7 2
                    have k3 := blk_cell hb7 3
                    simp only [List.getElem?_toArray, List.getElem?_cons_zero, List.getElem?_cons_succ] at k0 k1 k2 k3
                    have HV7 := Lib.hid hv7
                    have HF67 := Lib.hid hf7
                    clear hf7 hb7 hv7
                    go_wp2_with (with_reducible refine halt_dst 149 rfl ?_)
                    obtain ⟨w8, hw8⟩ : ∃ w8, Hid (w8 = w7.alloc (.cells #[.int .i64 xk, .int .i64 xn, .string ⟨xt.toArray⟩, .slice A2 xl.length c2] 48 (0, 0))) := ⟨_, show _ = _ from rfl⟩
                    rw [← hw8.out]
                    have hf8 : Fr No w6 w8 := by rw [hw8.out]; exact HF67.out.alloc _
                    have hb8 : w8.heap[w7.heap.size]? = some (.cells #[.int .i64 xk, .int .i64 xn, .string ⟨xt.toArray⟩, .slice A2 xl.length c2] 48 (0, 0)) := by rw [hw8.out]; exact blk_new _ _
                    have HO8 : Hid (OwK ItK 48 w8 (New w0) (LF w0 (.slice Av xs.length cv)) (.slice Av xs.length cv) xs) := (show OwK _ _ _ _ _ _ _ from HO6.out.fr hf8 (fun _ _ _ h => h))
                    have HV8 : Hid (VIs w8 vb 3 0 [] (.slice Av xs.length cv)) := (show VIs _ _ _ _ _ _ from hf8.heap HV6.out (fun h => h))
                    have HR8 : Hid (RdIs w8 bp A N c t') := (show RdIs _ _ _ _ _ _ from hf8.heap HR6.out (fun h => h))
                    have HF8 : Hid (Fr (fun q => q = bp ∨ q = vb) w0 w8) := (show Fr _ _ _ from HF6.out.trans hf8 (U := fun q => q = bp ∨ q = vb) (fun _ _ h => h) (fun _ _ h => h.elim))
                    have HI8 : Hid (ItR w8 (fun q => New wr q ∧ q < w8.heap.size) (.mk xk xn xt xl) [.int .i64 xk, .int .i64 xn, .string ⟨xt.toArray⟩, .slice A2 xl.length c2]) := (show ItR _ _ _ _ from itR_bound _ _ (itR_move (fun q _ hq => hf8.block q hq (fun h => h)) _ _ HIR.out))
                    obtain ⟨cells, hown8, hcs8⟩ := HO8.out
                    have HCS8 := Lib.hid hcs8
                    clear b0 b1 b2 b3 k0 k1 k2 k3 hf8 hcs8
                    refine wpList_app (O := New w0) rfl (.tmp 146) (.tmp 148) 46 48 rfl _ 4 56 Try.underlying46 info48 rfl (by omega) (by omega) (.slice Av xs.length cv) xs.length cells rfl (some ⟨w7.heap.size, 0, none⟩) 1 1 rfl hown8 [.int .i64 xk, .int .i64 xn, .string ⟨xt.toArray⟩, .slice A2 xl.length c2] rfl ?hnews (itR_one HI8.out) (by omega) ?_
                    case hnews =>
                      intro j u hj
                      refine ⟨_, rfl, ?_⟩
                      rw [add_none, blk_cell hb8, Nat.zero_add, List.getElem?_toArray]
                      exact hj
                    intro v9 w9 hown9 hfr9
                    have hcl : cells.length = xs.length * 4 := hown8.len
                    have hob : ∀ k, (Value.slice Av xs.length cv).ownBlock = some k → w0.heap.size ≤ k := fun k hk => hown8.2 k hk
                    have hsz8 : w0.heap.size ≤ w8.heap.size := HF8.out.size
                    have hno : ∀ k, (Value.slice Av xs.length cv).ownBlock = some k → ¬ k = vb := fun k hk h => by have := hob k hk; have := HS0.out; omega
                    have HO9 : Hid (OwK ItK 48 w9 (New w0) (LF w0 v9) v9 (xs ++ [.mk xk xn xt xl])) := (show OwK _ _ _ _ _ _ _ from by
                      refine OwK.snoc (cells := cells) (cs := [.int .i64 xk, .int .i64 xn, .string ⟨xt.toArray⟩, .slice A2 xl.length c2]) hcl (fun j y hj => ?_) (hown9.mono (fun k hk => ?_)) ?_
                      · obtain ⟨cs, h1, h2⟩ := HCS8.out j y hj
                        refine ⟨cs, ?_, h2⟩
                        have h3 := itR_bound _ _ h1
                        have h4 := itR_move (w := w8) (w' := w9) (fun q hq hl => hfr9.block q hl hq.1.2) _ _ h3
                        exact itR_mono (fun q hq => ⟨hq.1.1, fun h => by rcases hown9.2 q h with h | h; exact hq.1.2 h; have := hq.2; omega⟩) _ _ h4
                      · rcases hk with hk | hk
                        · exact hob k hk
                        · show w0.heap.size ≤ k
                          omega
                      · have h4 := itR_move (w := w8) (w' := w9) (fun q hq hl => hfr9.block q hl (fun h => by have h1 := HOWN.out q h; have h2 : wr.heap.size ≤ q := hq.1; omega)) _ _ HI8.out
                        exact itR_mono (fun q hq => ⟨Nat.le_trans hw06 hq.1, fun h => by rcases hown9.2 q h with h | h; (have h1 := HOWN.out q h; have h2 : wr.heap.size ≤ q := hq.1; omega); have := hq.2; omega⟩) _ _ h4)
                    have HV9 : Hid (VIs w9 vb 3 0 [] (.slice Av xs.length cv)) := (show VIs _ _ _ _ _ _ from hfr9.heap HV8.out (fun h => hno vb h rfl))
                    have HR9 : Hid (RdIs w9 bp A N c t') := (show RdIs _ _ _ _ _ _ from hfr9.heap HR8.out (fun h => hnw bp (hob bp h) rfl))
                    obtain ⟨A9, c9, rfl, _, _⟩ := hown9.shape
                    have hf10 : Fr (fun q => q = vb) w9 (w9.setCell ⟨vb, 3, none⟩ (.slice A9 (xs.length + 1) c9)) := Fr.one _ _
                    have HM2 : Hid (RdIs (w9.setCell ⟨vb, 3, none⟩ (.slice A9 (xs.length + 1) c9)) bp A N c t' ∧ VIs (w9.setCell ⟨vb, 3, none⟩ (.slice A9 (xs.length + 1) c9)) vb 3 0 [] (.slice A9 (xs.length + 1) c9) ∧ OwK ItK 48 (w9.setCell ⟨vb, 3, none⟩ (.slice A9 (xs.length + 1) c9)) (New w0) (LF w0 (.slice A9 (xs.length + 1) c9)) (.slice A9 (xs.length + 1) c9) (xs ++ [.mk xk xn xt xl]) ∧ Fr (fun q => q = bp ∨ q = vb) w0 (w9.setCell ⟨vb, 3, none⟩ (.slice A9 (xs.length + 1) c9))) := (show _ ∧ _ from by
                      refine ⟨hf10.heap HR9.out (fun h => hne h), v_l HV9.out _, HO9.out.fr hf10 (fun k _ hk h => ?_), (HF8.out.trans (hfr9.trans hf10 (U := fun q => (Value.slice Av xs.length cv).ownBlock = some q ∨ q = vb) (fun _ _ h => .inl h) (fun _ _ h => .inr h)) (U := fun q => q = bp ∨ q = vb) (fun _ _ h => h) (fun q hq h => ?_))⟩
                      · have h1 : w0.heap.size ≤ k := by rcases hk with hk | hk; exact hk; exact hk.1
                        have := HS0.out
                        have h2 : k = vb := h
                        omega
                      · rcases h with h | h
                        · have := hob q h; omega
                        · exact .inr h)
                    obtain ⟨b0, b1, b2, b3⟩ := v_cells HV9.out
                    have z3 := v_free HV9.out 3
                    clear hown9 hfr9 hcl hob hno hf10 hsz8 hown8 hb8 hnw hw06
                    go_wp2_with fail
                    go_roundw
                    case rel => exact ⟨q, t', xs ++ [.mk xk xn xt xl], _, by go_num, by omega, HLP2, HM2, HQ2⟩
                    case measure => simp [intOf]
                  · have hnil : itemsR (itemR L d) m ⟨at_, wt, Et⟩ = ([], ⟨at_, wt, Et⟩) := by
                      by_cases hEt : Et = 0
                      · have hm0 : m = 0 := by
                          rcases Nat.eq_zero_or_pos m with h | h
                          · exact h
                          · exact absurd ⟨h, hEt⟩ hgo
                        subst hm0
                        rfl
                      · exact items_err hEt m
                    have hXe : Hid (X = (.mk 3 0 [] xs, ⟨at_, wt - 1, Et⟩)) := (show _ = _ from by
                      have h := HLP.out
                      rw [hnil, List.append_nil] at h
                      rw [HXL.out, h])
                    have f2 := rd_free HM.out.1 2
                    have HRX : Hid (RdIs (wr.setCell ⟨bp, 2, none⟩ (.int .i64 ((wt : Int) - 1))) bp A N c ⟨at_, wt - 1, Et⟩) := (show RdIs _ _ _ _ _ _ from by rw [show ((wt : Int) - 1) = ((wt - 1 : Nat) : Int) from by omega]; exact rd_win HM.out.1 (wt - 1))
                    have HVX : Hid (VIs (wr.setCell ⟨bp, 2, none⟩ (.int .i64 ((wt : Int) - 1))) vb 3 0 [] (.slice Av xs.length cv)) := (show VIs _ _ _ _ _ _ from (Fr.one (w := wr) (bp := bp) 2 _).heap HM.out.2.1 (fun h => hne h.symm))
                    have HFX : Hid (Fr (fun q => q = bp ∨ q = vb) w0 (wr.setCell ⟨bp, 2, none⟩ (.int .i64 ((wt : Int) - 1)))) := (show Fr _ _ _ from HM.out.2.2.2.trans (Fr.one (w := wr) (bp := bp) 2 _) (U := fun q => q = bp ∨ q = vb) (fun _ _ h => h) (fun _ _ h => .inl h))
                    have HROW : Hid (Row ItK (wr.setCell ⟨bp, 2, none⟩ (.int .i64 ((wt : Int) - 1))) (New w0) (.slice Av xs.length cv) xs) := (show Row _ _ _ _ _ from (HM.out.2.2.1.reads.mono (F' := New w0) (fun k hk => by rcases hk with hk | hk; exact hk; exact hk.1)).fr (by decide) (Fr.one (w := wr) (bp := bp) 2 _) (fun k _ hk h => by have h1 : w0.heap.size ≤ k := hk; have h2 : k = bp := h; have := HS0.out; have := HVB.out; omega))
                    have hwb : (wt : Int) ≤ 40 := by omega
                    clear hnil
                    by_cases hm0 : m = 0
                    · subst hm0
                      clear hgo
                      go_upto_region 26 with fail
                      obtain ⟨w6, hw6⟩ : ∃ w6, Hid (w6 = wr.setCell ⟨bp, 2, none⟩ (.int .i64 ((wt : Int) - 1))) := ⟨_, show _ = _ from rfl⟩
                      rw [← hw6.out] at HRX HVX HFX HROW ⊢
                      clear g0 g1 g2 g3 f2
                      obtain ⟨c0, c1, c2, c3⟩ := v_cells HVX.out
                      have z0 := v_free HVX.out 0
                      have z1 := v_free HVX.out 1
                      have z2 := v_free HVX.out 2
                      have z3 := v_free HVX.out 3
                      go_wp2_with fail
                      obtain ⟨w9, hw9⟩ : ∃ w9, Hid (w9 = (((w6.setCell ⟨vb, 0, none⟩ (.int .i64 3)).setCell ⟨vb, 1, none⟩ (.int .i64 0)).setCell ⟨vb, 2, none⟩ (.string ⟨#[]⟩)).setCell ⟨vb, 3, none⟩ (.slice Av xs.length cv)) := ⟨_, show _ = _ from rfl⟩
                      rw [← hw9.out]
                      have HEND : Hid (ItemPost w bp A N c (.mk 3 0 [] xs) ⟨at_, wt - 1, Et⟩ (.returned (.agg #[.int .i64 3, .int .i64 0, .string ⟨#[]⟩, (.slice Av xs.length cv)])) w9) := (show ItemPost _ _ _ _ _ _ _ _ _ from by rw [hw9.out]; exact item_end (w0 := w0) hbp HVB.out HF0.out HS0.out ⟨by unfold I64; omega, by unfold I64; omega, Nat.zero_le _⟩ HROW.out HRX.out HFX.out)
                      obtain ⟨y0, y1, y2, y3⟩ := v_cells (show VIs w9 vb 3 0 [] (.slice Av xs.length cv) from by rw [hw9.out]; exact back_v HVX.out)
                      clear c0 c1 c2 c3 z0 z1 z2 z3
                      (try simp only [Exit.inBlock, Exit.then])
                      refine bodyPost_ret (by simp [results, Try.results90, go_sem, y0, y1, y2, y3]; try rfl) rfl ?_
                      rw [hXe.out]
                      exact HEND.out
                    · have hEt : ¬ Et = 0 := fun h => hgo ⟨by omega, h⟩
                      have hmp : (0 : Int) < (m : Int) := by omega
                      have hb : Hid ((Et == 0) = false) := (show _ = _ from by simpa using hEt)
                      clear hgo hm0
                      go_wp2_with (with_reducible refine halt_dst 133 rfl ?_)
                      refine wpListG_run (by rfl) (v := .bool true) (w' := wr) ?hr ?_
                      case hr => go_simp; first | done | omega
                      go_wp2_with (with_reducible refine halt_dst 139 rfl ?_)
                      refine wpListG_run (by rfl) (v := .bool false) (w' := wr) ?hr ?_
                      case hr => go_simp; first | done | exact hEt | rw [hb.out]
                      go_upto_region 26 with fail
                      obtain ⟨w6, hw6⟩ : ∃ w6, Hid (w6 = wr.setCell ⟨bp, 2, none⟩ (.int .i64 ((wt : Int) - 1))) := ⟨_, show _ = _ from rfl⟩
                      rw [← hw6.out] at HRX HVX HFX HROW ⊢
                      clear g0 g1 g2 g3 f2
                      obtain ⟨c0, c1, c2, c3⟩ := v_cells HVX.out
                      have z0 := v_free HVX.out 0
                      have z1 := v_free HVX.out 1
                      have z2 := v_free HVX.out 2
                      have z3 := v_free HVX.out 3
                      go_wp2_with fail
                      obtain ⟨w9, hw9⟩ : ∃ w9, Hid (w9 = (((w6.setCell ⟨vb, 0, none⟩ (.int .i64 3)).setCell ⟨vb, 1, none⟩ (.int .i64 0)).setCell ⟨vb, 2, none⟩ (.string ⟨#[]⟩)).setCell ⟨vb, 3, none⟩ (.slice Av xs.length cv)) := ⟨_, show _ = _ from rfl⟩
                      rw [← hw9.out]
                      have HEND : Hid (ItemPost w bp A N c (.mk 3 0 [] xs) ⟨at_, wt - 1, Et⟩ (.returned (.agg #[.int .i64 3, .int .i64 0, .string ⟨#[]⟩, (.slice Av xs.length cv)])) w9) := (show ItemPost _ _ _ _ _ _ _ _ _ from by rw [hw9.out]; exact item_end (w0 := w0) hbp HVB.out HF0.out HS0.out ⟨by unfold I64; omega, by unfold I64; omega, Nat.zero_le _⟩ HROW.out HRX.out HFX.out)
                      obtain ⟨y0, y1, y2, y3⟩ := v_cells (show VIs w9 vb 3 0 [] (.slice Av xs.length cv) from by rw [hw9.out]; exact back_v HVX.out)
                      clear c0 c1 c2 c3 z0 z1 z2 z3
                      (try simp only [Exit.inBlock, Exit.then])
                      refine bodyPost_ret (by simp [results, Try.results90, go_sem, y0, y1, y2, y3]; try rfl) rfl ?_
                      rw [hXe.out]
                      exact HEND.out

              · have hXe : Hid (X = (.mk (K : Int) 0 [] [], ⟨a1, wi1, 11⟩)) := (show _ = _ from by rw [HXU.out, if_neg (by simp), if_neg hk1, if_neg hk2, if_neg hk3])
                have hi1 : ¬ (K : Int) = 1 := by omega
                have hi2 : ¬ (K : Int) = 2 := by omega
                have hi3 : ¬ (K : Int) = 3 := by omega
                obtain ⟨b0, b1, b2, b3⟩ := v_cells HV3.out
                have f3 := rd_free HR3.out 3
                clear hk1 hk2 hk3
                go_upto_region 26 with fail
                obtain ⟨w4, hw4⟩ : ∃ w4, Hid (w4 = w3.setCell ⟨bp, 3, none⟩ (.int .i64 11)) := ⟨_, show _ = _ from rfl⟩
                rw [← hw4.out]
                have HR4 : Hid (RdIs w4 bp A N c ⟨a1, wi1, 11⟩) := (show RdIs _ _ _ _ _ _ from by rw [hw4.out]; exact rd_e HR3.out 11)
                have hf4 : Fr (fun q => q = bp) w3 w4 := by rw [hw4.out]; exact Fr.one _ _
                have HV4 : Hid (VIs w4 vb (K : Int) 0 [] (.slice none 0 0)) := (show VIs _ _ _ _ _ _ from hf4.heap HV3.out (fun h => hne h.symm))
                have HF4 : Hid (Fr (fun q => q = bp ∨ q = vb) w0 w4) := (show Fr _ _ _ from HF3.out.trans hf4 (U := fun q => q = bp ∨ q = vb) (fun _ _ h => h) (fun _ _ h => .inl h))
                clear e0 e1 e2 e3 f3 b0 b1 b2 b3 hf4
                obtain ⟨c0, c1, c2, c3⟩ := v_cells HV4.out
                have z0 := v_free HV4.out 0
                have z1 := v_free HV4.out 1
                have z2 := v_free HV4.out 2
                have z3 := v_free HV4.out 3
                go_wp2_with fail
                obtain ⟨w9, hw9⟩ : ∃ w9, Hid (w9 = (((w4.setCell ⟨vb, 0, none⟩ (.int .i64 (K : Int))).setCell ⟨vb, 1, none⟩ (.int .i64 0)).setCell ⟨vb, 2, none⟩ (.string ⟨#[]⟩)).setCell ⟨vb, 3, none⟩ (.slice none 0 0)) := ⟨_, show _ = _ from rfl⟩
                rw [← hw9.out]
                have HEND : Hid (ItemPost w bp A N c (.mk (K : Int) 0 [] []) ⟨a1, wi1, 11⟩ (.returned (.agg #[.int .i64 (K : Int), .int .i64 0, .string ⟨#[]⟩, (.slice none 0 0)])) w9) := (show ItemPost _ _ _ _ _ _ _ _ _ from by rw [hw9.out]; exact item_end (w0 := w0) hbp HVB.out HF0.out HS0.out ⟨by unfold I64; omega, by unfold I64; omega, Nat.zero_le _⟩ (Row.nil _ _ _ _ _ (Nat.zero_le _)) HR4.out HF4.out)
                obtain ⟨y0, y1, y2, y3⟩ := v_cells (show VIs w9 vb (K : Int) 0 [] (.slice none 0 0) from by rw [hw9.out]; exact back_v HV4.out)
                clear c0 c1 c2 c3 z0 z1 z2 z3
                (try simp only [Exit.inBlock, Exit.then])
                refine bodyPost_ret (by simp [results, Try.results90, go_sem, y0, y1, y2, y3]; try rfl) rfl ?_
                rw [hXe.out]
                exact HEND.out
        · have hXe : Hid (X = (.mk (K : Int) 0 [] [], ⟨a1, wi1, E1⟩)) := (show _ = _ from by rw [HXU.out, if_pos hE])
          obtain ⟨c0, c1, c2, c3⟩ := v_cells HV3.out
          have z0 := v_free HV3.out 0
          have z1 := v_free HV3.out 1
          have z2 := v_free HV3.out 2
          have z3 := v_free HV3.out 3
          go_wp2_with fail
          obtain ⟨w9, hw9⟩ : ∃ w9, Hid (w9 = (((w3.setCell ⟨vb, 0, none⟩ (.int .i64 (K : Int))).setCell ⟨vb, 1, none⟩ (.int .i64 0)).setCell ⟨vb, 2, none⟩ (.string ⟨#[]⟩)).setCell ⟨vb, 3, none⟩ (.slice none 0 0)) := ⟨_, show _ = _ from rfl⟩
          rw [← hw9.out]
          have HEND : Hid (ItemPost w bp A N c (.mk (K : Int) 0 [] []) ⟨a1, wi1, E1⟩ (.returned (.agg #[.int .i64 (K : Int), .int .i64 0, .string ⟨#[]⟩, (.slice none 0 0)])) w9) := (show ItemPost _ _ _ _ _ _ _ _ _ from by rw [hw9.out]; exact item_end (w0 := w0) hbp HVB.out HF0.out HS0.out ⟨by unfold I64; omega, by unfold I64; omega, Nat.zero_le _⟩ (Row.nil _ _ _ _ _ (Nat.zero_le _)) HR3.out HF3.out)
          obtain ⟨y0, y1, y2, y3⟩ := v_cells (show VIs w9 vb (K : Int) 0 [] (.slice none 0 0) from by rw [hw9.out]; exact back_v HV3.out)
          clear c0 c1 c2 c3 z0 z1 z2 z3
          (try simp only [Exit.inBlock, Exit.then])
          refine bodyPost_ret (by simp [results, Try.results90, go_sem, y0, y1, y2, y3]; try rfl) rfl ?_
          rw [hXe.out]
          exact HEND.out
end Go.Proofs.Ytbaohngnpgappaa
namespace Go.Proofs.Ytbaohngnpgappaa
open Go.RowKit
def ReadPost (w : World) (r : It × Nat × Int) (e : Ending) (w' : World) : Prop :=
  ∃ vv, e = .returned (.tuple #[vv, .int .i64 (r.2.1 : Int), .int .i64 r.2.2]) ∧ ItV w' (New w) vv r.1 ∧ Fr No w w'
theorem wread_end {w wz : World} {rb : Nat} {k n : Int} {s : List UInt8} {l : List It} {vl : Value} {m : Nat} {cc : Int} (hrb : rb = w.heap.size) (hf : Fr (fun q => q = rb) w wz) (hit : ItR wz (fun q => rb < q) (.mk k n s l) [.int .i64 k, .int .i64 n, .string ⟨s.toArray⟩, vl]) :
    ReadPost w (.mk k n s l, m, cc) (.returned (.tuple #[.agg #[.int .i64 k, .int .i64 n, .string ⟨s.toArray⟩, vl], .int .i64 (m : Int), .int .i64 cc])) (backW wz rb k n s vl) := by
  have hb := back_fr wz rb k n s vl
  refine ⟨_, rfl, ⟨_, rfl, itR_mono (fun q hq => ?_) _ _ (itR_move (fun q hq hl => hb.block q hl (fun h => ?_)) _ _ hit)⟩, hf.trans hb (fun q hq h => ?_) (fun q hq h => ?_)⟩
  · show w.heap.size ≤ q
    omega
  · have h' : q = rb := h
    omega
  · have h' : q = rb := h
    omega
  · have h' : q = rb := h
    omega
theorem back_set {w : World} {vb : Nat} {k n k' n' : Int} {s s' : List UInt8} {vl vl' : Value} (h : VIs w vb k n s vl) : VIs (backW w vb k' n' s' vl') vb k' n' s' vl' := v_l (v_s (v_n (v_k h k') n') s') vl'
set_option maxRecDepth 100000 in
set_option maxHeartbeats 4000000 in
theorem wread_any {w : World} {F : Nat → Prop} {v : Value} {L : List UInt8} (h : Rb w F v L) (hl : L.length ≤ 1099511627776) : Calls Try.prog 59 #[v] w (ReadPost w (readI L)) := by
  obtain ⟨A, c, rfl, hc1, hc2⟩ := h.shape
  obtain ⟨N, hN⟩ : ∃ N, N = L.length := ⟨_, rfl⟩
  have HN := Lib.hid hN
  have H : Hid (Rb w (fun k => F k ∧ k < w.heap.size) (.slice A L.length c) L) := (show Rb _ _ _ _ from h.bound)
  have HL := Lib.hid hl
  obtain ⟨rb, hrb⟩ : ∃ rb, rb = w.heap.size := ⟨_, rfl⟩
  obtain ⟨w1, hw1⟩ : ∃ w1, Hid (w1 = (w.alloc (.cells #[.int .i64 0, .int .i64 0, .string ⟨#[]⟩, .slice none 0 0] 48 (0, 0))).alloc (.cells #[.slice A N c, .int .i64 0, .int .i64 0, .int .i64 0] 124 (0, 0))) := ⟨_, show _ = _ from rfl⟩
  have hf1 : Fr No w w1 := by rw [hw1.out]; exact ((Fr.refl _ _).alloc _).alloc _
  have hs1 : w1.heap.size = rb + 2 := by rw [hw1.out, hrb]; simp
  have hv1 : VIs w1 rb 0 0 [] (.slice none 0 0) := by rw [hw1.out, hrb]; exact Fr.heap (S := No) ((Fr.refl _ _).alloc _) (blk_new _ _) (fun h => h)
  have hr1 : RdIs w1 (rb + 1) A N c ⟨0, 0, 0⟩ := by rw [hw1.out, hrb]; exact blk_new' (by simp)
  have HF1 := Lib.hid hf1
  have HS1 := Lib.hid hs1
  have HV1 := Lib.hid hv1
  have HR1 := Lib.hid hr1
  have HRB := Lib.hid hrb
  obtain ⟨X, hX⟩ : ∃ X, Hid (X = readI L) := ⟨_, show _ = _ from rfl⟩
  rw [← hX.out, ← hN]
  rw [← hN] at hc1
  clear h hc2 hl hf1 hs1 hv1 hr1 hN hrb
  obtain ⟨x, t, hx⟩ : ∃ x t, itemR L 41 ⟨0, 0, 0⟩ = (x, t) := ⟨_, _, rfl⟩
  have HXX : Hid (X = if t.e ≠ 0 then (.mk 0 0 [] [], 0, t.e) else (x, t.at_, 0)) := (show _ = _ from by rw [hX.out, readI, hx])
  have HX := Lib.hid hx
  clear hx
  go_enter Try.func59, Try.ntmps59
  go_wp2_with fail
  rw [← hw1.out, ← HRB.out]
  refine (item_any 41 w1 (fun k => F k ∧ k < w.heap.size) (rb + 1) c A L ⟨0, 0, 0⟩ (H.out.fr HF1.out (fun _ _ _ h => h)) (fun k hk h => by have := HRB.out; have := hk.2; omega) (by rw [← HN.out]; exact HR1.out) (Nat.zero_le _) (Nat.zero_le _) (Nat.le_refl _) HL.out).mono ?_
  rw [HX.out, ← HN.out]
  rintro e w2 ⟨vv, rfl, hiv, hr2, hf2⟩
  obtain ⟨xk, xn, xt, xl⟩ := x
  obtain ⟨cs, rfl, hir⟩ := hiv
  have hir0 := hir
  obtain ⟨vx, rfl, hxrow, hxfit⟩ := itR_row hir
  obtain ⟨A2, c2, rfl, _, _⟩ := hxrow.shape
  have HIR := Lib.hid hir0
  have hv2 : VIs w2 rb 0 0 [] (.slice none 0 0) := hf2.heap HV1.out (fun h => by have h' : rb = rb + 1 := h; omega)
  have HV2 := Lib.hid hv2
  have HR2 := Lib.hid hr2
  have HF2 : Hid (Fr No w w2) := (show Fr No w w2 from HF1.out.trans hf2 (fun _ _ h => h) (fun q hq h => by have h' : q = rb + 1 := h; have := HRB.out; omega))
  have hs12 : w1.heap.size ≤ w2.heap.size := hf2.size
  obtain ⟨at_, wt, E⟩ := t
  simp only at hr2 HXX
  clear hir hir0 hxrow hxfit hr2 hf2 hv2
  unfold str at *
  go_upto_region 3 with fail
  obtain ⟨w3, hw3⟩ : ∃ w3, Hid (w3 = w2.alloc (.cells #[.int .i64 xk, .int .i64 xn, .string ⟨xt.toArray⟩, .slice A2 xl.length c2] 48 (0, 0))) := ⟨_, show _ = _ from rfl⟩
  rw [← hw3.out]
  have hf3 : Fr No w2 w3 := by rw [hw3.out]; exact (Fr.refl _ _).alloc _
  have hx3 : VIs w3 w2.heap.size xk xn xt (.slice A2 xl.length c2) := by rw [hw3.out]; exact blk_new _ _
  have hv3 : VIs w3 rb 0 0 [] (.slice none 0 0) := hf3.heap HV2.out (fun h => h)
  have hr3 : RdIs w3 (rb + 1) A N c ⟨at_, wt, E⟩ := hf3.heap HR2.out (fun h => h)
  obtain ⟨g0, g1, g2, g3⟩ := rd_cells hr3
  simp only at g0 g1 g2 g3
  have HF3 : Hid (Fr No w w3) := (show Fr No w w3 from HF2.out.then hf3)
  have HI3 : Hid (ItR w3 (fun q => rb < q) (.mk xk xn xt xl) [.int .i64 xk, .int .i64 xn, .string ⟨xt.toArray⟩, .slice A2 xl.length c2]) := (show ItR _ _ _ _ from itR_mono (fun q hq => by have h' : w1.heap.size ≤ q := hq; have := HS1.out; omega) _ _ (itR_move (fun q _ hq => hf3.block q hq (fun h => h)) _ _ HIR.out))
  have HV3 := Lib.hid hv3
  have HX3 := Lib.hid hx3
  clear hf3 hx3 hv3 hr3
  by_cases hE : E = 0
  · subst hE
    have hXe : Hid (X = (.mk xk xn xt xl, at_, 0)) := (show _ = _ from by rw [HXX.out, if_neg (by simp)])
    go_upto_region 5 with fail
    obtain ⟨k0, k1, k2, k3⟩ := v_cells HX3.out
    obtain ⟨b0, b1, b2, b3⟩ := v_cells HV3.out
    refine wp_seq_region (fun W => W.cell? ⟨w2.heap.size, 0, none⟩ = some (.int .i64 xk) ∧ W.cell? ⟨w2.heap.size, 1, none⟩ = some (.int .i64 xn) ∧ W.cell? ⟨w2.heap.size, 2, none⟩ = some (.string ⟨xt.toArray⟩) ∧ W.cell? ⟨w2.heap.size, 3, none⟩ = some (.slice A2 xl.length c2) ∧ W.cell? ⟨rb + 1, 1, none⟩ = some (.int .i64 at_)) [5] [0, 4] [] [0, 1, 2, 3, 4, 5, 6, 7] (by kernel_rfl) (by kernel_rfl) rfl (by kernel_rfl) (fun _ _ _ _ _ h => h) ?_
    have HS : Hid (w3.drew.cell? ⟨w2.heap.size, 0, none⟩ = some (.int .i64 xk) ∧ w3.drew.cell? ⟨w2.heap.size, 1, none⟩ = some (.int .i64 xn) ∧ w3.drew.cell? ⟨w2.heap.size, 2, none⟩ = some (.string ⟨xt.toArray⟩) ∧ w3.drew.cell? ⟨w2.heap.size, 3, none⟩ = some (.slice A2 xl.length c2) ∧ w3.drew.cell? ⟨rb + 1, 1, none⟩ = some (.int .i64 at_)) := (show _ ∧ _ from ⟨k0, k1, k2, k3, g1⟩)
    clear k0 k1 k2 k3 g0 g1 g2 g3
    repeat (first
      | (refine sq_off (a' := ?_) rfl rfl (by rfl) (fun _ => (HS).out) ?ha ?_; (case ha => simp only [Act.put, List.setIfInBounds_toArray, List.set_cons_zero, List.set_cons_succ]; rfl))
      | (refine sq_any (v := ?_) (a' := ?_) rfl rfl rfl (by rfl) (fun W => ?hr) ?ha ?_; (case hr => go_simp; first | done | rfl); (case ha => simp only [Act.put, List.setIfInBounds_toArray, List.set_cons_zero, List.set_cons_succ]; rfl))
      | (refine sq_load (v := ?_) (a' := ?_) rfl rfl rfl (by rfl) (fun W hSW => ?hr) (HS).out ?ha ?_; (case hr => (try dsimp only at hSW); go_simp; first | done | rfl); (case ha => simp only [Act.put, List.setIfInBounds_toArray, List.set_cons_zero, List.set_cons_succ]; rfl)))
    obtain ⟨w4, hw4⟩ : ∃ w4, Hid (w4 = w3.drew) := ⟨_, show _ = _ from rfl⟩
    rw [← hw4.out]
    have hv4 : VIs w4 rb 0 0 [] (.slice none 0 0) := by rw [hw4.out]; exact HV3.out
    clear b0 b1 b2 b3
    obtain ⟨b0, b1, b2, b3⟩ := v_cells hv4
    have z0 := v_free hv4 0
    have z1 := v_free hv4 1
    have z2 := v_free hv4 2
    have z3 := v_free hv4 3
    obtain ⟨w9, hw9⟩ : ∃ w9, Hid (w9 = backW w4 rb xk xn xt (.slice A2 xl.length c2)) := ⟨_, show _ = _ from rfl⟩
    refine sq_store (w1 := w9) rfl rfl (by rfl) rfl ?hr (fun _ => ?hss) ?_
    case hss =>
      have hb := back_fr w4 rb xk xn xt (.slice A2 xl.length c2)
      rw [← hw9.out] at hb
      obtain ⟨q0, q1, q2, q3, q4⟩ := HS.out
      rw [← hw4.out] at q0 q1 q2 q3 q4
      have h2 : ¬ w2.heap.size = rb := by have := HS1.out; omega
      exact ⟨hb.cell q0 h2, hb.cell q1 h2, hb.cell q2 h2, hb.cell q3 h2, hb.cell q4 (fun h => by have h' : rb + 1 = rb := h; omega)⟩
    case hr => rw [hw9.out]; unfold backW; go_simp; first | done | rfl | (constructor <;> rfl)
    have HEND : Hid (ReadPost w (.mk xk xn xt xl, at_, 0) (.returned (.tuple #[.agg #[.int .i64 xk, .int .i64 xn, .string ⟨xt.toArray⟩, .slice A2 xl.length c2], .int .i64 (at_ : Int), .int .i64 0])) w9) := (show ReadPost _ _ _ _ from by
      rw [hw9.out]
      refine wread_end HRB.out ((HF3.out.mono (fun _ _ h => h.elim)).then (by rw [hw4.out]; exact (Fr.refl _ _).drew)) ?_
      rw [hw4.out]
      exact itR_move (w := w3) (w' := w3.drew) (fun _ _ _ => rfl) _ _ HI3.out)
    have hv9 : VIs w9 rb xk xn xt (.slice A2 xl.length c2) := by rw [hw9.out]; exact back_set hv4
    obtain ⟨y0, y1, y2, y3⟩ := v_cells hv9
    clear b0 b1 b2 b3 z0 z1 z2 z3 hv4
    have HS9 : Hid True := (show True from trivial)
    repeat (first
      | (refine sq_any (v := ?_) (a' := ?_) rfl rfl rfl (by rfl) (fun W => ?hr) ?ha ?_; (case hr => go_simp; first | done | rfl); (case ha => simp only [Act.put, List.setIfInBounds_toArray, List.set_cons_zero, List.set_cons_succ]; rfl)))
    refine sq_done ?_
    go_wp2_with fail
    (try simp only [Exit.inBlock, Exit.then])
    refine bodyPost_ret (by simp [results, Try.results59, go_sem, y0, y1, y2, y3]; try rfl) rfl ?_
    rw [hXe.out]
    exact HEND.out
  · have hXe : Hid (X = (.mk 0 0 [] [], 0, E)) := (show _ = _ from by rw [HXX.out, if_pos hE])
    go_upto_region 4 with fail
    refine wp_seq_region (fun W => W.cell? ⟨rb + 1, 3, none⟩ = some (.int .i64 E)) [5] [4] [] [0, 1, 2, 3, 4, 5, 6, 7] (by kernel_rfl) (by kernel_rfl) rfl (by kernel_rfl) (fun _ _ _ _ _ h => h) ?_
    have HS : Hid (w3.drew.cell? ⟨rb + 1, 3, none⟩ = some (.int .i64 E)) := (show _ = _ from g3)
    clear g0 g1 g2 g3
    repeat (first
      | (refine sq_off (a' := ?_) rfl rfl (by rfl) (fun _ => (HS).out) ?ha ?_; (case ha => simp only [Act.put, List.setIfInBounds_toArray, List.set_cons_zero, List.set_cons_succ]; rfl))
      | (refine sq_any (v := ?_) (a' := ?_) rfl rfl rfl (by rfl) (fun W => ?hr) ?ha ?_; (case hr => go_simp; first | done | rfl); (case ha => simp only [Act.put, List.setIfInBounds_toArray, List.set_cons_zero, List.set_cons_succ]; rfl))
      | (refine sq_load (v := ?_) (a' := ?_) rfl rfl rfl (by rfl) (fun W hSW => ?hr) (HS).out ?ha ?_; (case hr => (try dsimp only at hSW); go_simp; first | done | rfl); (case ha => simp only [Act.put, List.setIfInBounds_toArray, List.set_cons_zero, List.set_cons_succ]; rfl)))
    obtain ⟨w4, hw4⟩ : ∃ w4, Hid (w4 = w3.drew) := ⟨_, show _ = _ from rfl⟩
    rw [← hw4.out]
    have hv4 : VIs w4 rb 0 0 [] (.slice none 0 0) := by rw [hw4.out]; exact HV3.out
    obtain ⟨b0, b1, b2, b3⟩ := v_cells hv4
    have z0 := v_free hv4 0
    have z1 := v_free hv4 1
    have z2 := v_free hv4 2
    have z3 := v_free hv4 3
    obtain ⟨w9, hw9⟩ : ∃ w9, Hid (w9 = backW w4 rb 0 0 [] (.slice none 0 0)) := ⟨_, show _ = _ from rfl⟩
    refine sq_store (w1 := w9) rfl rfl (by rfl) rfl ?hr (fun _ => ?hss) ?_
    case hss =>
      have hb := back_fr w4 rb 0 0 [] (.slice none 0 0)
      rw [← hw9.out] at hb
      have q0 := HS.out
      rw [← hw4.out] at q0
      exact hb.cell q0 (fun h => by have h' : rb + 1 = rb := h; omega)
    case hr => rw [hw9.out]; unfold backW; go_simp; first | done | rfl | (constructor <;> rfl)
    have HEND : Hid (ReadPost w (.mk 0 0 [] [], 0, E) (.returned (.tuple #[.agg #[.int .i64 0, .int .i64 0, .string ⟨#[]⟩, .slice none 0 0], .int .i64 0, .int .i64 E])) w9) := (show ReadPost _ _ _ _ from by
      rw [hw9.out]
      refine wread_end (m := 0) HRB.out ((HF3.out.mono (fun _ _ h => h.elim)).then (by rw [hw4.out]; exact (Fr.refl _ _).drew)) ?_
      exact itR_of_row (s := []) (Row.nil _ _ _ _ _ (Nat.zero_le _)) ⟨by unfold I64; omega, by unfold I64; omega, Nat.zero_le _⟩)
    have hv9 : VIs w9 rb 0 0 [] (.slice none 0 0) := by rw [hw9.out]; exact back_set hv4
    obtain ⟨y0, y1, y2, y3⟩ := v_cells hv9
    clear b0 b1 b2 b3 z0 z1 z2 z3 hv4
    repeat (first
      | (refine sq_any (v := ?_) (a' := ?_) rfl rfl rfl (by rfl) (fun W => ?hr) ?ha ?_; (case hr => go_simp; first | done | rfl); (case ha => simp only [Act.put, List.setIfInBounds_toArray, List.set_cons_zero, List.set_cons_succ]; rfl)))
    refine sq_done ?_
    go_wp2_with fail
    (try simp only [Exit.inBlock, Exit.then])
    refine bodyPost_ret (by simp [results, Try.results59, go_sem, y0, y1, y2, y3]; try rfl) rfl ?_
    rw [hXe.out]
    exact HEND.out
end Go.Proofs.Ytbaohngnpgappaa
namespace Go.Proofs.Ytbaohngnpgappaa
open Go.RowKit
theorem check_of {x : It} (h : x.ok = true) (hd : x.deep ≤ 40) : checkI x = 0 := by
  unfold checkI
  rw [if_pos h, if_neg (by omega)]
theorem readI_ok {L : List UInt8} (h : (readI L).2.2 = 0) : (readI L).1.ok = true ∧ (readI L).1.fit ∧ (readI L).1.deep ≤ 40 ∧ L = (readI L).1.enc ++ L.drop (readI L).2.1 ∧ (readI L).2.1 = (readI L).1.enc.length := by
  unfold readI at h ⊢
  simp only at h ⊢
  by_cases he : (itemR L 41 ⟨0, 0, 0⟩).2.e ≠ 0
  · rw [if_pos he] at h
    exact absurd h he
  · rw [if_neg he]
    have h1 := item_back (L := L) 41 ⟨0, 0, 0⟩ (Classical.not_not.1 he) rfl (Nat.zero_le _) (Nat.zero_le _) (Nat.le_refl _)
    obtain ⟨a1, a2, a3, a4, a5, _⟩ := h1
    refine ⟨a1, a2, a3, ?_, by rw [a5]; exact Nat.zero_add _⟩
    rw [List.drop_zero] at a4
    exact a4
theorem readI_err {L : List UInt8} (h : (readI L).2.2 ≠ 0) : (readI L).2.1 = 0 ∧ (readI L).1 = .mk 0 0 [] [] := by
  unfold readI at h ⊢
  simp only at h ⊢
  by_cases he : (itemR L 41 ⟨0, 0, 0⟩).2.e ≠ 0
  · rw [if_pos he]; exact ⟨rfl, rfl⟩
  · rw [if_neg he] at h
    exact absurd rfl h
theorem enc_pos (x : It) : 1 ≤ x.enc.length := by cases x; rw [It.enc, List.length_cons]; omega
set_option maxRecDepth 100000 in
set_option maxHeartbeats 4000000 in
theorem wone_any {w : World} {F : Nat → Prop} {v : Value} {b : List UInt8} (h : Rb w F v b) : Calls Try.prog 14 #[v] w (Told (.bool true) w) := by
  obtain ⟨A, c, rfl, hc1, hc2⟩ := h.shape
  have hl2 : (b.length : Int) ≤ 9223372036854775807 := by simp only [maxLen] at hc2; omega
  have H : Hid (Rb w (fun k => F k ∧ k < w.heap.size) (.slice A b.length c) b) := (show Rb _ _ _ _ from h.bound)
  obtain ⟨N, hn⟩ : ∃ n, n = b.length := ⟨_, rfl⟩
  have HN := Lib.hid hn
  rw [← hn] at hc1 hl2 H ⊢
  clear h hc2 hn
  go_enter Try.func14, Try.ntmps14
  go_wp2_with fail
  refine (wlive_any w).mono ?_
  rintro e w1 ⟨rfl, hf1⟩
  have HF1 := Lib.hid hf1
  clear hf1
  by_cases hbig : (100000 : Int) < (N : Int)
  · go_wp2_with fail
    go_ret
    exact (show Told _ _ _ _ from ⟨rfl, HF1.out⟩)
  · have hNB : N ≤ 100000 := by omega
    go_wp2_with fail
    obtain ⟨x, n, E, hR⟩ : ∃ (x : It) (n : Nat) (E : Int), readI b = (x, n, E) := ⟨_, _, _, rfl⟩
    refine (wread_any (L := b) (F := fun k => F k ∧ k < w.heap.size) (H.out.fr HF1.out (fun _ _ _ h => h)) (by rw [← HN.out]; omega)).mono ?_
    rw [hR]
    rintro e w2 ⟨vv, rfl, hiv, hf2⟩
    have HF2 : Hid (Fr No w w2) := (show Fr No w w2 from HF1.out.then hf2)
    have HOK : Hid (E = 0 → x.ok = true ∧ x.fit ∧ x.deep ≤ 40 ∧ b = x.enc ++ b.drop n ∧ n = x.enc.length) := (show E = 0 → _ from fun he => by
      have h1 := readI_ok (L := b) (by rw [hR]; exact he)
      rw [hR] at h1
      exact h1)
    have HER : Hid (E ≠ 0 → n = 0) := (show E ≠ 0 → n = 0 from fun he => by
      have h1 := readI_err (L := b) (by rw [hR]; exact he)
      rw [hR] at h1
      exact h1.1)
    obtain ⟨cs, rfl, hir⟩ := hiv
    simp only at hir
    obtain ⟨xk, xn, xt, xl⟩ := x
    have hir0 := hir
    obtain ⟨vx, rfl, hxrow, hxfit⟩ := itR_row hir
    obtain ⟨A2, c2, rfl, _, _⟩ := hxrow.shape
    have HIR := Lib.hid hir0
    clear hir hir0 hxrow hxfit hf2 hR
    unfold str at *
    simp only [] at *
    go_upto_region 5 with fail
    obtain ⟨w3, hw3⟩ : ∃ w3, Hid (w3 = w2.alloc (.cells #[.int .i64 xk, .int .i64 xn, .string ⟨xt.toArray⟩, .slice A2 xl.length c2] 48 (0, 0))) := ⟨_, show _ = _ from rfl⟩
    rw [← hw3.out]
    have hf3 : Fr No w2 w3 := by rw [hw3.out]; exact (Fr.refl _ _).alloc _
    have hx3 : VIs w3 w2.heap.size xk xn xt (.slice A2 xl.length c2) := by rw [hw3.out]; exact blk_new _ _
    have HF3 : Hid (Fr No w w3) := (show Fr No w w3 from HF2.out.then hf3)
    have HI3 : Hid (ItR w3 (fun _ => True) (.mk xk xn xt xl) [.int .i64 xk, .int .i64 xn, .string ⟨xt.toArray⟩, .slice A2 xl.length c2]) := (show ItR _ _ _ _ from itR_mono (fun _ _ => trivial) _ _ (itR_move (fun q _ hq => hf3.block q hq (fun h => h)) _ _ HIR.out))
    have HX3 := Lib.hid hx3
    clear hf3 hx3
    by_cases hE : E = 0
    · subst hE
      obtain ⟨hok, hfit, hdp, hbe, hnl⟩ := HOK.out rfl
      have hep := enc_pos (It.mk xk xn xt xl)
      have hnN : n ≤ N := by
        have h1 := congrArg List.length hbe
        rw [List.length_append, ← hnl, ← HN.out] at h1
        omega
      have hn1 : 1 ≤ n := by omega
      have HCK : Hid (checkI (.mk xk xn xt xl) = 0) := (show _ = _ from check_of hok hdp)
      have HSZ : Hid (It.size (.mk xk xn xt xl) ≤ 1048576) := (show _ ≤ _ from by have := It.size_enc _ hok; omega)
      have HTX : Hid ((It.mk xk xn xt xl).texts ∧ (It.mk xk xn xt xl).enc.length ≤ 70368744177664) := (show _ ∧ _ from ⟨It.texts_enc _ hok (by omega), by omega⟩)
      obtain ⟨X, hX⟩ : ∃ X, Hid (X = encodeI (.mk xk xn xt xl)) := ⟨_, show _ = _ from rfl⟩
      have HXE : Hid (X = b.take n) := (show _ = _ from by
        rw [hX.out, encodeI, if_pos HCK.out, hbe, hnl, List.take_left])
      have hi1 : ¬ ((n : Int) < 1) := by omega
      have hi2 : ¬ ((N : Int) < (n : Int)) := by omega
      have hnb : n ≤ 100000 := by omega
      clear hok hfit hdp hbe hnl hep
      obtain ⟨k0, k1, k2, k3⟩ := v_cells HX3.out
      go_wp2_with (with_reducible refine halt_dst 28 rfl ?_)
      refine wpListG_run (by rfl) (v := .bool false) (w' := w3) ?hr ?_
      case hr => go_simp; first | done | omega
      go_wp2_with (with_reducible refine halt_dst 33 rfl ?_)
      refine wpListG_run (by rfl) (v := .bool false) (w' := w3) ?hr ?_
      case hr => go_simp; first | done | omega
      go_wp2_with fail
      refine (check_any (v := .mk xk xn xt xl) ⟨_, rfl, HI3.out⟩ HSZ.out).mono ?_
      rw [HCK.out]
      rintro e w4 ⟨rfl, hf4⟩
      have HX4 : Hid (VIs w4 w2.heap.size xk xn xt (.slice A2 xl.length c2)) := (show VIs _ _ _ _ _ _ from hf4.heap HX3.out (fun h => h))
      have HF4 : Hid (Fr No w w4) := (show Fr No w w4 from HF3.out.then hf4)
      have HI4 : Hid (ItR w4 (fun _ => True) (.mk xk xn xt xl) [.int .i64 xk, .int .i64 xn, .string ⟨xt.toArray⟩, .slice A2 xl.length c2]) := (show ItR _ _ _ _ from itR_move (fun q _ hq => hf4.block q hq (fun h => h)) _ _ HI3.out)
      clear hf4 k0 k1 k2 k3
      obtain ⟨k0, k1, k2, k3⟩ := v_cells HX4.out
      go_wp2_with fail
      refine (encode_any (v := .mk xk xn xt xl) ⟨_, rfl, HI4.out⟩ HSZ.out (fun _ => HTX.out)).mono ?_
      rw [HCK.out, ← hX.out]
      rintro e w5 ⟨v5, rfl, hown5, hf5⟩
      have HF5 : Hid (Fr No w w5) := (show Fr No w w5 from HF4.out.then hf5)
      have HR5 : Hid (Rb w5 (New w4) v5 X) := (show Rb _ _ _ _ from hown5.reads)
      obtain ⟨A5, c5, rfl, _, _⟩ := hown5.shape
      have hcut := cut0_run (P := Try.prog) 22 5 Try.underlying22 sz5 A N c (n : Int) (by omega) (by omega)
      rw [Int.toNat_natCast] at hcut
      have HRT : Hid (Rb w5 (fun k => F k ∧ k < w.heap.size) (.slice A n c) X) := (show Rb _ _ _ _ from by
        have h1 := H.out.fr HF5.out (fun _ _ _ h => h)
        rw [HN.out] at h1
        obtain ⟨_, _, he, _, _, h5⟩ := h1.take_ n (by rw [← HN.out]; exact hnN)
        cases he
        rw [HXE.out]
        exact h5)
      clear hown5 hf5 k0 k1 k2 k3
      go_wp2_with fail
      refine (samebytes_yes HR5.out HRT.out rfl).mono ?_
      rintro e w' ⟨rfl, rfl⟩
      go_wp2_with fail
      go_ret
      exact (show Told _ _ _ _ from ⟨rfl, HF5.out⟩)
    · have hn0 : n = 0 := HER.out hE
      subst hn0
      go_wp2_with fail
      go_ret
      exact (show Told _ _ _ _ from ⟨rfl, HF3.out⟩)
end Go.Proofs.Ytbaohngnpgappaa
namespace Go.Proofs.Ytbaohngnpgappaa
open Go.RowKit
theorem check_deep {x : It} (h : checkI x = 0) : x.deep ≤ 40 := by
  have hk := check_ok h
  unfold checkI at h
  rw [if_pos hk] at h
  by_cases hd : x.deep ≤ 40
  · exact hd
  · rw [if_pos (by omega)] at h
    exact absurd h (by decide)
theorem readI_of {x : It} (h : checkI x = 0) (hf : x.fit) (hb : x.bulk ≤ 1048576) (r : List UInt8) : readI (x.enc ++ r) = (x, x.enc.length, 0) := by
  have h1 := item_ok x (check_ok h) hf (by omega) 41 (x.enc ++ r) 0 0 r (by have := check_deep h; omega) (Nat.le_refl _) rfl
  unfold readI
  simp only
  rw [h1]
  simp only
  rw [if_neg (by simp), Nat.zero_add]
theorem openB_seal {b : List UInt8} (hb : b.length ≤ 2147483647) (r : List UInt8) : openB (sealB b ++ r) = (b, b.length + 8, 0) := by
  have hl : (sealB b ++ r).length = b.length + 8 + r.length := by rw [List.length_append, sealB_len]
  have h4 : (sealB b ++ r).take 4 = be4 b.length := by
    rw [sealB, List.append_assoc, List.append_assoc, List.take_append_of_le_length (by rw [be4_len]; omega), List.take_of_length_le (by rw [be4_len]; omega)]
  have hr : rdn ((sealB b ++ r).take 4) = b.length := by rw [h4]; exact rdn_be4 _ (by omega)
  have h5 : ((sealB b ++ r).take (4 + b.length)).drop 4 = b := by
    rw [sealB, List.append_assoc, List.take_append_of_le_length (by rw [List.length_append, be4_len]; omega), List.take_of_length_le (by rw [List.length_append, be4_len]; omega), List.drop_left' (be4_len _)]
  have h6 : (sealB b ++ r).take (b.length + 8) = sealB b := by
    rw [List.take_append_of_le_length (by rw [sealB_len]; omega), List.take_of_length_le (by rw [sealB_len]; omega)]
  unfold openB
  rw [if_neg (by omega), hr, if_neg (by omega), if_neg (by omega), h5, if_pos h6.symm]
set_option maxRecDepth 100000 in
set_option maxHeartbeats 4000000 in
theorem wback_any {w : World} {F F' : Nat → Prop} {v vb : Value} {x : It} {q : List UInt8} (h : ItV w F v x) (hq : Rb w F' vb q) (hbk : x.bulk ≤ 1048576) : Calls Try.prog 15 #[v, vb] w (Told (.bool true) w) := by
  obtain ⟨k, n, s, l⟩ := x
  obtain ⟨cs, rfl, hr⟩ := h
  have hr0 := hr
  obtain ⟨vl, rfl, hrow, hfit⟩ := itR_row hr
  obtain ⟨A, c, rfl, hc1, hc2⟩ := hrow.shape
  obtain ⟨Aq, cq, rfl, hq1, hq2⟩ := hq.shape
  have HR := Lib.hid hr0
  have HBK := Lib.hid hbk
  have HQ := Lib.hid hq
  have HFT : Hid (It.fit (.mk k n s l)) := (show It.fit _ from itR_fit _ _ hr0)
  have hql : (q.length : Int) ≤ 9223372036854775807 := by simp only [maxLen] at hq2; omega
  clear hr hr0 hrow hfit hc1 hc2 hbk hq hq2
  unfold str
  unfold str at HR
  go_enter Try.func15, Try.ntmps15
  go_wp2_with fail
  obtain ⟨w1, hw1⟩ : ∃ w1, Hid (w1 = w.alloc (.cells #[.int .i64 k, .int .i64 n, .string ⟨s.toArray⟩, .slice A l.length c] 48 (0, 0))) := ⟨_, show _ = _ from rfl⟩
  rw [← hw1.out]
  have hf1 : Fr No w w1 := by rw [hw1.out]; exact (Fr.refl _ _).alloc _
  have hb1 : VIs w1 w.heap.size k n s (.slice A l.length c) := by rw [hw1.out]; exact blk_new _ _
  have HF1 := Lib.hid hf1
  have HB1 := Lib.hid hb1
  clear hf1 hb1
  refine (wlive_any w1).mono ?_
  rintro e w2 ⟨rfl, hf2⟩
  have HB2 : Hid (VIs w2 w.heap.size k n s (.slice A l.length c)) := (show VIs _ _ _ _ _ _ from hf2.heap HB1.out (fun h => h))
  have HF2 := Lib.hid (HF1.out.then hf2)
  clear hf2
  obtain ⟨d0, d1, d2, d3⟩ := v_cells HB2.out
  go_wp2_with fail
  obtain ⟨w3, hw3⟩ : ∃ w3, Hid (w3 = w2.alloc (.cells #[.int .i64 k, .int .i64 n, .string ⟨s.toArray⟩, .slice A l.length c] 48 (0, 0))) := ⟨_, show _ = _ from rfl⟩
  rw [← hw3.out]
  have hf3 : Fr No w2 w3 := by rw [hw3.out]; exact (Fr.refl _ _).alloc _
  have hb3 : w3.heap[w2.heap.size]? = some (.cells #[.int .i64 k, .int .i64 n, .string ⟨s.toArray⟩, .slice A l.length c] 48 (0, 0)) := by rw [hw3.out]; exact blk_new _ _
  have HF3 := Lib.hid (HF2.out.then hf3)
  have HRW : Hid (ItR w3 (fun _ => True) (.mk k n s l) [.int .i64 k, .int .i64 n, .string ⟨s.toArray⟩, .slice A l.length c]) := (show ItR _ _ _ _ from itR_mono (fun _ _ => trivial) _ _ (itR_move (fun q _ hq => HF3.out.block q hq (fun h => h)) _ _ HR.out))
  have hrow := row_one hb3 HRW.out
  have HB3 : Hid (VIs w3 w.heap.size k n s (.slice A l.length c)) := (show VIs _ _ _ _ _ _ from hf3.heap HB2.out (fun h => h))
  obtain ⟨B, hB⟩ : ∃ B, Hid (B = bigB [.mk k n s l]) := ⟨_, show _ = _ from rfl⟩
  refine (big_any hrow).mono ?_
  rw [← hB.out]
  rintro e w4 ⟨rfl, hf4⟩
  have HF34 : Hid (Fr No w3 w4) := (show Fr No w3 w4 from hf4)
  have HB4 : Hid (VIs w4 w.heap.size k n s (.slice A l.length c)) := (show VIs _ _ _ _ _ _ from hf4.heap HB3.out (fun h => h))
  clear hf3 hf4 hrow hb3 d0 d1 d2 d3
  cases B
  · have hs1 := bigB_mem hB.out.symm _ List.mem_cons_self
    have HZ : Hid (It.size (.mk k n s l) ≤ 1048576) := (show _ ≤ _ from Nat.le_trans hs1 (by decide))
    clear hs1
    by_cases hqb : (100000 : Int) < (q.length : Int)
    · have hd1 : Hid (decide ((100000 : Int) < (q.length : Int)) = true) := (show _ = _ from decide_eq_true hqb)
      go_wp2_with (with_reducible refine halt_dst 22 rfl ?_)
      refine wpListG_run (by rfl) (v := .bool true) (w' := w4) ?hr ?_
      case hr => go_simp; first | done | omega | rw [hd1.out]
      go_wp2_with fail
      go_ret
      exact (show Told _ _ _ _ from ⟨rfl, HF3.out.then HF34.out⟩)
    · have hqn : q.length ≤ 100000 := by omega
      go_wp2_with (with_reducible refine halt_dst 22 rfl ?_)
      refine wpListG_run (by rfl) (v := .bool false) (w' := w4) ?hr ?_
      case hr => go_simp; first | done | omega
      obtain ⟨C, hC⟩ : ∃ C, Hid (C = checkI (.mk k n s l)) := ⟨_, show _ = _ from rfl⟩
      obtain ⟨X, hX⟩ : ∃ X, Hid (X = encodeI (.mk k n s l)) := ⟨_, show _ = _ from rfl⟩
      obtain ⟨d0, d1, d2, d3⟩ := v_cells HB4.out
      go_wp2_with fail
      refine (encode_any (v := .mk k n s l) (show ItV w4 (fun _ => True) _ _ from ⟨_, rfl, itR_move (fun q _ hq => HF34.out.block q hq (fun h => h)) _ _ HRW.out⟩) HZ.out (fun _ => ⟨It.bulk_texts _ HBK.out, It.bulk_enc HBK.out⟩)).mono ?_
      rw [← hC.out, ← hX.out]
      rintro e w5 ⟨v5, rfl, hown5, hf5⟩
      have HF35 : Hid (Fr No w3 w5) := (show Fr No w3 w5 from HF34.out.then hf5)
      have HR5 : Hid (Rb w5 (fun q => New w4 q ∧ q < w5.heap.size) v5 X) := (show Rb _ _ _ _ from hown5.reads.bound)
      have HB5 : Hid (VIs w5 w.heap.size k n s (.slice A l.length c)) := (show VIs _ _ _ _ _ _ from hf5.heap HB4.out (fun h => h))
      obtain ⟨A5, c5, rfl, _, _⟩ := hown5.shape
      clear d0 d1 d2 d3 hown5 hf5
      by_cases hC0 : C = 0
      · have HCK : Hid (checkI (.mk k n s l) = 0) := (show _ = _ from by rw [← hC.out]; exact hC0)
        have HXE : Hid (X = (It.mk k n s l).enc) := (show _ = _ from by rw [hX.out, encodeI, if_pos HCK.out])
        have hXl : X.length ≤ 11534336 := by rw [HXE.out]; have := It.enc_bulk (.mk k n s l); have := HBK.out; omega
        subst hC0
        have HG0 : Hid (Grow w5 (.slice none 0 0) (.slice none 0 0) [] w5) := (show Grow _ _ _ _ _ from Grow.start (w1 := w5) (Ow.nil w5 No _ _) (Fr.refl _ _))
        obtain ⟨_, _, he, _, _, hnews⟩ := HR5.out.news
        cases he
        have HN5 := Lib.hid hnews
        clear hnews
        go_wp2_with (with_reducible refine halt_dst 40 rfl ?_)
        refine wpList_app rfl (.const (.slice none 0 0)) (.tmp 39) 22 5 rfl _ 1 1 Try.underlying22 info5 rfl (by omega) (by omega) (.slice none 0 0) 0 [] rfl A5 X.length c5 rfl HG0.out.own (X.map enc8) (by rw [List.length_map, Nat.mul_one]) HN5.out (one8 _) (by omega) ?_
        intro v6 w6 hown6 hfr6
        have HG6 : Hid (Grow w5 (.slice none 0 0) v6 X w6) := (show Grow _ _ _ _ _ from HG0.out.app hown6 hfr6 rfl)
        clear hown6 hfr6
        have HF56 : Hid (Fr No w5 w6) := (show Fr No w5 w6 from HG6.out.fr.mono (fun k _ h => by simp [Value.ownBlock] at h))
        obtain ⟨_, _, he, _, _, hnews⟩ := (HQ.out.bound.fr ((HF3.out.then HF35.out).then HF56.out) (fun _ _ _ h => h)).news
        cases he
        have HNQ := Lib.hid hnews
        clear hnews
        go_wp2_with (with_reducible refine halt_dst 42 rfl ?_)
        refine wpList_app rfl (.tmp 40) (.tmp 41) 22 5 rfl _ 1 1 Try.underlying22 info5 rfl (by omega) (by omega) v6 X.length (X.map enc8) rfl Aq q.length cq rfl HG6.out.own (q.map enc8) (by rw [List.length_map, Nat.mul_one]) HNQ.out (one8 _) (by omega) ?_
        intro v7 w7 hown7 hfr7
        have HG7 : Hid (Grow w5 (.slice none 0 0) v7 (X ++ q) w7) := (show Grow _ _ _ _ _ from HG6.out.app hown7 hfr7 rfl)
        clear hown7 hfr7
        have HF57 : Hid (Fr No w5 w7) := (show Fr No w5 w7 from HG7.out.fr.mono (fun k _ h => by simp [Value.ownBlock] at h))
        have HR7 : Hid (Rb w7 (fun _ => True) v7 (X ++ q)) := (show Rb _ _ _ _ from HG7.out.own.reads.mono (fun _ _ => trivial))
        obtain ⟨M, hM⟩ : ∃ M, Hid (M = (X ++ q).length) := ⟨_, show _ = _ from rfl⟩
        obtain ⟨A7, c7, he7, _, _⟩ := HG7.out.own.shape
        rw [← hM.out] at he7
        subst he7
        go_wp2_with fail
        refine (wread_any HR7.out (by rw [List.length_append]; omega)).mono ?_
        rw [show readI (X ++ q) = (.mk k n s l, X.length, 0) from by rw [HXE.out]; exact readI_of HCK.out HFT.out HBK.out q]
        rintro e w8 ⟨vv, rfl, ⟨cs, rfl, hir⟩, hf8⟩
        have hir0 := hir
        obtain ⟨vx, rfl, hxrow, hxfit⟩ := itR_row hir
        obtain ⟨A2, c2, rfl, _, _⟩ := hxrow.shape
        have HIR := Lib.hid hir0
        have HF58 : Hid (Fr No w5 w8) := (show Fr No w5 w8 from HF57.out.then hf8)
        clear hir hir0 hxrow hxfit hf8
        unfold str at *
        simp only [] at *
        go_upto_region 8 with fail
        obtain ⟨w9, hw9⟩ : ∃ w9, Hid (w9 = w8.alloc (.cells #[.int .i64 k, .int .i64 n, .string ⟨s.toArray⟩, .slice A2 l.length c2] 48 (0, 0))) := ⟨_, show _ = _ from rfl⟩
        rw [← hw9.out]
        have hf9 : Fr No w8 w9 := by rw [hw9.out]; exact (Fr.refl _ _).alloc _
        have HF59 : Hid (Fr No w5 w9) := (show Fr No w5 w9 from HF58.out.then hf9)
        have HX9 : Hid (VIs w9 w8.heap.size k n s (.slice A2 l.length c2)) := (show VIs _ _ _ _ _ _ from by rw [hw9.out]; exact blk_new _ _)
        have HI9 : Hid (ItR w9 (fun _ => True) (.mk k n s l) [.int .i64 k, .int .i64 n, .string ⟨s.toArray⟩, .slice A2 l.length c2]) := (show ItR _ _ _ _ from itR_mono (fun _ _ => trivial) _ _ (itR_move (fun q _ hq => hf9.block q hq (fun h => h)) _ _ HIR.out))
        clear hf9
        go_wp2_with fail
        refine (seal_any (HR5.out.fr HF59.out (fun _ _ _ h => h)) (by omega)).mono ?_
        obtain ⟨Y, hY⟩ : ∃ Y, Hid (Y = sealB X) := ⟨_, show _ = _ from rfl⟩
        have hYl : Y.length = X.length + 8 := by rw [hY.out, sealB_len]
        rw [← hY.out]
        rintro e w10 ⟨v10, rfl, hown10, hf10⟩
        have HF9a : Hid (Fr No w9 w10) := (show Fr No w9 w10 from hf10)
        have HR10 : Hid (Rb w10 (fun q => New w9 q ∧ q < w10.heap.size) v10 Y) := (show Rb _ _ _ _ from hown10.reads.bound)
        obtain ⟨A10, c10, rfl, _, _⟩ := hown10.shape
        clear hown10 hf10
        have HG10 : Hid (Grow w10 (.slice none 0 0) (.slice none 0 0) [] w10) := (show Grow _ _ _ _ _ from Grow.start (w1 := w10) (Ow.nil w10 No _ _) (Fr.refl _ _))
        obtain ⟨_, _, he, _, _, hnews⟩ := HR10.out.news
        cases he
        have HN10 := Lib.hid hnews
        have hYb : Y.length ≤ 11534344 := by omega
        have HYL := Lib.hid hYl
        clear hnews hYl
        go_wp2_with (with_reducible refine halt_dst 51 rfl ?_)
        refine wpList_app rfl (.const (.slice none 0 0)) (.tmp 50) 22 5 rfl _ 1 1 Try.underlying22 info5 rfl (by omega) (by omega) (.slice none 0 0) 0 [] rfl A10 Y.length c10 rfl HG10.out.own (Y.map enc8) (by rw [List.length_map, Nat.mul_one]) HN10.out (one8 _) (by omega) ?_
        intro v11 w11 hown11 hfr11
        have HG11 : Hid (Grow w10 (.slice none 0 0) v11 Y w11) := (show Grow _ _ _ _ _ from HG10.out.app hown11 hfr11 rfl)
        clear hown11 hfr11
        have HFa11 : Hid (Fr No w10 w11) := (show Fr No w10 w11 from HG11.out.fr.mono (fun k _ h => by simp [Value.ownBlock] at h))
        obtain ⟨_, _, he, _, _, hnews⟩ := (HQ.out.bound.fr ((((HF3.out.then HF35.out).then HF59.out).then HF9a.out).then HFa11.out) (fun _ _ _ h => h)).news
        cases he
        have HNQ2 := Lib.hid hnews
        clear hnews
        go_wp2_with (with_reducible refine halt_dst 53 rfl ?_)
        refine wpList_app rfl (.tmp 51) (.tmp 52) 22 5 rfl _ 1 1 Try.underlying22 info5 rfl (by omega) (by omega) v11 Y.length (Y.map enc8) rfl Aq q.length cq rfl HG11.out.own (q.map enc8) (by rw [List.length_map, Nat.mul_one]) HNQ2.out (one8 _) (by omega) ?_
        intro v12 w12 hown12 hfr12
        have HG12 : Hid (Grow w10 (.slice none 0 0) v12 (Y ++ q) w12) := (show Grow _ _ _ _ _ from HG11.out.app hown12 hfr12 rfl)
        clear hown12 hfr12
        have HFa12 : Hid (Fr No w10 w12) := (show Fr No w10 w12 from HG12.out.fr.mono (fun k _ h => by simp [Value.ownBlock] at h))
        have HR12 : Hid (Rb w12 (fun _ => True) v12 (Y ++ q)) := (show Rb _ _ _ _ from HG12.out.own.reads.mono (fun _ _ => trivial))
        obtain ⟨M2, hM2⟩ : ∃ M, Hid (M = (Y ++ q).length) := ⟨_, show _ = _ from rfl⟩
        obtain ⟨A12, c12, he12, _, _⟩ := HG12.out.own.shape
        rw [← hM2.out] at he12
        subst he12
        go_wp2_with fail
        refine (open_any HR12.out).mono ?_
        rw [show openB (Y ++ q) = (X, Y.length, 0) from by rw [HYL.out, hY.out]; exact openB_seal (by omega) q]
        rintro e w13 ⟨v13, rfl, hown13, hf13⟩
        have HF9d : Hid (Fr No w9 w13) := (show Fr No w9 w13 from (HF9a.out.then HFa12.out).then hf13)
        have HR13 : Hid (Rb w13 (New w12) v13 X) := (show Rb _ _ _ _ from hown13.reads)
        obtain ⟨A13, c13, rfl, _, _⟩ := hown13.shape
        have HF5d : Hid (Fr No w5 w13) := (show Fr No w5 w13 from HF59.out.then HF9d.out)
        clear hown13 hf13
        simp only [] at *
        obtain ⟨d0, d1, d2, d3⟩ := v_cells (show VIs w13 w.heap.size k n s (.slice A l.length c) from HF5d.out.heap HB5.out (fun h => h))
        obtain ⟨k0, k1, k2, k3⟩ := v_cells (show VIs w13 w8.heap.size k n s (.slice A2 l.length c2) from HF9d.out.heap HX9.out (fun h => h))
        go_wp2_with fail
        refine (refsame_any (.mk k n s l) (.mk k n s l) w13 (fun _ => True) (fun _ => True) _ _ ⟨_, rfl, itR_move (fun q _ hq => HF9d.out.block q hq (fun h => h)) _ _ HI9.out⟩ ⟨_, rfl, itR_move (fun q _ hq => (HF35.out.then HF5d.out).block q hq (fun h => h)) _ _ HRW.out⟩).mono ?_
        rw [show It.same (.mk k n s l) (.mk k n s l) = true from (It.same_iff _ _).2 rfl]
        rintro e w14 ⟨rfl, hf14⟩
        have HF5e : Hid (Fr No w5 w14) := (show Fr No w5 w14 from HF5d.out.then hf14)
        have HR14 : Hid (Rb w14 (New w12) (.slice A13 X.length c13) X) := (show Rb _ _ _ _ from HR13.out.fr hf14 (fun _ _ _ h => h))
        clear hf14 d0 d1 d2 d3 k0 k1 k2 k3
        go_wp2_with fail
        refine (samebytes_yes HR14.out (HR5.out.fr HF5e.out (fun _ _ _ h => h)) rfl).mono ?_
        rintro e w' ⟨rfl, rfl⟩
        go_wp2_with fail
        go_ret
        exact (show Told _ _ _ _ from ⟨rfl, (HF3.out.then HF35.out).then HF5e.out⟩)
      · have hl1 : X = [] := by rw [hX.out, encodeI, if_neg (by rw [← hC.out]; exact hC0)]
        subst hl1
        simp only [List.length_nil]
        go_wp2_with fail
        go_ret
        exact (show Told _ _ _ _ from ⟨rfl, HF3.out.then HF35.out⟩)
  · go_wp2_with fail
    go_ret
    exact (show Told _ _ _ _ from ⟨rfl, HF3.out.then HF34.out⟩)
end Go.Proofs.Ytbaohngnpgappaa
