/- The disk's function Crash. -/
import Derived.Test.YtbaohngnpgappaaD1
set_option linter.unusedVariables false
set_option linter.unusedSimpArgs false
namespace Go.Proofs.Ytbaohngnpgappaa
open Go.RowKit
/-- Is the bit set? -/
def bset (keep k : Nat) : Bool := !(bits BinOp.and IntKind.u64 (keep : Int) (IntKind.u64.wrap (2 ^ k)) == 0)
/-- The writes among the first k that are kept. -/
def keptW (ws : List (Nat × List UInt8)) (keep : Nat) : Nat → List (Nat × List UInt8)
  | 0 => []
  | k + 1 => keptW ws keep k ++ (match ws[k]? with | some x => if k < 64 ∧ bset keep k = true then [x] else [] | none => [])
def tearB (tear : Int) (b : List UInt8) : List UInt8 := if 0 ≤ tear ∧ tear < b.length then b.take tear.toNat else b
def crashS (s : List UInt8) (l : List (Nat × List UInt8)) (tear : Int) : List UInt8 :=
  match l.getLast? with
  | none => s
  | some x => splice (applyW s l.dropLast) x.1 (tearB tear x.2)
theorem keptW_mem {ws : List (Nat × List UInt8)} {keep : Nat} : ∀ {k : Nat} {x : Nat × List UInt8}, x ∈ keptW ws keep k → x ∈ ws := by
  intro k
  induction k with
  | zero => intro x h; simp [keptW] at h
  | succ k ih =>
    intro x h
    rcases List.mem_append.1 h with h | h
    · exact ih h
    · split at h
      · rename_i y hy
        split at h
        · rw [List.mem_singleton.1 h]; exact List.mem_of_getElem? hy
        · simp at h
      · simp at h
theorem applyW_append (s : List UInt8) (l : List (Nat × List UInt8)) (x : Nat × List UInt8) : applyW s (l ++ [x]) = splice (applyW s l) x.1 x.2 := by simp [applyW]
/-- What a crash has come to behind k of the writes: l points to the last one that is kept. -/
def CrashRel (w : World) (vs vw : Value) (d : Dk) (keep k : Nat) (l : Value) (wr : World) : Prop :=
  Fr (fun k => vs.ownBlock = some k) w wr ∧ Ow wr (fun k => vs.ownBlock = some k) 5 1 vs d.safe.length ((applyW d.safe (keptW d.waits keep k).dropLast).map enc8) ∧
    ((keptW d.waits keep k = [] ∧ l = .pointer none) ∨ ∃ g j x, d.waits[j]? = some x ∧ (keptW d.waits keep k).getLast? = some x ∧ vw.ownBlock = some g ∧ l = .pointer (some ⟨g, j * 2, none⟩))
theorem CrashRel.skip {w : World} {vs vw : Value} {d : Dk} {keep k : Nat} {l : Value} {wr : World} (h : CrashRel w vs vw d keep k l wr) (hn : ¬ (k < 64 ∧ bset keep k = true)) : CrashRel w vs vw d keep (k + 1) l wr := by
  have e : keptW d.waits keep (k + 1) = keptW d.waits keep k := by
    simp only [keptW]
    cases d.waits[k]? with
    | none => simp
    | some x => simp [hn]
  unfold CrashRel at h ⊢
  rw [e]
  exact h
theorem keptW_take {ws : List (Nat × List UInt8)} {keep k : Nat} {x : Nat × List UInt8} (hx : ws[k]? = some x) (h : k < 64 ∧ bset keep k = true) : keptW ws keep (k + 1) = keptW ws keep k ++ [x] := by
  simp only [keptW, hx]
  rw [if_pos h]
theorem splice_all {α : Type} (L b : List α) (h : b.length = L.length) : splice L 0 b = b := by
  simp [splice, h]
/-- What stands when the safe bytes are as they will be: what is left is to let all that waits go, and to copy the safe bytes. -/
structure CrashEnd (w : World) (bp : Nat) (vs vn : Value) (d : Dk) (s : List UInt8) (wr : World) : Prop where
  fr : Fr (fun k => vs.ownBlock = some k) w wr
  hs : Ow wr (fun k => vs.ownBlock = some k) 5 1 vs d.safe.length (s.map enc8)
  len : s.length = d.safe.length
theorem CrashEnd.done {w : World} {O R : Nat → Prop} {bp : Nat} {vs vn vw : Value} {cells : List Value} {d : Dk} {s : List UInt8} {wr w5 w6 : World} (hD : DiskAt w O R bp vs vn vw cells d) (h : CrashEnd w bp vs vn d s wr)
    (hw5 : w5 = wr.setCell ⟨bp, 2, none⟩ (.slice none 0 0)) (hfr : Fr (fun k => vn.ownBlock = some k) w5 w6) (hn : Ow w6 (fun k => vn.ownBlock = some k) 5 1 vn d.now.length (s.map enc8)) :
    DiskPost w O R (.pointer (some ⟨bp, 0, none⟩)) (.tuple #[]) ⟨s, s, []⟩ (.returned (.tuple #[])) w6 := by
  have f5 : Fr (fun k => k = bp) wr w5 := by rw [hw5]; exact (Fr.refl _ _).setCell _ _ (fun _ => rfl)
  have hbp : ¬ vs.ownBlock = some bp := fun e => (hD.hs.2 bp e).2 rfl
  have hbn : ¬ vn.ownBlock = some bp := fun e => (hD.hn.2 bp e).2.1 rfl
  refine hD.settle ?_ ?_ h.len (h.len.trans hD.hl) ?_ hn
  · exact ((h.fr.mono (T := fun k => vs.ownBlock = some k ∨ vn.ownBlock = some k ∨ k = bp) (fun k _ h => .inl h)).trans f5 (fun _ _ h => h) (fun _ _ h => .inr (.inr h))).trans hfr (fun _ _ h => h) (fun _ _ h => .inr (.inl h))
  · exact hfr.heap (by rw [hw5, blk_set (h.fr.heap hD.hp hbp)]; rfl) hbn
  · exact (h.hs.fr f5 (fun k _ h1 h2 => (hD.hs.2 k h1).2 h2)).fr hfr (fun k _ h1 h2 => (hD.hn.2 k h2).2.2 h1)
set_option maxHeartbeats 1000000 in
theorem crash_any {w : World} {O R : Nat → Prop} {p : Value} {d : Dk} (h : DiskIs w O R p d) (hws : d.waits.length ≤ 1000000) (keep : Nat) (tear : Int) (hkeep : keep < 18446744073709551616) :
    Calls Try.prog 32 #[p, .int .u64 (keep : Int), .int .i64 tear] w (DiskPost w O R p (.tuple #[]) ⟨crashS d.safe (keptW d.waits keep d.waits.length) tear, crashS d.safe (keptW d.waits keep d.waits.length) tear, []⟩) := by
  obtain ⟨bp, vs, vn, vw, cells, rfl, h⟩ := h
  obtain ⟨As, cs, hvs, hc1, hc2⟩ := h.hs.shape
  obtain ⟨An, cn, hvn, hcn, _⟩ := h.hn.shape
  obtain ⟨Aw, cw, hvw, hcw1, hcw2⟩ := h.hw.shape
  subst hvs hvw hvn
  have h0 := blk_cell h.hp 0
  have h2 := blk_cell h.hp 2
  simp only [List.getElem?_toArray, List.getElem?_cons_succ, List.getElem?_cons_zero] at h0 h2
  have hm : d.safe.length ≤ 1048576 := by rw [h.hl]; exact h.hm
  have H := Lib.hid h
  have HK := Lib.hid hkeep
  clear h hcw1 hcw2 hc2 hkeep
  go_enter Try.func32, Try.ntmps32
  go_wp2
  go_loopw [6, 14] (fun l i wr => ∃ k : Nat, k ≤ d.waits.length ∧ i = .int .i64 k ∧ Hid (CrashRel w (.slice As d.safe.length cs) (.slice Aw d.waits.length cw) d keep k l wr)) (fun _ i _ => d.waits.length - (intOf i).toNat)
  case atStart => exact ⟨0, Nat.zero_le _, rfl, show CrashRel _ _ _ _ _ _ _ _ from ⟨Fr.refl _ _, H.out.hs.just, .inl ⟨rfl, rfl⟩⟩⟩
  case round =>
    obtain ⟨k, hk, rfl, HR⟩ := hrel
    by_cases hlt : k < d.waits.length
    · by_cases h64 : 64 ≤ (k : Int)
      · have HR4 : Hid (CrashRel w (.slice As d.safe.length cs) (.slice Aw d.waits.length cw) d keep (k + 1) u6 wr) := (HR.out).skip (by omega)
        clear h0 h2
        go_wp2_with fail
        go_roundw
        case rel => exact ⟨k + 1, by omega, by go_num, HR4⟩
        case measure => simp [intOf]; omega
      · by_cases hbit : (bits BinOp.and IntKind.u64 (keep : Int) (IntKind.u64.wrap (2 ^ k)) == 0) = true
        · have HR4 : Hid (CrashRel w (.slice As d.safe.length cs) (.slice Aw d.waits.length cw) d keep (k + 1) u6 wr) := (HR.out).skip (by unfold bset; rw [hbit]; simp)
          clear h0 h2
          go_wp2_with fail
          go_roundw
          case rel => exact ⟨k + 1, by omega, by go_num, HR4⟩
          case measure => simp [intOf]; omega
        · have hbit' : (bits BinOp.and IntKind.u64 (keep : Int) (IntKind.u64.wrap (2 ^ k)) == 0) = false := by simpa using hbit
          have hset : k < 64 ∧ bset keep k = true := ⟨by omega, by unfold bset; rw [hbit']; rfl⟩
          have HB := Lib.hid hset
          clear hbit hset
          obtain ⟨⟨wa, wb⟩, hwk⟩ : ∃ x, d.waits[k]? = some x := ⟨_, List.getElem?_eq_getElem hlt⟩
          obtain ⟨g, cwa, cur, he, hOg, _⟩ := H.out.hw.form (by omega)
          cases he
          have hR := HR.out
          have hbp : ¬ (Value.slice As d.safe.length cs).ownBlock = some bp := fun e => (H.out.hs.2 bp e).2 rfl
          have e2 : wr.cell? ⟨bp, 2, none⟩ = some (Value.slice (some ⟨g, 0, none⟩) d.waits.length cw) := hR.1.cell h2 hbp
          have e0 : wr.cell? ⟨bp, 0, none⟩ = some (Value.slice As d.safe.length cs) := hR.1.cell h0 hbp
          have hlenk : ∀ l, (∀ x ∈ l, x ∈ d.waits) → (applyW d.safe l).length = d.safe.length := fun l hl => applyW_length _ _ (fun x hx => by rw [H.out.hl]; exact H.out.hv x (hl x hx))
          have HLEN := Lib.hid hlenk
          have HWK := Lib.hid hwk
          clear h2 h0 hbp hlenk hwk
          rcases hR with ⟨r1, r2, ⟨r3, rfl⟩ | ⟨g', j, x, r4, r5, r6, rfl⟩⟩
          · have HR4 : Hid (CrashRel w (.slice As d.safe.length cs) (.slice (some ⟨g, 0, none⟩) d.waits.length cw) d keep (k + 1) (.pointer (some ⟨g, k * 2, none⟩)) wr) := by
              refine (show CrashRel _ _ _ _ _ _ _ _ from ⟨r1, ?_, .inr ⟨g, k, _, HWK.out, ?_, rfl, rfl⟩⟩)
              · rw [keptW_take HWK.out HB.out, List.dropLast_concat, r3]
                rw [r3] at r2
                exact r2
              · rw [keptW_take HWK.out HB.out]; simp
            clear r1 r2 r3
            go_wp2_with fail
            go_roundw
            case rel => exact ⟨k + 1, by omega, by go_num, HR4⟩
            case measure => simp [intOf]; omega
          · obtain rfl : g = g' := by simpa [Value.ownBlock] using r6
            obtain ⟨xa, xb⟩ := x
            obtain ⟨vb, hk1, hk2, hrb⟩ := H.out.ha j xa xb r4
            obtain ⟨A1, c1, he1, _, _, hcell⟩ := H.out.hw.cells
            cases he1
            obtain ⟨_, he2, ⟨hg1, hg2, hg3, hg4⟩, hca, _⟩ := hcell _ _ hk1
            cases he2
            obtain ⟨_, he3, _, hcb, _⟩ := hcell _ _ hk2
            cases he3
            obtain ⟨Ab, cb, rfl, hb1, _⟩ := hrb.shape
            have e3 : wr.cell? ⟨g, j * 2, none⟩ = some (.int .i64 (xa : Int)) := by rw [Nat.mul_comm]; exact r1.cell hca (fun e => hg3 e)
            have e4 : wr.cell? ⟨g, j * 2 + 1, none⟩ = some (.slice Ab xb.length cb) := by rw [Nat.mul_comm]; exact r1.cell hcb (fun e => hg3 e)
            have hv : xa + xb.length ≤ d.safe.length := by have h1 := H.out.hv _ (List.mem_of_getElem? r4); have h2 := H.out.hl; simp only at h1; omega
            have R1 := Lib.hid r1
            have R2 := Lib.hid r2
            have R5 := Lib.hid r5
            have HRB := Lib.hid hrb
            have HG3 := Lib.hid hg3
            clear r1 r2 r4 r5 r6 hk1 hk2 hcell hca hcb hrb hg1 hg2 hg3 hg4 hOg
            go_wp2_with fail
            refine wp_seq_region (fun W => W.cell? ⟨bp, 0, none⟩ = some (.slice As d.safe.length cs) ∧ W.cell? ⟨g, j * 2, none⟩ = some (.int .i64 (xa : Int)) ∧ W.cell? ⟨g, j * 2 + 1, none⟩ = some (.slice Ab xb.length cb)) [13] [3, 7, 12] [] [0, 1, 2, 3, 4, 5, 6, 7, 8, 9, 10, 11, 12, 13] (by kernel_rfl) (by kernel_rfl) rfl (by kernel_rfl) (fun _ _ _ _ _ h => h) ?_
            have hS : wr.drew.cell? ⟨bp, 0, none⟩ = some (.slice As d.safe.length cs) ∧ wr.drew.cell? ⟨g, j * 2, none⟩ = some (.int .i64 (xa : Int)) ∧ wr.drew.cell? ⟨g, j * 2 + 1, none⟩ = some (.slice Ab xb.length cb) := ⟨e0, e3, e4⟩
            obtain ⟨A4, hcut, hA4⟩ := cut_run (P := Try.prog) 22 5 Try.underlying22 sz5 As d.safe.length cs xa (by omega)
            have HA4 := Lib.hid hA4
            have HS := Lib.hid hS
            clear hA4 hS
            repeat (first
              | (refine sq_any (v := ?_) (a' := ?_) rfl rfl rfl (by rfl) (fun W => ?hr) ?ha ?_; (case hr => go_simp; first | done | rfl); (case ha => simp only [Act.put, List.setIfInBounds_toArray, List.set_cons_zero, List.set_cons_succ]; rfl))
              | (refine sq_load (v := ?_) (a' := ?_) rfl rfl rfl (by rfl) (fun W hSW => ?hr) HS.out ?ha ?_; (case hr => (try dsimp only at hSW); go_simp; first | done | rfl); (case ha => simp only [Act.put, List.setIfInBounds_toArray, List.set_cons_zero, List.set_cons_succ]; rfl)))
            have hrb2 : Rb wr.drew R (.slice Ab xb.length cb) xb := HRB.out.fr (R1.out.drew) (fun k _ h1 h2 => H.out.hd k (H.out.hs.2 k h2).1 h1)
            obtain ⟨_, _, he5, _, _, hnews⟩ := hrb2.news
            cases he5
            have hlen := HLEN.out _ (fun x hx => keptW_mem (List.dropLast_subset (keptW d.waits keep k) hx))
            refine sq_cpy (O := fun k => (Value.slice As d.safe.length cs).ownBlock = some k) rfl rfl (by rfl) (.tmp 36) (.tmp 40) 22 22 5 rfl Try.underlying22 sz5 _ _ _ rfl _ _ _ rfl (.slice As d.safe.length cs) d.safe.length ((applyW d.safe (keptW d.waits keep k).dropLast).map enc8) ?cO xa (by omega) (by omega) (by rw [HA4.out]; exact cut_at hc1) (xb.map enc8) (by rw [List.length_map]; omega) hnews (by simp [enc8, Value.oneCell']) ?_
            case cO => exact R2.out.fr ((Fr.refl No wr).drew) (fun _ _ _ h => h)
            intro w4 hown4 hfr4
            have hbp : ¬ (Value.slice As d.safe.length cs).ownBlock = some bp := fun e => (H.out.hs.2 bp e).2 rfl
            have f0 : w4.cell? ⟨bp, 0, none⟩ = some (.slice As d.safe.length cs) := hfr4.cell (w := wr.drew) e0 hbp
            have f2 : w4.cell? ⟨bp, 2, none⟩ = some (Value.slice (some ⟨g, 0, none⟩) d.waits.length cw) := hfr4.cell (w := wr.drew) e2 hbp
            refine ⟨fun _ => ⟨f0, hfr4.cell (w := wr.drew) e3 (fun e => HG3.out e), hfr4.cell (w := wr.drew) e4 (fun e => HG3.out e)⟩, ?_⟩
            simp only [Act.put, List.setIfInBounds_toArray, List.set_cons_zero, List.set_cons_succ]
            refine sq_done ?_
            have HR4 : Hid (CrashRel w (.slice As d.safe.length cs) (.slice (some ⟨g, 0, none⟩) d.waits.length cw) d keep (k + 1) (.pointer (some ⟨g, k * 2, none⟩)) w4) := by
              refine (show CrashRel _ _ _ _ _ _ _ _ from ⟨R1.out.drew.then hfr4, ?_, .inr ⟨g, k, _, HWK.out, ?_, rfl, rfl⟩⟩)
              · rw [keptW_take HWK.out HB.out, List.dropLast_concat]
                have e : keptW d.waits keep k = (keptW d.waits keep k).dropLast ++ [(xa, xb)] := by
                  obtain ⟨ys, hys⟩ := List.getLast?_eq_some_iff.1 R5.out
                  rw [hys]; simp
                rw [e, applyW_append, ← splice_map]
                exact hown4
              · rw [keptW_take HWK.out HB.out]; simp
            clear hown4 hfr4 hnews hrb2 e0 e2 e3 e4 f0 hbp
            go_wp2_with fail
            go_roundw
            case rel => exact ⟨k + 1, by omega, by go_num, HR4⟩
            case measure => simp [intOf]; omega
    · have hkl : k = d.waits.length := by omega
      subst hkl
      have hR := HR.out
      have hlenk : ∀ l, (∀ x ∈ l, x ∈ d.waits) → (applyW d.safe l).length = d.safe.length := fun l hl => applyW_length _ _ (fun x hx => by rw [H.out.hl]; exact H.out.hv x (hl x hx))
      rcases hR with ⟨r1, r2, ⟨r3, rfl⟩ | ⟨g, j, ⟨xa, xb⟩, r4, r5, r6, rfl⟩⟩
      · have HT : Hid (CrashEnd w bp (.slice As d.safe.length cs) (.slice An d.now.length cn) d d.safe wr) := by
          rw [r3] at r2
          exact (show CrashEnd _ _ _ _ _ _ _ from ⟨r1, r2, rfl⟩)
        have HC : Hid (crashS d.safe (keptW d.waits keep d.waits.length) tear = d.safe) := by rw [r3]; rfl
        clear r1 r2 r3 h0 h2 hlenk
        have hbp : ¬ (Value.slice As d.safe.length cs).ownBlock = some bp := fun e => (H.out.hs.2 bp e).2 rfl
        have hp := HT.out.fr.heap H.out.hp hbp
        have e0 : wr.cell? ⟨bp, 0, none⟩ = some (Value.slice As d.safe.length cs) := by rw [blk_cell hp]; rfl
        have e2 : wr.cell? ⟨bp, 2, none⟩ = some (Value.slice Aw d.waits.length cw) := by rw [blk_cell hp]; rfl
        have ez := blk_free hp 2
        have HP := Lib.hid hp
        clear hp hbp
        go_wp2_with fail
        refine wp_seq_region (fun W => W.cell? ⟨bp, 0, none⟩ = some (.slice As d.safe.length cs) ∧ W.cell? ⟨bp, 1, none⟩ = some (.slice An d.now.length cn)) [8] [3, 7] [] [0, 1, 2, 3, 4, 5, 6, 7, 8] (by kernel_rfl) (by kernel_rfl) rfl (by kernel_rfl) (fun _ _ _ _ _ h => h) ?_
        obtain ⟨w5, hw5⟩ : ∃ w5, Hid (w5 = wr.setCell ⟨bp, 2, none⟩ (.slice none 0 0)) := ⟨_, rfl⟩
        rw [← hw5.out]
        have hp5 : w5.heap[bp]? = some (.cells #[.slice As d.safe.length cs, .slice An d.now.length cn, .slice none 0 0] 98 (0, 0)) := by rw [hw5.out, blk_set HP.out]; rfl
        have HS : Hid (w5.drew.cell? ⟨bp, 0, none⟩ = some (.slice As d.safe.length cs) ∧ w5.drew.cell? ⟨bp, 1, none⟩ = some (.slice An d.now.length cn)) := (show _ ∧ _ from ⟨blk_cell (w := w5.drew) hp5 0, blk_cell (w := w5.drew) hp5 1⟩)
        have HP5 := Lib.hid hp5
        clear hp5 e0 e2 ez
        repeat (first
          | (refine sq_any (v := ?_) (a' := ?_) rfl rfl rfl (by rfl) (fun W => ?hr) ?ha ?_; (case hr => go_simp; first | done | rfl); (case ha => simp only [Act.put, List.setIfInBounds_toArray, List.set_cons_zero, List.set_cons_succ]; rfl))
          | (refine sq_load (v := ?_) (a' := ?_) rfl rfl rfl (by rfl) (fun W hSW => ?hr) HS.out ?ha ?_; (case hr => (try dsimp only at hSW); go_simp; first | done | rfl); (case ha => simp only [Act.put, List.setIfInBounds_toArray, List.set_cons_zero, List.set_cons_succ]; rfl)))
        have hfs : Fr (fun k => k = bp) wr w5 := by rw [hw5.out]; exact (Fr.refl _ _).setCell _ _ (fun _ => rfl)
        have hsr : Rds enc8 w5.drew (fun k => (Value.slice As d.safe.length cs).ownBlock = some k) (.slice As d.safe.length cs) _ := Ow.reads (w := w5.drew) (e := 5) (O := fun k => (Value.slice As d.safe.length cs).ownBlock = some k) (by rw [HT.out.len]; exact HT.out.hs.fr hfs.drew (fun k _ h1 h2 => (H.out.hs.2 k h1).2 h2))
        obtain ⟨_, _, he5, _, _, hnews⟩ := hsr.news
        rw [HT.out.len] at he5
        cases he5
        have hln : d.safe.length = d.now.length := H.out.hl
        have hls := HT.out.len
        refine sq_cpy (O := fun k => (Value.slice An d.now.length cn).ownBlock = some k) rfl rfl (by rfl) (.tmp 83) (.tmp 87) 22 22 5 rfl Try.underlying22 sz5 _ _ _ rfl _ _ _ rfl (.slice An d.now.length cn) d.now.length (d.now.map enc8) ?cO 0 (by omega) (by omega) (fun _ g c' h => by cases h; rfl) _ (by rw [List.length_map]; omega) hnews (by simp [enc8, Value.oneCell']) ?_
        case cO => exact (((H.out.hn.just.fr HT.out.fr (fun k _ h1 h2 => (H.out.hn.2 k h1).2.2 h2)).fr hfs (fun k _ h1 h2 => (H.out.hn.2 k h1).2.1 h2)).fr ((Fr.refl No w5).drew) (fun _ _ _ h => h))
        intro w6 hown6 hfr6
        rw [splice_map, splice_all _ _ (by rw [hls, hln])] at hown6
        have hbn : ¬ (Value.slice An d.now.length cn).ownBlock = some bp := fun e => (H.out.hn.2 bp e).2.1 rfl
        refine ⟨fun _ => ⟨hfr6.cell HS.out.1 hbn, hfr6.cell HS.out.2 hbn⟩, ?_⟩
        simp only [Act.put, List.setIfInBounds_toArray, List.set_cons_zero, List.set_cons_succ]
        refine sq_done ?_
        have HQ := Lib.hid (HT.out.done H.out hw5.out ((Fr.refl _ w5).drew.then hfr6) hown6)
        clear hown6 hfr6 hnews hsr hfs hbn
        go_wp2_with fail
        go_end0
        rw [HC.out]
        exact HQ.out
      · obtain ⟨A1, c1, he1, _, _, hcell⟩ := H.out.hw.cells
        cases he1
        obtain ⟨vb, hk1, hk2, hrb⟩ := H.out.ha j xa xb r4
        obtain ⟨g1, rfl, ⟨hg1, hg2, hg3, hg4⟩, hca, _⟩ := hcell _ _ hk1
        obtain ⟨_, he3, _, hcb, _⟩ := hcell _ _ hk2
        cases he3
        obtain rfl : g1 = g := by simpa [Value.ownBlock] using r6
        obtain ⟨Ab, cb, rfl, hb1, hb2⟩ := hrb.shape
        have e3 : wr.cell? ⟨g1, j * 2, none⟩ = some (.int .i64 (xa : Int)) := by rw [Nat.mul_comm]; exact r1.cell hca (fun e => hg3 e)
        have e4 : wr.cell? ⟨g1, j * 2 + 1, none⟩ = some (.slice Ab xb.length cb) := by rw [Nat.mul_comm]; exact r1.cell hcb (fun e => hg3 e)
        have e0 : wr.cell? ⟨bp, 0, none⟩ = some (Value.slice As d.safe.length cs) := r1.cell h0 (fun e => (H.out.hs.2 bp e).2 rfl)
        have hv : xa + xb.length ≤ d.safe.length := by have h1 := H.out.hv _ (List.mem_of_getElem? r4); have h2 := H.out.hl; simp only at h1; omega
        have hlen := hlenk _ (fun x hx => keptW_mem (List.dropLast_subset (keptW d.waits keep d.waits.length) hx))
        have hrb2 : Rb wr.drew R (.slice Ab xb.length cb) xb := hrb.fr (r1.drew) (fun k _ h1 h2 => H.out.hd k (H.out.hs.2 k h2).1 h1)
        obtain ⟨A4, hcut, hA4⟩ := cut_run (P := Try.prog) 22 5 Try.underlying22 sz5 As d.safe.length cs xa (by omega)
        have HA4 := Lib.hid hA4
        have HLEN := Lib.hid hlen
        have R1 := Lib.hid r1
        have R2 := Lib.hid r2
        have R5 := Lib.hid r5
        have HG3 := Lib.hid hg3
        have HTL : Hid ((tearB tear xb).length ≤ xb.length) := by
          show _ ≤ _
          unfold tearB
          split
          · rw [List.length_take]; omega
          · omega
        obtain ⟨_, _, he5, _, _, hnews0⟩ := hrb2.news
        cases he5
        have hnews : ∀ j u, ((tearB tear xb).map enc8)[j]? = some u → ∃ ad, Ab = some ad ∧ wr.drew.cell? (ad.add j) = some u := by
          intro j u hj
          refine hnews0 j u ?_
          unfold tearB at hj
          split at hj
          · rw [List.map_take, List.getElem?_take] at hj
            split at hj
            · exact hj
            · cases hj
          · exact hj
        have HNEWS := Lib.hid hnews
        clear hA4 hlen r1 r2 r5 r4 r6 hg1 hg2 hg3 hg4 hk1 hk2 hcell hca hcb hrb hrb2 hnews0 hnews hlenk hb2
        by_cases ht : 0 ≤ tear
        · by_cases ht2 : tear < xb.length
          · have htl : Hid ((tearB tear xb).length = tear.toNat) := by
              show _ = _
              unfold tearB
              rw [if_pos ⟨ht, ht2⟩, List.length_take]; omega
            have hcut2 := cut0_run (P := Try.prog) 22 5 Try.underlying22 sz5 Ab xb.length cb tear ht (by omega)
            clear h0 h2
            go_wp2_with fail
            refine wp_seq_region (fun W => W.cell? ⟨bp, 0, none⟩ = some (.slice As d.safe.length cs) ∧ W.cell? ⟨g1, j * 2, none⟩ = some (.int .i64 (xa : Int))) [10] [3, 7] [] [0, 1, 2, 3, 4, 5, 6, 7, 8, 9, 10] (by kernel_rfl) (by kernel_rfl) rfl (by kernel_rfl) (fun _ _ _ _ _ h => h) ?_
            have HS : Hid (wr.drew.cell? ⟨bp, 0, none⟩ = some (.slice As d.safe.length cs) ∧ wr.drew.cell? ⟨g1, j * 2, none⟩ = some (.int .i64 (xa : Int))) := (show _ ∧ _ from ⟨e0, e3⟩)
            repeat (first
              | (refine sq_any (v := ?_) (a' := ?_) rfl rfl rfl (by rfl) (fun W => ?hr) ?ha ?_; (case hr => go_simp; first | done | rfl); (case ha => simp only [Act.put, List.setIfInBounds_toArray, List.set_cons_zero, List.set_cons_succ]; rfl))
              | (refine sq_load (v := ?_) (a' := ?_) rfl rfl rfl (by rfl) (fun W hSW => ?hr) HS.out ?ha ?_; (case hr => (try dsimp only at hSW); go_simp; first | done | rfl); (case ha => simp only [Act.put, List.setIfInBounds_toArray, List.set_cons_zero, List.set_cons_succ]; rfl)))
            refine sq_cpy (O := fun k => (Value.slice As d.safe.length cs).ownBlock = some k) rfl rfl (by rfl) (.tmp 74) (.tmp 75) 22 22 5 rfl Try.underlying22 sz5 _ _ _ rfl _ _ _ rfl (.slice As d.safe.length cs) d.safe.length ((applyW d.safe (keptW d.waits keep d.waits.length).dropLast).map enc8) ?cO xa (by omega) (by omega) (by rw [HA4.out]; exact cut_at hc1) ((tearB tear xb).map enc8) (by rw [List.length_map, htl.out]; omega) HNEWS.out (by simp [enc8, Value.oneCell']) ?_
            case cO => exact R2.out.fr ((Fr.refl No wr).drew) (fun _ _ _ h => h)
            intro w4 hown4 hfr4
            have hbs : ¬ (Value.slice As d.safe.length cs).ownBlock = some bp := fun e => (H.out.hs.2 bp e).2 rfl
            refine ⟨fun _ => ⟨hfr4.cell (w := wr.drew) e0 hbs, hfr4.cell (w := wr.drew) e3 (fun e => HG3.out e)⟩, ?_⟩
            simp only [Act.put, List.setIfInBounds_toArray, List.set_cons_zero, List.set_cons_succ]
            refine sq_done ?_
            have HT : Hid (CrashEnd w bp (.slice As d.safe.length cs) (.slice An d.now.length cn) d (splice (applyW d.safe (keptW d.waits keep d.waits.length).dropLast) xa (tearB tear xb)) w4) := by
              rw [splice_map] at hown4
              refine (show CrashEnd _ _ _ _ _ _ _ from ⟨R1.out.drew.then hfr4, hown4, ?_⟩)
              rw [length_splice _ _ _ (by rw [HLEN.out]; have := HTL.out; omega), HLEN.out]
            have HC : Hid (crashS d.safe (keptW d.waits keep d.waits.length) tear = splice (applyW d.safe (keptW d.waits keep d.waits.length).dropLast) xa (tearB tear xb)) := by
              show _ = _
              unfold crashS
              rw [R5.out]
            clear hown4 hfr4 hbs e0 e3 e4 HS
            have hbp : ¬ (Value.slice As d.safe.length cs).ownBlock = some bp := fun e => (H.out.hs.2 bp e).2 rfl
            have hp := HT.out.fr.heap H.out.hp hbp
            have e0 : w4.cell? ⟨bp, 0, none⟩ = some (Value.slice As d.safe.length cs) := by rw [blk_cell hp]; rfl
            have e2 : w4.cell? ⟨bp, 2, none⟩ = some (Value.slice (some ⟨g1, 0, none⟩) d.waits.length cw) := by rw [blk_cell hp]; rfl
            have ez := blk_free hp 2
            have HP := Lib.hid hp
            clear hp hbp
            go_wp2_with fail
            refine wp_seq_region (fun W => W.cell? ⟨bp, 0, none⟩ = some (.slice As d.safe.length cs) ∧ W.cell? ⟨bp, 1, none⟩ = some (.slice An d.now.length cn)) [8] [3, 7] [] [0, 1, 2, 3, 4, 5, 6, 7, 8] (by kernel_rfl) (by kernel_rfl) rfl (by kernel_rfl) (fun _ _ _ _ _ h => h) ?_
            obtain ⟨w5, hw5⟩ : ∃ w5, Hid (w5 = w4.setCell ⟨bp, 2, none⟩ (.slice none 0 0)) := ⟨_, rfl⟩
            rw [← hw5.out]
            have hp5 : w5.heap[bp]? = some (.cells #[.slice As d.safe.length cs, .slice An d.now.length cn, .slice none 0 0] 98 (0, 0)) := by rw [hw5.out, blk_set HP.out]; rfl
            have HS : Hid (w5.drew.cell? ⟨bp, 0, none⟩ = some (.slice As d.safe.length cs) ∧ w5.drew.cell? ⟨bp, 1, none⟩ = some (.slice An d.now.length cn)) := (show _ ∧ _ from ⟨blk_cell (w := w5.drew) hp5 0, blk_cell (w := w5.drew) hp5 1⟩)
            have HP5 := Lib.hid hp5
            clear hp5 e0 e2 ez
            repeat (first
              | (refine sq_any (v := ?_) (a' := ?_) rfl rfl rfl (by rfl) (fun W => ?hr) ?ha ?_; (case hr => go_simp; first | done | rfl); (case ha => simp only [Act.put, List.setIfInBounds_toArray, List.set_cons_zero, List.set_cons_succ]; rfl))
              | (refine sq_load (v := ?_) (a' := ?_) rfl rfl rfl (by rfl) (fun W hSW => ?hr) HS.out ?ha ?_; (case hr => (try dsimp only at hSW); go_simp; first | done | rfl); (case ha => simp only [Act.put, List.setIfInBounds_toArray, List.set_cons_zero, List.set_cons_succ]; rfl)))
            have hfs : Fr (fun k => k = bp) w4 w5 := by rw [hw5.out]; exact (Fr.refl _ _).setCell _ _ (fun _ => rfl)
            have hsr : Rds enc8 w5.drew (fun k => (Value.slice As d.safe.length cs).ownBlock = some k) (.slice As d.safe.length cs) _ := Ow.reads (w := w5.drew) (e := 5) (O := fun k => (Value.slice As d.safe.length cs).ownBlock = some k) (by rw [HT.out.len]; exact HT.out.hs.fr hfs.drew (fun k _ h1 h2 => (H.out.hs.2 k h1).2 h2))
            obtain ⟨_, _, he5, _, _, hnews⟩ := hsr.news
            rw [HT.out.len] at he5
            cases he5
            have hln : d.safe.length = d.now.length := H.out.hl
            have hls := HT.out.len
            refine sq_cpy (O := fun k => (Value.slice An d.now.length cn).ownBlock = some k) rfl rfl (by rfl) (.tmp 83) (.tmp 87) 22 22 5 rfl Try.underlying22 sz5 _ _ _ rfl _ _ _ rfl (.slice An d.now.length cn) d.now.length (d.now.map enc8) ?cO 0 (by omega) (by omega) (fun _ g c' h => by cases h; rfl) _ (by rw [List.length_map]; omega) hnews (by simp [enc8, Value.oneCell']) ?_
            case cO => exact (((H.out.hn.just.fr HT.out.fr (fun k _ h1 h2 => (H.out.hn.2 k h1).2.2 h2)).fr hfs (fun k _ h1 h2 => (H.out.hn.2 k h1).2.1 h2)).fr ((Fr.refl No w5).drew) (fun _ _ _ h => h))
            intro w6 hown6 hfr6
            rw [splice_map, splice_all _ _ (by rw [hls, hln])] at hown6
            have hbn : ¬ (Value.slice An d.now.length cn).ownBlock = some bp := fun e => (H.out.hn.2 bp e).2.1 rfl
            refine ⟨fun _ => ⟨hfr6.cell HS.out.1 hbn, hfr6.cell HS.out.2 hbn⟩, ?_⟩
            simp only [Act.put, List.setIfInBounds_toArray, List.set_cons_zero, List.set_cons_succ]
            refine sq_done ?_
            have HQ := Lib.hid (HT.out.done H.out hw5.out ((Fr.refl _ w5).drew.then hfr6) hown6)
            clear hown6 hfr6 hnews hsr hfs hbn
            go_wp2_with fail
            go_end0
            rw [HC.out]
            exact HQ.out
          · have ht2' : (xb.length : Int) ≤ tear := by omega
            have htl : Hid ((tearB tear xb).length = xb.length) := by
              show _ = _
              unfold tearB
              rw [if_neg (by omega)]
            clear ht2
            clear h0 h2
            go_wp2_with fail
            refine wp_seq_region (fun W => W.cell? ⟨bp, 0, none⟩ = some (.slice As d.safe.length cs) ∧ W.cell? ⟨g1, j * 2, none⟩ = some (.int .i64 (xa : Int))) [10] [3, 7] [] [0, 1, 2, 3, 4, 5, 6, 7, 8, 9, 10] (by kernel_rfl) (by kernel_rfl) rfl (by kernel_rfl) (fun _ _ _ _ _ h => h) ?_
            have HS : Hid (wr.drew.cell? ⟨bp, 0, none⟩ = some (.slice As d.safe.length cs) ∧ wr.drew.cell? ⟨g1, j * 2, none⟩ = some (.int .i64 (xa : Int))) := (show _ ∧ _ from ⟨e0, e3⟩)
            repeat (first
              | (refine sq_any (v := ?_) (a' := ?_) rfl rfl rfl (by rfl) (fun W => ?hr) ?ha ?_; (case hr => go_simp; first | done | rfl); (case ha => simp only [Act.put, List.setIfInBounds_toArray, List.set_cons_zero, List.set_cons_succ]; rfl))
              | (refine sq_load (v := ?_) (a' := ?_) rfl rfl rfl (by rfl) (fun W hSW => ?hr) HS.out ?ha ?_; (case hr => (try dsimp only at hSW); go_simp; first | done | rfl); (case ha => simp only [Act.put, List.setIfInBounds_toArray, List.set_cons_zero, List.set_cons_succ]; rfl)))
            refine sq_cpy (O := fun k => (Value.slice As d.safe.length cs).ownBlock = some k) rfl rfl (by rfl) (.tmp 74) (.tmp 75) 22 22 5 rfl Try.underlying22 sz5 _ _ _ rfl _ _ _ rfl (.slice As d.safe.length cs) d.safe.length ((applyW d.safe (keptW d.waits keep d.waits.length).dropLast).map enc8) ?cO xa (by omega) (by omega) (by rw [HA4.out]; exact cut_at hc1) ((tearB tear xb).map enc8) (by rw [List.length_map, htl.out]; omega) HNEWS.out (by simp [enc8, Value.oneCell']) ?_
            case cO => exact R2.out.fr ((Fr.refl No wr).drew) (fun _ _ _ h => h)
            intro w4 hown4 hfr4
            have hbs : ¬ (Value.slice As d.safe.length cs).ownBlock = some bp := fun e => (H.out.hs.2 bp e).2 rfl
            refine ⟨fun _ => ⟨hfr4.cell (w := wr.drew) e0 hbs, hfr4.cell (w := wr.drew) e3 (fun e => HG3.out e)⟩, ?_⟩
            simp only [Act.put, List.setIfInBounds_toArray, List.set_cons_zero, List.set_cons_succ]
            refine sq_done ?_
            have HT : Hid (CrashEnd w bp (.slice As d.safe.length cs) (.slice An d.now.length cn) d (splice (applyW d.safe (keptW d.waits keep d.waits.length).dropLast) xa (tearB tear xb)) w4) := by
              rw [splice_map] at hown4
              refine (show CrashEnd _ _ _ _ _ _ _ from ⟨R1.out.drew.then hfr4, hown4, ?_⟩)
              rw [length_splice _ _ _ (by rw [HLEN.out]; have := HTL.out; omega), HLEN.out]
            have HC : Hid (crashS d.safe (keptW d.waits keep d.waits.length) tear = splice (applyW d.safe (keptW d.waits keep d.waits.length).dropLast) xa (tearB tear xb)) := by
              show _ = _
              unfold crashS
              rw [R5.out]
            clear hown4 hfr4 hbs e0 e3 e4 HS
            have hbp : ¬ (Value.slice As d.safe.length cs).ownBlock = some bp := fun e => (H.out.hs.2 bp e).2 rfl
            have hp := HT.out.fr.heap H.out.hp hbp
            have e0 : w4.cell? ⟨bp, 0, none⟩ = some (Value.slice As d.safe.length cs) := by rw [blk_cell hp]; rfl
            have e2 : w4.cell? ⟨bp, 2, none⟩ = some (Value.slice (some ⟨g1, 0, none⟩) d.waits.length cw) := by rw [blk_cell hp]; rfl
            have ez := blk_free hp 2
            have HP := Lib.hid hp
            clear hp hbp
            go_wp2_with fail
            refine wp_seq_region (fun W => W.cell? ⟨bp, 0, none⟩ = some (.slice As d.safe.length cs) ∧ W.cell? ⟨bp, 1, none⟩ = some (.slice An d.now.length cn)) [8] [3, 7] [] [0, 1, 2, 3, 4, 5, 6, 7, 8] (by kernel_rfl) (by kernel_rfl) rfl (by kernel_rfl) (fun _ _ _ _ _ h => h) ?_
            obtain ⟨w5, hw5⟩ : ∃ w5, Hid (w5 = w4.setCell ⟨bp, 2, none⟩ (.slice none 0 0)) := ⟨_, rfl⟩
            rw [← hw5.out]
            have hp5 : w5.heap[bp]? = some (.cells #[.slice As d.safe.length cs, .slice An d.now.length cn, .slice none 0 0] 98 (0, 0)) := by rw [hw5.out, blk_set HP.out]; rfl
            have HS : Hid (w5.drew.cell? ⟨bp, 0, none⟩ = some (.slice As d.safe.length cs) ∧ w5.drew.cell? ⟨bp, 1, none⟩ = some (.slice An d.now.length cn)) := (show _ ∧ _ from ⟨blk_cell (w := w5.drew) hp5 0, blk_cell (w := w5.drew) hp5 1⟩)
            have HP5 := Lib.hid hp5
            clear hp5 e0 e2 ez
            repeat (first
              | (refine sq_any (v := ?_) (a' := ?_) rfl rfl rfl (by rfl) (fun W => ?hr) ?ha ?_; (case hr => go_simp; first | done | rfl); (case ha => simp only [Act.put, List.setIfInBounds_toArray, List.set_cons_zero, List.set_cons_succ]; rfl))
              | (refine sq_load (v := ?_) (a' := ?_) rfl rfl rfl (by rfl) (fun W hSW => ?hr) HS.out ?ha ?_; (case hr => (try dsimp only at hSW); go_simp; first | done | rfl); (case ha => simp only [Act.put, List.setIfInBounds_toArray, List.set_cons_zero, List.set_cons_succ]; rfl)))
            have hfs : Fr (fun k => k = bp) w4 w5 := by rw [hw5.out]; exact (Fr.refl _ _).setCell _ _ (fun _ => rfl)
            have hsr : Rds enc8 w5.drew (fun k => (Value.slice As d.safe.length cs).ownBlock = some k) (.slice As d.safe.length cs) _ := Ow.reads (w := w5.drew) (e := 5) (O := fun k => (Value.slice As d.safe.length cs).ownBlock = some k) (by rw [HT.out.len]; exact HT.out.hs.fr hfs.drew (fun k _ h1 h2 => (H.out.hs.2 k h1).2 h2))
            obtain ⟨_, _, he5, _, _, hnews⟩ := hsr.news
            rw [HT.out.len] at he5
            cases he5
            have hln : d.safe.length = d.now.length := H.out.hl
            have hls := HT.out.len
            refine sq_cpy (O := fun k => (Value.slice An d.now.length cn).ownBlock = some k) rfl rfl (by rfl) (.tmp 83) (.tmp 87) 22 22 5 rfl Try.underlying22 sz5 _ _ _ rfl _ _ _ rfl (.slice An d.now.length cn) d.now.length (d.now.map enc8) ?cO 0 (by omega) (by omega) (fun _ g c' h => by cases h; rfl) _ (by rw [List.length_map]; omega) hnews (by simp [enc8, Value.oneCell']) ?_
            case cO => exact (((H.out.hn.just.fr HT.out.fr (fun k _ h1 h2 => (H.out.hn.2 k h1).2.2 h2)).fr hfs (fun k _ h1 h2 => (H.out.hn.2 k h1).2.1 h2)).fr ((Fr.refl No w5).drew) (fun _ _ _ h => h))
            intro w6 hown6 hfr6
            rw [splice_map, splice_all _ _ (by rw [hls, hln])] at hown6
            have hbn : ¬ (Value.slice An d.now.length cn).ownBlock = some bp := fun e => (H.out.hn.2 bp e).2.1 rfl
            refine ⟨fun _ => ⟨hfr6.cell HS.out.1 hbn, hfr6.cell HS.out.2 hbn⟩, ?_⟩
            simp only [Act.put, List.setIfInBounds_toArray, List.set_cons_zero, List.set_cons_succ]
            refine sq_done ?_
            have HQ := Lib.hid (HT.out.done H.out hw5.out ((Fr.refl _ w5).drew.then hfr6) hown6)
            clear hown6 hfr6 hnews hsr hfs hbn
            go_wp2_with fail
            go_end0
            rw [HC.out]
            exact HQ.out
        · have ht' : tear < 0 := by omega
          have htl : Hid ((tearB tear xb).length = xb.length) := by
            show _ = _
            unfold tearB
            rw [if_neg (by omega)]
          clear ht
          clear h0 h2
          go_wp2_with fail
          refine wp_seq_region (fun W => W.cell? ⟨bp, 0, none⟩ = some (.slice As d.safe.length cs) ∧ W.cell? ⟨g1, j * 2, none⟩ = some (.int .i64 (xa : Int))) [10] [3, 7] [] [0, 1, 2, 3, 4, 5, 6, 7, 8, 9, 10] (by kernel_rfl) (by kernel_rfl) rfl (by kernel_rfl) (fun _ _ _ _ _ h => h) ?_
          have HS : Hid (wr.drew.cell? ⟨bp, 0, none⟩ = some (.slice As d.safe.length cs) ∧ wr.drew.cell? ⟨g1, j * 2, none⟩ = some (.int .i64 (xa : Int))) := (show _ ∧ _ from ⟨e0, e3⟩)
          repeat (first
            | (refine sq_any (v := ?_) (a' := ?_) rfl rfl rfl (by rfl) (fun W => ?hr) ?ha ?_; (case hr => go_simp; first | done | rfl); (case ha => simp only [Act.put, List.setIfInBounds_toArray, List.set_cons_zero, List.set_cons_succ]; rfl))
            | (refine sq_load (v := ?_) (a' := ?_) rfl rfl rfl (by rfl) (fun W hSW => ?hr) HS.out ?ha ?_; (case hr => (try dsimp only at hSW); go_simp; first | done | rfl); (case ha => simp only [Act.put, List.setIfInBounds_toArray, List.set_cons_zero, List.set_cons_succ]; rfl)))
          refine sq_cpy (O := fun k => (Value.slice As d.safe.length cs).ownBlock = some k) rfl rfl (by rfl) (.tmp 74) (.tmp 75) 22 22 5 rfl Try.underlying22 sz5 _ _ _ rfl _ _ _ rfl (.slice As d.safe.length cs) d.safe.length ((applyW d.safe (keptW d.waits keep d.waits.length).dropLast).map enc8) ?cO xa (by omega) (by omega) (by rw [HA4.out]; exact cut_at hc1) ((tearB tear xb).map enc8) (by rw [List.length_map, htl.out]; omega) HNEWS.out (by simp [enc8, Value.oneCell']) ?_
          case cO => exact R2.out.fr ((Fr.refl No wr).drew) (fun _ _ _ h => h)
          intro w4 hown4 hfr4
          have hbs : ¬ (Value.slice As d.safe.length cs).ownBlock = some bp := fun e => (H.out.hs.2 bp e).2 rfl
          refine ⟨fun _ => ⟨hfr4.cell (w := wr.drew) e0 hbs, hfr4.cell (w := wr.drew) e3 (fun e => HG3.out e)⟩, ?_⟩
          simp only [Act.put, List.setIfInBounds_toArray, List.set_cons_zero, List.set_cons_succ]
          refine sq_done ?_
          have HT : Hid (CrashEnd w bp (.slice As d.safe.length cs) (.slice An d.now.length cn) d (splice (applyW d.safe (keptW d.waits keep d.waits.length).dropLast) xa (tearB tear xb)) w4) := by
            rw [splice_map] at hown4
            refine (show CrashEnd _ _ _ _ _ _ _ from ⟨R1.out.drew.then hfr4, hown4, ?_⟩)
            rw [length_splice _ _ _ (by rw [HLEN.out]; have := HTL.out; omega), HLEN.out]
          have HC : Hid (crashS d.safe (keptW d.waits keep d.waits.length) tear = splice (applyW d.safe (keptW d.waits keep d.waits.length).dropLast) xa (tearB tear xb)) := by
            show _ = _
            unfold crashS
            rw [R5.out]
          clear hown4 hfr4 hbs e0 e3 e4 HS
          have hbp : ¬ (Value.slice As d.safe.length cs).ownBlock = some bp := fun e => (H.out.hs.2 bp e).2 rfl
          have hp := HT.out.fr.heap H.out.hp hbp
          have e0 : w4.cell? ⟨bp, 0, none⟩ = some (Value.slice As d.safe.length cs) := by rw [blk_cell hp]; rfl
          have e2 : w4.cell? ⟨bp, 2, none⟩ = some (Value.slice (some ⟨g1, 0, none⟩) d.waits.length cw) := by rw [blk_cell hp]; rfl
          have ez := blk_free hp 2
          have HP := Lib.hid hp
          clear hp hbp
          go_wp2_with fail
          refine wp_seq_region (fun W => W.cell? ⟨bp, 0, none⟩ = some (.slice As d.safe.length cs) ∧ W.cell? ⟨bp, 1, none⟩ = some (.slice An d.now.length cn)) [8] [3, 7] [] [0, 1, 2, 3, 4, 5, 6, 7, 8] (by kernel_rfl) (by kernel_rfl) rfl (by kernel_rfl) (fun _ _ _ _ _ h => h) ?_
          obtain ⟨w5, hw5⟩ : ∃ w5, Hid (w5 = w4.setCell ⟨bp, 2, none⟩ (.slice none 0 0)) := ⟨_, rfl⟩
          rw [← hw5.out]
          have hp5 : w5.heap[bp]? = some (.cells #[.slice As d.safe.length cs, .slice An d.now.length cn, .slice none 0 0] 98 (0, 0)) := by rw [hw5.out, blk_set HP.out]; rfl
          have HS : Hid (w5.drew.cell? ⟨bp, 0, none⟩ = some (.slice As d.safe.length cs) ∧ w5.drew.cell? ⟨bp, 1, none⟩ = some (.slice An d.now.length cn)) := (show _ ∧ _ from ⟨blk_cell (w := w5.drew) hp5 0, blk_cell (w := w5.drew) hp5 1⟩)
          have HP5 := Lib.hid hp5
          clear hp5 e0 e2 ez
          repeat (first
            | (refine sq_any (v := ?_) (a' := ?_) rfl rfl rfl (by rfl) (fun W => ?hr) ?ha ?_; (case hr => go_simp; first | done | rfl); (case ha => simp only [Act.put, List.setIfInBounds_toArray, List.set_cons_zero, List.set_cons_succ]; rfl))
            | (refine sq_load (v := ?_) (a' := ?_) rfl rfl rfl (by rfl) (fun W hSW => ?hr) HS.out ?ha ?_; (case hr => (try dsimp only at hSW); go_simp; first | done | rfl); (case ha => simp only [Act.put, List.setIfInBounds_toArray, List.set_cons_zero, List.set_cons_succ]; rfl)))
          have hfs : Fr (fun k => k = bp) w4 w5 := by rw [hw5.out]; exact (Fr.refl _ _).setCell _ _ (fun _ => rfl)
          have hsr : Rds enc8 w5.drew (fun k => (Value.slice As d.safe.length cs).ownBlock = some k) (.slice As d.safe.length cs) _ := Ow.reads (w := w5.drew) (e := 5) (O := fun k => (Value.slice As d.safe.length cs).ownBlock = some k) (by rw [HT.out.len]; exact HT.out.hs.fr hfs.drew (fun k _ h1 h2 => (H.out.hs.2 k h1).2 h2))
          obtain ⟨_, _, he5, _, _, hnews⟩ := hsr.news
          rw [HT.out.len] at he5
          cases he5
          have hln : d.safe.length = d.now.length := H.out.hl
          have hls := HT.out.len
          refine sq_cpy (O := fun k => (Value.slice An d.now.length cn).ownBlock = some k) rfl rfl (by rfl) (.tmp 83) (.tmp 87) 22 22 5 rfl Try.underlying22 sz5 _ _ _ rfl _ _ _ rfl (.slice An d.now.length cn) d.now.length (d.now.map enc8) ?cO 0 (by omega) (by omega) (fun _ g c' h => by cases h; rfl) _ (by rw [List.length_map]; omega) hnews (by simp [enc8, Value.oneCell']) ?_
          case cO => exact (((H.out.hn.just.fr HT.out.fr (fun k _ h1 h2 => (H.out.hn.2 k h1).2.2 h2)).fr hfs (fun k _ h1 h2 => (H.out.hn.2 k h1).2.1 h2)).fr ((Fr.refl No w5).drew) (fun _ _ _ h => h))
          intro w6 hown6 hfr6
          rw [splice_map, splice_all _ _ (by rw [hls, hln])] at hown6
          have hbn : ¬ (Value.slice An d.now.length cn).ownBlock = some bp := fun e => (H.out.hn.2 bp e).2.1 rfl
          refine ⟨fun _ => ⟨hfr6.cell HS.out.1 hbn, hfr6.cell HS.out.2 hbn⟩, ?_⟩
          simp only [Act.put, List.setIfInBounds_toArray, List.set_cons_zero, List.set_cons_succ]
          refine sq_done ?_
          have HQ := Lib.hid (HT.out.done H.out hw5.out ((Fr.refl _ w5).drew.then hfr6) hown6)
          clear hown6 hfr6 hnews hsr hfs hbn
          go_wp2_with fail
          go_end0
          rw [HC.out]
          exact HQ.out
end Go.Proofs.Ytbaohngnpgappaa
