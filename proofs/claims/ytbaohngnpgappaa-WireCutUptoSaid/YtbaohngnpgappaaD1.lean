/- The disk's functions Sync, Copy and Crash. -/
import Derived.Test.YtbaohngnpgappaaD0
set_option linter.unusedVariables false
set_option linter.unusedSimpArgs false
namespace Go.Proofs.Ytbaohngnpgappaa
open Go.RowKit
/-- Writes done in order. -/
def applyW (s : List UInt8) (ws : List (Nat × List UInt8)) : List UInt8 := ws.foldl (fun s x => splice s x.1 x.2) s
theorem applyW_length (ws : List (Nat × List UInt8)) : ∀ (s : List UInt8), (∀ x ∈ ws, x.1 + x.2.length ≤ s.length) → (applyW s ws).length = s.length := by
  induction ws with
  | nil => intro s _; rfl
  | cons x r ih =>
    intro s h
    have h1 := length_splice s x.1 x.2 (h x List.mem_cons_self)
    show (applyW (splice s x.1 x.2) r).length = _
    rw [ih _ (fun y hy => by rw [h1]; exact h y (List.mem_cons_of_mem _ hy)), h1]
theorem applyW_snoc (ws : List (Nat × List UInt8)) (s : List UInt8) (k : Nat) (x : Nat × List UInt8) (h : ws[k]? = some x) : applyW s (ws.take (k + 1)) = splice (applyW s (ws.take k)) x.1 x.2 := by
  rw [List.take_add_one, h]
  simp [applyW]
theorem DiskAt.settle {w w' : World} {O R : Nat → Prop} {bp : Nat} {vs vn vw : Value} {cells : List Value} {d : Dk} (h : DiskAt w O R bp vs vn vw cells d) {s n : List UInt8}
    (hf : Fr (fun k => vs.ownBlock = some k ∨ vn.ownBlock = some k ∨ k = bp) w w') (hp : w'.heap[bp]? = some (.cells #[vs, vn, .slice none 0 0] 98 (0, 0))) (hs : s.length = d.safe.length) (hn : n.length = d.now.length)
    (h1 : Ow w' (fun k => vs.ownBlock = some k) 5 1 vs d.safe.length (s.map enc8)) (h2 : Ow w' (fun k => vn.ownBlock = some k) 5 1 vn d.now.length (n.map enc8)) :
    DiskPost w O R (.pointer (some ⟨bp, 0, none⟩)) (.tuple #[]) ⟨s, n, []⟩ (.returned (.tuple #[])) w' := by
  refine ⟨O, R, rfl, ⟨bp, vs, vn, .slice none 0 0, [], rfl, ⟨h.top, hp, ?_, ?_, Ow.nil _ _ _ _, fun j a b hj => by simp at hj, h.hd, fun k hk => Nat.lt_of_lt_of_le (h.hb k hk) hf.size, ?_, ?_, fun x hx => by simp at hx⟩⟩, fun k hk => .inl hk, fun k hk => .inl hk, hf.mono fun k _ hk => ?_⟩
  · simp only [hs]; exact h1.mono h.hs.2
  · simp only [hn]; exact h2.mono h.hn.2
  · simp only [hs, hn]; exact h.hl
  · simp only [hn]; exact h.hm
  · rcases hk with hk | hk | hk
    · exact (h.hs.2 k hk).1
    · exact (h.hn.2 k hk).1
    · exact hk ▸ h.top
/-- What a sync has come to behind k of the writes. -/
def SyncRel (w : World) (vs : Value) (d : Dk) (k : Nat) (wr : World) : Prop :=
  Fr (fun k => vs.ownBlock = some k) w wr ∧ Ow wr (fun k => vs.ownBlock = some k) 5 1 vs d.safe.length ((applyW d.safe (d.waits.take k)).map enc8)
set_option maxHeartbeats 1000000 in
theorem sync_any {w : World} {O R : Nat → Prop} {p : Value} {d : Dk} (h : DiskIs w O R p d) (hws : d.waits.length ≤ 1000000) :
    Calls Try.prog 30 #[p] w (DiskPost w O R p (.tuple #[]) ⟨applyW d.safe d.waits, d.now, []⟩) := by
  obtain ⟨bp, vs, vn, vw, cells, rfl, h⟩ := h
  obtain ⟨As, cs, hvs, hc1, hc2⟩ := h.hs.shape
  obtain ⟨Aw, cw, hvw, hcw1, hcw2⟩ := h.hw.shape
  subst hvs hvw
  have h0 := blk_cell h.hp 0
  have h2 := blk_cell h.hp 2
  simp only [List.getElem?_toArray, List.getElem?_cons_succ, List.getElem?_cons_zero] at h0 h2
  have hm : d.safe.length ≤ 1048576 := by rw [h.hl]; exact h.hm
  have H := Lib.hid h
  clear h hcw1 hcw2 hc2
  go_enter Try.func30, Try.ntmps30
  go_wp2
  go_loopw [9] (fun i wr => ∃ k : Nat, k ≤ d.waits.length ∧ i = .int .i64 k ∧ Hid (SyncRel w (.slice As d.safe.length cs) d k wr)) (fun i _ => d.waits.length - (intOf i).toNat)
  case atStart => exact ⟨0, Nat.zero_le _, rfl, show SyncRel _ _ _ _ _ from ⟨Fr.refl _ _, H.out.hs.just⟩⟩
  case round =>
    obtain ⟨k, hk, rfl, HR⟩ := hrel
    by_cases hlt : k < d.waits.length
    · obtain ⟨⟨wa, wb⟩, hwk⟩ : ∃ x, d.waits[k]? = some x := ⟨_, List.getElem?_eq_getElem hlt⟩
      obtain ⟨vb, hk1, hk2, hrb⟩ := H.out.ha k wa wb hwk
      obtain ⟨A1, c1, he1, _, _, hcell⟩ := H.out.hw.cells
      cases he1
      obtain ⟨g, rfl, ⟨hg1, hg2, hg3, hg4⟩, hca, _⟩ := hcell _ _ hk1
      obtain ⟨g', hg', _, hcb, _⟩ := hcell _ _ hk2
      cases hg'
      obtain ⟨Ab, cb, rfl, hb1, hb2⟩ := hrb.shape
      have hR := HR.out
      have e1 : wr.cell? ⟨g, k * 2, none⟩ = some (.int .i64 (wa : Int)) := by rw [Nat.mul_comm]; exact hR.1.cell hca (fun e => hg3 e)
      have e2 : wr.cell? ⟨g, k * 2 + 1, none⟩ = some (.slice Ab wb.length cb) := by rw [Nat.mul_comm]; exact hR.1.cell hcb (fun e => hg3 e)
      have e0 : wr.cell? ⟨bp, 0, none⟩ = some (.slice As d.safe.length cs) := hR.1.cell h0 (fun e => (H.out.hs.2 bp e).2 rfl)
      have hv : wa + wb.length ≤ d.safe.length := by have := H.out.hv _ (List.mem_of_getElem? hwk); have := H.out.hl; simp at *; omega
      have HRB := Lib.hid hrb
      have HWK := Lib.hid hwk
      clear hcell hk1 hk2 hca hcb hrb hwk hR h0 h2 hb2
      go_wp2_with fail
      refine wp_seq_region (fun W => W.cell? ⟨bp, 0, none⟩ = some (.slice As d.safe.length cs) ∧ W.cell? ⟨wr.heap.size, 0, none⟩ = some (.int .i64 (wa : Int)) ∧ W.cell? ⟨wr.heap.size, 1, none⟩ = some (.slice Ab wb.length cb)) [9] [3, 5, 8] [] [0, 1, 2, 3, 4, 5, 6, 7, 8, 9] (by kernel_rfl) (by kernel_rfl) rfl (by kernel_rfl) (fun _ _ _ _ _ h => h) ?_
      have hS : ((wr.alloc (.cells #[.int .i64 (wa : Int), .slice Ab wb.length cb] 100)).drew.cell? ⟨bp, 0, none⟩ = some (.slice As d.safe.length cs) ∧ (wr.alloc (.cells #[.int .i64 (wa : Int), .slice Ab wb.length cb] 100)).drew.cell? ⟨wr.heap.size, 0, none⟩ = some (.int .i64 (wa : Int)) ∧ (wr.alloc (.cells #[.int .i64 (wa : Int), .slice Ab wb.length cb] 100)).drew.cell? ⟨wr.heap.size, 1, none⟩ = some (.slice Ab wb.length cb)) :=
        ⟨cell_alloc e0 _, blk_cell (blk_new wr _) 0, blk_cell (blk_new wr _) 1⟩
      obtain ⟨A4, hcut, hA4⟩ := cut_run (P := Try.prog) 22 5 Try.underlying22 sz5 As d.safe.length cs wa (by omega)
      have HA4 := Lib.hid hA4
      have HS := Lib.hid hS
      clear hA4 hS
      repeat (first
        | (refine sq_any (v := ?_) (a' := ?_) rfl rfl rfl (by rfl) (fun W => ?hr) ?ha ?_; (case hr => go_simp; first | done | rfl); (case ha => simp only [Act.put, List.setIfInBounds_toArray, List.set_cons_zero, List.set_cons_succ]; rfl))
        | (refine sq_load (v := ?_) (a' := ?_) rfl rfl rfl (by rfl) (fun W hSW => ?hr) HS.out ?ha ?_; (case hr => (try dsimp only at hSW); go_simp; first | done | rfl); (case ha => simp only [Act.put, List.setIfInBounds_toArray, List.set_cons_zero, List.set_cons_succ]; rfl)))
      have hfa : Fr (fun k => (Value.slice As d.safe.length cs).ownBlock = some k) w (wr.alloc (.cells #[.int .i64 (wa : Int), .slice Ab wb.length cb] 100)).drew := (HR.out.1.alloc _).drew
      have hrb2 : Rb (wr.alloc (.cells #[.int .i64 (wa : Int), .slice Ab wb.length cb] 100)).drew R (.slice Ab wb.length cb) wb := HRB.out.fr hfa (fun k _ h1 h2 => H.out.hd k (H.out.hs.2 k h2).1 h1)
      obtain ⟨_, _, he5, _, _, hnews⟩ := hrb2.news
      cases he5
      have hlen : (applyW d.safe (d.waits.take k)).length = d.safe.length := applyW_length _ _ (fun x hx => by rw [H.out.hl]; exact H.out.hv x (List.mem_of_mem_take hx))
      refine sq_cpy (O := fun k => (Value.slice As d.safe.length cs).ownBlock = some k) rfl rfl (by rfl) (.tmp 19) (.tmp 21) 22 22 5 rfl Try.underlying22 sz5 _ _ _ rfl _ _ _ rfl (.slice As d.safe.length cs) d.safe.length ((applyW d.safe (d.waits.take k)).map enc8) ?cO wa (by omega) (by omega) (by rw [HA4.out]; exact cut_at hc1) (wb.map enc8) (by rw [List.length_map]; omega) hnews (by simp [enc8, Value.oneCell']) ?_
      case cO => exact HR.out.2.fr ((Fr.refl No wr).alloc _ |>.drew) (fun _ _ _ h => h)
      intro w4 hown4 hfr4
      have hnl : ¬ (Value.slice As d.safe.length cs).ownBlock = some wr.heap.size := fun e => by
        have := H.out.hb _ (.inl (H.out.hs.2 _ e).1)
        have := HR.out.1.size
        omega
      refine ⟨fun _ => ?_, ?_⟩
      · exact ⟨hfr4.cell (cell_alloc e0 _) (fun e => (H.out.hs.2 bp e).2 rfl), hfr4.cell (blk_cell (blk_new wr _) 0) hnl, hfr4.cell (blk_cell (blk_new wr _) 1) hnl⟩
      simp only [Act.put, List.setIfInBounds_toArray, List.set_cons_zero, List.set_cons_succ]
      refine sq_done ?_
      have HR4 : Hid (SyncRel w (.slice As d.safe.length cs) d (k + 1) w4) := by
        refine (show SyncRel _ _ _ _ _ from ⟨hfa.then hfr4, ?_⟩)
        rw [applyW_snoc _ _ _ _ HWK.out, ← splice_map]
        exact hown4
      clear hown4 hfr4 hnews hrb2 hfa
      go_wp2_with fail
      go_roundw
      case rel => exact ⟨k + 1, by omega, by go_num, HR4⟩
      case measure => simp [intOf]; omega
    · have hkl : k = d.waits.length := by omega
      subst hkl
      have hR := HR.out
      have e2 : wr.cell? ⟨bp, 2, none⟩ = some (Value.slice Aw d.waits.length cw) := hR.1.cell h2 (fun e => (H.out.hs.2 bp e).2 rfl)
      have hp := hR.1.heap H.out.hp (fun e => (H.out.hs.2 bp e).2 rfl)
      have ez := blk_free hp 2
      have HP := Lib.hid hp
      clear hR hp h2
      go_wp2_with fail
      go_end0
      have hD := H.out
      have hR := HR.out
      have hown := hR.2
      rw [show d.waits.take d.waits.length = d.waits from List.take_of_length_le (Nat.le_refl _)] at hown
      have hf : Fr (fun k => (Value.slice As d.safe.length cs).ownBlock = some k ∨ vn.ownBlock = some k ∨ k = bp) w (wr.setCell ⟨bp, 2, none⟩ (.slice none 0 0)) := (hR.1.mono (fun k _ h => .inl h)).setCell _ _ (fun _ => .inr (.inr rfl))
      have hset : Fr (fun k => k = bp) wr (wr.setCell ⟨bp, 2, none⟩ (.slice none 0 0)) := (Fr.refl _ _).setCell _ _ (fun _ => rfl)
      have hn1 := hD.hn.just.fr hR.1 (fun k _ h1 h2 => (hD.hn.2 k h1).2.2 h2)
      exact hD.settle hf (by rw [blk_set HP.out]; rfl) (applyW_length _ _ (fun x hx => by rw [hD.hl]; exact hD.hv x hx)) rfl (hown.fr hset (fun k _ h1 h2 => (hD.hs.2 k h1).2 h2)) (hn1.fr hset (fun k _ h1 h2 => (hD.hn.2 k h1).2.1 h2))
theorem cloneW {w : World} {A : Option Addr} {m c : Nat} {cells : List Value} (hlen : cells.length = m * 2) (hc : ∀ j u, cells[j]? = some u → ∃ ad, A = some ad ∧ w.cell? (ad.add j) = some u) (h1 : ∀ u ∈ cells, u.oneCell' = true) (hm : m ≤ 1000000) :
    Calls Try.prog 71 #[.slice A m c] w fun e w' => ∃ v', e = .returned v' ∧ Ow w' (New w) 100 2 v' m cells ∧ Fr No w w' := by
  cases A with
  | none =>
    obtain rfl : cells = [] := by
      cases cells with
      | nil => rfl
      | cons x xs => obtain ⟨ad, h, _⟩ := hc 0 _ rfl; cases h
    obtain rfl : m = 0 := by simp at hlen; omega
    clear hc h1 hm hlen
    have hq := fun (W : World) => Lib.run_eql_slice_nil (P := Try.prog) W 96 100 none 0 c 0 0 Try.underlying96
    go_enter Try.func71, Try.ntmps71
    go_wp2
    go_ret
    exact ⟨_, rfl, Ow.nil _ _ _ _, Fr.refl _ _⟩
  | some ad =>
    have hq := fun (W : World) => Lib.run_eql_slice_nil (P := Try.prog) W 96 100 (some ad) m c 0 0 Try.underlying96
    have HN := Lib.hid hc
    have HL := Lib.hid hlen
    have H1 := Lib.hid h1
    clear hc hlen h1
    go_enter Try.func71, Try.ntmps71
    go_wp2_with (at_builtin; refine wpList_app (O := fun k => k = w.heap.size) rfl (.tmp 5) (.tmp 6) 96 100 rfl _ 2 32 Try.underlying96 info100 rfl (by omega) (by omega) (.slice (some ⟨w.heap.size, 0, none⟩) 0 0) 0 [] rfl (some ad) m c rfl ?c1 cells HL.out ?c2 H1.out (by omega) ?_; (case c1 => exact ⟨⟨rfl, .inr ⟨_, 0, #[], rfl, Nat.zero_le _, blk_new w _, Nat.le_refl _, Nat.zero_le _, rfl, rfl⟩⟩, fun k hk => (Option.some.inj hk).symm⟩); (case c2 => exact fun j u hj => by obtain ⟨ad', he, hc⟩ := HN.out j u hj; exact ⟨ad', he, cell_alloc hc _⟩); intro v1 w1 hown hfr)
    go_ret
    refine ⟨_, rfl, ?_, ?_⟩
    · rw [List.nil_append, Nat.zero_add] at hown
      refine hown.mono fun k hk => ?_
      rcases hk with hk | hk
      · exact Nat.le_of_eq (Option.some.inj hk)
      · rw [hk]; simp [New]
    · exact ((Fr.refl _ w).alloc _).trans (S := No) hfr (fun _ _ h => h) (fun i hi h => absurd (Option.some.inj h) (by show w.heap.size ≠ i; omega))
theorem waits_one {w : World} {R : Nat → Prop} {ws : List (Nat × List UInt8)} {cells : List Value} (h : WaitsAre w R ws cells) (hl : cells.length = ws.length * 2) : ∀ u ∈ cells, u.oneCell' = true := by
  intro u hu
  obtain ⟨j, hj, rfl⟩ := List.mem_iff_getElem.1 hu
  obtain ⟨vb, h1, h2, h3⟩ := h (j / 2) _ _ (List.getElem?_eq_getElem (by omega : j / 2 < ws.length))
  obtain ⟨A, c, rfl, _⟩ := h3.shape
  rcases Nat.mod_two_eq_zero_or_one j with he | he
  · rw [show 2 * (j / 2) = j from by omega, List.getElem?_eq_getElem hj] at h1
    rw [Option.some.inj h1]; rfl
  · rw [show 2 * (j / 2) + 1 = j from by omega, List.getElem?_eq_getElem hj] at h2
    rw [Option.some.inj h2]; rfl
def CopyPost (w : World) (R : Nat → Prop) (d : Dk) (e : Ending) (w' : World) : Prop :=
  ∃ p', e = .returned p' ∧ DiskIs w' (fun k => w.heap.size ≤ k ∧ k < w'.heap.size) R p' d ∧ Fr No w w'
set_option maxHeartbeats 1000000 in
theorem copy_any {w : World} {O R : Nat → Prop} {p : Value} {d : Dk} (h : DiskIs w O R p d) (hws : d.waits.length ≤ 1000000) : Calls Try.prog 31 #[p] w (CopyPost w R d) := by
  obtain ⟨bp, vs, vn, vw, cells, rfl, h⟩ := h
  obtain ⟨As, cs, hvs, hc1, hc2⟩ := h.hs.shape
  obtain ⟨An, cn, hvn, _, _⟩ := h.hn.shape
  obtain ⟨Aw, cw, hvw, hcw1, hcw2⟩ := h.hw.shape
  subst hvs hvw hvn
  have h0 := blk_cell h.hp 0
  have h1 := blk_cell h.hp 1
  have h2 := blk_cell h.hp 2
  simp only [List.getElem?_toArray, List.getElem?_cons_succ, List.getElem?_cons_zero] at h0 h1 h2
  have hm : d.now.length ≤ 1048576 := h.hm
  have hm' : d.safe.length ≤ 1048576 := by rw [h.hl]; exact hm
  have H := Lib.hid h
  clear h hcw1 hcw2 hc2 hc1
  go_enter Try.func31, Try.ntmps31
  go_wp2_with fail
  refine wp_seq_region (fun W => W.cell? ⟨bp, 0, none⟩ = some (.slice As d.safe.length cs) ∧ W.cell? ⟨bp, 1, none⟩ = some (.slice An d.now.length cn) ∧ W.cell? ⟨bp, 2, none⟩ = some (.slice Aw d.waits.length cw)) [4, 9, 14, 16] [3, 8, 13] [] [0, 1, 2, 3, 5, 6, 7, 8, 10, 11, 12, 13, 4, 9, 14, 15, 16, 17] (by kernel_rfl) (by kernel_rfl) rfl (by kernel_rfl) (fun _ _ _ _ _ h => h) ?_
  have hS : w.drew.cell? ⟨bp, 0, none⟩ = some (.slice As d.safe.length cs) ∧ w.drew.cell? ⟨bp, 1, none⟩ = some (.slice An d.now.length cn) ∧ w.drew.cell? ⟨bp, 2, none⟩ = some (.slice Aw d.waits.length cw) := ⟨h0, h1, h2⟩
  have HS := Lib.hid hS
  clear hS
  repeat (first
    | (refine sq_any (v := ?_) (a' := ?_) rfl rfl rfl (by rfl) (fun W => ?hr) ?ha ?_; (case hr => go_simp; first | done | rfl); (case ha => simp only [Act.put, List.setIfInBounds_toArray, List.set_cons_zero, List.set_cons_succ]; rfl))
    | (refine sq_load (v := ?_) (a' := ?_) rfl rfl rfl (by rfl) (fun W hSW => ?hr) HS.out ?ha ?_; (case hr => (try dsimp only at hSW); go_simp; first | done | rfl); (case ha => simp only [Act.put, List.setIfInBounds_toArray, List.set_cons_zero, List.set_cons_succ]; rfl)))
  have hd : Fr No w w.drew := (Fr.refl _ _).drew
  refine sq_call rfl rfl (by rfl) rfl Try.func64 rfl rfl [.slice As d.safe.length cs] rfl ?_
  refine (clone8 (w := w.drew) (F := O) ((H.out.hs.reads.fr hd (fun _ _ _ h => h)).mono (fun k hk => hk.1)) (by omega)).mono ?_
  rintro e w1 ⟨v1, rfl, hown1, hfr1⟩
  have f1 : Fr No w w1 := hd.then hfr1
  obtain ⟨A1, c1, rfl, _, _⟩ := hown1.shape
  refine ⟨_, rfl, fun _ => ⟨f1.cell h0 (fun h => h), f1.cell h1 (fun h => h), f1.cell h2 (fun h => h)⟩, ?_⟩
  simp only [Act.put, List.setIfInBounds_toArray, List.set_cons_zero, List.set_cons_succ]
  have HO1 := Lib.hid hown1
  have F1 := Lib.hid f1
  clear hown1 hfr1 f1 hd
  refine sq_call rfl rfl (by rfl) rfl Try.func64 rfl rfl [.slice An d.now.length cn] rfl ?_
  refine (clone8 (w := w1) (F := O) ((H.out.hn.reads.fr F1.out (fun _ _ _ h => h)).mono (fun k hk => hk.1)) (by omega)).mono ?_
  rintro e w2 ⟨v2, rfl, hown2, hfr2⟩
  have f2 : Fr No w w2 := F1.out.then hfr2
  obtain ⟨A2, c2, rfl, _, _⟩ := hown2.shape
  refine ⟨_, rfl, fun _ => ⟨f2.cell h0 (fun h => h), f2.cell h1 (fun h => h), f2.cell h2 (fun h => h)⟩, ?_⟩
  simp only [Act.put, List.setIfInBounds_toArray, List.set_cons_zero, List.set_cons_succ]
  have HO2 := Lib.hid hown2
  have F2 := Lib.hid f2
  have F12 := Lib.hid hfr2
  clear hown2 hfr2 f2
  refine sq_call rfl rfl (by rfl) rfl Try.func71 rfl rfl [.slice Aw d.waits.length cw] rfl ?_
  refine (cloneW (w := w2) (cells := cells) H.out.hw.len ?_ (waits_one H.out.ha H.out.hw.len) (by omega)).mono ?_
  · intro j u hj
    obtain ⟨_, _, he, _, _, hcl⟩ := H.out.hw.cells
    cases he
    obtain ⟨g, rfl, _, hcell, _⟩ := hcl j u hj
    exact ⟨_, rfl, by rw [add_none, Nat.zero_add]; exact F2.out.cell hcell (fun h => h)⟩
  rintro e w3 ⟨v3, rfl, hown3, hfr3⟩
  have f3 : Fr No w w3 := F2.out.then hfr3
  obtain ⟨A3, c3, rfl, _, _⟩ := hown3.shape
  refine ⟨_, rfl, fun _ => ⟨f3.cell h0 (fun h => h), f3.cell h1 (fun h => h), f3.cell h2 (fun h => h)⟩, ?_⟩
  simp only [Act.put, List.setIfInBounds_toArray, List.set_cons_zero, List.set_cons_succ]
  have HO3 := Lib.hid hown3
  have F3 := Lib.hid f3
  have F23 := Lib.hid hfr3
  have g0 := F3.out.cell h0 (fun h => h)
  have g1 := F3.out.cell h1 (fun h => h)
  have g2 := F3.out.cell h2 (fun h => h)
  clear hown3 hfr3 f3 h0 h1 h2
  repeat (first
    | (refine sq_any (v := ?_) (a' := ?_) rfl rfl rfl (by rfl) (fun W => ?hr) ?ha ?_; (case hr => go_simp; first | done | rfl); (case ha => simp only [Act.put, List.setIfInBounds_toArray, List.set_cons_zero, List.set_cons_succ]; rfl)))
  refine sq_value (v := ?_) (w1 := ?_) (a' := ?_) rfl rfl (by rfl) ?hr ?hS ?ha ?_
  case hr => go_simp; first | done | rfl | (constructor <;> rfl)
  case ha => simp only [Act.put, List.setIfInBounds_toArray, List.set_cons_zero, List.set_cons_succ]; rfl
  case hS => exact fun _ => ⟨cell_alloc g0 _, cell_alloc g1 _, cell_alloc g2 _⟩
  clear g0 g1 g2
  repeat (first
    | (refine sq_any (v := ?_) (a' := ?_) rfl rfl rfl (by rfl) (fun W => ?hr) ?ha ?_; (case hr => go_simp; first | done | rfl); (case ha => simp only [Act.put, List.setIfInBounds_toArray, List.set_cons_zero, List.set_cons_succ]; rfl)))
  refine sq_done ?_
  go_wp2_with fail
  go_ret
  have hD := H.out
  have s1 : w.heap.size ≤ w1.heap.size := F1.out.size
  have s2 : w1.heap.size ≤ w2.heap.size := F12.out.size
  have s3 : w2.heap.size ≤ w3.heap.size := F23.out.size
  have b1 := HO1.out.bound.2
  have b2 := HO2.out.bound.2
  have b3 := HO3.out.bound.2
  have n1 : ∀ k, New w.drew k → w.heap.size ≤ k := fun k h => h
  have n2 : ∀ k, New w1 k → w1.heap.size ≤ k := fun k h => h
  have n3 : ∀ k, New w2 k → w2.heap.size ≤ k := fun k h => h
  obtain ⟨w4, hw4⟩ : ∃ w4, w4 = w3.alloc (.cells #[.slice A1 d.safe.length c1, .slice A2 d.now.length c2, .slice A3 d.waits.length c3] 98) := ⟨_, rfl⟩
  rw [← hw4]
  have f34 : Fr No w3 w4 := by rw [hw4]; exact (Fr.refl _ _).alloc _
  have s4 : w4.heap.size = w3.heap.size + 1 := by rw [hw4]; simp
  have hp : w4.heap[w3.heap.size]? = some (.cells #[.slice A1 d.safe.length c1, .slice A2 d.now.length c2, .slice A3 d.waits.length c3] 98 (0, 0)) := by rw [hw4]; exact blk_new _ _
  refine ⟨_, rfl, ⟨w3.heap.size, _, _, _, cells, rfl, ⟨⟨by omega, by omega⟩, hp, ?_, ?_, ?_, ?_, ?_, ?_, hD.hl, hD.hm, hD.hv⟩⟩, F3.out.then f34⟩
  · exact (((HO1.out.just.fr F12.out (fun _ _ _ h => h)).fr F23.out (fun _ _ _ h => h)).fr f34 (fun _ _ _ h => h)).mono (fun k hk => by have h1 := b1 k hk; have h2 := n1 k h1.1; have h3 := h1.2; exact ⟨⟨by omega, by omega⟩, by omega⟩)
  · exact ((HO2.out.just.fr F23.out (fun _ _ _ h => h)).fr f34 (fun _ _ _ h => h)).mono (fun k hk => by have h1 := b2 k hk; have h2 := n2 k h1.1; have h3 := h1.2; exact ⟨⟨by omega, by omega⟩, by omega, fun e => by have h4 := (b1 k e).2; omega⟩)
  · exact (HO3.out.just.fr f34 (fun _ _ _ h => h)).mono (fun k hk => by have h1 := b3 k hk; have h2 := n3 k h1.1; have h3 := h1.2; exact ⟨⟨by omega, by omega⟩, by omega, fun e => by have h4 := (b1 k e).2; omega, fun e => by have h4 := (b2 k e).2; omega⟩)
  · exact hD.ha.move (fun k hk hl => (F3.out.then f34).block k hl (fun h => h)) (fun _ h => h)
  · rintro k ⟨h1, h2⟩ h3
    have := hD.hb k (.inr h3); omega
  · rintro k (h | h)
    · exact h.2
    · have := hD.hb k (.inr h); omega
end Go.Proofs.Ytbaohngnpgappaa
