/- wire's reader: the next byte. -/
import Derived.Test.YtbaohngnpgappaaW33
set_option linter.unusedVariables false
set_option linter.unusedSimpArgs false
namespace Go.Proofs.Ytbaohngnpgappaa
open Go.RowKit
def rdBlk (A : Option Addr) (n c : Nat) (s : RS) : Obj := .cells #[.slice A n c, .int .i64 s.at_, .int .i64 s.win, .int .i64 s.e] 124 (0, 0)
/-- A reader in memory. -/
def RdIs (w : World) (bp : Nat) (A : Option Addr) (n c : Nat) (s : RS) : Prop := w.heap[bp]? = some (rdBlk A n c s)
def NextPost (w : World) (bp : Nat) (A : Option Addr) (n c : Nat) (x : UInt8) (s : RS) (e : Ending) (w' : World) : Prop :=
  e = .returned (.int .u8 (x.toNat : Int)) ∧ RdIs w' bp A n c s ∧ Fr (fun k => k = bp) w w'
theorem rd_cells {w : World} {bp n c : Nat} {A : Option Addr} {s : RS} (h : RdIs w bp A n c s) : w.cell? ⟨bp, 0, none⟩ = some (.slice A n c) ∧ w.cell? ⟨bp, 1, none⟩ = some (.int .i64 s.at_) ∧ w.cell? ⟨bp, 2, none⟩ = some (.int .i64 s.win) ∧ w.cell? ⟨bp, 3, none⟩ = some (.int .i64 s.e) :=
  ⟨blk_cell h 0, blk_cell h 1, blk_cell h 2, blk_cell h 3⟩
theorem rd_free {w : World} {bp n c : Nat} {A : Option Addr} {s : RS} (h : RdIs w bp A n c s) (i : Nat) : w.frozen? ⟨bp, i, none⟩ = false := blk_free h i
theorem rd_at {w : World} {bp n c : Nat} {A : Option Addr} {s : RS} (h : RdIs w bp A n c s) (a : Nat) : RdIs (w.setCell ⟨bp, 1, none⟩ (.int .i64 a)) bp A n c { s with at_ := a } := blk_set h 1 _
theorem rd_win {w : World} {bp n c : Nat} {A : Option Addr} {s : RS} (h : RdIs w bp A n c s) (a : Nat) : RdIs (w.setCell ⟨bp, 2, none⟩ (.int .i64 a)) bp A n c { s with win := a } := blk_set h 2 _
theorem rd_e {w : World} {bp n c : Nat} {A : Option Addr} {s : RS} (h : RdIs w bp A n c s) (e : Int) : RdIs (w.setCell ⟨bp, 3, none⟩ (.int .i64 e)) bp A n c { s with e := e } := blk_set h 3 _
theorem Fr.one {w : World} {bp : Nat} (i : Nat) (u : Value) : Fr (fun k => k = bp) w (w.setCell ⟨bp, i, none⟩ u) := (Fr.refl _ w).setCell _ _ (fun _ => rfl)
set_option maxRecDepth 100000 in
set_option maxHeartbeats 1000000 in
theorem next_any {w : World} {F : Nat → Prop} {bp c : Nat} {A : Option Addr} {L : List UInt8} {s : RS} (hr : Rb w F (.slice A L.length c) L) (hF : ∀ k, F k → ¬ k = bp) (hs : RdIs w bp A L.length c s) (ha : s.at_ ≤ L.length) (hl : L.length ≤ 1099511627776) :
    Calls Try.prog 106 #[.pointer (some ⟨bp, 0, none⟩)] w (NextPost w bp A L.length c (nextR L s).1 (nextR L s).2) := by
  obtain ⟨a, wi, E⟩ := s
  obtain ⟨N, hN⟩ : ∃ N, N = L.length := ⟨_, rfl⟩
  have HN := Lib.hid hN
  rw [← hN] at hr hs hl ⊢
  have ha' : a ≤ N := by rw [hN]; exact ha
  obtain ⟨X, hX⟩ : ∃ X, Hid (X = nextR L ⟨a, wi, E⟩) := ⟨_, show _ = _ from rfl⟩
  rw [← hX.out]
  have H := Lib.hid hr
  have HF := Lib.hid hF
  have HS0 := Lib.hid hs
  obtain ⟨d0, d1, d2, d3⟩ := rd_cells hs
  simp only at d1 d2 d3
  have f1 := rd_free hs 1
  have f3 := rd_free hs 3
  clear hr hF hs ha hN
  by_cases hE : E = 0
  · subst hE
    by_cases hlt : a < N
    · obtain ⟨x, hx⟩ : ∃ x, Hid (L[a]? = some x) := ⟨_, show _ = _ from List.getElem?_eq_getElem (by rw [← HN.out]; exact hlt)⟩
      have hXe : Hid (X = (x, ⟨a + 1, wi, 0⟩)) := (show _ = _ from by rw [hX.out]; exact nextR_on (s := ⟨a, wi, 0⟩) rfl hx.out)
      obtain ⟨bk, o, he, q0, hb, hxc⟩ := byte_at H.out hx.out
      subst he
      have hbp := HF.out bk hb
      clear q0
      have hne : ¬ ((a : Int) = (N : Int)) := by omega
      have hb1 : Hid (((a : Int) == (N : Int)) = false) := (show _ = _ from by simp; omega)
      go_enter Try.func106, Try.ntmps106
      go_wp2_with fail
      refine wp_seq_region (fun W => W.cell? ⟨bp, 0, none⟩ = some (.slice (some ⟨bk, o, none⟩) N c) ∧ W.cell? ⟨bp, 1, none⟩ = some (.int .i64 a) ∧ W.cell? ⟨bp, 3, none⟩ = some (.int .i64 0)) [] [3, 9, 13] [] [0, 1, 2, 3, 4, 5, 6, 7, 8, 9, 10, 11, 12, 13, 14, 15, 16] (by kernel_rfl) (by kernel_rfl) rfl (by kernel_rfl) (fun _ _ _ _ _ h => h) ?_
      have HS : Hid (w.drew.cell? ⟨bp, 0, none⟩ = some (.slice (some ⟨bk, o, none⟩) N c) ∧ w.drew.cell? ⟨bp, 1, none⟩ = some (.int .i64 a) ∧ w.drew.cell? ⟨bp, 3, none⟩ = some (.int .i64 0)) := (show _ ∧ _ from ⟨d0, d1, d3⟩)
      repeat (first
        | (refine sq_off (a' := ?_) rfl rfl (by rfl) (fun _ => (HS).out) ?ha ?_; (case ha => simp only [Act.put, List.setIfInBounds_toArray, List.set_cons_zero, List.set_cons_succ]; rfl))
        | (refine sq_any (v := ?_) (a' := ?_) rfl rfl rfl (by rfl) (fun W => ?hr) ?ha ?_; (case hr => go_simp; first | done | (simp only [(hb1).out]; done) | (simp only [(hb1).out]; rfl) | rfl); (case ha => simp only [Act.put, List.setIfInBounds_toArray, List.set_cons_zero, List.set_cons_succ]; rfl))
        | (refine sq_load (v := ?_) (a' := ?_) rfl rfl rfl (by rfl) (fun W hSW => ?hr) (HS).out ?ha ?_; (case hr => (try dsimp only at hSW); go_simp; first | done | rfl); (case ha => simp only [Act.put, List.setIfInBounds_toArray, List.set_cons_zero, List.set_cons_succ]; rfl)))
      refine sq_done ?_
      obtain ⟨wd, hwd⟩ : ∃ wd, Hid (wd = w.drew) := ⟨_, show _ = _ from rfl⟩
      have hsd : RdIs wd bp (some ⟨bk, o, none⟩) N c ⟨a, wi, 0⟩ := by rw [hwd.out]; exact HS0.out
      have hfd : Fr No w wd := by rw [hwd.out]; exact (Fr.refl _ _).drew
      have hxd : wd.cell? ⟨bk, o + a, none⟩ = some (.int .u8 (x.toNat : Int)) := hfd.cell hxc (fun h => h)
      rw [← hwd.out]
      obtain ⟨e0, e1, e2, e3⟩ := rd_cells hsd
      simp only at e1 e2 e3
      have f1 := rd_free hsd 1
      have hX1 := rd_at hsd (a + 1)
      have HX1 := Lib.hid hX1
      have HFD := Lib.hid hfd
      clear d0 d1 d2 d3 hxc hX1 hsd hfd
      go_wp2_with fail
      obtain ⟨w2, hw2⟩ : ∃ w2, Hid (w2 = wd.setCell ⟨bp, 1, none⟩ (.int .i64 ((a : Int) + 1))) := ⟨_, show _ = _ from rfl⟩
      rw [← hw2.out]
      have hX2 : RdIs w2 bp (some ⟨bk, o, none⟩) N c ⟨a + 1, wi, 0⟩ := by rw [hw2.out]; exact HX1.out
      have hf2 : Fr (fun k => k = bp) wd w2 := by rw [hw2.out]; exact Fr.one _ _
      have hx2 : w2.cell? ⟨bk, o + a, none⟩ = some (.int .u8 (x.toNat : Int)) := hf2.cell hxd hbp
      have HF2 : Hid (Fr (fun k => k = bp) w w2) := (show Fr _ w w2 from (HFD.out.mono (fun _ _ h => h.elim)).then hf2)
      obtain ⟨g0, g1, _, _⟩ := rd_cells hX2
      have HX2 := Lib.hid hX2
      clear e0 e1 e2 e3 f1 f3 hxd hX2 hf2 HX1
      refine wp_seq_region (fun W => W.cell? ⟨bp, 0, none⟩ = some (.slice (some ⟨bk, o, none⟩) N c) ∧ W.cell? ⟨bp, 1, none⟩ = some (.int .i64 ((a : Int) + 1)) ∧ W.cell? ⟨bk, o + a, none⟩ = some (.int .u8 (x.toNat : Int))) [] [3, 7, 10] [] [0, 1, 2, 3, 4, 5, 6, 7, 8, 9, 10, 11] (by kernel_rfl) (by kernel_rfl) rfl (by kernel_rfl) (fun _ _ _ _ _ h => h) ?_
      have HS2 : Hid (w2.drew.cell? ⟨bp, 0, none⟩ = some (.slice (some ⟨bk, o, none⟩) N c) ∧ w2.drew.cell? ⟨bp, 1, none⟩ = some (.int .i64 ((a : Int) + 1)) ∧ w2.drew.cell? ⟨bk, o + a, none⟩ = some (.int .u8 (x.toNat : Int))) := (show _ ∧ _ from ⟨g0, by rw [show ((a : Int) + 1) = ((a + 1 : Nat) : Int) from by omega]; exact g1, hx2⟩)
      clear g0 g1 hx2 HS
      have haN : (a : Int) < (N : Int) := by omega
      have haw : Hid (IntKind.i64.wrap (a : Int) = (a : Int)) := (show _ = _ from by rw [IntKind.wrap_i64]; omega)
      repeat (first
        | (refine sq_off (a' := ?_) rfl rfl (by rfl) (fun _ => (HS2).out) ?ha ?_; (case ha => simp only [Act.put, List.setIfInBounds_toArray, List.set_cons_zero, List.set_cons_succ]; rfl))
        | (refine sq_any (v := ?_) (a' := ?_) rfl rfl rfl (by rfl) (fun W => ?hr) ?ha ?_; (case hr => go_simp; first | done | rfl); (case ha => simp only [Act.put, List.setIfInBounds_toArray, List.set_cons_zero, List.set_cons_succ]; rfl))
        | (refine sq_load (v := ?_) (a' := ?_) rfl rfl rfl (by rfl) (fun W hSW => ?hr) (HS2).out ?ha ?_; (case hr => (try dsimp only at hSW); go_simp; first | done | rfl); (case ha => simp only [Act.put, List.setIfInBounds_toArray, List.set_cons_zero, List.set_cons_succ]; rfl)))
      refine sq_any (v := .pointer (some ⟨bk, o + a, none⟩)) (a' := ?_) rfl rfl rfl (by rfl) (fun W => ?hr) ?ha ?_
      case hr => go_simp; rw [haw.out, if_pos ⟨by omega, haN⟩, Int.toNat_natCast]
      case ha => simp only [Act.put, List.setIfInBounds_toArray, List.set_cons_zero, List.set_cons_succ]; rfl
      repeat (first
        | (refine sq_off (a' := ?_) rfl rfl (by rfl) (fun _ => (HS2).out) ?ha ?_; (case ha => simp only [Act.put, List.setIfInBounds_toArray, List.set_cons_zero, List.set_cons_succ]; rfl))
        | (refine sq_any (v := ?_) (a' := ?_) rfl rfl rfl (by rfl) (fun W => ?hr) ?ha ?_; (case hr => go_simp; first | done | rfl); (case ha => simp only [Act.put, List.setIfInBounds_toArray, List.set_cons_zero, List.set_cons_succ]; rfl))
        | (refine sq_load (v := ?_) (a' := ?_) rfl rfl rfl (by rfl) (fun W hSW => ?hr) (HS2).out ?ha ?_; (case hr => (try dsimp only at hSW); go_simp; first | done | rfl); (case ha => simp only [Act.put, List.setIfInBounds_toArray, List.set_cons_zero, List.set_cons_succ]; rfl)))
      refine sq_done ?_
      go_wp2_with fail
      go_ret
      rw [hXe.out]
      exact (show NextPost _ _ _ _ _ _ _ _ _ from ⟨rfl, HX2.out, HF2.out.then (Fr.refl _ _).drew⟩)
    · have haN : a = N := by omega
      subst haN
      have hXe : Hid (X = (0, ⟨a, wi, 10⟩)) := (show _ = _ from by rw [hX.out]; exact nextR_end (s := ⟨a, wi, 0⟩) rfl (by rw [← HN.out]; exact Nat.le_refl _))
      have hb1 : Hid (((a : Int) == (a : Int)) = true) := (show _ = _ from by simp)
      clear hlt ha'
      go_enter Try.func106, Try.ntmps106
      go_wp2_with fail
      refine wp_seq_region (fun W => W.cell? ⟨bp, 0, none⟩ = some (.slice A a c) ∧ W.cell? ⟨bp, 1, none⟩ = some (.int .i64 a) ∧ W.cell? ⟨bp, 3, none⟩ = some (.int .i64 0)) [] [3, 9, 13] [] [0, 1, 2, 3, 4, 5, 6, 7, 8, 9, 10, 11, 12, 13, 14, 15, 16] (by kernel_rfl) (by kernel_rfl) rfl (by kernel_rfl) (fun _ _ _ _ _ h => h) ?_
      have HS : Hid (w.drew.cell? ⟨bp, 0, none⟩ = some (.slice A a c) ∧ w.drew.cell? ⟨bp, 1, none⟩ = some (.int .i64 a) ∧ w.drew.cell? ⟨bp, 3, none⟩ = some (.int .i64 0)) := (show _ ∧ _ from ⟨d0, d1, d3⟩)
      repeat (first
        | (refine sq_off (a' := ?_) rfl rfl (by rfl) (fun _ => (HS).out) ?ha ?_; (case ha => simp only [Act.put, List.setIfInBounds_toArray, List.set_cons_zero, List.set_cons_succ]; rfl))
        | (refine sq_any (v := ?_) (a' := ?_) rfl rfl rfl (by rfl) (fun W => ?hr) ?ha ?_; (case hr => go_simp; first | done | (simp only [(hb1).out]; done) | (simp only [(hb1).out]; rfl) | rfl); (case ha => simp only [Act.put, List.setIfInBounds_toArray, List.set_cons_zero, List.set_cons_succ]; rfl))
        | (refine sq_load (v := ?_) (a' := ?_) rfl rfl rfl (by rfl) (fun W hSW => ?hr) (HS).out ?ha ?_; (case hr => (try dsimp only at hSW); go_simp; first | done | rfl); (case ha => simp only [Act.put, List.setIfInBounds_toArray, List.set_cons_zero, List.set_cons_succ]; rfl)))
      refine sq_done ?_
      obtain ⟨wd, hwd⟩ : ∃ wd, Hid (wd = w.drew) := ⟨_, show _ = _ from rfl⟩
      have hsd : RdIs wd bp A a c ⟨a, wi, 0⟩ := by rw [hwd.out]; exact HS0.out
      have hfd : Fr No w wd := by rw [hwd.out]; exact (Fr.refl _ _).drew
      rw [← hwd.out]
      obtain ⟨e0, e1, e2, e3⟩ := rd_cells hsd
      simp only at e1 e2 e3
      have f3 := rd_free hsd 3
      have hX1 := rd_e hsd 10
      have HX1 := Lib.hid hX1
      have HF2 : Hid (Fr (fun k => k = bp) w (wd.setCell ⟨bp, 3, none⟩ (.int .i64 10))) := (show Fr _ w _ from (hfd.mono (fun _ _ h => h.elim)).then (Fr.one _ _))
      clear d0 d1 d2 d3 hX1 hsd hfd f1
      go_wp2_with fail
      go_ret
      rw [hXe.out]
      exact (show NextPost _ _ _ _ _ _ _ _ _ from ⟨rfl, HX1.out, HF2.out⟩)
  · have hXe : Hid (X = (0, ⟨a, wi, E⟩)) := (show _ = _ from by rw [hX.out]; exact nextR_off (s := ⟨a, wi, E⟩) hE)
    have hb1 : Hid ((E == 0) = false) := (show _ = _ from by simpa using hE)
    go_enter Try.func106, Try.ntmps106
    go_wp2_with fail
    refine wp_seq_region (fun W => W.cell? ⟨bp, 0, none⟩ = some (.slice A N c) ∧ W.cell? ⟨bp, 1, none⟩ = some (.int .i64 a) ∧ W.cell? ⟨bp, 3, none⟩ = some (.int .i64 E)) [] [3, 9, 13] [] [0, 1, 2, 3, 4, 5, 6, 7, 8, 9, 10, 11, 12, 13, 14, 15, 16] (by kernel_rfl) (by kernel_rfl) rfl (by kernel_rfl) (fun _ _ _ _ _ h => h) ?_
    have HS : Hid (w.drew.cell? ⟨bp, 0, none⟩ = some (.slice A N c) ∧ w.drew.cell? ⟨bp, 1, none⟩ = some (.int .i64 a) ∧ w.drew.cell? ⟨bp, 3, none⟩ = some (.int .i64 E)) := (show _ ∧ _ from ⟨d0, d1, d3⟩)
    repeat (first
      | (refine sq_off (a' := ?_) rfl rfl (by rfl) (fun _ => (HS).out) ?ha ?_; (case ha => simp only [Act.put, List.setIfInBounds_toArray, List.set_cons_zero, List.set_cons_succ]; rfl))
      | (refine sq_any (v := ?_) (a' := ?_) rfl rfl rfl (by rfl) (fun W => ?hr) ?ha ?_; (case hr => go_simp; first | done | (simp only [(hb1).out]; done) | (simp only [(hb1).out]; rfl) | rfl); (case ha => simp only [Act.put, List.setIfInBounds_toArray, List.set_cons_zero, List.set_cons_succ]; rfl))
      | (refine sq_load (v := ?_) (a' := ?_) rfl rfl rfl (by rfl) (fun W hSW => ?hr) (HS).out ?ha ?_; (case hr => (try dsimp only at hSW); go_simp; first | done | rfl); (case ha => simp only [Act.put, List.setIfInBounds_toArray, List.set_cons_zero, List.set_cons_succ]; rfl)))
    refine sq_done ?_
    obtain ⟨wd, hwd⟩ : ∃ wd, Hid (wd = w.drew) := ⟨_, show _ = _ from rfl⟩
    have hsd : RdIs wd bp A N c ⟨a, wi, E⟩ := by rw [hwd.out]; exact HS0.out
    have hfd : Fr No w wd := by rw [hwd.out]; exact (Fr.refl _ _).drew
    rw [← hwd.out]
    obtain ⟨e0, e1, e2, e3⟩ := rd_cells hsd
    simp only at e1 e2 e3
    have HX1 := Lib.hid hsd
    have HF2 : Hid (Fr (fun k => k = bp) w wd) := (show Fr _ w _ from (hfd.mono (fun _ _ h => h.elim)))
    clear d0 d1 d2 d3 hsd hfd f1 f3
    go_wp2_with fail
    go_ret
    rw [hXe.out]
    exact (show NextPost _ _ _ _ _ _ _ _ _ from ⟨rfl, HX1.out, HF2.out⟩)
end Go.Proofs.Ytbaohngnpgappaa
