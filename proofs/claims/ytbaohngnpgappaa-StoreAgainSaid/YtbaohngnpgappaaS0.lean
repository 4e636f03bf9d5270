/- What a store saves, as data: entries, what is saved, changes, and their items. -/
import Derived.Test.YtbaohngnpgappaaM6
set_option linter.unusedVariables false
set_option linter.unusedSimpArgs false
namespace Go.Proofs.Ytbaohngnpgappaa
open Go.RowKit
abbrev En := Int × List UInt8
def EnK : Kind En where
  sz := 2
  R := fun w F x cs => ∃ vb, cs = [.int .i64 x.1, vb] ∧ Rb w F vb x.2 ∧ I64 x.1
  len := by rintro w F x cs ⟨vb, rfl, _⟩; rfl
  one := by
    rintro w F x cs ⟨vb, rfl, hb, _⟩ u hu
    obtain ⟨A, c, rfl, _⟩ := hb.shape
    simp at hu
    rcases hu with rfl | rfl <;> rfl
  mono := by rintro w F F' x cs h ⟨vb, rfl, hb, r⟩; exact ⟨vb, rfl, hb.mono h, r⟩
  bound := by rintro w F x cs ⟨vb, rfl, hb, r⟩; exact ⟨vb, rfl, hb.bound, r⟩
  move := by rintro w w' F x cs h ⟨vb, rfl, hb, r⟩; exact ⟨vb, rfl, hb.move h, r⟩
structure Sv where
  term : Int
  vote : Int
  base : Int
  bterm : Int
  snap : List UInt8
  l : List En
structure Ch where
  kind : Int
  term : Int
  vote : Int
  at_ : Int
  l : List En
  b : List UInt8
def SvK : Kind Sv where
  sz := 6
  R := fun w F x cs => ∃ vs vl, cs = [.int .i64 x.term, .int .i64 x.vote, .int .i64 x.base, .int .i64 x.bterm, vs, vl] ∧ Rb w F vs x.snap ∧ Row EnK w F vl x.l ∧ I64 x.term ∧ I64 x.vote ∧ I64 x.base ∧ I64 x.bterm
  len := by rintro w F x cs ⟨vs, vl, rfl, _⟩; rfl
  one := by
    rintro w F x cs ⟨vs, vl, rfl, hb, hl, _⟩ u hu
    obtain ⟨A, c, rfl, _⟩ := hb.shape
    obtain ⟨A', c', rfl, _⟩ := hl.shape
    simp at hu
    rcases hu with rfl | rfl | rfl | rfl | rfl | rfl <;> rfl
  mono := by rintro w F F' x cs h ⟨vs, vl, rfl, hb, hl, r⟩; exact ⟨vs, vl, rfl, hb.mono h, hl.mono h, r⟩
  bound := by rintro w F x cs ⟨vs, vl, rfl, hb, hl, r⟩; exact ⟨vs, vl, rfl, hb.bound, hl.bound (by decide), r⟩
  move := by rintro w w' F x cs h ⟨vs, vl, rfl, hb, hl, r⟩; exact ⟨vs, vl, rfl, hb.move h, hl.move (by decide) h, r⟩
def ChK : Kind Ch where
  sz := 6
  R := fun w F x cs => ∃ vl vb, cs = [.int .i64 x.kind, .int .i64 x.term, .int .i64 x.vote, .int .i64 x.at_, vl, vb] ∧ Row EnK w F vl x.l ∧ Rb w F vb x.b ∧ I64 x.kind ∧ I64 x.term ∧ I64 x.vote ∧ I64 x.at_
  len := by rintro w F x cs ⟨vl, vb, rfl, _⟩; rfl
  one := by
    rintro w F x cs ⟨vl, vb, rfl, hl, hb, _⟩ u hu
    obtain ⟨A, c, rfl, _⟩ := hb.shape
    obtain ⟨A', c', rfl, _⟩ := hl.shape
    simp at hu
    rcases hu with rfl | rfl | rfl | rfl | rfl | rfl <;> rfl
  mono := by rintro w F F' x cs h ⟨vl, vb, rfl, hl, hb, r⟩; exact ⟨vl, vb, rfl, hl.mono h, hb.mono h, r⟩
  bound := by rintro w F x cs ⟨vl, vb, rfl, hl, hb, r⟩; exact ⟨vl, vb, rfl, hl.bound (by decide), hb.bound, r⟩
  move := by rintro w w' F x cs h ⟨vl, vb, rfl, hl, hb, r⟩; exact ⟨vl, vb, rfl, hl.move (by decide) h, hb.move h, r⟩
/-! ### their items -/
def itNum (n : Int) : It := .mk 1 n [] []
def itText (b : List UInt8) : It := .mk 2 0 b []
def itList (l : List It) : It := .mk 3 0 [] l
def itEn (e : En) : It := itList [itNum e.1, itText e.2]
def itEns (l : List En) : It := itList (l.map itEn)
def itSv (s : Sv) : It := itList [itNum s.term, itNum s.vote, itNum s.base, itNum s.bterm, itText s.snap, itEns s.l]
def itCh (c : Ch) : It := itList [itNum c.kind, itNum c.term, itNum c.vote, itNum c.at_, itText c.b, itEns c.l]
/-- One value of several cells, as it is handed on. -/
def KV {α : Type} (K : Kind α) (w : World) (F : Nat → Prop) (v : Value) (x : α) : Prop := ∃ cs, v = .agg cs.toArray ∧ K.R w F x cs
/-! ### num, text, list -/
theorem num_any (n : Int) (w : World) : Calls Try.prog 94 #[.int .i64 n] w (Told (.agg #[.int .i64 1, .int .i64 n, .string ⟨#[]⟩, .slice none 0 0]) w) := by
  go_enter Try.func94, Try.ntmps94
  go_wp2_with fail
  go_returns
  exact (show Told _ _ _ _ from ⟨rfl, (Fr.refl _ _).alloc _⟩)
theorem list_any (A : Option Addr) (n c : Nat) (w : World) : Calls Try.prog 93 #[.slice A n c] w (Told (.agg #[.int .i64 3, .int .i64 0, .string ⟨#[]⟩, .slice A n c]) w) := by
  go_enter Try.func93, Try.ntmps93
  go_wp2_with fail
  go_returns
  exact (show Told _ _ _ _ from ⟨rfl, (Fr.refl _ _).alloc _⟩)
theorem text_any {w : World} {F : Nat → Prop} {v : Value} {b : List UInt8} (h : Rb w F v b) : Calls Try.prog 95 #[v] w (Told (.agg #[.int .i64 2, .int .i64 0, .string ⟨b.toArray⟩, .slice none 0 0]) w) := by
  obtain ⟨A, c, rfl, hc1, hc2⟩ := h.shape
  obtain ⟨n, hn⟩ : ∃ n, n = b.length := ⟨_, rfl⟩
  have H := Lib.hid h
  rw [← hn] at H ⊢
  clear h hn hc1 hc2
  go_enter Try.func95, Try.ntmps95
  go_wp2_with (with_reducible refine halt_dst 4 rfl ?_)
  refine wpListG_str (by rfl) rfl Try.underlying22 Try.underlying5 Try.underlying9 (H.out.fr ((Fr.refl No w).alloc _) (fun _ _ _ h => h)) ?_
  go_wp2_with fail
  go_returns
  exact (show Told _ _ _ _ from ⟨rfl, (Fr.refl _ _).alloc _⟩)
theorem refnum_any (n : Int) (w : World) : Calls Try.prog 80 #[.int .i64 n] w (Told (.agg #[.int .i64 1, .int .i64 n, .string ⟨#[]⟩, .slice none 0 0]) w) := by
  obtain ⟨rb, hrb⟩ : ∃ rb, rb = w.heap.size := ⟨_, rfl⟩
  obtain ⟨w1, hw1⟩ : ∃ w1, Hid (w1 = w.alloc (.cells #[.int .i64 0, .int .i64 0, .string ⟨#[]⟩, .slice none 0 0] 48 (0, 0))) := ⟨_, show _ = _ from rfl⟩
  have HF1 : Hid (Fr No w w1) := (show Fr No w w1 from by rw [hw1.out]; exact (Fr.refl _ _).alloc _)
  have HV1 : Hid (VIs w1 rb 0 0 [] (.slice none 0 0)) := (show VIs _ _ _ _ _ _ from by rw [hw1.out, hrb]; exact blk_new _ _)
  have HRB := Lib.hid hrb
  clear hrb
  go_enter Try.func80, Try.ntmps80
  go_wp2_with fail
  rw [← hw1.out, ← HRB.out]
  refine (num1_any n w1).mono ?_
  rintro e w2 ⟨rfl, hf2⟩
  have HF2 : Hid (Fr No w w2) := (show Fr No w w2 from HF1.out.then hf2)
  have HV2 : Hid (VIs w2 rb 0 0 [] (.slice none 0 0)) := (show VIs _ _ _ _ _ _ from hf2.heap HV1.out (fun h => h))
  clear hf2
  obtain ⟨b0, b1, b2, b3⟩ := v_cells HV2.out
  have z0 := v_free HV2.out 0
  have z1 := v_free HV2.out 1
  have z2 := v_free HV2.out 2
  have z3 := v_free HV2.out 3
  go_wp2_with fail
  obtain ⟨w9, hw9⟩ : ∃ w9, Hid (w9 = (((w2.setCell ⟨rb, 0, none⟩ (.int .i64 1)).setCell ⟨rb, 1, none⟩ (.int .i64 n)).setCell ⟨rb, 2, none⟩ (.string ⟨#[]⟩)).setCell ⟨rb, 3, none⟩ (.slice none 0 0)) := ⟨_, show _ = _ from rfl⟩
  rw [← hw9.out]
  have hv9 : VIs w9 rb 1 n [] (.slice none 0 0) := by rw [hw9.out]; exact back_set (s' := []) HV2.out
  have HF9 : Hid (Fr No w w9) := (show Fr No w w9 from by
    rw [hw9.out]
    exact HF2.out.trans (back_fr w2 rb 1 n [] (.slice none 0 0)) (fun _ _ h => h) (fun q hq h => by have h' : q = rb := h; have := HRB.out; omega))
  obtain ⟨y0, y1, y2, y3⟩ := v_cells hv9
  clear b0 b1 b2 b3 z0 z1 z2 z3
  (try simp only [Exit.inBlock, Exit.then])
  refine bodyPost_ret (by simp [results, Try.results80, go_sem, y0, y1, y2, y3]; try rfl) rfl ?_
  exact (show Told _ _ _ _ from ⟨rfl, HF9.out⟩)
end Go.Proofs.Ytbaohngnpgappaa
