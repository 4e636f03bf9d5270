/- What wire's reader reads, as functions. -/
import Derived.Test.YtbaohngnpgappaaW27
import Derived.Test.YtbaohngnpgappaaW18
set_option linter.unusedVariables false
set_option linter.unusedSimpArgs false
namespace Go.Proofs.Ytbaohngnpgappaa
open Go.RowKit
/-- Where a reader stands: the next byte, in how many lists, why it has given up. -/
structure RS where
  at_ : Nat
  win : Nat
  e : Int
def nextR (L : List UInt8) (s : RS) : UInt8 × RS :=
  if s.e = 0 then (match L[s.at_]? with | some c => (c, { s with at_ := s.at_ + 1 }) | none => (0, { s with e := 10 })) else (0, s)
def cntR (L : List UInt8) : Nat → Bool → Nat → RS → Nat × RS
  | 0, _, _, s => (0, s)
  | f + 1, first, n, s =>
    if (nextR L s).2.e ≠ 0 then (0, (nextR L s).2)
    else if (first = true ∧ (nextR L s).1.toNat = 128) ∨ 2147483647 < n * 128 + (nextR L s).1.toNat % 128 then (0, { (nextR L s).2 with e := 11 })
    else if (nextR L s).1.toNat < 128 then (n * 128 + (nextR L s).1.toNat % 128, (nextR L s).2)
    else cntR L f false (n * 128 + (nextR L s).1.toNat % 128) (nextR L s).2
def countR (L : List UInt8) (s : RS) : Nat × RS := cntR L (L.length + 1) true 0 s
def nextsR (L : List UInt8) : Nat → RS → List UInt8 × RS
  | 0, s => ([], s)
  | k + 1, s => ((nextR L s).1 :: (nextsR L k (nextR L s).2).1, (nextsR L k (nextR L s).2).2)
def itemsR (f : RS → It × RS) : Nat → RS → List It × RS
  | 0, s => ([], s)
  | n + 1, s => if s.e = 0 then ((f s).1 :: (itemsR f n (f s).2).1, (itemsR f n (f s).2).2) else ([], s)
def startR (L : List UInt8) (s : RS) : RS := if s.at_ < L.length ∧ s.win = 40 ∧ s.e = 0 then { s with e := 3 } else s
def textR (L : List UInt8) (n : Nat) (s : RS) : List UInt8 × RS :=
  if s.e = 0 then (if L.length < n + s.at_ then ([], { s with e := 10 }) else ((L.drop s.at_).take n, { s with at_ := s.at_ + n })) else ([], s)
def itemR (L : List UInt8) : Nat → RS → It × RS
  | 0, s => (.mk 0 0 [] [], s)
  | d + 1, s =>
    let c := nextR L (startR L s)
    if c.2.e ≠ 0 then (.mk c.1.toNat 0 [] [], c.2)
    else if c.1.toNat = 1 then (let b := nextsR L 8 c.2; (.mk 1 (IntKind.i64.wrap (rdn b.1 : Int)) [] [], b.2))
    else if c.1.toNat = 2 then (let n := countR L c.2; let t := textR L n.1 n.2; (.mk 2 0 t.1 [], t.2))
    else if c.1.toNat = 3 then (let n := countR L { c.2 with win := c.2.win + 1 }; let l := itemsR (itemR L d) n.1 n.2; (.mk 3 0 [] l.1, { l.2 with win := l.2.win - 1 }))
    else (.mk c.1.toNat 0 [] [], { c.2 with e := 11 })
def readI (L : List UInt8) : It × Nat × Int :=
  let r := itemR L 41 ⟨0, 0, 0⟩
  if r.2.e ≠ 0 then (.mk 0 0 [] [], 0, r.2.e) else (r.1, r.2.at_, 0)
/-! ### where it stands behind each -/
theorem nextR_off {L : List UInt8} {s : RS} (h : s.e ≠ 0) : nextR L s = (0, s) := by unfold nextR; rw [if_neg h]
theorem nextR_on {L : List UInt8} {s : RS} {c : UInt8} (h : s.e = 0) (hc : L[s.at_]? = some c) : nextR L s = (c, { s with at_ := s.at_ + 1 }) := by unfold nextR; rw [if_pos h, hc]
theorem nextR_end {L : List UInt8} {s : RS} (h : s.e = 0) (hc : L.length ≤ s.at_) : nextR L s = (0, { s with e := 10 }) := by unfold nextR; rw [if_pos h, List.getElem?_eq_none hc]
/-- What every step keeps. -/
structure Kept (L : List UInt8) (s t : RS) : Prop where
  at1 : s.at_ ≤ t.at_
  at2 : s.at_ ≤ L.length → t.at_ ≤ L.length
  win : t.win = s.win
  e : s.e ≠ 0 → t = s
theorem Kept.refl (L : List UInt8) (s : RS) : Kept L s s := ⟨Nat.le_refl _, fun h => h, rfl, fun _ => rfl⟩
theorem Kept.trans {L : List UInt8} {s t u : RS} (h : Kept L s t) (k : Kept L t u) : Kept L s u :=
  ⟨Nat.le_trans h.at1 k.at1, fun a => k.at2 (h.at2 a), k.win.trans h.win, fun a => by have := h.e a; subst this; exact k.e a⟩
theorem nextR_kept (L : List UInt8) (s : RS) : Kept L s (nextR L s).2 := by
  by_cases h : s.e = 0
  · rcases Nat.lt_or_ge s.at_ L.length with hl | hl
    · rw [nextR_on h (List.getElem?_eq_getElem hl)]
      exact ⟨Nat.le_succ _, fun _ => hl, rfl, fun a => absurd h a⟩
    · rw [nextR_end h hl]
      exact ⟨Nat.le_refl _, fun a => a, rfl, fun a => absurd h a⟩
  · rw [nextR_off h]
    exact Kept.refl _ _
theorem kept_err {L : List UInt8} {s : RS} (h : s.e = 0) (e : Int) : Kept L s { s with e := e } := ⟨Nat.le_refl _, fun a => a, rfl, fun a => absurd h a⟩
theorem nextR_e {L : List UInt8} {s : RS} (h : (nextR L s).2.e = 0) : s.e = 0 := by
  by_cases h0 : s.e = 0
  · exact h0
  · rw [nextR_off h0] at h; exact absurd h h0
theorem cntR_kept (L : List UInt8) : ∀ (f : Nat) (first : Bool) (n : Nat) (s : RS), Kept L s (cntR L f first n s).2 := by
  intro f
  induction f with
  | zero => exact fun _ _ s => Kept.refl _ _
  | succ f ih =>
    intro first n s
    rw [cntR]
    split
    · exact nextR_kept L s
    · rename_i h0
      have h0 : (nextR L s).2.e = 0 := Classical.not_not.1 h0
      split
      · exact (nextR_kept L s).trans (kept_err h0 11)
      · split
        · exact nextR_kept L s
        · exact (nextR_kept L s).trans (ih _ _ _)
theorem countR_kept (L : List UInt8) (s : RS) : Kept L s (countR L s).2 := cntR_kept _ _ _ _ _
theorem nextsR_kept (L : List UInt8) : ∀ (k : Nat) (s : RS), Kept L s (nextsR L k s).2 := by
  intro k
  induction k with
  | zero => exact fun s => Kept.refl _ _
  | succ k ih => intro s; rw [nextsR]; exact (nextR_kept L s).trans (ih _)
theorem itemsR_kept (L : List UInt8) {f : RS → It × RS} (hf : ∀ s, Kept L s (f s).2) : ∀ (n : Nat) (s : RS), Kept L s (itemsR f n s).2 := by
  intro n
  induction n with
  | zero => exact fun s => Kept.refl _ _
  | succ n ih =>
    intro s
    rw [itemsR]
    split
    · exact (hf s).trans (ih _)
    · exact Kept.refl _ _
theorem startR_kept (L : List UInt8) (s : RS) : Kept L s (startR L s) := by
  unfold startR
  split
  · rename_i h; exact kept_err h.2.2 3
  · exact Kept.refl _ _
theorem textR_kept (L : List UInt8) (n : Nat) (s : RS) : Kept L s (textR L n s).2 := by
  unfold textR
  split
  · rename_i h
    split
    · exact kept_err h 10
    · rename_i h2
      exact ⟨by show s.at_ ≤ s.at_ + n; omega, fun _ => by show s.at_ + n ≤ L.length; omega, rfl, fun a => absurd h a⟩
  · exact Kept.refl _ _
theorem itemR_kept (L : List UInt8) : ∀ (d : Nat) (s : RS), Kept L s (itemR L d s).2 := by
  intro d
  induction d with
  | zero => exact fun s => Kept.refl _ _
  | succ d ih =>
    intro s
    have h1 := (startR_kept L s).trans (nextR_kept L (startR L s))
    rw [itemR]
    simp only
    split
    · exact h1
    · rename_i h0
      have h0 : (nextR L (startR L s)).2.e = 0 := Classical.not_not.1 h0
      split
      · exact h1.trans (nextsR_kept L 8 _)
      · split
        · exact h1.trans ((countR_kept L _).trans (textR_kept L _ _))
        · split
          · have h2 := (countR_kept L { (nextR L (startR L s)).2 with win := (nextR L (startR L s)).2.win + 1 }).trans (itemsR_kept L ih (countR L { (nextR L (startR L s)).2 with win := (nextR L (startR L s)).2.win + 1 }).1 (countR L { (nextR L (startR L s)).2 with win := (nextR L (startR L s)).2.win + 1 }).2)
            refine h1.trans ⟨h2.at1, h2.at2, ?_, fun a => absurd h0 a⟩
            have := h2.win
            simp only at this ⊢
            omega
          · exact h1.trans (kept_err h0 11)
end Go.Proofs.Ytbaohngnpgappaa
