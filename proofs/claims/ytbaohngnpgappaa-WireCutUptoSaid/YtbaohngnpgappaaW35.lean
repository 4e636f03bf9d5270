/- wire's reader: a count. -/
import Derived.Test.YtbaohngnpgappaaW34
set_option linter.unusedVariables false
set_option linter.unusedSimpArgs false
namespace Go.Proofs.Ytbaohngnpgappaa
open Go.RowKit
theorem and127_8 : ∀ m : Fin 256, bits .and .u8 ((m.val : Nat) : Int) 127 = ((m.val % 128 : Nat) : Int) := by decide +kernel
theorem shl7_or (a b : Nat) (ha : a < 2 ^ 40) (hb : b < 128) : bits .or .i64 ((a : Int) * 128) (b : Int) = ((a * 128 + b : Nat) : Int) := by
  have h := (bits_nat .i64 62 (by decide) (fun n h0 h1 => by rw [IntKind.wrap_i64]; omega) (a * 128) b (by omega) (by omega)).2
  rw [show ((a : Int) * 128) = ((a * 128 : Nat) : Int) from by omega, h]
  congr 1
  have := Nat.two_pow_add_eq_or_of_lt (i := 7) (b := b) (by omega) a
  rw [show a * 128 = 2 ^ 7 * a from by omega]
  exact this.symm
def CountPost (w : World) (bp : Nat) (A : Option Addr) (n c : Nat) (x : Nat) (s : RS) (e : Ending) (w' : World) : Prop :=
  e = .returned (.int .i64 (x : Int)) ∧ RdIs w' bp A n c s ∧ Fr (fun k => k = bp) w w'
/-- Where the reader in a world stands. -/
def atOf (w : World) (bp : Nat) : Nat := match w.cell? ⟨bp, 1, none⟩ with | some v => (intOf v).toNat | none => 0
theorem atOf_is {w : World} {bp n c : Nat} {A : Option Addr} {s : RS} (h : RdIs w bp A n c s) : atOf w bp = s.at_ := by
  unfold atOf
  rw [(rd_cells h).2.1]
  simp [intOf]
theorem next_gone {L : List UInt8} {s : RS} (h : (nextR L s).2.e = 0) (ha : s.at_ ≤ L.length) : (nextR L s).2.at_ = s.at_ + 1 ∧ s.at_ < L.length := by
  obtain ⟨_, h2, _, h4⟩ := next_back h ha
  exact ⟨h2, h4⟩
set_option maxRecDepth 100000 in
set_option maxHeartbeats 2000000 in
theorem rcount_any {w : World} {F : Nat → Prop} {bp c : Nat} {A : Option Addr} {L : List UInt8} {s : RS} (hr : Rb w F (.slice A L.length c) L) (hF : ∀ k, F k → ¬ k = bp) (hs : RdIs w bp A L.length c s) (ha : s.at_ ≤ L.length) (hl : L.length ≤ 1099511627776) :
    Calls Try.prog 107 #[.pointer (some ⟨bp, 0, none⟩)] w (CountPost w bp A L.length c (countR L s).1 (countR L s).2) := by
  obtain ⟨N, hN⟩ : ∃ N, N = L.length := ⟨_, rfl⟩
  have HN := Lib.hid hN
  obtain ⟨X, hX⟩ : ∃ X, Hid (X = countR L s) := ⟨_, show _ = _ from rfl⟩
  rw [← hX.out]
  have H : Hid (Rb w (fun k => F k ∧ k < w.heap.size) (.slice A L.length c) L) := (show Rb _ _ _ _ from hr.bound)
  have HF := Lib.hid hF
  have HL := Lib.hid hl
  have HS0 : Hid (X = cntR L (L.length + 1) true 0 s ∧ RdIs w bp A L.length c s ∧ s.at_ ≤ L.length ∧ L.length + 1 ≤ (L.length + 1) + s.at_) := (show _ ∧ _ from ⟨hX.out, hs, ha, by omega⟩)
  rw [← hN] at HS0
  rw [← hN]
  clear hr hF hs ha hN hl
  go_enter Try.func107, Try.ntmps107
  go_wp2_with fail
  go_loopw [3, 4] (fun nn ff wr => ∃ (f : Nat) (first : Bool) (m : Nat) (t : RS), nn = .int .i64 m ∧ ff = .bool first ∧ m ≤ 2147483647 ∧ Hid (X = cntR L f first m t ∧ RdIs wr bp A N c t ∧ t.at_ ≤ N ∧ N + 1 ≤ f + t.at_) ∧ Hid (Fr (fun k => k = bp) w wr)) (fun _ _ wr => N + 1 - atOf wr bp)
  case atStart => exact ⟨_, true, 0, s, rfl, rfl, by omega, HS0, (show Fr _ _ _ from Fr.refl _ _)⟩
  case round =>
    obtain ⟨f, first, m, t, rfl, rfl, hm, HX, HFR⟩ := hrel
    obtain ⟨g, rfl⟩ : ∃ g, f = g + 1 := ⟨f - 1, by have h1 := HX.out.2.2.1; have h2 := HX.out.2.2.2; omega⟩
    have hAT : Hid (atOf wr bp = t.at_) := (show _ = _ from atOf_is HX.out.2.1)
    obtain ⟨Y, hY⟩ : ∃ Y, Hid (Y = nextR L t) := ⟨_, show _ = _ from rfl⟩
    go_wp2_with fail
    refine (next_any (L := L) (F := fun k => F k ∧ k < w.heap.size) (show Rb wr _ (.slice A L.length c) L from H.out.fr HFR.out (fun k _ hk h => HF.out k hk.1 h)) (fun k hk => HF.out k hk.1) (by rw [← HN.out]; exact HX.out.2.1) (by rw [← HN.out]; exact HX.out.2.2.1) HL.out).mono ?_
    rw [← hY.out, ← HN.out]
    rintro e w1 ⟨rfl, hr1, hf1⟩
    have HFR1 : Hid (Fr (fun k => k = bp) w w1) := (show Fr _ w w1 from HFR.out.then hf1)
    obtain ⟨x, t1⟩ := Y
    obtain ⟨a1, wi1, E1⟩ := t1
    simp only at hr1 ⊢
    obtain ⟨_, _, _, e3⟩ := rd_cells hr1
    simp only at e3
    have HR1 := Lib.hid hr1
    have fz3 := rd_free hr1 3
    clear hr1 hf1
    by_cases hE : E1 = 0
    · subst hE
      have HAT : Hid (a1 = t.at_ + 1 ∧ t.at_ < N) := (show _ ∧ _ from by
        have h1 := next_gone (L := L) (s := t) (by rw [← hY.out]) (by rw [← HN.out]; exact HX.out.2.2.1)
        rw [← hY.out, ← HN.out] at h1
        exact h1)
      have gx := x.toNat_lt
      obtain ⟨y, hy⟩ : ∃ y, y = x.toNat % 128 := ⟨_, rfl⟩
      have hy128 : y < 128 := by omega
      obtain ⟨n1, hn1⟩ : ∃ n1, n1 = m * 128 + y := ⟨_, rfl⟩
      have hn1b : n1 ≤ 274877906943 := by omega
      have hand : Hid (bits .and .u8 (x.toNat : Int) 127 = (y : Int)) := (show _ = _ from by rw [hy]; exact and127_8 ⟨x.toNat, gx⟩)
      have hor : Hid (bits .or .i64 ((m : Int) * 128) (y : Int) = (n1 : Int)) := (show _ = _ from by rw [hn1]; exact shl7_or m y (by omega) hy128)
      have HC : Hid (X = if (first = true ∧ x.toNat = 128) ∨ 2147483647 < n1 then (0, ⟨a1, wi1, 11⟩) else if x.toNat < 128 then (n1, ⟨a1, wi1, 0⟩) else cntR L g false n1 ⟨a1, wi1, 0⟩) := (show _ = _ from by
        rw [HX.out.1, cntR, ← hY.out]
        simp only
        rw [if_neg (by simp), ← hy, ← hn1])
      have HW : Hid (IntKind.i64.wrap ((m : Int) * 128) = (m : Int) * 128 ∧ IntKind.i64.wrap (y : Int) = (y : Int)) := (show _ ∧ _ from ⟨by rw [IntKind.wrap_i64]; omega, by rw [IntKind.wrap_i64]; omega⟩)
      clear hn1 hy
      go_wp2_with (with_reducible refine halt_dst 16 rfl ?_)
      refine wpListG_run (by rfl) (v := .int .u8 (y : Int)) (w' := w1) ?hr ?_
      case hr => go_simp; (try rw [hand.out])
      go_wp2_with (with_reducible refine halt_dst 18 rfl ?_)
      refine wpListG_run (by rfl) (v := .int .i64 (n1 : Int)) (w' := w1) ?hr ?_
      case hr => go_simp; (try rw [HW.out.1]); (try rw [HW.out.2]); (try rw [hor.out])
      obtain ⟨b1, hb1⟩ : ∃ b, Hid (b = decide (x.toNat = 128)) := ⟨_, show _ = _ from rfl⟩
      obtain ⟨b2, hb2⟩ : ∃ b, Hid (b = decide (2147483647 < n1)) := ⟨_, show _ = _ from rfl⟩
      have hc1 : Hid (((x.toNat : Int) == 128) = b1) := (show _ = _ from by rw [hb1.out]; by_cases h : x.toNat = 128 <;> simp [h] <;> omega)
      have hc2 : Hid (decide ((2147483647 : Int) < (n1 : Int)) = b2) := (show _ = _ from by rw [hb2.out]; by_cases h : 2147483647 < n1 <;> simp [h] <;> omega)
      cases first
      · cases b2
        · go_wp2_with (with_reducible refine halt_dst 26 rfl ?_)
          refine wpListG_run (by rfl) (v := .bool false) (w' := w1) ?hr ?_
          case hr => go_simp; (have h1 := of_decide_eq_false hb2.out.symm); omega
          have hnb : n1 ≤ 2147483647 := by have h1 := hb2.out; have h2 := of_decide_eq_false h1.symm; omega
          have hno : Hid (¬ ((false = true ∧ x.toNat = 128) ∨ 2147483647 < n1)) := (show ¬ _ from by intro h; rcases h with h | h; exact absurd h.1 (by decide); omega)
          by_cases hlo : (x.toNat : Int) < 128
          · have HXe : Hid (X = (n1, ⟨a1, wi1, 0⟩)) := (show _ = _ from by rw [HC.out, if_neg hno.out, if_pos (by omega)])
            go_wp2_with fail
            go_ret
            rw [HXe.out]
            exact (show CountPost _ _ _ _ _ _ _ _ _ from ⟨rfl, HR1.out, HFR1.out⟩)
          · have HX2 : Hid (X = cntR L g false n1 ⟨a1, wi1, 0⟩ ∧ RdIs w1 bp A N c ⟨a1, wi1, 0⟩ ∧ a1 ≤ N ∧ N + 1 ≤ g + a1) := (show _ ∧ _ from ⟨by rw [HC.out, if_neg hno.out, if_neg (by omega)], HR1.out, by have h1 := HAT.out; omega, by have h1 := HAT.out; have h2 := HX.out.2.2.2; omega⟩)
            have hAT1 : Hid (atOf w1 bp = a1) := (show _ = _ from atOf_is HR1.out)
            go_wp2_with fail
            go_roundw
            case rel => exact ⟨g, false, n1, ⟨a1, wi1, 0⟩, rfl, rfl, hnb, HX2, HFR1⟩
            case measure => have h1 := HAT.out; rw [hAT1.out, hAT.out]; omega
        · go_wp2_with (with_reducible refine halt_dst 26 rfl ?_)
          refine wpListG_run (by rfl) (v := .bool true) (w' := w1) ?hr ?_
          case hr => go_simp; (have h1 := of_decide_eq_true hb2.out.symm); omega
          have HXe : Hid (X = (0, ⟨a1, wi1, 11⟩)) := (show _ = _ from by rw [HC.out, if_pos (.inr (of_decide_eq_true hb2.out.symm))])
          have HX1 := Lib.hid (rd_e HR1.out 11)
          have HF2 : Hid (Fr (fun k => k = bp) w (w1.setCell ⟨bp, 3, none⟩ (.int .i64 11))) := (show Fr _ w _ from HFR1.out.then (Fr.one _ _))
          go_wp2_with fail
          go_ret
          rw [HXe.out]
          exact (show CountPost _ _ _ _ _ _ _ _ _ from ⟨rfl, HX1.out, HF2.out⟩)
      · cases b1
        · go_wp2_with (with_reducible refine halt_dst 22 rfl ?_)
          refine wpListG_run (by rfl) (v := .bool false) (w' := w1) ?hr ?_
          case hr => go_simp; (have h1 := of_decide_eq_false hb1.out.symm); omega
          cases b2
          · go_wp2_with (with_reducible refine halt_dst 26 rfl ?_)
            refine wpListG_run (by rfl) (v := .bool false) (w' := w1) ?hr ?_
            case hr => go_simp; (have h1 := of_decide_eq_false hb2.out.symm); omega
            have hnb : n1 ≤ 2147483647 := by have h1 := hb2.out; have h2 := of_decide_eq_false h1.symm; omega
            have hno : Hid (¬ ((True ∧ x.toNat = 128) ∨ 2147483647 < n1)) := (show ¬ _ from by intro h; rcases h with h | h; exact of_decide_eq_false hb1.out.symm h.2; omega)
            by_cases hlo : (x.toNat : Int) < 128
            · have HXe : Hid (X = (n1, ⟨a1, wi1, 0⟩)) := (show _ = _ from by rw [HC.out, if_neg hno.out, if_pos (by omega)])
              go_wp2_with fail
              go_ret
              rw [HXe.out]
              exact (show CountPost _ _ _ _ _ _ _ _ _ from ⟨rfl, HR1.out, HFR1.out⟩)
            · have HX2 : Hid (X = cntR L g false n1 ⟨a1, wi1, 0⟩ ∧ RdIs w1 bp A N c ⟨a1, wi1, 0⟩ ∧ a1 ≤ N ∧ N + 1 ≤ g + a1) := (show _ ∧ _ from ⟨by rw [HC.out, if_neg hno.out, if_neg (by omega)], HR1.out, by have h1 := HAT.out; omega, by have h1 := HAT.out; have h2 := HX.out.2.2.2; omega⟩)
              have hAT1 : Hid (atOf w1 bp = a1) := (show _ = _ from atOf_is HR1.out)
              go_wp2_with fail
              go_roundw
              case rel => exact ⟨g, false, n1, ⟨a1, wi1, 0⟩, rfl, rfl, hnb, HX2, HFR1⟩
              case measure => have h1 := HAT.out; rw [hAT1.out, hAT.out]; omega
          · go_wp2_with (with_reducible refine halt_dst 26 rfl ?_)
            refine wpListG_run (by rfl) (v := .bool true) (w' := w1) ?hr ?_
            case hr => go_simp; (have h1 := of_decide_eq_true hb2.out.symm); omega
            have HXe : Hid (X = (0, ⟨a1, wi1, 11⟩)) := (show _ = _ from by rw [HC.out, if_pos (.inr (of_decide_eq_true hb2.out.symm))])
            have HX1 := Lib.hid (rd_e HR1.out 11)
            have HF2 : Hid (Fr (fun k => k = bp) w (w1.setCell ⟨bp, 3, none⟩ (.int .i64 11))) := (show Fr _ w _ from HFR1.out.then (Fr.one _ _))
            go_wp2_with fail
            go_ret
            rw [HXe.out]
            exact (show CountPost _ _ _ _ _ _ _ _ _ from ⟨rfl, HX1.out, HF2.out⟩)
        · go_wp2_with (with_reducible refine halt_dst 22 rfl ?_)
          refine wpListG_run (by rfl) (v := .bool true) (w' := w1) ?hr ?_
          case hr => go_simp; (have h1 := of_decide_eq_true hb1.out.symm); omega
          have HXe : Hid (X = (0, ⟨a1, wi1, 11⟩)) := (show _ = _ from by rw [HC.out, if_pos (.inl ⟨trivial, of_decide_eq_true hb1.out.symm⟩)])
          have HX1 := Lib.hid (rd_e HR1.out 11)
          have HF2 : Hid (Fr (fun k => k = bp) w (w1.setCell ⟨bp, 3, none⟩ (.int .i64 11))) := (show Fr _ w _ from HFR1.out.then (Fr.one _ _))
          go_wp2_with fail
          go_ret
          rw [HXe.out]
          exact (show CountPost _ _ _ _ _ _ _ _ _ from ⟨rfl, HX1.out, HF2.out⟩)
    · have HXe : Hid (X = (0, ⟨a1, wi1, E1⟩)) := (show _ = _ from by
        rw [HX.out.1, cntR, ← hY.out]
        simp only
        rw [if_pos hE])
      clear fz3
      go_wp2_with fail
      go_ret
      rw [HXe.out]
      exact (show CountPost _ _ _ _ _ _ _ _ _ from ⟨rfl, HR1.out, HFR1.out⟩)
end Go.Proofs.Ytbaohngnpgappaa
