/- wire's Sum: the check of bytes. -/
import Derived.Test.YtbaohngnpgappaaW5
import Derived.Test.YtbaohngnpgappaaD6
import Derived.Test.YtbaohngnpgappaaE0
set_option linter.unusedVariables false
set_option linter.unusedSimpArgs false
namespace Go.Proofs.Ytbaohngnpgappaa
open Go.RowKit
theorem xor32 (a b : Nat) (ha : a < 4294967296) (hb : b < 4294967296) : bits .xor .u32 (a : Int) (b : Int) = ((a ^^^ b : Nat) : Int) := by
  have hx : a ^^^ b < 2 ^ 32 := Nat.xor_lt_two_pow (by omega) (by omega)
  have h1 : (BitVec.ofInt 32 (a : Int)).toNat = a := by
    rw [BitVec.ofInt_natCast, BitVec.toNat_ofNat]; exact Nat.mod_eq_of_lt (by omega)
  have h2 : (BitVec.ofInt 32 (b : Int)).toNat = b := by
    rw [BitVec.ofInt_natCast, BitVec.toNat_ofNat]; exact Nat.mod_eq_of_lt (by omega)
  show IntKind.u32.wrap ((BitVec.ofInt 32 (a : Int) ^^^ BitVec.ofInt 32 (b : Int)).toNat : Int) = _
  rw [BitVec.toNat_xor, h1, h2, IntKind.wrap_u32]
  omega
theorem wraps_u32 (n : Int) (h₀ : 0 ≤ n) (h₁ : n < 2 ^ 32) : IntKind.u32.wrap n = n := by rw [IntKind.wrap_u32]; omega
theorem and1_32 (a : Nat) (ha : a < 4294967296) : bits .and .u32 (a : Int) 1 = ((a % 2 : Nat) : Int) := by
  have h := (bits_nat .u32 32 (by decide) wraps_u32 a 1 (by omega) (by decide)).1
  rw [Nat.and_one_is_mod] at h
  exact h
def crcBit (s : Nat) : Nat := if s % 2 = 1 then (s / 2) ^^^ 3988292384 else s / 2
def crcBits : Nat → Nat → Nat
  | 0, s => s
  | k + 1, s => crcBit (crcBits k s)
def crcByte (s : Nat) (c : UInt8) : Nat := crcBits 8 (s ^^^ c.toNat)
def crcAll (l : List UInt8) : Nat := l.foldl crcByte 4294967295
def crc (l : List UInt8) : Nat := crcAll l ^^^ 4294967295
theorem xor_lt32 {a b : Nat} (ha : a < 4294967296) (hb : b < 4294967296) : a ^^^ b < 4294967296 := Nat.xor_lt_two_pow (n := 32) ha hb
theorem crcBit_lt {s : Nat} (h : s < 4294967296) : crcBit s < 4294967296 := by
  unfold crcBit
  split
  · exact xor_lt32 (by omega) (by decide)
  · omega
theorem crcBits_lt {s : Nat} (h : s < 4294967296) : ∀ k, crcBits k s < 4294967296 := by
  intro k
  induction k with
  | zero => exact h
  | succ k ih => exact crcBit_lt ih
theorem crcByte_lt {s : Nat} {c : UInt8} (h : s < 4294967296) : crcByte s c < 4294967296 := crcBits_lt (xor_lt32 h (by have := c.toNat_lt; omega)) 8
theorem crcAll_lt (l : List UInt8) : crcAll l < 4294967296 := by
  unfold crcAll
  suffices h : ∀ (l : List UInt8) (s : Nat), s < 4294967296 → l.foldl crcByte s < 4294967296 from h l _ (by decide)
  intro l
  induction l with
  | nil => exact fun s h => h
  | cons x r ih => exact fun s h => ih _ (crcByte_lt h)
theorem crcAll_snoc {l : List UInt8} {k : Nat} {x : UInt8} (h : l[k]? = some x) : crcAll (l.take (k + 1)) = crcByte (crcAll (l.take k)) x := by
  unfold crcAll
  rw [List.take_add_one, h, List.foldl_append]; rfl
set_option maxHeartbeats 1000000 in
theorem sum_any {w : World} {F : Nat → Prop} {v : Value} {l : List UInt8} (h : Rb w F v l) : Calls Try.prog 55 #[v] w fun e w' => e = .returned (.int .u32 (crc l : Int)) ∧ w = w' := by
  obtain ⟨A, c, rfl, hc1, hc2⟩ := h.shape
  have hl2 : (l.length : Int) ≤ 9223372036854775807 := by simp only [maxLen] at hc2; omega
  have H := Lib.hid h
  obtain ⟨C, hC⟩ : ∃ C, Hid (C = crc l) := ⟨_, rfl⟩
  rw [← hC.out]
  clear h hc2
  go_enter Try.func55, Try.ntmps55
  go_wp2_with fail
  go_loopw [3, 8] (fun s i wr => ∃ (k S : Nat), k ≤ l.length ∧ i = .int .i64 k ∧ s = .int .u32 (S : Int) ∧ S < 4294967296 ∧ Hid (S = crcAll (l.take k)) ∧ wr = w) (fun _ i _ => l.length - (intOf i).toNat)
  case atStart => exact ⟨0, 4294967295, Nat.zero_le _, rfl, rfl, by decide, (show _ = _ from rfl), rfl⟩
  case round =>
    obtain ⟨k, S, hk, rfl, rfl, hS, HS, rfl⟩ := hrel
    by_cases hlt : k < l.length
    · obtain ⟨x, hx⟩ : ∃ x, Hid (l[k]? = some x) := ⟨_, List.getElem?_eq_getElem hlt⟩
      obtain ⟨b, o, he, _, _, hxc⟩ := byte_at H.out hx.out
      subst he
      have g1 := x.toNat_lt
      obtain ⟨T, hT⟩ : ∃ T, Hid (T = S ^^^ x.toNat) := ⟨_, rfl⟩
      have hT4 : T < 4294967296 := by rw [hT.out]; exact xor_lt32 hS (by omega)
      have hx32 : Hid (bits .xor .u32 (S : Int) (x.toNat : Int) = (T : Int)) := (show _ = _ from by rw [hT.out]; exact xor32 _ _ hS (by omega))
      go_wp2_with (with_reducible refine halt_dst 15 rfl ?_)
      refine wpListG_run (by rfl) (v := .int .u32 (T : Int)) (w' := wr) ?hr ?_
      case hr => go_simp; (try rw [hx32.out])
      go_wp2_with fail
      go_loopw [3, 16] (fun s i wx => ∃ (j U : Nat), j ≤ 8 ∧ i = .int .i64 j ∧ s = .int .u32 (U : Int) ∧ U < 4294967296 ∧ Hid (U = crcBits j T) ∧ wx = wr) (fun _ i _ => 8 - (intOf i).toNat)
      case atStart => exact ⟨0, T, Nat.zero_le _, rfl, rfl, hT4, (show _ = _ from rfl), rfl⟩
      case round =>
        obtain ⟨j, U, hj, rfl, rfl, hU, HU, rfl⟩ := hrel
        by_cases hjt : (j : Int) < 8
        · obtain ⟨Q, hQ⟩ : ∃ Q, Hid (Q = U / 2) := ⟨_, rfl⟩
          have hQ4 : Q < 4294967296 := by rw [hQ.out]; omega
          have hsh : Hid ((U : Int) / 2 = (Q : Int)) := (show _ = _ from by rw [hQ.out]; simp)
          rcases Nat.mod_two_eq_zero_or_one U with hodd | hodd
          · have hbit : Hid (bits .and .u32 (U : Int) 1 = 0) := (show _ = _ from by rw [and1_32 U hU, hodd]; rfl)
            have hnext : Hid (crcBit U = Q) := (show _ = _ from by unfold crcBit; rw [hodd, hQ.out]; rfl)
            clear hodd
            go_wp2_with (with_reducible refine halt_dst 19 rfl ?_)
            refine wpListG_run (by rfl) (v := .int .u32 (Q : Int)) (w' := wr) ?hr ?_
            case hr => go_simp; (try rw [hsh.out])
            go_wp2_with (with_reducible refine halt_dst 21 rfl ?_)
            refine wpListG_run (by rfl) (v := .int .u32 0) (w' := wr) ?hr ?_
            case hr => go_simp; (try rw [hbit.out])
            go_wp2_with (with_reducible refine halt_dst 22 rfl ?_)
            refine wpListG_run (by rfl) (v := .int .u32 0) (w' := wr) ?hr ?_
            case hr => go_simp; first | done | rfl | decide
            go_wp2_with (with_reducible refine halt_dst 23 rfl ?_)
            refine wpListG_run (by rfl) (v := .int .u32 0) (w' := wr) ?hr ?_
            case hr => go_simp; first | done | rfl | decide
            go_wp2_with (with_reducible refine halt_dst 24 rfl ?_)
            have hxo : Hid (bits .xor .u32 (Q : Int) 0 = (Q : Int)) := (show _ = _ from (xor32 Q 0 hQ4 (by decide)).trans (by rw [Nat.xor_zero]))
            refine wpListG_run (by rfl) (v := .int .u32 (Q : Int)) (w' := wr) ?hr ?_
            case hr => go_simp; (try rw [hxo.out])
            have HU2 : Hid (Q = crcBits (j + 1) T) := (show _ = _ from by rw [crcBits, ← HU.out, hnext.out])
            go_wp2_with fail
            go_roundw
            case rel => exact ⟨j + 1, _, by omega, by go_num, rfl, by rw [HU2.out]; exact crcBits_lt hT4 _, HU2, by trivial⟩
            case measure => simp [intOf]; omega
          · have hbit : Hid (bits .and .u32 (U : Int) 1 = 1) := (show _ = _ from by rw [and1_32 U hU, hodd]; rfl)
            have hnext : Hid (crcBit U = Q ^^^ 3988292384) := (show _ = _ from by unfold crcBit; rw [hodd, hQ.out]; rfl)
            clear hodd
            go_wp2_with (with_reducible refine halt_dst 19 rfl ?_)
            refine wpListG_run (by rfl) (v := .int .u32 (Q : Int)) (w' := wr) ?hr ?_
            case hr => go_simp; (try rw [hsh.out])
            go_wp2_with (with_reducible refine halt_dst 21 rfl ?_)
            refine wpListG_run (by rfl) (v := .int .u32 1) (w' := wr) ?hr ?_
            case hr => go_simp; (try rw [hbit.out])
            go_wp2_with (with_reducible refine halt_dst 22 rfl ?_)
            refine wpListG_run (by rfl) (v := .int .u32 4294967295) (w' := wr) ?hr ?_
            case hr => go_simp; first | done | rfl | decide
            go_wp2_with (with_reducible refine halt_dst 23 rfl ?_)
            refine wpListG_run (by rfl) (v := .int .u32 3988292384) (w' := wr) ?hr ?_
            case hr => go_simp; first | done | rfl | decide
            go_wp2_with (with_reducible refine halt_dst 24 rfl ?_)
            have hxo : Hid (bits .xor .u32 (Q : Int) 3988292384 = ((Q ^^^ 3988292384 : Nat) : Int)) := (show _ = _ from xor32 Q 3988292384 hQ4 (by decide))
            refine wpListG_run (by rfl) (v := .int .u32 ((Q ^^^ 3988292384 : Nat) : Int)) (w' := wr) ?hr ?_
            case hr => go_simp; (try rw [hxo.out])
            have HU2 : Hid (Q ^^^ 3988292384 = crcBits (j + 1) T) := (show _ = _ from by rw [crcBits, ← HU.out, hnext.out])
            go_wp2_with fail
            go_roundw
            case rel => exact ⟨j + 1, _, by omega, by go_num, rfl, by rw [HU2.out]; exact crcBits_lt hT4 _, HU2, by trivial⟩
            case measure => simp [intOf]; omega
        · have hj8 : j = 8 := by omega
          subst hj8
          clear hjt
          have HS2 : Hid (U = crcAll (l.take (k + 1))) := (show _ = _ from by rw [crcAll_snoc hx.out, ← HS.out, HU.out, hT.out]; rfl)
          go_wp2_with fail
          go_roundw
          case rel => exact ⟨k + 1, U, by omega, by go_num, rfl, hU, HS2, by trivial⟩
          case measure => simp [intOf]; omega
    · have hkl : k = l.length := by omega
      subst hkl
      clear hlt
      have hxo : Hid (C = S ^^^ 4294967295) := (show _ = _ from by rw [hC.out, crc, HS.out, List.take_length])
      go_wp2_with (with_reducible refine halt_dst 28 rfl ?_)
      refine wpListG_run (by rfl) (v := .int .u32 (C : Int)) (w' := wr) ?hr ?_
      case hr =>
        go_simp
        show bits .xor .u32 ((4294967295 : Nat) : Int) (S : Int) = (C : Int)
        rw [xor32 _ _ (by decide) hS, hxo.out, Nat.xor_comm]
      go_wp2_with fail
      go_ret
      exact ⟨rfl, rfl⟩
end Go.Proofs.Ytbaohngnpgappaa
