/- The document's Sum. -/
import Derived.Test.YtbaohngnpgappaaW12
set_option linter.unusedVariables false
set_option linter.unusedSimpArgs false
namespace Go.Proofs.Ytbaohngnpgappaa
open Go.RowKit
set_option maxHeartbeats 1000000 in
theorem refsum_any {w : World} {F : Nat → Prop} {v : Value} {l : List UInt8} (h : Rb w F v l) : Calls Try.prog 56 #[v] w fun e w' => e = .returned (.int .u32 (crc l : Int)) ∧ w = w' := by
  obtain ⟨A, c, rfl, hc1, hc2⟩ := h.shape
  have hl2 : (l.length : Int) ≤ 9223372036854775807 := by simp only [maxLen] at hc2; omega
  have H := Lib.hid h
  obtain ⟨C, hC⟩ : ∃ C, Hid (C = crc l) := ⟨_, rfl⟩
  rw [← hC.out]
  clear h hc2
  go_enter Try.func56, Try.ntmps56
  go_wp2_with fail
  go_loopw [3, 9] (fun s i wr => ∃ (k S : Nat), k ≤ l.length ∧ i = .int .i64 k ∧ s = .int .u32 (S : Int) ∧ S < 4294967296 ∧ Hid (S = crcAll (l.take k)) ∧ wr = w) (fun _ i _ => l.length - (intOf i).toNat)
  case atStart => exact ⟨0, 4294967295, Nat.zero_le _, rfl, rfl, by decide, (show _ = _ from rfl), rfl⟩
  case round =>
    obtain ⟨k, S, hk, rfl, rfl, hS, HS, rfl⟩ := hrel
    by_cases hlt : k < l.length
    · obtain ⟨x, hx⟩ : ∃ x, Hid (l[k]? = some x) := ⟨_, List.getElem?_eq_getElem hlt⟩
      obtain ⟨b, o, he, _, _, hxc⟩ := byte_at H.out hx.out
      subst he
      have g1 := x.toNat_lt
      obtain ⟨T, hT⟩ : ∃ T, Hid (T = S ^^^ x.toNat) := ⟨_, rfl⟩
      have hT4 : T < 4294967296 := by rw [hT.out]; exact xor_lt32 hS (by omega)
      have hx32 : Hid (bits .xor .u32 (S : Int) (x.toNat : Int) = (T : Int)) := (show _ = _ from by rw [hT.out]; exact xor32 _ _ hS (by omega))
      go_wp2_with (with_reducible refine halt_dst 16 rfl ?_)
      refine wpListG_run (by rfl) (v := .int .u32 (T : Int)) (w' := wr) ?hr ?_
      case hr => go_simp; (try rw [hx32.out])
      go_wp2_with fail
      go_loopw [3, 17] (fun s i wx => ∃ (j U : Nat), j ≤ 8 ∧ i = .int .i64 j ∧ s = .int .u32 (U : Int) ∧ U < 4294967296 ∧ Hid (U = crcBits j T) ∧ wx = wr) (fun _ i _ => 8 - (intOf i).toNat)
      case atStart => exact ⟨0, T, Nat.zero_le _, rfl, rfl, hT4, (show _ = _ from rfl), rfl⟩
      case round =>
        obtain ⟨j, U, hj, rfl, rfl, hU, HU, rfl⟩ := hrel
        by_cases hjt : (j : Int) < 8
        · obtain ⟨Q, hQ⟩ : ∃ Q, Hid (Q = U / 2) := ⟨_, rfl⟩
          have hQ4 : Q < 4294967296 := by rw [hQ.out]; omega
          have hwr : Hid (IntKind.u32.wrap (Q : Int) = (Q : Int)) := (show _ = _ from wraps_u32 _ (by omega) (by omega))
          have hsh : Hid ((U : Int) / 2 = (Q : Int)) := (show _ = _ from by rw [hQ.out]; simp)
          rcases Nat.mod_two_eq_zero_or_one U with hodd | hodd
          · have hbit : Hid ((U : Int).tmod 2 = 0) := (show _ = _ from by rw [Int.tmod_eq_emod_of_nonneg (by omega)]; omega)
            have hnext : Hid (crcBit U = Q) := (show _ = _ from by unfold crcBit; rw [hodd, hQ.out]; rfl)
            clear hodd
            go_wp2_with (with_reducible refine halt_dst 20 rfl ?_)
            refine wpListG_run (by rfl) (v := .int .u32 0) (w' := wr) ?hr ?_
            case hr => go_simp; (try rw [hbit.out])
            go_wp2_with (with_reducible refine halt_dst 22 rfl ?_)
            refine wpListG_run (by rfl) (v := .int .u32 (Q : Int)) (w' := wr) ?hr ?_
            case hr => go_simp; (try rw [hsh.out]); (try rw [hwr.out])
            have HU2 : Hid (Q = crcBits (j + 1) T) := (show _ = _ from by rw [crcBits, ← HU.out, hnext.out])
            go_wp2_with fail
            go_roundw
            case rel => exact ⟨j + 1, _, by omega, by go_num, rfl, by rw [HU2.out]; exact crcBits_lt hT4 _, HU2, by trivial⟩
            case measure => simp [intOf]; omega
          · have hbit : Hid ((U : Int).tmod 2 = 1) := (show _ = _ from by rw [Int.tmod_eq_emod_of_nonneg (by omega)]; omega)
            have hnext : Hid (crcBit U = Q ^^^ 3988292384) := (show _ = _ from by unfold crcBit; rw [hodd, hQ.out]; rfl)
            clear hodd
            go_wp2_with (with_reducible refine halt_dst 20 rfl ?_)
            refine wpListG_run (by rfl) (v := .int .u32 1) (w' := wr) ?hr ?_
            case hr => go_simp; (try rw [hbit.out])
            go_wp2_with (with_reducible refine halt_dst 22 rfl ?_)
            refine wpListG_run (by rfl) (v := .int .u32 (Q : Int)) (w' := wr) ?hr ?_
            case hr => go_simp; (try rw [hsh.out]); (try rw [hwr.out])
            go_wp2_with (with_reducible refine halt_dst 26 rfl ?_)
            have hxo : Hid (bits .xor .u32 (Q : Int) 3988292384 = ((Q ^^^ 3988292384 : Nat) : Int)) := (show _ = _ from xor32 Q 3988292384 hQ4 (by decide))
            refine wpListG_run (by rfl) (v := .int .u32 ((Q ^^^ 3988292384 : Nat) : Int)) (w' := wr) ?hr ?_
            case hr => go_simp; (try rw [hxo.out])
            have HU2 : Hid (Q ^^^ 3988292384 = crcBits (j + 1) T) := (show _ = _ from by rw [crcBits, ← HU.out, hnext.out])
            go_wp2_with fail
            go_roundw
            case rel => exact ⟨j + 1, _, by omega, by go_num, rfl, by rw [HU2.out]; exact crcBits_lt hT4 _, HU2, by trivial⟩
            case measure => simp [intOf]; omega
        · have hj8 : j = 8 := by omega
          subst hj8
          clear hjt
          have HS2 : Hid (U = crcAll (l.take (k + 1))) := (show _ = _ from by rw [crcAll_snoc hx.out, ← HS.out, HU.out, hT.out]; rfl)
          go_wp2_with fail
          go_roundw
          case rel => exact ⟨k + 1, U, by omega, by go_num, rfl, hU, HS2, by trivial⟩
          case measure => simp [intOf]; omega
    · have hkl : k = l.length := by omega
      subst hkl
      clear hlt
      have hxo : Hid (C = S ^^^ 4294967295) := (show _ = _ from by rw [hC.out, crc, HS.out, List.take_length])
      go_wp2_with (with_reducible refine halt_dst 30 rfl ?_)
      refine wpListG_run (by rfl) (v := .int .u32 (C : Int)) (w' := wr) ?hr ?_
      case hr =>
        go_simp
        show bits .xor .u32 (S : Int) ((4294967295 : Nat) : Int) = (C : Int)
        rw [xor32 _ _ hS (by decide), hxo.out]
      go_wp2_with fail
      go_ret
      exact ⟨rfl, rfl⟩
end Go.Proofs.Ytbaohngnpgappaa
