/- The document's Open. -/
import Derived.Test.YtbaohngnpgappaaW18
set_option linter.unusedVariables false
set_option linter.unusedSimpArgs false
namespace Go.Proofs.Ytbaohngnpgappaa
open Go.RowKit
theorem byteOf_is (n : Int) (x : UInt8) (h : n % 256 = (x.toNat : Int)) : byteOf n = x := by
  unfold byteOf
  rw [h, Int.toNat_natCast]
  exact UInt8.ofNat_toNat
theorem rdn4 (a b c d : UInt8) : rdn [a, b, c, d] = ((a.toNat * 256 + b.toNat) * 256 + c.toNat) * 256 + d.toNat := by simp [rdn]
theorem be4_rdn (a b c d : UInt8) : be4 (rdn [a, b, c, d]) = [a, b, c, d] := by
  have ha := a.toNat_lt
  have hb := b.toNat_lt
  have hc := c.toNat_lt
  have hd := d.toNat_lt
  rw [be4_lit, rdn4, byteOf_is _ a (by omega), byteOf_is _ b (by omega), byteOf_is _ c (by omega), byteOf_is _ d (by omega)]
theorem enc8_is (n : Int) : ((byteOf n).toNat : Int) = IntKind.u8.wrap n := by
  have h := byteOf_enc n
  unfold enc8 at h
  injection h
theorem byteOf_iff (n : Int) (d : UInt8) : byteOf n = d ↔ (d.toNat : Int) = IntKind.u8.wrap n := by
  constructor
  · rintro rfl; exact enc8_is n
  · intro h
    rw [← enc8_is n] at h
    exact (UInt8.toNat.inj (by omega)).symm
theorem le4_iff (C : Nat) (d0 d1 d2 d3 : UInt8) : le4 C = [d0, d1, d2, d3] ↔ (d0.toNat : Int) = IntKind.u8.wrap (C : Int) ∧ (d1.toNat : Int) = IntKind.u8.wrap ((C : Int) / 256) ∧ (d2.toNat : Int) = IntKind.u8.wrap ((C : Int) / 65536) ∧ (d3.toNat : Int) = IntKind.u8.wrap ((C : Int) / 16777216) := by
  rw [le4_lit]
  simp only [List.cons.injEq, and_true, byteOf_iff]
theorem take4 {b : List UInt8} (h : 4 ≤ b.length) : ∃ x0 x1 x2 x3 r, b = x0 :: x1 :: x2 :: x3 :: r := by
  rcases b with _ | ⟨x0, _ | ⟨x1, _ | ⟨x2, _ | ⟨x3, r⟩⟩⟩⟩ <;> simp at h
  exact ⟨_, _, _, _, _, rfl⟩
/-- What is sealed is looked at by its check alone. -/
theorem seal_iff {b : List UInt8} {S : Nat} (h4 : 4 ≤ b.length) (hS : S = rdn (b.take 4)) (hSn : S + 8 ≤ b.length) : sealB ((b.take (4 + S)).drop 4) = b.take (S + 8) ↔ le4 (crc (b.take (4 + S))) = (b.drop (4 + S)).take 4 := by
  obtain ⟨x0, x1, x2, x3, r, rfl⟩ := take4 h4
  have hbe : be4 S = [x0, x1, x2, x3] := by rw [hS]; exact be4_rdn _ _ _ _
  simp only [List.length_cons] at hSn
  have hB : ((x0 :: x1 :: x2 :: x3 :: r).take (4 + S)).drop 4 = r.take S := by
    rw [show 4 + S = S + 1 + 1 + 1 + 1 from by omega]; rfl
  have hT : (x0 :: x1 :: x2 :: x3 :: r).take (4 + S) = [x0, x1, x2, x3] ++ r.take S := by
    rw [show 4 + S = S + 1 + 1 + 1 + 1 from by omega]; rfl
  have hD : (x0 :: x1 :: x2 :: x3 :: r).drop (4 + S) = r.drop S := by
    rw [show 4 + S = S + 1 + 1 + 1 + 1 from by omega]; rfl
  have hW : (x0 :: x1 :: x2 :: x3 :: r).take (S + 8) = [x0, x1, x2, x3] ++ r.take S ++ (r.drop S).take 4 := by
    rw [show S + 8 = (S + 4) + 1 + 1 + 1 + 1 from by omega]
    show x0 :: x1 :: x2 :: x3 :: r.take (S + 4) = _
    rw [List.append_assoc, ← List.take_add]; rfl
  have hl : (r.take S).length = S := by rw [List.length_take]; omega
  rw [hB, hT, hD, hW, sealB, hl, hbe]
  exact List.append_right_inj _
theorem or_nat (a b : Nat) (ha : a < 2 ^ 62) (hb : b < 2 ^ 62) : bits .or .i64 (a : Int) (b : Int) = ((a ||| b : Nat) : Int) := (bits_nat .i64 62 (by decide) (fun n h0 h1 => by rw [IntKind.wrap_i64]; omega) a b ha hb).2
theorem or_four (a b c d : Nat) (ha : a < 256) (hb : b < 256) (hc : c < 256) (hd : d < 256) : bits .or .i64 (bits .or .i64 (bits .or .i64 ((a : Int) * 16777216) ((b : Int) * 65536)) ((c : Int) * 256)) (d : Int) = ((((a * 256 + b) * 256 + c) * 256 + d : Nat) : Int) := by
  have e1 : a * 16777216 ||| b * 65536 = (a * 256 + b) * 65536 := by
    have := Nat.two_pow_add_eq_or_of_lt (i := 24) (b := b * 65536) (by omega) a
    rw [show a * 16777216 = 2 ^ 24 * a from by omega, ← this]; omega
  have e2 : (a * 256 + b) * 65536 ||| c * 256 = ((a * 256 + b) * 256 + c) * 256 := by
    have := Nat.two_pow_add_eq_or_of_lt (i := 16) (b := c * 256) (by omega) (a * 256 + b)
    rw [show (a * 256 + b) * 65536 = 2 ^ 16 * (a * 256 + b) from by omega, ← this]; omega
  have e3 : ((a * 256 + b) * 256 + c) * 256 ||| d = ((a * 256 + b) * 256 + c) * 256 + d := by
    have := Nat.two_pow_add_eq_or_of_lt (i := 8) (b := d) (by omega) ((a * 256 + b) * 256 + c)
    rw [show ((a * 256 + b) * 256 + c) * 256 = 2 ^ 8 * ((a * 256 + b) * 256 + c) from by omega, ← this]
  have h1 := or_nat (a * 16777216) (b * 65536) (by omega) (by omega)
  rw [e1] at h1
  have h2 := or_nat ((a * 256 + b) * 65536) (c * 256) (by omega) (by omega)
  rw [e2] at h2
  have h3 := or_nat (((a * 256 + b) * 256 + c) * 256) d (by omega) (by omega)
  rw [e3] at h3
  rw [show ((a : Int) * 16777216) = ((a * 16777216 : Nat) : Int) from by omega, show ((b : Int) * 65536) = ((b * 65536 : Nat) : Int) from by omega, h1, show ((c : Int) * 256) = ((c * 256 : Nat) : Int) from by omega, h2, h3]
set_option maxRecDepth 100000 in
set_option maxHeartbeats 2000000 in
theorem refopen_any {w : World} {F : Nat → Prop} {v : Value} {b : List UInt8} (h : Rb w F v b) : Calls Try.prog 54 #[v] w (OpenPost w (openB b)) := by
  obtain ⟨A, c, rfl, hc1, hc2⟩ := h.shape
  have hl2 : (b.length : Int) ≤ 9223372036854775807 := by simp only [maxLen] at hc2; omega
  have H : Hid (Rb w (fun k => F k ∧ k < w.heap.size) (.slice A b.length c) b) := (show Rb _ _ _ _ from h.bound)
  obtain ⟨n, hn⟩ : ∃ n, n = b.length := ⟨_, rfl⟩
  obtain ⟨R, hR⟩ : ∃ R, Hid (R = openB b) := ⟨_, show _ = _ from rfl⟩
  rw [← hR.out]
  have HN := Lib.hid hn
  rw [← hn] at hc1 hl2 H ⊢
  clear h hc2 hn
  by_cases h4 : (n : Int) < 4
  · have hX : Hid (R = ([], 0, 10)) := (show _ = _ from by rw [hR.out, openB, if_pos (by rw [← HN.out]; omega)])
    go_enter Try.func54, Try.ntmps54
    go_wp2_with fail
    go_ret3
    exact openPost_nil hX.out (Fr.refl _ _)
  · have H4 : Hid (4 ≤ b.length) := (show _ ≤ _ from by rw [← HN.out]; omega)
    obtain ⟨x0, x1, x2, x3, r, hb⟩ := take4 H4.out
    have HB := Lib.hid hb
    obtain ⟨S, hS⟩ : ∃ S, Hid (S = rdn (b.take 4)) := ⟨_, show _ = _ from rfl⟩
    have hS2 : Hid (S = ((x0.toNat * 256 + x1.toNat) * 256 + x2.toNat) * 256 + x3.toNat) := (show _ = _ from by rw [hS.out, hb]; exact rdn4 _ _ _ _)
    have g0 := x0.toNat_lt
    have g1 := x1.toNat_lt
    have g2 := x2.toNat_lt
    have g3 := x3.toNat_lt
    have hwi : ∀ z : Int, 0 ≤ z → z < 4294967296 → IntKind.i64.wrap z = z := fun z h0 h1 => by rw [IntKind.wrap_i64]; omega
    have hor : Hid (bits .or .i64 (bits .or .i64 (bits .or .i64 (IntKind.i64.wrap (IntKind.i64.wrap (x0.toNat : Int) * 16777216)) (IntKind.i64.wrap (IntKind.i64.wrap (x1.toNat : Int) * 65536))) (IntKind.i64.wrap (IntKind.i64.wrap (x2.toNat : Int) * 256))) (IntKind.i64.wrap (x3.toNat : Int)) = (S : Int)) := (show _ = _ from by
      rw [hS2.out, hwi (x0.toNat : Int) (by omega) (by omega), hwi (x1.toNat : Int) (by omega) (by omega), hwi (x2.toNat : Int) (by omega) (by omega), hwi (x3.toNat : Int) (by omega) (by omega), hwi _ (by omega) (by omega), hwi _ (by omega) (by omega), hwi _ (by omega) (by omega)]
      exact or_four _ _ _ _ g0 g1 g2 g3)
    clear hwi
    have hS4 : S < 4294967296 := by rw [hS2.out]; omega
    obtain ⟨bk, o, he, q0, _, e0⟩ := byte_at H.out (k := 0) (x := x0) (by rw [hb]; rfl)
    obtain ⟨_, _, he1, q1, _, e1⟩ := byte_at H.out (k := 1) (x := x1) (by rw [hb]; rfl)
    rw [he] at he1; cases he1
    obtain ⟨_, _, he1, q2, _, e2⟩ := byte_at H.out (k := 2) (x := x2) (by rw [hb]; rfl)
    rw [he] at he1; cases he1
    obtain ⟨_, _, he1, q3, _, e3⟩ := byte_at H.out (k := 3) (x := x3) (by rw [hb]; rfl)
    rw [he] at he1; cases he1
    subst he
    clear hb q0 q1 q2 q3
    go_enter Try.func54, Try.ntmps54
    go_wp2_with fail
    refine wp_seq_region (fun W => W.cell? ⟨bk, o, none⟩ = some (.int .u8 (x0.toNat : Int)) ∧ W.cell? ⟨bk, o + 1, none⟩ = some (.int .u8 (x1.toNat : Int)) ∧ W.cell? ⟨bk, o + 2, none⟩ = some (.int .u8 (x2.toNat : Int)) ∧ W.cell? ⟨bk, o + 3, none⟩ = some (.int .u8 (x3.toNat : Int))) [] [2, 7, 13, 19] [] [0, 1, 2, 3, 4, 5, 6, 7, 8, 9, 10, 11, 12, 13, 14, 15, 16, 17, 18, 19, 20, 21, 22] (by kernel_rfl) (by kernel_rfl) rfl (by kernel_rfl) (fun _ _ _ _ _ h => h) ?_
    have HS : Hid (w.drew.cell? ⟨bk, o, none⟩ = some (.int .u8 (x0.toNat : Int)) ∧ w.drew.cell? ⟨bk, o + 1, none⟩ = some (.int .u8 (x1.toNat : Int)) ∧ w.drew.cell? ⟨bk, o + 2, none⟩ = some (.int .u8 (x2.toNat : Int)) ∧ w.drew.cell? ⟨bk, o + 3, none⟩ = some (.int .u8 (x3.toNat : Int))) := (show _ ∧ _ from ⟨e0, e1, e2, e3⟩)
    clear e0 e1 e2 e3
    have p0 : 0 < n := by omega
    have p1 : 1 < n := by omega
    have q1 : (1 : Int) < (n : Int) := by omega
    have p2 : 2 < n := by omega
    have q2 : (2 : Int) < (n : Int) := by omega
    have p3 : 3 < n := by omega
    have q3 : (3 : Int) < (n : Int) := by omega
    repeat (first
      | (refine sq_off (a' := ?_) rfl rfl (by rfl) (fun _ => (HS).out) ?ha ?_; (case ha => simp only [Act.put, List.setIfInBounds_toArray, List.set_cons_zero, List.set_cons_succ]; rfl))
      | (refine sq_any (v := ?_) (a' := ?_) rfl rfl rfl (by rfl) (fun W => ?hr) ?ha ?_; (case hr => go_simp; first | done | rfl); (case ha => simp only [Act.put, List.setIfInBounds_toArray, List.set_cons_zero, List.set_cons_succ]; rfl))
      | (refine sq_load (v := ?_) (a' := ?_) rfl rfl rfl (by rfl) (fun W hSW => ?hr) (HS).out ?ha ?_; (case hr => (try dsimp only at hSW); go_simp; first | done | rfl); (case ha => simp only [Act.put, List.setIfInBounds_toArray, List.set_cons_zero, List.set_cons_succ]; rfl)))
    refine sq_done ?_
    rw [hor.out]
    clear p0 p1 p2 p3 q1 q2 q3
    by_cases hbig : (2147483647 : Int) < (S : Int)
    · have hX : Hid (R = ([], 0, 11)) := (show _ = _ from by rw [hR.out, openB, if_neg (by have := H4.out; omega), ← hS.out, if_pos (by omega)])
      go_wp2_with fail
      go_ret3
      exact openPost_nil hX.out (Fr.refl _ _).drew
    · by_cases hsh : (n : Int) - 8 < (S : Int)
      · have hX : Hid (R = ([], 0, 10)) := (show _ = _ from by rw [hR.out, openB, if_neg (by have := H4.out; omega), ← hS.out, if_neg (by omega), if_pos (by rw [← HN.out]; omega)])
        go_wp2_with fail
        go_ret3
        exact openPost_nil hX.out (Fr.refl _ _).drew
      · obtain ⟨B, hB⟩ : ∃ B, Hid (B = (b.take (4 + S)).drop 4) := ⟨_, show _ = _ from rfl⟩
        have hBl : Hid (B.length = S) := (show _ = _ from by rw [hB.out, List.length_drop, List.length_take, ← HN.out]; omega)
        have hSn : S + 8 ≤ n := by omega
        obtain ⟨M, hM⟩ : ∃ M, Hid (M = b.take (4 + S)) := ⟨_, show _ = _ from rfl⟩
        obtain ⟨C, hC⟩ : ∃ C, Hid (C = crc M) := ⟨_, show _ = _ from rfl⟩
        have hC4 : C < 4294967296 := by rw [hC.out]; exact crc_lt _
        obtain ⟨d0, d1, d2, d3, r', hd⟩ := take4 (b := b.drop (4 + S)) (by rw [List.length_drop, ← HN.out]; omega)
        have hX : Hid (R = if le4 C = [d0, d1, d2, d3] then (B, S + 8, 0) else ([], 0, 12)) := (show _ = _ from by
          rw [hR.out, openB, if_neg (by have := H4.out; omega), ← hS.out, if_neg (by omega), if_neg (by rw [← HN.out]; omega), ← hB.out]
          have h1 := seal_iff H4.out hS.out (by rw [← HN.out]; exact hSn)
          rw [← hB.out, ← hM.out, ← hC.out, hd] at h1
          by_cases h2 : le4 C = [d0, d1, d2, d3]
          · rw [if_pos h2, if_pos (h1.2 h2)]
          · rw [if_neg h2, if_neg (fun h => h2 (h1.1 h))])
        have hget : ∀ i x, [d0, d1, d2, d3][i]? = some x → b[4 + S + i]? = some x := by
          intro i x hi
          rw [← List.getElem?_drop, hd]
          rcases i with _ | _ | _ | _ | i
          · exact hi
          · exact hi
          · exact hi
          · exact hi
          · simp at hi
        obtain ⟨p, hp⟩ : ∃ p, p = o + (4 + S) := ⟨_, rfl⟩
        have hcell : ∀ i x, [d0, d1, d2, d3][i]? = some x → w.drew.cell? ⟨bk, p + i, none⟩ = some (.int .u8 (x.toNat : Int)) := by
          intro i x hi
          obtain ⟨_, _, he1, _, _, h1⟩ := byte_at H.out (hget i x hi)
          cases he1
          rw [hp, Nat.add_assoc]
          exact h1
        have e0 := hcell 0 d0 rfl
        have e1 := hcell 1 d1 rfl
        have e2 := hcell 2 d2 rfl
        have e3 := hcell 3 d3 rfl
        rw [Nat.add_zero] at e0
        obtain ⟨A2, hcut2, hA2⟩ := cut2_run (P := Try.prog) 22 5 Try.underlying22 sz5 (some ⟨bk, o, none⟩) n c 4 (4 + (S : Int)) (by omega) (by omega) (by omega)
        rw [show (4 + (S : Int)).toNat - (4 : Int).toNat = S from by omega, show (4 : Int).toNat = 4 from rfl] at hcut2
        rw [show (4 : Int).toNat = 4 from rfl] at hA2
        have HRB : Hid (Rb w (fun k => F k ∧ k < w.heap.size) (.slice A2 S (c - 4)) B) := (show Rb _ _ _ _ from by
          have h := H.out
          rw [HN.out] at h
          have h5 := h.cut 4 (4 + S) (by omega) (by rw [← HN.out]; omega)
          rw [← hA2, show 4 + S - 4 = S from by omega, ← hB.out] at h5
          exact h5)
        have hcut3 := cut0_run (P := Try.prog) 22 5 Try.underlying22 sz5 (some ⟨bk, o, none⟩) n c (4 + (S : Int)) (by omega) (by omega)
        rw [show (4 + (S : Int)).toNat = 4 + S from by omega] at hcut3
        have HRM : Hid (Rb w (fun k => F k ∧ k < w.heap.size) (.slice (some ⟨bk, o, none⟩) (4 + S) c) M) := (show Rb _ _ _ _ from by
          have h := H.out
          rw [HN.out] at h
          obtain ⟨_, _, he, _, _, h5⟩ := h.take_ (4 + S) (by rw [← HN.out]; omega)
          cases he
          rw [hM.out]
          exact h5)
        obtain ⟨A4, hcut4, hA4⟩ := cut_run (P := Try.prog) 22 5 Try.underlying22 sz5 (some ⟨bk, o, none⟩) n c (4 + S) (by omega)
        rw [if_neg (by omega)] at hA4
        have hA4' : A4 = some ⟨bk, p, none⟩ := by rw [hA4]; simp [add_none, hp]
        subst hA4'
        obtain ⟨m, hm⟩ : ∃ m, m = n - (4 + S) := ⟨_, rfl⟩
        have hm4 : 3 < m := by omega
        have m0 : 0 < m := by omega
        have m1 : (1 : Int) < (m : Int) := by omega
        have m2 : (2 : Int) < (m : Int) := by omega
        have m3 : (3 : Int) < (m : Int) := by omega
        rw [← hm, show ((4 + S : Nat) : Int) = 4 + (S : Int) from by omega] at hcut4
        clear hA2 hA4 hm hget hcell hd hp
        go_wp2_with fail
        refine (refsum_any (HRM.out.fr (Fr.refl No w).drew (fun _ _ _ h => h))).mono ?_
        rw [← hC.out]
        rintro e w' ⟨rfl, rfl⟩
        have k0 := d0.toNat_lt
        have k1 := d1.toNat_lt
        have k2 := d2.toNat_lt
        have k3 := d3.toNat_lt
        obtain ⟨z0, hz0⟩ : ∃ z : Int, Hid (z = IntKind.u8.wrap ((C : Int))) := ⟨_, show _ = _ from rfl⟩
        obtain ⟨z1, hz1⟩ : ∃ z : Int, Hid (z = IntKind.u8.wrap ((C : Int) / 256)) := ⟨_, show _ = _ from rfl⟩
        obtain ⟨z2, hz2⟩ : ∃ z : Int, Hid (z = IntKind.u8.wrap ((C : Int) / 65536)) := ⟨_, show _ = _ from rfl⟩
        obtain ⟨z3, hz3⟩ : ∃ z : Int, Hid (z = IntKind.u8.wrap ((C : Int) / 16777216)) := ⟨_, show _ = _ from rfl⟩
        have hle : Hid (le4 C = [d0, d1, d2, d3] ↔ (d0.toNat : Int) = z0 ∧ (d1.toNat : Int) = z1 ∧ (d2.toNat : Int) = z2 ∧ (d3.toNat : Int) = z3) := (show _ ↔ _ from by rw [hz0.out, hz1.out, hz2.out, hz3.out]; exact le4_iff C d0 d1 d2 d3)
        go_wp2_with (with_reducible refine halt_dst 53 rfl ?_)
        refine wpListG_run (by rfl) (v := .int .u8 z0) (w' := w.drew) ?hr ?_
        case hr => go_simp; (try rw [hz0.out])
        by_cases f0 : (d0.toNat : Int) = z0
        case neg =>
          have hX2 : Hid (R = ([], 0, 12)) := (show _ = _ from by rw [hX.out, if_neg (fun h => f0 (hle.out.1 h).1)])
          go_wp2_with fail
          go_ret3
          exact openPost_nil hX2.out (Fr.refl _ _).drew
        case pos =>
          subst f0
          go_wp2_with (with_reducible refine halt_dst 61 rfl ?_)
          refine wpListG_run (by rfl) (v := .int .u8 z1) (w' := w.drew) ?hr ?_
          case hr => go_simp; (try rw [hz1.out])
          by_cases f1 : (d1.toNat : Int) = z1
          case neg =>
            have hX2 : Hid (R = ([], 0, 12)) := (show _ = _ from by rw [hX.out, if_neg (fun h => f1 (hle.out.1 h).2.1)])
            go_wp2_with fail
            go_ret3
            exact openPost_nil hX2.out (Fr.refl _ _).drew
          case pos =>
            subst f1
            go_wp2_with (with_reducible refine halt_dst 70 rfl ?_)
            refine wpListG_run (by rfl) (v := .int .u8 z2) (w' := w.drew) ?hr ?_
            case hr => go_simp; (try rw [hz2.out])
            by_cases f2 : (d2.toNat : Int) = z2
            case neg =>
              have hX2 : Hid (R = ([], 0, 12)) := (show _ = _ from by rw [hX.out, if_neg (fun h => f2 (hle.out.1 h).2.2.1)])
              go_wp2_with fail
              go_ret3
              exact openPost_nil hX2.out (Fr.refl _ _).drew
            case pos =>
              subst f2
              go_wp2_with (with_reducible refine halt_dst 79 rfl ?_)
              refine wpListG_run (by rfl) (v := .int .u8 z3) (w' := w.drew) ?hr ?_
              case hr => go_simp; (try rw [hz3.out])
              by_cases f3 : (d3.toNat : Int) = z3
              case neg =>
                have hX2 : Hid (R = ([], 0, 12)) := (show _ = _ from by rw [hX.out, if_neg (fun h => f3 (hle.out.1 h).2.2.2)])
                go_wp2_with fail
                go_ret3
                exact openPost_nil hX2.out (Fr.refl _ _).drew
              case pos =>
                subst f3
                have hX2 : Hid (R = (B, S + 8, 0)) := (show _ = _ from by rw [hX.out, if_pos (hle.out.2 (by simp))])
                clear e0 e1 e2 e3
                go_wp2_with (with_reducible refine halt_dst 86 rfl ?_)
                obtain ⟨_, _, he, _, _, hnews⟩ := (HRB.out.fr (Fr.refl No w).drew (fun _ _ _ h => h)).news
                rw [hBl.out] at he
                injection he with he1 he2 he3
                subst he1; subst he3
                have HNW := Lib.hid hnews
                clear hnews he2
                refine wpList_app (O := No) rfl (.const (.slice none 0 0)) (.tmp 85) 22 5 rfl _ 1 1 Try.underlying22 info5 rfl (by omega) (by omega) (.slice none 0 0) 0 [] rfl _ S _ rfl (Ow.nil _ _ _ _) (B.map enc8) (by rw [List.length_map, hBl.out, Nat.mul_one]) HNW.out (one8 _) (by omega) ?_
                intro v6 w6 hown6 hfr6
                rw [List.nil_append, Nat.zero_add] at hown6
                have HF6 : Hid (Fr No w w6) := (show Fr No w w6 from (Fr.refl No w).drew.then (hfr6.mono (fun k _ h => by simp [Value.ownBlock] at h)))
                have HO6 : Hid (Ow w6 (New w) 5 1 v6 S (B.map enc8)) := (show Ow _ _ _ _ _ _ _ from hown6.mono (fun k hk => by
                  rcases hk with hk | hk
                  · simp [Value.ownBlock] at hk
                  · exact Nat.le_of_eq hk.symm))
                clear hown6 hfr6
                obtain ⟨A7, c7, rfl, _, _⟩ := HO6.out.shape
                go_wp2_with fail
                go_ret3
                rw [hX2.out]
                refine (show OpenPost _ _ _ _ from ⟨_, rfl, ?_, HF6.out⟩)
                show Ow w6 (New w) 5 1 _ B.length (B.map enc8)
                rw [hBl.out]
                exact HO6.out
end Go.Proofs.Ytbaohngnpgappaa
