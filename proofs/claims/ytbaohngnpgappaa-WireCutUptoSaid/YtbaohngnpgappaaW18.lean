/- Bytes that are equal; wire's Open. -/
import Derived.Test.YtbaohngnpgappaaW17
import Derived.OwnWalk
set_option linter.unusedVariables false
set_option linter.unusedSimpArgs false
namespace Go.Proofs.Ytbaohngnpgappaa
open Go.RowKit
set_option maxHeartbeats 1000000 in
theorem equal8 {w : World} {F1 F2 : Nat → Prop} {v1 v2 : Value} {l l' : List UInt8} (h1 : Rb w F1 v1 l) (h2 : Rb w F2 v2 l') : Calls Try.prog 89 #[v1, v2] w (Told (.bool (l == l')) w) := by
  obtain ⟨A, c, rfl, hc1, hc2⟩ := h1.shape
  obtain ⟨A', c', rfl, hc1', hc2'⟩ := h2.shape
  have hl2 : (l.length : Int) ≤ 9223372036854775807 := by simp only [maxLen] at hc2; omega
  have HR := Lib.hid h1
  have HR' := Lib.hid h2
  obtain ⟨C, hC⟩ : ∃ C, Hid (C = (l == l')) := ⟨_, show _ = _ from rfl⟩
  rw [← hC.out]
  clear h1 h2 hc2 hc2'
  by_cases hll : l.length = l'.length
  · rw [← hll]
    have HLL := Lib.hid hll
    clear hll
    go_enter Try.func89, Try.ntmps89
    go_wp2_with fail
    go_loopw [13] (fun i wr => ∃ (j : Nat), j ≤ l.length ∧ i = .int .i64 j ∧ Hid (Fr No w wr ∧ l.take j = l'.take j)) (fun i _ => l.length - (intOf i).toNat)
    case atStart => exact ⟨0, Nat.zero_le _, rfl, (show _ ∧ _ from ⟨Fr.refl _ w, rfl⟩)⟩
    case round =>
      obtain ⟨j, hj, rfl, HX⟩ := hrel
      by_cases hlt : j < l.length
      · obtain ⟨x, hx⟩ : ∃ x, Hid (l[j]? = some x) := ⟨_, show _ = _ from List.getElem?_eq_getElem hlt⟩
        obtain ⟨y, hy⟩ : ∃ y, Hid (l'[j]? = some y) := ⟨_, show _ = _ from List.getElem?_eq_getElem (by rw [← HLL.out]; exact hlt)⟩
        obtain ⟨b1, o1, he, _, _, e1⟩ := byte_at (HR.out.fr HX.out.1 (fun _ _ _ h => h)) hx.out
        subst he
        obtain ⟨b2, o2, he, _, _, e2⟩ := byte_at (HR'.out.fr HX.out.1 (fun _ _ _ h => h)) hy.out
        subst he
        have hlt' : (j : Int) < (l.length : Int) := by omega
        go_wp2_with fail
        refine wp_seq_region (fun W => W.cell? ⟨b1, o1 + j, none⟩ = some (.int .u8 (x.toNat : Int)) ∧ W.cell? ⟨b2, o2 + j, none⟩ = some (.int .u8 (y.toNat : Int))) [] [3, 7] [] [0, 1, 2, 3, 4, 5, 6, 7, 8] (by kernel_rfl) (by kernel_rfl) rfl (by kernel_rfl) (fun _ _ _ _ _ h => h) ?_
        have HS : Hid (wr.drew.cell? ⟨b1, o1 + j, none⟩ = some (.int .u8 (x.toNat : Int)) ∧ wr.drew.cell? ⟨b2, o2 + j, none⟩ = some (.int .u8 (y.toNat : Int))) := (show _ ∧ _ from ⟨e1, e2⟩)
        clear e1 e2
        by_cases hxy : x = y
        · subst hxy
          have HX2 : Hid (Fr No w wr.drew ∧ l.take (j + 1) = l'.take (j + 1)) := (show _ ∧ _ from ⟨HX.out.1.drew, by rw [List.take_add_one, List.take_add_one, hx.out, hy.out, HX.out.2]⟩)
          repeat (first
            | (refine sq_off (a' := ?_) rfl rfl (by rfl) (fun _ => (HS).out) ?ha ?_; (case ha => simp only [Act.put, List.setIfInBounds_toArray, List.set_cons_zero, List.set_cons_succ]; rfl))
            | (refine sq_any (v := ?_) (a' := ?_) rfl rfl rfl (by rfl) (fun W => ?hr) ?ha ?_; (case hr => go_simp; first | done | rfl); (case ha => simp only [Act.put, List.setIfInBounds_toArray, List.set_cons_zero, List.set_cons_succ]; rfl))
            | (refine sq_load (v := ?_) (a' := ?_) rfl rfl rfl (by rfl) (fun W hSW => ?hr) (HS).out ?ha ?_; (case hr => (try dsimp only at hSW); go_simp; first | done | rfl); (case ha => simp only [Act.put, List.setIfInBounds_toArray, List.set_cons_zero, List.set_cons_succ]; rfl)))
          refine sq_done ?_
          go_wp2_with fail
          go_roundw
          case rel => exact ⟨j + 1, by omega, by go_num, HX2⟩
          case measure => simp [intOf]; omega
        · have hne : ¬ ((x.toNat : Int) = (y.toNat : Int)) := by
            intro h
            exact hxy (UInt8.toNat.inj (by omega))
          have hF : Hid (C = false) := (show _ = _ from by
            rw [hC.out]
            refine beq_eq_false_iff_ne.2 fun h => hxy ?_
            have h1 := hx.out
            rw [h, hy.out] at h1
            exact (Option.some.inj h1).symm)
          have HF := Lib.hid HX.out.1.drew
          clear hxy
          repeat (first
            | (refine sq_off (a' := ?_) rfl rfl (by rfl) (fun _ => (HS).out) ?ha ?_; (case ha => simp only [Act.put, List.setIfInBounds_toArray, List.set_cons_zero, List.set_cons_succ]; rfl))
            | (refine sq_any (v := ?_) (a' := ?_) rfl rfl rfl (by rfl) (fun W => ?hr) ?ha ?_; (case hr => go_simp; first | done | rfl); (case ha => simp only [Act.put, List.setIfInBounds_toArray, List.set_cons_zero, List.set_cons_succ]; rfl))
            | (refine sq_load (v := ?_) (a' := ?_) rfl rfl rfl (by rfl) (fun W hSW => ?hr) (HS).out ?ha ?_; (case hr => (try dsimp only at hSW); go_simp; first | done | rfl); (case ha => simp only [Act.put, List.setIfInBounds_toArray, List.set_cons_zero, List.set_cons_succ]; rfl)))
          refine sq_done ?_
          go_wp2_with fail
          go_ret
          exact (show Told _ _ _ _ from ⟨by rw [hF.out]; rfl, HF.out⟩)
      · have hjl : j = l.length := by omega
        subst hjl
        clear hlt
        go_wp2_with fail
        go_ret
        refine (show Told _ _ _ _ from ⟨?_, HX.out.1⟩)
        have h1 := HX.out.2
        rw [List.take_length, List.take_of_length_le (Nat.le_of_eq HLL.out.symm)] at h1
        rw [hC.out, h1, beq_self_eq_true]; rfl
  · have hF : Hid (C = false) := (show _ = _ from by
      rw [hC.out]
      exact beq_eq_false_iff_ne.2 fun h => hll (by rw [h]))
    have hll2 : ¬ ((l.length : Int) = (l'.length : Int)) := by omega
    clear hll
    go_enter Try.func89, Try.ntmps89
    go_wp2_with fail
    go_ret
    exact (show Told _ _ _ _ from ⟨by rw [hF.out]; rfl, Fr.refl _ w⟩)
/-- Bytes as a number, the greatest first. -/
def rdn (l : List UInt8) : Nat := l.foldl (fun a c => a * 256 + c.toNat) 0
theorem rdn_snoc {l : List UInt8} {k : Nat} {x : UInt8} (h : l[k]? = some x) : rdn (l.take (k + 1)) = rdn (l.take k) * 256 + x.toNat := by
  unfold rdn
  rw [List.take_add_one, h, List.foldl_append]; rfl
theorem rdn_lt : ∀ l : List UInt8, rdn l < 256 ^ l.length := by
  suffices h : ∀ (l : List UInt8) (a n : Nat), a < 256 ^ n → l.foldl (fun a c => a * 256 + c.toNat) a < 256 ^ (n + l.length) by
    intro l
    have := h l 0 0 (by decide)
    rw [Nat.zero_add] at this
    exact this
  intro l
  induction l with
  | nil => exact fun a n h => h
  | cons x r ih =>
    intro a n h
    rw [List.foldl_cons, List.length_cons, show n + (r.length + 1) = (n + 1) + r.length from by omega]
    refine ih _ (n + 1) ?_
    have := x.toNat_lt
    rw [Nat.pow_succ]
    omega
theorem shl_or (a b : Nat) (ha : a < 2 ^ 40) (hb : b < 256) : bits .or .i64 ((a * 256 : Nat) : Int) (b : Int) = ((a * 256 + b : Nat) : Int) := by
  have h := (bits_nat .i64 62 (by decide) (fun n h0 h1 => by rw [IntKind.wrap_i64]; omega) (a * 256) b (by omega) (by omega)).2
  rw [h]
  congr 1
  have := Nat.two_pow_add_eq_or_of_lt (i := 8) (b := b) (by omega) a
  rw [show a * 256 = 2 ^ 8 * a from by omega]
  exact this.symm
/-- What Open tells: the bytes, how many were used, why there are none. -/
def openB (b : List UInt8) : List UInt8 × Nat × Int :=
  if b.length < 4 then ([], 0, 10)
  else if 2147483647 < rdn (b.take 4) then ([], 0, 11)
  else if b.length < rdn (b.take 4) + 8 then ([], 0, 10)
  else if sealB ((b.take (4 + rdn (b.take 4))).drop 4) = b.take (rdn (b.take 4) + 8) then ((b.take (4 + rdn (b.take 4))).drop 4, rdn (b.take 4) + 8, 0)
  else ([], 0, 12)
def OpenPost (w : World) (r : List UInt8 × Nat × Int) (e : Ending) (w' : World) : Prop :=
  ∃ v', e = .returned (.tuple #[v', .int .i64 (r.2.1 : Int), .int .i64 r.2.2]) ∧ Ow w' (New w) 5 1 v' r.1.length (r.1.map enc8) ∧ Fr No w w'
theorem openPost_nil {w w' : World} {r : List UInt8 × Nat × Int} {c : Int} (h : r = ([], 0, c)) (hf : Fr No w w') : OpenPost w r (.returned (.tuple #[.slice none 0 0, .int .i64 0, .int .i64 c])) w' := by
  subst h
  exact ⟨_, rfl, Ow.nil _ _ _ _, hf⟩
set_option maxRecDepth 100000 in
set_option maxHeartbeats 2000000 in
theorem open_any {w : World} {F : Nat → Prop} {v : Value} {b : List UInt8} (h : Rb w F v b) : Calls Try.prog 53 #[v] w (OpenPost w (openB b)) := by
  obtain ⟨A, c, rfl, hc1, hc2⟩ := h.shape
  have hl2 : (b.length : Int) ≤ 9223372036854775807 := by simp only [maxLen] at hc2; omega
  have H : Hid (Rb w (fun k => F k ∧ k < w.heap.size) (.slice A b.length c) b) := (show Rb _ _ _ _ from h.bound)
  obtain ⟨n, hn⟩ : ∃ n, n = b.length := ⟨_, rfl⟩
  obtain ⟨R, hR⟩ : ∃ R, Hid (R = openB b) := ⟨_, show _ = _ from rfl⟩
  rw [← hR.out]
  have HN := Lib.hid hn
  rw [← hn] at hc1 hl2 H ⊢
  clear h hc2 hn
  by_cases h4 : (n : Int) < 4
  · have hX : Hid (R = ([], 0, 10)) := (show _ = _ from by rw [hR.out, openB, if_pos (by rw [← HN.out]; omega)])
    go_enter Try.func53, Try.ntmps53
    go_wp2_with fail
    go_ret3
    exact openPost_nil hX.out (Fr.refl _ _)
  · have hcut := cut0_run (P := Try.prog) 22 5 Try.underlying22 sz5 A n c 4 (by omega) (by omega)
    rw [show (4 : Int).toNat = 4 from rfl] at hcut
    have H4 : Hid (4 ≤ b.length) := (show _ ≤ _ from by rw [← HN.out]; omega)
    have HR4 : Hid (Rb w (fun k => F k ∧ k < w.heap.size) (.slice A 4 c) (b.take 4)) := (show Rb _ _ _ _ from by
      have h := H.out
      rw [HN.out] at h
      obtain ⟨_, _, he, _, _, h5⟩ := h.take_ 4 H4.out
      cases he
      exact h5)
    go_enter Try.func53, Try.ntmps53
    go_wp2_with fail
    clear hcut
    go_loopw [5, 15] (fun s i wr => ∃ (j S : Nat), j ≤ 4 ∧ i = .int .i64 j ∧ s = .int .i64 (S : Int) ∧ S < 256 ^ 4 ∧ Hid (S = rdn ((b.take 4).take j)) ∧ wr = w) (fun _ i _ => 4 - (intOf i).toNat)
    case atStart => exact ⟨0, 0, Nat.zero_le _, rfl, rfl, by decide, (show _ = _ from rfl), rfl⟩
    case round =>
      obtain ⟨j, S, hj, rfl, rfl, hS, HS, rfl⟩ := hrel
      by_cases hlt : (j : Int) < 4
      · obtain ⟨x, hx⟩ : ∃ x, Hid ((b.take 4)[j]? = some x) := ⟨_, show _ = _ from List.getElem?_eq_getElem (by rw [List.length_take]; have := H4.out; omega)⟩
        have hlen : Hid ((b.take 4).length = 4) := (show _ = _ from by rw [List.length_take]; have := H4.out; omega)
        obtain ⟨bk, o, he, _, _, hxc⟩ := byte_at (show Rb wr (fun k => F k ∧ k < wr.heap.size) (.slice A (b.take 4).length c) (b.take 4) from by rw [hlen.out]; exact HR4.out) hx.out
        subst he
        have g1 := x.toNat_lt
        obtain ⟨T, hT⟩ : ∃ T, Hid (T = S * 256 + x.toNat) := ⟨_, show _ = _ from rfl⟩
        have HT2 : Hid (T = rdn ((b.take 4).take (j + 1))) := (show _ = _ from by rw [hT.out, rdn_snoc hx.out, HS.out])
        have hT4 : T < 256 ^ 4 := by
          rw [HT2.out]
          refine Nat.lt_of_lt_of_le (rdn_lt _) (Nat.pow_le_pow_right (by decide) ?_)
          rw [List.length_take]; omega
        have hor : Hid (bits .or .i64 ((S : Int) * 256) (x.toNat : Int) = (T : Int)) := (show _ = _ from by rw [hT.out]; exact shl_or S x.toNat (by omega) g1)
        go_wp2_with (with_reducible refine halt_dst 23 rfl ?_)
        refine wpListG_run (by rfl) (v := .int .i64 (T : Int)) (w' := wr) ?hr ?_
        case hr => go_simp; (try rw [hor.out])
        go_wp2_with fail
        go_roundw
        case rel => exact ⟨j + 1, T, by omega, by go_num, rfl, hT4, HT2, by trivial⟩
        case measure => simp [intOf]; omega
      · have hj4 : j = 4 := by omega
        subst hj4
        clear hlt hj
        have HS2 : Hid (S = rdn (b.take 4)) := (show _ = _ from by rw [HS.out, List.take_of_length_le (by rw [List.length_take]; omega)])
        by_cases hbig : (2147483647 : Int) < (S : Int)
        · have hX : Hid (R = ([], 0, 11)) := (show _ = _ from by rw [hR.out, openB, if_neg (by have := H4.out; omega), ← HS2.out, if_pos (by omega)])
          go_wp2_with fail
          go_ret3
          exact openPost_nil hX.out (Fr.refl _ _)
        · by_cases hsh : (n : Int) - 8 < (S : Int)
          · have hX : Hid (R = ([], 0, 10)) := (show _ = _ from by rw [hR.out, openB, if_neg (by have := H4.out; omega), ← HS2.out, if_neg (by omega), if_pos (by rw [← HN.out]; omega)])
            go_wp2_with fail
            go_ret3
            exact openPost_nil hX.out (Fr.refl _ _)
          · obtain ⟨B, hB⟩ : ∃ B, Hid (B = (b.take (4 + S)).drop 4) := ⟨_, show _ = _ from rfl⟩
            have hBl : Hid (B.length = S) := (show _ = _ from by rw [hB.out, List.length_drop, List.length_take, ← HN.out]; omega)
            have hSn : S + 8 ≤ n := by omega
            have hX : Hid (R = if sealB B = b.take (S + 8) then (B, S + 8, 0) else ([], 0, 12)) := (show _ = _ from by rw [hR.out, openB, if_neg (by have := H4.out; omega), ← HS2.out, if_neg (by omega), if_neg (by rw [← HN.out]; omega), ← hB.out])
            obtain ⟨A2, hcut2, hA2⟩ := cut2_run (P := Try.prog) 22 5 Try.underlying22 sz5 A n c 4 (4 + (S : Int)) (by omega) (by omega) (by omega)
            rw [show (4 + (S : Int)).toNat - (4 : Int).toNat = S from by omega, show (4 : Int).toNat = 4 from rfl] at hcut2
            rw [show (4 : Int).toNat = 4 from rfl] at hA2
            have HRB : Hid (Rb wr (fun k => F k ∧ k < wr.heap.size) (.slice A2 S (c - 4)) B) := (show Rb _ _ _ _ from by
              have h := H.out
              rw [HN.out] at h
              have h5 := h.cut 4 (4 + S) (by omega) (by rw [← HN.out]; omega)
              rw [← hA2, show 4 + S - 4 = S from by omega, ← hB.out] at h5
              exact h5)
            have hcut3 := cut0_run (P := Try.prog) 22 5 Try.underlying22 sz5 A n c ((S : Int) + 8) (by omega) (by omega)
            rw [show ((S : Int) + 8).toNat = S + 8 from by omega] at hcut3
            have HR8 : Hid (Rb wr (fun k => F k ∧ k < wr.heap.size) (.slice A (S + 8) c) (b.take (S + 8))) := (show Rb _ _ _ _ from by
              have h := H.out
              rw [HN.out] at h
              obtain ⟨_, _, he, _, _, h5⟩ := h.take_ (S + 8) (by rw [← HN.out]; exact hSn)
              cases he
              exact h5)
            clear hA2
            go_wp2_with fail
            refine (clone8 HRB.out (by rw [hBl.out]; omega)).mono ?_
            rw [hBl.out]
            rintro e w3 ⟨v3, rfl, hown3, hf3⟩
            obtain ⟨A3, c3, rfl, _, _⟩ := hown3.shape
            have HO3 := Lib.hid hown3
            have HF3 := Lib.hid hf3
            clear hown3 hf3
            go_wp2_with fail
            refine wp_seq_region (fun _ => True) [1, 6] [] [] [0, 2, 3, 4, 5, 1, 6, 7] (by kernel_rfl) (by kernel_rfl) rfl (by kernel_rfl) (fun _ _ _ _ _ h => h) ?_
            have HS : Hid True := (show True from trivial)
            repeat (first
              | (refine sq_off (a' := ?_) rfl rfl (by rfl) (fun _ => (HS).out) ?ha ?_; (case ha => simp only [Act.put, List.setIfInBounds_toArray, List.set_cons_zero, List.set_cons_succ]; rfl))
              | (refine sq_any (v := ?_) (a' := ?_) rfl rfl rfl (by rfl) (fun W => ?hr) ?ha ?_; (case hr => go_simp; first | done | rfl); (case ha => simp only [Act.put, List.setIfInBounds_toArray, List.set_cons_zero, List.set_cons_succ]; rfl))
              | (refine sq_load (v := ?_) (a' := ?_) rfl rfl rfl (by rfl) (fun W hSW => ?hr) (HS).out ?ha ?_; (case hr => (try dsimp only at hSW); go_simp; first | done | rfl); (case ha => simp only [Act.put, List.setIfInBounds_toArray, List.set_cons_zero, List.set_cons_succ]; rfl)))
            refine sq_any (v := .slice A (S + 8) c) (a' := ?_) rfl rfl rfl (by rfl) (fun W => ?hr) ?ha ?_
            case hr =>
              go_simp
              rw [show IntKind.i64.wrap ((S : Int) + 8) = (S : Int) + 8 from by rw [IntKind.wrap_i64]; omega, if_pos ⟨by omega, by omega⟩, show ((S : Int) + 8).toNat = S + 8 from by omega]
            case ha => simp only [Act.put, List.setIfInBounds_toArray, List.set_cons_zero, List.set_cons_succ]; rfl
            refine sq_call rfl rfl (by rfl) rfl Try.func57 rfl rfl [.slice A3 S c3] rfl ?_
            have hrd : Rb w3.drew (New wr) (.slice A3 S c3) B := by
              have h3 := Ow.reads (l := B) (w := w3) (O := New wr) (e := 5) (v := .slice A3 S c3) (by rw [hBl.out]; exact HO3.out)
              exact h3
            refine (seal_any hrd (by rw [hBl.out]; omega)).mono ?_
            rintro e w4 ⟨v4, rfl, hown4, hf4⟩
            have HR4' := Lib.hid hown4.reads
            have HF4 : Hid (Fr No w3 w4) := (show Fr No w3 w4 from ((Fr.refl No w3).drew).then hf4)
            obtain ⟨A4, c4, rfl, _, _⟩ := hown4.shape
            clear hown4 hf4 hrd
            refine ⟨_, rfl, fun _ => trivial, ?_⟩
            simp only [Act.put, List.setIfInBounds_toArray, List.set_cons_zero, List.set_cons_succ]
            refine sq_call rfl rfl (by rfl) rfl Try.func89 rfl rfl [.slice A4 (sealB B).length c4, .slice A (S + 8) c] rfl ?_
            refine (equal8 HR4'.out (HR8.out.fr (HF3.out.then HF4.out) (fun _ _ _ h => h))).mono ?_
            obtain ⟨E, hE⟩ : ∃ E, Hid (E = (sealB B == b.take (S + 8))) := ⟨_, show _ = _ from rfl⟩
            rw [← hE.out]
            rintro e w5 ⟨rfl, hf5⟩
            have HF35 : Hid (Fr No w3 w5) := (show Fr No w3 w5 from HF4.out.then hf5)
            clear hf5
            refine ⟨_, rfl, fun _ => trivial, ?_⟩
            simp only [Act.put, List.setIfInBounds_toArray, List.set_cons_zero, List.set_cons_succ]
            repeat (first
              | (refine sq_off (a' := ?_) rfl rfl (by rfl) (fun _ => (HS).out) ?ha ?_; (case ha => simp only [Act.put, List.setIfInBounds_toArray, List.set_cons_zero, List.set_cons_succ]; rfl))
              | (refine sq_any (v := ?_) (a' := ?_) rfl rfl rfl (by rfl) (fun W => ?hr) ?ha ?_; (case hr => go_simp; first | done | rfl); (case ha => simp only [Act.put, List.setIfInBounds_toArray, List.set_cons_zero, List.set_cons_succ]; rfl))
              | (refine sq_load (v := ?_) (a' := ?_) rfl rfl rfl (by rfl) (fun W hSW => ?hr) (HS).out ?ha ?_; (case hr => (try dsimp only at hSW); go_simp; first | done | rfl); (case ha => simp only [Act.put, List.setIfInBounds_toArray, List.set_cons_zero, List.set_cons_succ]; rfl)))
            refine sq_done ?_
            cases E
            · have hX2 : Hid (R = ([], 0, 12)) := (show _ = _ from by rw [hX.out, if_neg (beq_eq_false_iff_ne.1 hE.out.symm)])
              go_wp2_with fail
              go_ret3
              exact openPost_nil hX2.out (HF3.out.then HF35.out)
            · have hX2 : Hid (R = (B, S + 8, 0)) := (show _ = _ from by rw [hX.out, if_pos (eq_of_beq hE.out.symm)])
              go_wp2_with fail
              go_ret3
              rw [hX2.out]
              refine (show OpenPost _ _ _ _ from ⟨_, rfl, ?_, HF3.out.then HF35.out⟩)
              show Ow w5 (New wr) 5 1 _ B.length (B.map enc8)
              rw [hBl.out]
              exact HO3.out.fr HF35.out (fun _ _ _ h => h)
end Go.Proofs.Ytbaohngnpgappaa
