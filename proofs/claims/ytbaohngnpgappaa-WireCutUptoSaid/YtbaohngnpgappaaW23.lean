/- The document's count: a count's bytes. -/
import Derived.Test.YtbaohngnpgappaaW17
set_option linter.unusedVariables false
set_option linter.unusedSimpArgs false
namespace Go.Proofs.Ytbaohngnpgappaa
open Go.RowKit
def up128 (c : UInt8) : UInt8 := UInt8.ofNat (c.toNat % 128 + 128)
theorem hiB_len : ∀ n : Nat, (hiB n).length ≤ n := by
  intro n
  induction n using Nat.strongRecOn with
  | ind n ih =>
    rcases Nat.eq_zero_or_pos n with rfl | h
    · rw [hiB_zero]; exact Nat.le_refl _
    · rw [hiB_pos h, List.length_append]
      have := ih (n / 128) (by omega)
      simp only [List.length_singleton]
      omega
theorem countB_len (n : Nat) : (countB n).length ≤ n / 128 + 1 := by
  unfold countB
  rw [List.length_append]
  have := hiB_len (n / 128)
  simp only [List.length_singleton]
  omega
theorem up_of {m : Nat} (h : m < 256) : up128 (UInt8.ofNat m) = UInt8.ofNat (m % 128 + 128) := by
  unfold up128
  rw [UInt8.toNat_ofNat', Nat.mod_eq_of_lt h]
theorem hiB_up : ∀ n : Nat, (hiB n).map up128 = hiB n := by
  intro n
  induction n using Nat.strongRecOn with
  | ind n ih =>
    rcases Nat.eq_zero_or_pos n with rfl | h
    · rw [hiB_zero]; rfl
    · rw [hiB_pos h, List.map_append, ih (n / 128) (by omega), List.map_singleton, up_of (by omega), show (n % 128 + 128) % 128 + 128 = n % 128 + 128 from by omega]
theorem countB_up {m : Nat} (h : 0 < m) : (countB m).map up128 = hiB m := by
  unfold countB
  rw [List.map_append, hiB_up, List.map_singleton, up_of (by omega), hiB_pos h, show m % 128 % 128 = m % 128 from by omega]
theorem up128_or (c : UInt8) : bits .or .u8 (c.toNat : Int) 128 = ((up128 c).toNat : Int) := by
  have h := or128 ⟨c.toNat, c.toNat_lt⟩
  rw [h]
  unfold up128
  rw [UInt8.toNat_ofNat']
  have : (c.toNat % 128 + 128) % 2 ^ 8 = c.toNat % 128 + 128 := by omega
  rw [this]
theorem tells_of_grow {w w1 wr : World} {v : Value} {L : List UInt8} (h : Grow w1 (.slice none 0 0) v L wr) (hf : Fr No w w1) : TellsB w L (.returned v) wr :=
  ⟨v, rfl, h.own.mono (fun k hk => by
    rcases hk with hk | hk
    · simp [Value.ownBlock] at hk
    · exact Nat.le_trans hf.size hk), hf.trans h.fr (fun _ _ h => h) (fun k _ h => by simp [Value.ownBlock] at h)⟩
set_option maxRecDepth 100000 in
set_option maxHeartbeats 1000000 in
theorem refcount_any : ∀ (n : Nat) (w : World), n ≤ 140737488351232 → Calls Try.prog 100 #[.int .i64 n] w (TellsB w (countB n)) := by
  intro n
  induction n using Nat.strongRecOn with
  | ind n ih =>
    intro w hn
    have IH := Lib.hid ih
    clear ih
    obtain ⟨z, hz⟩ : ∃ z : UInt8, z = UInt8.ofNat (n % 128) := ⟨_, rfl⟩
    have hz2 : Hid (IntKind.u8.wrap ((n : Int) % 128) = (z.toNat : Int)) := (show _ = _ from by
      rw [hz, UInt8.toNat_ofNat', IntKind.wrap_u8]; omega)
    have HZ := Lib.hid hz
    clear hz
    have gz := z.toNat_lt
    by_cases hbig : (128 : Int) ≤ (n : Int)
    · obtain ⟨q, hq⟩ : ∃ q, q = n / 128 := ⟨_, rfl⟩
      have hqi : Hid ((n : Int).tdiv 128 = (q : Int)) := (show _ = _ from by rw [Int.tdiv_eq_ediv_of_nonneg (by omega)]; omega)
      have hqn : q < n := by omega
      have hq0 : 0 < q := by omega
      have HQ := Lib.hid hq
      clear hq
      obtain ⟨C, hC⟩ : ∃ C, Hid (C = countB q) := ⟨_, show _ = _ from rfl⟩
      have hend : Hid (countB n = C.map up128 ++ [z]) := (show _ = _ from by rw [hC.out, countB_up hq0, HQ.out, HZ.out]; rfl)
      have hCl : C.length ≤ 1099511627777 := by rw [hC.out]; have := countB_len q; omega
      obtain ⟨X, hX⟩ : ∃ X, Hid (X = countB n) := ⟨_, show _ = _ from rfl⟩
      rw [← hX.out]
      go_enter Try.func100, Try.ntmps100
      go_wp2_with (with_reducible refine halt_dst 9 rfl ?_)
      refine wpListG_run (by rfl) (v := .int .i64 (q : Int)) (w' := w) ?hr ?_
      case hr => go_simp; (have hq9 := HQ.out); rw [IntKind.wrap_i64]; omega
      go_wp2_with fail
      refine (IH.out q hqn w (by omega)).mono ?_
      rw [← hC.out]
      rintro e w1 ⟨v1, rfl, hown1, hf1⟩
      have HR1 : Hid (Rb w1 (fun k => New w k ∧ k < w1.heap.size) v1 C) := (show Rb _ _ _ _ from hown1.reads.bound)
      obtain ⟨A1, c1, rfl, hc11, hc12⟩ := hown1.shape
      have HF1 := Lib.hid hf1
      clear hown1 hf1 hc12
      go_wp2_with fail
      go_loopw [3, 12] (fun o i wr => ∃ (j : Nat) (A : Option Addr) (c : Nat), j ≤ C.length ∧ i = .int .i64 j ∧ o = .slice A j c ∧ Hid (Grow w1 (.slice none 0 0) (.slice A j c) ((C.map up128).take j) wr)) (fun _ i _ => C.length - (intOf i).toNat)
      case atStart => exact ⟨0, none, 0, Nat.zero_le _, rfl, rfl, (show Grow _ _ _ _ _ from Grow.start (Ow.nil _ No _ _) (Fr.refl _ _))⟩
      case round =>
        obtain ⟨j, A, c, hj, rfl, rfl, HJ⟩ := hrel
        by_cases hlt : j < C.length
        · obtain ⟨x, hx⟩ : ∃ x, Hid (C[j]? = some x) := ⟨_, show _ = _ from List.getElem?_eq_getElem hlt⟩
          obtain ⟨bk, o, he, q0, _, hxc⟩ := byte_at (HR1.out.fr HJ.out.fr (fun k _ _ h => by simp [Value.ownBlock] at h)) hx.out
          subst he
          clear q0
          have gx := x.toNat_lt
          obtain ⟨y, hy⟩ : ∃ y, Hid (y = up128 x) := ⟨_, show _ = _ from rfl⟩
          have hor : Hid (bits .or .u8 (x.toNat : Int) 128 = (y.toNat : Int)) := (show _ = _ from by rw [hy.out]; exact up128_or x)
          have gy := y.toNat_lt
          obtain ⟨L, hL⟩ : ∃ L, Hid (L = (C.map up128).take j) := ⟨_, show _ = _ from rfl⟩
          have hLl : Hid (L.length = j) := (show _ = _ from by rw [hL.out, List.length_take, List.length_map]; omega)
          rw [← hL.out] at HJ
          go_wp2_with (with_reducible refine halt_dst 18 rfl ?_)
          refine wpListG_run (by rfl) (v := .int .u8 (y.toNat : Int)) (w' := wr) ?hr ?_
          case hr => go_simp; (try rw [hor.out])
          go_wp2_with (with_reducible refine halt_dst 20 rfl ?_)
          have hgq : Grow w1 (.slice none 0 0) (.slice A j c) L (wr.alloc (.cells #[.int .u8 (y.toNat : Int)] 5 (0, 0))) := HJ.out.quiet ((Fr.refl No wr).alloc (.cells #[.int .u8 (y.toNat : Int)] 5 (0, 0)))
          refine wpList_app rfl (.tmp 16) (.tmp 19) 22 5 rfl _ 1 1 Try.underlying22 info5 rfl (by omega) (by omega) _ L.length (L.map enc8) rfl (some ⟨wr.heap.size, 0, none⟩) 1 1 rfl hgq.own [enc8 y] rfl ?hnews (one8 [y]) (by rw [hLl.out]; omega) ?_
          case hnews =>
            intro j u hj
            refine ⟨_, rfl, ?_⟩
            rw [add_none, Nat.zero_add, blk_cell (blk_new wr _), List.getElem?_toArray]
            exact hj
          intro v6 w6 hown hfr
          have HJ2 : Hid (Grow w1 (.slice none 0 0) v6 ((C.map up128).take (j + 1)) w6) := (show Grow _ _ _ _ _ from by
            rw [List.take_add_one, List.getElem?_map, hx.out, ← hL.out]
            show Grow _ _ _ (L ++ [up128 x]) _
            rw [← hy.out]
            exact hgq.app hown hfr rfl)
          rw [hLl.out] at hown
          obtain ⟨A6, c6, rfl, _, _⟩ := hown.shape
          clear hown hfr hgq
          go_wp2_with fail
          go_roundw
          case rel => exact ⟨j + 1, A6, c6, by omega, by go_num, rfl, HJ2⟩
          case measure => simp [intOf]; omega
        · have hjl : j = C.length := by omega
          subst hjl
          clear hlt hj
          obtain ⟨L, hL⟩ : ∃ L, Hid (L = C.map up128) := ⟨_, show _ = _ from rfl⟩
          have hLl : Hid (L.length = C.length) := (show _ = _ from by rw [hL.out, List.length_map])
          rw [List.take_of_length_le (by rw [List.length_map]; exact Nat.le_refl _), ← hL.out] at HJ
          go_wp2_with (with_reducible refine halt_dst 25 rfl ?_)
          refine wpListG_run (by rfl) (v := .int .u8 (z.toNat : Int)) (w' := wr) ?hr ?_
          case hr => go_simp; (try rw [hz2.out])
          go_wp2_with (with_reducible refine halt_dst 27 rfl ?_)
          have hgq : Grow w1 (.slice none 0 0) (.slice A C.length c) L (wr.alloc (.cells #[.int .u8 (z.toNat : Int)] 5 (0, 0))) := HJ.out.quiet ((Fr.refl No wr).alloc (.cells #[.int .u8 (z.toNat : Int)] 5 (0, 0)))
          refine wpList_app rfl (.tmp 22) (.tmp 26) 22 5 rfl _ 1 1 Try.underlying22 info5 rfl (by omega) (by omega) _ L.length (L.map enc8) rfl (some ⟨wr.heap.size, 0, none⟩) 1 1 rfl hgq.own [enc8 z] rfl ?hnews (one8 [z]) (by rw [hLl.out]; omega) ?_
          case hnews =>
            intro j u hj
            refine ⟨_, rfl, ?_⟩
            rw [add_none, Nat.zero_add, blk_cell (blk_new wr _), List.getElem?_toArray]
            exact hj
          intro v6 w6 hown hfr
          have HJ2 : Hid (Grow w1 (.slice none 0 0) v6 X w6) := (show Grow _ _ _ _ _ from by
            rw [hX.out, hend.out, ← hL.out]
            exact hgq.app hown hfr rfl)
          obtain ⟨A6, c6, rfl, _, _⟩ := hown.shape
          clear hown hfr hgq
          go_wp2_with fail
          go_ret
          exact (show TellsB _ _ _ _ from tells_of_grow HJ2.out HF1.out)
    · have hend : Hid (countB n = [z]) := (show _ = _ from by rw [countB, show n / 128 = 0 from by omega, hiB_zero, HZ.out]; rfl)
      obtain ⟨X, hX⟩ : ∃ X, Hid (X = countB n) := ⟨_, show _ = _ from rfl⟩
      rw [← hX.out]
      go_enter Try.func100, Try.ntmps100
      go_wp2_with (with_reducible refine halt_dst 25 rfl ?_)
      refine wpListG_run (by rfl) (v := .int .u8 (z.toNat : Int)) (w' := w) ?hr ?_
      case hr => go_simp; (try rw [hz2.out])
      go_wp2_with (with_reducible refine halt_dst 27 rfl ?_)
      have hgq : Grow w (.slice none 0 0) (.slice none 0 0) [] (w.alloc (.cells #[.int .u8 (z.toNat : Int)] 5 (0, 0))) := (Grow.start (w1 := w) (Ow.nil w No _ _) (Fr.refl _ _)).quiet ((Fr.refl No w).alloc (.cells #[.int .u8 (z.toNat : Int)] 5 (0, 0)))
      refine wpList_app rfl (.tmp 22) (.tmp 26) 22 5 rfl _ 1 1 Try.underlying22 info5 rfl (by omega) (by omega) (.slice none 0 0) 0 [] rfl (some ⟨w.heap.size, 0, none⟩) 1 1 rfl hgq.own [enc8 z] rfl ?hnews (one8 [z]) (by omega) ?_
      case hnews =>
        intro j u hj
        refine ⟨_, rfl, ?_⟩
        rw [add_none, Nat.zero_add, blk_cell (blk_new w _), List.getElem?_toArray]
        exact hj
      intro v6 w6 hown hfr
      have HJ2 : Hid (Grow w (.slice none 0 0) v6 X w6) := (show Grow _ _ _ _ _ from by
        rw [hX.out, hend.out]
        exact hgq.app hown hfr rfl)
      obtain ⟨A6, c6, rfl, _, _⟩ := hown.shape
      clear hown hfr hgq
      go_wp2_with fail
      go_ret
      exact (show TellsB _ _ _ _ from tells_of_grow HJ2.out (Fr.refl _ _))
end Go.Proofs.Ytbaohngnpgappaa
