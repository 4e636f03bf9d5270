/- The document's Seal. -/
import Derived.Test.YtbaohngnpgappaaW16
set_option linter.unusedVariables false
set_option linter.unusedSimpArgs false
namespace Go.Proofs.Ytbaohngnpgappaa
open Go.RowKit
theorem crc_lt (l : List UInt8) : crc l < 4294967296 := by unfold crc; exact xor_lt32 (crcAll_lt l) (by decide)
theorem ow_lit {W : World} {g : Nat} {l : List UInt8} {cs : Array Value} (h : W.heap[g]? = some (.cells cs 5 (0, 0))) (hcs : cs.toList = l.map enc8) (hl : l.length ≤ maxLen) : Ow W (fun k => k = g) 5 1 (.slice (some ⟨g, 0, none⟩) l.length l.length) l.length (l.map enc8) := by
  have hsz : cs.size = l.length := by rw [← Array.length_toList, hcs, List.length_map]
  refine ⟨⟨by simp, .inr ⟨_, l.length, _, rfl, Nat.zero_le _, h, Nat.le_refl _, hl, by omega, ?_⟩⟩, fun k hk => (Option.some.inj hk).symm⟩
  rw [hcs, List.take_of_length_le (by simp)]
theorem be4_lit (n : Nat) : be4 n = [byteOf ((n : Int) / 16777216), byteOf ((n : Int) / 65536), byteOf ((n : Int) / 256), byteOf (n : Int)] := by
  show [byteOf ((n : Int) / 2 ^ (24 - 8 * 0)), byteOf ((n : Int) / 2 ^ (24 - 8 * 1)), byteOf ((n : Int) / 2 ^ (24 - 8 * 2)), byteOf ((n : Int) / 2 ^ (24 - 8 * 3))] = _
  simp
theorem le4_lit (n : Nat) : le4 n = [byteOf (n : Int), byteOf ((n : Int) / 256), byteOf ((n : Int) / 65536), byteOf ((n : Int) / 16777216)] := by
  show [byteOf ((n : Int) / 2 ^ (8 * 0)), byteOf ((n : Int) / 2 ^ (8 * 1)), byteOf ((n : Int) / 2 ^ (8 * 2)), byteOf ((n : Int) / 2 ^ (8 * 3))] = _
  simp
theorem map4 (a b c d : Int) : [byteOf a, byteOf b, byteOf c, byteOf d].map enc8 = [.int .u8 (IntKind.u8.wrap a), .int .u8 (IntKind.u8.wrap b), .int .u8 (IntKind.u8.wrap c), .int .u8 (IntKind.u8.wrap d)] := by
  simp only [List.map_cons, List.map_nil, byteOf_enc]
set_option maxRecDepth 100000 in
set_option maxHeartbeats 2000000 in
theorem refseal_any {w : World} {F : Nat → Prop} {v : Value} {b : List UInt8} (h : Rb w F v b) (hb : b.length ≤ 70368744177664) : Calls Try.prog 58 #[v] w (TellsB w (sealB b)) := by
  obtain ⟨A, c, rfl, hc1, hc2⟩ := h.shape
  have H : Hid (Rb w (fun k => F k ∧ k < w.heap.size) (.slice A b.length c) b) := (show Rb _ _ _ _ from h.bound)
  clear h hc2
  obtain ⟨n, hn⟩ : ∃ n, n = b.length := ⟨_, rfl⟩
  have HN := Lib.hid hn
  rw [← hn] at hb hc1 H ⊢
  clear hn
  obtain ⟨z0, hz0⟩ : ∃ z : Int, Hid (z = IntKind.u8.wrap ((n : Int) / 16777216)) := ⟨_, show _ = _ from rfl⟩
  obtain ⟨z1, hz1⟩ : ∃ z : Int, Hid (z = IntKind.u8.wrap ((n : Int) / 65536)) := ⟨_, show _ = _ from rfl⟩
  obtain ⟨z2, hz2⟩ : ∃ z : Int, Hid (z = IntKind.u8.wrap ((n : Int) / 256)) := ⟨_, show _ = _ from rfl⟩
  obtain ⟨z3, hz3⟩ : ∃ z : Int, Hid (z = IntKind.u8.wrap (n : Int)) := ⟨_, show _ = _ from rfl⟩
  go_enter Try.func58, Try.ntmps58
  go_wp2_with (with_reducible refine halt_dst 10 rfl ?_)
  refine wpListG_run (by rfl) (v := .int .u8 z0) (w' := w) ?hr ?_
  case hr => go_simp; (try rw [hz0.out])
  go_wp2_with (with_reducible refine halt_dst 13 rfl ?_)
  refine wpListG_run (by rfl) (v := .int .u8 z1) (w' := w) ?hr ?_
  case hr => go_simp; (try rw [hz1.out])
  go_wp2_with (with_reducible refine halt_dst 16 rfl ?_)
  refine wpListG_run (by rfl) (v := .int .u8 z2) (w' := w) ?hr ?_
  case hr => go_simp; (try rw [hz2.out])
  go_wp2_with (with_reducible refine halt_dst 18 rfl ?_)
  refine wpListG_run (by rfl) (v := .int .u8 z3) (w' := w) ?hr ?_
  case hr => go_simp; (try rw [hz3.out])
  go_wp2_with (with_reducible refine halt_dst 21 rfl ?_)
  obtain ⟨w1, hw1⟩ : ∃ w1, Hid (w1 = w.alloc (.cells #[.int .u8 z0, .int .u8 z1, .int .u8 z2, .int .u8 z3] 5 (0, 0))) := ⟨_, show _ = _ from rfl⟩
  rw [← hw1.out]
  have hf1 : Fr No w w1 := by rw [hw1.out]; exact (Fr.refl _ _).alloc _
  have hown1 : Ow w1 (fun k => k = w.heap.size) 5 1 (.slice (some ⟨w.heap.size, 0, none⟩) 4 4) 4 ((be4 n).map enc8) := by
    have h1 : w1.heap[w.heap.size]? = some (.cells #[.int .u8 z0, .int .u8 z1, .int .u8 z2, .int .u8 z3] 5 (0, 0)) := by rw [hw1.out]; exact blk_new _ _
    have h2 := ow_lit (l := be4 n) h1 (by rw [be4_lit, map4, hz0.out, hz1.out, hz2.out, hz3.out]) (by rw [be4_len]; decide)
    rw [be4_len] at h2
    exact h2
  have HB1 : Hid (Rb w1 (fun k => F k ∧ k < w.heap.size) (.slice A n c) b) := (show Rb _ _ _ _ from H.out.fr hf1 (fun _ _ _ h => h))
  obtain ⟨_, _, he, _, _, hnews⟩ := HB1.out.news
  injection he with he1 he2 he3
  subst he1; subst he3
  have HNW := Lib.hid hnews
  clear hnews he2
  refine wpList_app (O := fun k => k = w.heap.size) rfl (.tmp 19) (.tmp 20) 22 5 rfl _ 1 1 Try.underlying22 info5 rfl (by omega) (by omega) (.slice (some ⟨w.heap.size, 0, none⟩) 4 4) 4 ((be4 n).map enc8) rfl A n c rfl hown1 (b.map enc8) (by rw [List.length_map, HN.out, Nat.mul_one]) HNW.out (one8 _) (by omega) ?_
  intro v2 w2 hown2 hfr2
  obtain ⟨M, hM⟩ : ∃ M, Hid (M = be4 n ++ b) := ⟨_, show _ = _ from rfl⟩
  have hMl : Hid (M.length = 4 + n) := (show _ = _ from by rw [hM.out, List.length_append, be4_len, HN.out])
  rw [← List.map_append, ← hM.out] at hown2
  obtain ⟨m, hm⟩ : ∃ m, m = 4 + n := ⟨_, rfl⟩
  have HM := Lib.hid hm
  rw [← hm] at hown2 hMl
  have hmb : m ≤ 70368744177668 := by omega
  have HO2 : Hid (Ow w2 (New w) 5 1 v2 m (M.map enc8)) := (show Ow _ _ _ _ _ _ _ from hown2.mono (fun k hk => by
    show w.heap.size ≤ k
    rcases hk with hk | hk
    · simp only [Value.ownBlock, Option.some.injEq] at hk; omega
    · have := hf1.size; omega))
  have HF2 : Hid (Fr No w w2) := (show Fr No w w2 from hf1.news hfr2 (fun k hk => by simp only [Value.ownBlock, Option.some.injEq] at hk; omega))
  clear hown1 hown2 hfr2 hf1 hm
  obtain ⟨A2, c2, rfl, _, _⟩ := HO2.out.shape
  go_wp2_with fail
  have hrd : Rb w2 (New w) (.slice A2 m c2) M := by
    have h3 := Ow.reads (l := M) (w := w2) (O := New w) (e := 5) (v := .slice A2 m c2) (by rw [hMl.out]; exact HO2.out)
    exact h3
  refine (refsum_any hrd).mono ?_
  obtain ⟨C, hC⟩ : ∃ C, Hid (C = crc M) := ⟨_, show _ = _ from rfl⟩
  have hC4 : C < 4294967296 := by rw [hC.out]; exact crc_lt _
  rw [← hC.out]
  rintro e w' ⟨rfl, rfl⟩
  clear hrd
  obtain ⟨y0, hy0⟩ : ∃ z : Int, Hid (z = IntKind.u8.wrap (C : Int)) := ⟨_, show _ = _ from rfl⟩
  obtain ⟨y1, hy1⟩ : ∃ z : Int, Hid (z = IntKind.u8.wrap ((C : Int) / 256)) := ⟨_, show _ = _ from rfl⟩
  obtain ⟨y2, hy2⟩ : ∃ z : Int, Hid (z = IntKind.u8.wrap ((C : Int) / 65536)) := ⟨_, show _ = _ from rfl⟩
  obtain ⟨y3, hy3⟩ : ∃ z : Int, Hid (z = IntKind.u8.wrap ((C : Int) / 16777216)) := ⟨_, show _ = _ from rfl⟩
  go_wp2_with (with_reducible refine halt_dst 26 rfl ?_)
  refine wpListG_run (by rfl) (v := .int .u8 y0) (w' := w2) ?hr ?_
  case hr => go_simp; (try rw [hy0.out])
  go_wp2_with (with_reducible refine halt_dst 29 rfl ?_)
  refine wpListG_run (by rfl) (v := .int .u8 y1) (w' := w2) ?hr ?_
  case hr => go_simp; (try rw [hy1.out])
  go_wp2_with (with_reducible refine halt_dst 32 rfl ?_)
  refine wpListG_run (by rfl) (v := .int .u8 y2) (w' := w2) ?hr ?_
  case hr => go_simp; (try rw [hy2.out])
  go_wp2_with (with_reducible refine halt_dst 35 rfl ?_)
  refine wpListG_run (by rfl) (v := .int .u8 y3) (w' := w2) ?hr ?_
  case hr => go_simp; (try rw [hy3.out])
  go_wp2_with (with_reducible refine halt_dst 37 rfl ?_)
  obtain ⟨w3, hw3⟩ : ∃ w3, Hid (w3 = w2.alloc (.cells #[.int .u8 y0, .int .u8 y1, .int .u8 y2, .int .u8 y3] 5 (0, 0))) := ⟨_, show _ = _ from rfl⟩
  rw [← hw3.out]
  have hf3 : Fr No w2 w3 := by rw [hw3.out]; exact (Fr.refl _ _).alloc _
  have h1 : w3.heap[w2.heap.size]? = some (.cells #[.int .u8 y0, .int .u8 y1, .int .u8 y2, .int .u8 y3] 5 (0, 0)) := by rw [hw3.out]; exact blk_new _ _
  have hnews : ∀ j u, ((le4 C).map enc8)[j]? = some u → ∃ ad : Addr, some (⟨w2.heap.size, 0, none⟩ : Addr) = some ad ∧ w3.cell? (ad.add j) = some u := by
    intro j u hj
    refine ⟨_, rfl, ?_⟩
    rw [add_none, blk_cell h1, Nat.zero_add]
    rw [le4_lit, map4, ← hy0.out, ← hy1.out, ← hy2.out, ← hy3.out] at hj
    rw [List.getElem?_toArray]
    exact hj
  have HO3 : Hid (Ow w3 (New w) 5 1 (.slice A2 m c2) m (M.map enc8)) := (show Ow _ _ _ _ _ _ _ from HO2.out.fr hf3 (fun _ _ _ h => h))
  refine wpList_app (O := New w) rfl (.tmp 24) (.tmp 36) 22 5 rfl _ 1 1 Try.underlying22 info5 rfl (by omega) (by omega) (.slice A2 m c2) m (M.map enc8) rfl (some ⟨w2.heap.size, 0, none⟩) 4 4 rfl HO3.out ((le4 C).map enc8) (by rw [List.length_map, le4_len]) hnews (one8 _) (by omega) ?_
  intro v4 w4 hown4 hfr4
  have hs : Hid (sealB b = M ++ le4 C) := (show _ = _ from by rw [sealB, hC.out, hM.out, HN.out])
  rw [← List.map_append, ← hs.out, show m + 4 = (sealB b).length from by rw [hs.out, List.length_append, le4_len, hMl.out]] at hown4
  have HO4 : Hid (Ow w4 (New w) 5 1 v4 (sealB b).length ((sealB b).map enc8)) := (show Ow _ _ _ _ _ _ _ from hown4.mono (fun k hk => by
    rcases hk with hk | hk
    · exact HO3.out.2 k hk
    · have := HF2.out.size; have := hf3.size; show w.heap.size ≤ k; omega))
  have HF4 : Hid (Fr No w w4) := (show Fr No w w4 from (HF2.out.then hf3).news hfr4 (fun k hk => HO3.out.2 k hk))
  clear hown4 hfr4 hf3 h1 hnews
  obtain ⟨A4, c4, rfl, _, _⟩ := HO4.out.shape
  go_wp2_with fail
  go_ret
  exact (show TellsB _ _ _ _ from ⟨_, rfl, HO4.out, HF4.out⟩)
end Go.Proofs.Ytbaohngnpgappaa
