/- wire's count: a count's bytes. -/
import Derived.Test.YtbaohngnpgappaaW6
set_option linter.unusedVariables false
set_option linter.unusedSimpArgs false
namespace Go.Proofs.Ytbaohngnpgappaa
open Go.RowKit
def hiB (n : Nat) : List UInt8 := if h : n = 0 then [] else hiB (n / 128) ++ [UInt8.ofNat (n % 128 + 128)]
termination_by n
decreasing_by omega
def countB (n : Nat) : List UInt8 := hiB (n / 128) ++ [UInt8.ofNat (n % 128)]
theorem hiB_zero : hiB 0 = [] := by rw [hiB]; simp
theorem hiB_pos {n : Nat} (h : 0 < n) : hiB n = hiB (n / 128) ++ [UInt8.ofNat (n % 128 + 128)] := by rw [hiB, dif_neg (by omega)]
theorem and127 (n : Nat) (h : n < 4611686018427387904) : bits .and .i64 (n : Int) 127 = ((n % 128 : Nat) : Int) := by
  have h1 := bits_mask .i64 63 (by decide) (fun n h0 h1 => by rw [IntKind.wrap_i64]; omega) 7 (by decide) (n : Int) (by omega) (by omega)
  have e : ((2 : Int) ^ 7 - 1) = 127 := by decide
  have e2 : ((2 : Int) ^ 7) = 128 := by decide
  rw [e, e2] at h1
  rw [h1]; omega
theorem or128 : ∀ m : Fin 256, bits .or .u8 ((m.val : Nat) : Int) 128 = ((m.val % 128 + 128 : Nat) : Int) := by decide +kernel
def AddPost (w : World) (v : Value) (l : List UInt8) (e : Ending) (w' : World) : Prop :=
  ∃ v', e = .returned v' ∧ Ow w' (fun k => v.ownBlock = some k ∨ w.heap.size ≤ k) 5 1 v' l.length (l.map enc8) ∧ Fr (fun k => v.ownBlock = some k) w w'
theorem slice5 (g a : Nat) (ha : a ≤ 4) (W : World) : (Instr.sliceAt 141 (.pointer (some ⟨g, 0, none⟩)) (some (.int .i64 (a : Int))) none none).run Try.prog W = .ok (.slice (some ⟨g, a, none⟩) (5 - a) (5 - a)) W := by
  have harr : Try.prog.arrayLen 141 = 5 := by kernel_rfl
  have helem : Try.prog.elem 141 = 5 := by kernel_rfl
  have hu : Try.prog.underlying 141 = some (.array (Try.prog.arrayLen 141) (Try.prog.elem 141)) := by rw [harr, helem]; kernel_rfl
  obtain ⟨i, hi, hs⟩ := Option.map_eq_some_iff.1 sz5
  rw [run_sliceAt_array_l W 141 _ hu .i64 a (by omega) (by rw [harr]; omega), helem]
  simp [sizeOf, typeInfo, hi, hs, slicedAt, Result.andThen, harr, add_none]
  intro h
  omega
theorem drop_set {α : Type} {l : List α} {a : Nat} {r : α} (h : a < l.length) : (l.set a r).drop a = r :: l.drop (a + 1) := by
  rw [List.drop_eq_getElem_cons (by rw [List.length_set]; exact h), List.getElem_set_self, List.drop_set_of_lt (by omega)]
set_option maxRecDepth 100000 in
set_option maxHeartbeats 1000000 in
theorem count_any {w : World} {O : Nat → Prop} {v : Value} {b : List UInt8} {n : Nat} (h : Ow w O 5 1 v b.length (b.map enc8)) (hn : n < 34359738368) (hb : b.length ≤ 70368744177664) : Calls Try.prog 99 #[v, .int .i64 n] w (AddPost w v (b ++ countB n)) := by
  obtain ⟨A, c, rfl, hc1, hc2⟩ := h.shape
  have H := Lib.hid h
  clear h hc2
  have hm : Hid (bits .and .i64 (n : Int) 127 = ((n % 128 : Nat) : Int)) := (show _ = _ from and127 n (by omega))
  obtain ⟨N, hN⟩ : ∃ N, Hid (N = n % 128) := ⟨_, rfl⟩
  have hN2 : (N : Int) < 128 := by rw [hN.out]; omega
  rw [← hN.out] at hm
  go_enter Try.func99, Try.ntmps99
  go_wp2_with (with_reducible refine halt_dst 9 rfl ?_)
  refine wpListG_run (by rfl) (v := .int .i64 (N : Int)) (w' := w.alloc (.cells #[.int .u8 0, .int .u8 0, .int .u8 0, .int .u8 0, .int .u8 0] 141 (0, 0))) ?hr ?_
  case hr => go_simp; (try rw [hm.out])
  obtain ⟨Q, hQ⟩ : ∃ Q, Hid (Q = n / 128) := ⟨_, rfl⟩
  have hsh : (n : Int) / 128 = (Q : Int) := by rw [hQ.out]; simp
  go_wp2_with fail
  have hstart : ∃ gs : List UInt8, Hid (gs.length = 5 ∧ (w.alloc (.cells #[.int .u8 0, .int .u8 0, .int .u8 0, .int .u8 0, .int .u8 (N : Int)] 141 (0, 0))).heap[w.heap.size]? = some (.cells (gs.map enc8).toArray 141 (0, 0)) ∧ hiB Q ++ gs.drop 4 = countB n ∧ Fr No w (w.alloc (.cells #[.int .u8 0, .int .u8 0, .int .u8 0, .int .u8 0, .int .u8 (N : Int)] 141 (0, 0)))) := by
    refine ⟨[0, 0, 0, 0, UInt8.ofNat N], (show _ ∧ _ from ⟨rfl, ?_, ?_, (Fr.refl _ _).alloc _⟩)⟩
    · rw [blk_new]
      have e : enc8 (UInt8.ofNat N) = .int .u8 (N : Int) := by unfold enc8; rw [UInt8.toNat_ofNat']; congr 1; omega
      simp only [List.map_cons, List.map_nil, e]
      rfl
    · rw [countB, hN.out, hQ.out]; rfl
  obtain ⟨gs0, HG0⟩ := hstart
  have hQ35 : Hid (Q < 128 ^ 4) := (show Q < 128 ^ 4 from by rw [hQ.out]; omega)
  go_loopw [1, 6] (fun m i wr => ∃ (M a : Nat) (gs : List UInt8), m = .int .i64 M ∧ i = .int .i64 a ∧ a ≤ 4 ∧ Hid (M < 128 ^ a) ∧ Hid (gs.length = 5 ∧ wr.heap[w.heap.size]? = some (.cells (gs.map enc8).toArray 141 (0, 0)) ∧ hiB M ++ gs.drop a = countB n ∧ Fr No w wr)) (fun m _ _ => (intOf m).toNat)
  case atStart => exact ⟨Q, 4, gs0, rfl, rfl, Nat.le_refl _, hQ35, HG0⟩
  case round =>
    obtain ⟨M, a, gs, rfl, rfl, ha, hMa, HG⟩ := hrel
    by_cases hM : (0 : Int) < M
    · obtain ⟨a', rfl⟩ : ∃ a', a = a' + 1 := by
        rcases a with _ | a
        · have := hMa.out; simp at this; omega
        · exact ⟨a, rfl⟩
      have hM35 : (M : Int) ≤ 34359738368 := by
        have h1 := hMa.out
        have h2 : 128 ^ (a' + 1) ≤ 128 ^ 4 := Nat.pow_le_pow_right (by decide) ha
        have h3 : (128 : Nat) ^ 4 = 268435456 := by decide
        omega
      obtain ⟨R, hR⟩ : ∃ R, Hid (R = M % 128 + 128) := ⟨_, rfl⟩
      have hR2 : (R : Int) < 256 := by rw [hR.out]; omega
      obtain ⟨P, hP⟩ : ∃ P, Hid (P = M % 256) := ⟨_, rfl⟩
      have hPw : Hid (IntKind.u8.wrap (M : Int) = (P : Int)) := (show _ = _ from by rw [hP.out, IntKind.wrap_u8]; simp)
      have hor : Hid (bits .or .u8 (P : Int) 128 = (R : Int)) := (show _ = _ from by
        have h1 := or128 ⟨P, by rw [hP.out]; omega⟩
        simp only at h1
        rw [h1, hR.out, hP.out]
        congr 2
        omega)
      obtain ⟨Q2, hQ2⟩ : ∃ Q2, Hid (Q2 = M / 128) := ⟨_, rfl⟩
      have hsh2 : (M : Int) / 128 = (Q2 : Int) := by rw [hQ2.out]; simp
      have hgl := HG.out.1
      have hblk := HG.out.2.1
      obtain ⟨old, g1⟩ : ∃ old, wr.cell? ⟨w.heap.size, a', none⟩ = some old := ⟨enc8 (gs[a']'(by omega)), by rw [blk_cell hblk, List.getElem?_toArray, List.getElem?_map, List.getElem?_eq_getElem (by omega)]; rfl⟩
      have g2 := blk_free hblk a'
      have ha5 : (a' : Int) < 5 := by omega
      have ha6 : a' ≤ 3 := by omega
      have HG2 : Hid ((gs.set a' (UInt8.ofNat R)).length = 5 ∧ (wr.setCell ⟨w.heap.size, a', none⟩ (.int .u8 (R : Int))).heap[w.heap.size]? = some (.cells ((gs.set a' (UInt8.ofNat R)).map enc8).toArray 141 (0, 0)) ∧ hiB Q2 ++ (gs.set a' (UInt8.ofNat R)).drop a' = countB n ∧ Fr No w (wr.setCell ⟨w.heap.size, a', none⟩ (.int .u8 (R : Int)))) := by
        refine (show _ ∧ _ from ⟨by rw [List.length_set]; exact hgl, ?_, ?_, HG.out.2.2.2.setCell _ _ (fun h => by simp at h)⟩)
        · have e : enc8 (UInt8.ofNat R) = .int .u8 (R : Int) := by unfold enc8; rw [UInt8.toNat_ofNat']; congr 1; omega
          rw [blk_set hblk, List.map_set, e, List.setIfInBounds_toArray]
        · rw [drop_set (by omega), ← HG.out.2.2.1, hiB_pos (n := M) (by omega), hQ2.out, hR.out]
          simp
      have hM2 : Hid (Q2 < 128 ^ a') := (show _ < _ from by
        have h1 := hMa.out
        rw [Nat.pow_succ] at h1
        rw [hQ2.out]
        exact Nat.div_lt_of_lt_mul (by rw [Nat.mul_comm]; exact h1))
      have hlt : Hid (Q2 < M) := (show Q2 < M from by rw [hQ2.out]; omega)
      clear hblk hgl
      go_wp2_with (with_reducible refine halt_dst 22 rfl ?_)
      refine wpListG_run (by rfl) (v := .int .u8 (P : Int)) (w' := wr) ?hr ?_
      case hr => go_simp; (try rw [hPw.out])
      refine wpListG_run (by rfl) (v := .int .u8 (R : Int)) (w' := wr) ?hr2 ?_
      case hr2 => go_simp; (try rw [hor.out])
      go_wp2_with fail
      go_roundw
      case rel => exact ⟨Q2, a', _, rfl, by go_num, by omega, hM2, HG2⟩
      case measure => have := hlt.out; simp [intOf]; omega
    · have hM0 : M = 0 := by omega
      subst hM0
      clear hM
      have hsl := slice5 w.heap.size a ha
      go_wp2_with (with_reducible refine halt_dst 27 rfl ?_)
      refine wpListG_run (by rfl) (v := .slice (some ⟨w.heap.size, a, none⟩) (5 - a) (5 - a)) (w' := wr) ?hr ?_
      case hr =>
        unfold execOp
        simp [Act.eval]
        rw [hsl wr]
        rfl
      have hblk := HG.out.2.1
      have hgl := HG.out.1
      have hdl : (gs.drop a).length = 5 - a := by rw [List.length_drop, hgl]
      have HG' := HG.out.2.2.2
      have hown : Ow wr (fun k => (Value.slice A b.length c).ownBlock = some k) 5 1 (.slice A b.length c) b.length (b.map enc8) := H.out.just.fr HG' (fun _ _ _ h => h)
      refine wpList_app rfl (.tmp 25) (.tmp 27) 22 5 rfl _ 1 1 Try.underlying22 info5 rfl (by omega) (by omega) (.slice A b.length c) b.length (b.map enc8) rfl (some ⟨w.heap.size, a, none⟩) (5 - a) (5 - a) rfl hown ((gs.drop a).map enc8) (by rw [List.length_map, hdl]; omega) ?hnews (one8 _) (by omega) ?_
      case hnews =>
        intro j u hj
        refine ⟨_, rfl, ?_⟩
        rw [add_none, blk_cell hblk, List.getElem?_toArray]
        rw [List.getElem?_map, List.getElem?_drop] at hj
        rw [List.getElem?_map]
        exact hj
      intro v6 w6 hown6 hfr6
      have hfin : AddPost w (.slice A b.length c) (b ++ countB n) (.returned v6) w6 := by
        have he : gs.drop a = countB n := by have := HG.out.2.2.1; rw [hiB_zero, List.nil_append] at this; exact this
        refine ⟨v6, rfl, ?_, HG'.trans hfr6 (fun _ _ h => h.elim) (fun _ _ h => h)⟩
        rw [← List.map_append, he] at hown6
        rw [List.length_append, ← he, hdl, he]
        refine hown6.mono (fun k hk => hk.imp (fun h => h) (fun h => by have := HG'.size; omega))
      have HFIN := Lib.hid hfin
      clear hown6 hfr6 hown hblk hgl hdl HG' hfin hsl
      go_wp2_with fail
      go_ret
      exact HFIN.out
end Go.Proofs.Ytbaohngnpgappaa
