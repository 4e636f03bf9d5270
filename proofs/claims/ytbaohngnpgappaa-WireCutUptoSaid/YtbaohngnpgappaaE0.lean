/- The document's answer for the disk: done. -/
import Derived.Test.YtbaohngnpgappaaD5
import Derived.Laws.OwnMore
set_option linter.unusedVariables false
set_option linter.unusedSimpArgs false
namespace Go.Proofs.Ytbaohngnpgappaa
open Go.RowKit
/-- A write that waits: where, what. -/
def WaitK : Kind (Nat × List UInt8) where
  sz := 2
  R := fun w F x cs => ∃ vb, cs = [.int .i64 (x.1 : Int), vb] ∧ Rb w F vb x.2
  len := by rintro w F x cs ⟨vb, rfl, _⟩; rfl
  one := by
    rintro w F x cs ⟨vb, rfl, hb⟩ u hu
    obtain ⟨A, c, rfl, _⟩ := hb.shape
    simp at hu
    rcases hu with rfl | rfl <;> rfl
  mono := by rintro w F F' x cs h ⟨vb, rfl, hb⟩; exact ⟨vb, rfl, hb.mono h⟩
  bound := by rintro w F x cs ⟨vb, rfl, hb⟩; exact ⟨vb, rfl, hb.bound⟩
  move := by rintro w w' F x cs h ⟨vb, rfl, hb⟩; exact ⟨vb, rfl, hb.move h⟩
theorem Ow.set {w : World} {O : Nat → Prop} {e : TypeId} {sz n g c : Nat} {xs : List Value} (h : Ow w O e sz (.slice (some ⟨g, 0, none⟩) n c) n xs) (j : Nat) (u : Value) : Ow (w.setCell ⟨g, j, none⟩ u) O e sz (.slice (some ⟨g, 0, none⟩) n c) n (xs.set j u) :=
  ⟨(h.1.stored j u).1, h.2⟩
theorem byte_at {w : World} {F : Nat → Prop} {A : Option Addr} {m c : Nat} {l : List UInt8} {k : Nat} {x : UInt8} (h : Rb w F (.slice A m c) l) (hk : l[k]? = some x) : ∃ b o, A = some ⟨b, o, none⟩ ∧ m = l.length ∧ F b ∧ w.cell? ⟨b, o + k, none⟩ = some (.int .u8 (x.toNat : Int)) := by
  obtain ⟨hl, hx⟩ := List.getElem?_eq_some_iff.1 hk
  obtain ⟨b, o, c', he, _, _, hF, hc⟩ := h.at_ k hl
  cases he
  subst hx
  exact ⟨b, o, rfl, rfl, hF, hc⟩
theorem splice_step {L b : List UInt8} {a j : Nat} (h : a + b.length ≤ L.length) (hj : j < b.length) : (splice L a (b.take j)).set (a + j) (b[j]) = splice L a (b.take (j + 1)) := by
  apply List.ext_getElem?
  intro i
  have h1 : a + (b.take j).length ≤ L.length := by rw [List.length_take]; omega
  have h2 : a + (b.take (j + 1)).length ≤ L.length := by rw [List.length_take]; omega
  have hl := length_splice L a (b.take j) h1
  rw [splice_get h2, List.getElem?_set, splice_get h1]
  simp only [List.length_take, hl]
  by_cases e : a + j = i
  · subst e
    rw [if_pos rfl, if_pos (by omega), if_neg (by omega), if_pos (by omega), Nat.add_sub_cancel_left, List.getElem?_take, if_pos (by omega), List.getElem?_eq_getElem hj]
  · rw [if_neg e]
    by_cases c1 : i < a
    · rw [if_pos c1, if_pos c1]
    · rw [if_neg c1, if_neg c1]
      by_cases c2 : i < a + min j b.length
      · rw [if_pos c2, if_pos (by omega), List.getElem?_take, List.getElem?_take, if_pos (by omega), if_pos (by omega)]
      · rw [if_neg c2, if_neg (by omega)]
set_option maxHeartbeats 2000000 in
theorem done_any {w : World} {F1 F2 : Nat → Prop} {vb vl : Value} {s : List UInt8} {l : List (Nat × List UInt8)} (hb : Rb w F1 vb s) (hl : Row WaitK w F2 vl l) (hfit : ∀ x ∈ l, x.1 + x.2.length ≤ s.length) (hs : s.length ≤ 1048576) :
    Calls Try.prog 97 #[vb, vl] w (TellsB w (applyW s l)) := by
  obtain ⟨Ab, cb, rfl, hb1, hb2⟩ := hb.shape
  obtain ⟨Al, cl, rfl, hl1, hl2⟩ := hl.shape
  have hl63 : (l.length : Int) ≤ 9223372036854775807 := by simp only [maxLen] at hl2; omega
  obtain ⟨_, _, he, _, _, hnews⟩ := hb.news
  cases he
  have HL := Lib.hid (hl.bound (by decide))
  have HN := Lib.hid hnews
  have HF := Lib.hid hfit
  clear hb hl hfit hl2 hb2 hnews
  go_enter Try.func97, Try.ntmps97
  go_wp2_with (with_reducible refine halt_dst 11 rfl ?_)
  refine wpList_app (O := No) rfl (.const (.slice none 0 0)) (.tmp 10) 22 5 rfl _ 1 1 Try.underlying22 info5 rfl (by omega) (by omega) (.slice none 0 0) 0 [] rfl _ s.length _ rfl (Ow.nil _ _ _ _) (s.map enc8) (by simp) HN.out (one8 _) (by omega) ?_
  intro v6 w6 hown6 hfr6
  rw [List.nil_append, Nat.zero_add] at hown6
  have hf6 : Fr No w w6 := hfr6.mono (fun k _ h => by simp [Value.ownBlock] at h)
  have hown6 : Ow w6 (fun k => k = w.heap.size) 5 1 v6 s.length (s.map enc8) := hown6.mono fun k hk => by rcases hk with hk | hk; (simp [Value.ownBlock] at hk); exact hk
  obtain ⟨A6, c6, rfl, hc61, hc62⟩ := hown6.shape
  have HR0 : Hid (Ow w6 (fun k => k = w.heap.size) 5 1 (.slice A6 s.length c6) s.length ((applyW s (l.take 0)).map enc8) ∧ Fr No w w6) := (show _ ∧ _ from ⟨hown6, hf6⟩)
  clear hown6 hf6 hfr6 hc62
  go_wp2_with fail
  go_loopw [14] (fun i wr => ∃ k : Nat, k ≤ l.length ∧ i = .int .i64 k ∧ Hid (Ow wr (fun k => k = w.heap.size) 5 1 (.slice A6 s.length c6) s.length ((applyW s (l.take k)).map enc8) ∧ Fr No w wr)) (fun i _ => l.length - (intOf i).toNat)
  case atStart => exact ⟨0, Nat.zero_le _, rfl, HR0⟩
  case round =>
    obtain ⟨k, hk, rfl, HR⟩ := hrel
    by_cases hlt : k < l.length
    · obtain ⟨b, o, _, cs, he, _, _, _, ⟨vb, hcs, hrb⟩, hcell⟩ := (HL.out.fr (by decide) HR.out.2 (fun _ _ _ h => h)).at_ k hlt
      cases he
      obtain ⟨A1, c1, rfl, hb1', hb2'⟩ := hrb.shape
      have e0 := hcell 0 _ (by rw [hcs]; rfl)
      have e1 := hcell 1 _ (by rw [hcs]; rfl)
      simp only [show WaitK.sz = 2 from rfl, Nat.add_zero] at e0 e1
      have hfx := HF.out _ (List.getElem_mem hlt)
      obtain ⟨⟨xa, xb⟩, hx⟩ : ∃ x, x = l[k] := ⟨_, rfl⟩
      rw [← hx] at e0 e1 hcs hrb hb1' hfx
      dsimp only at e0 e1 hcs hrb hb1' hfx
      have HXK : Hid (l[k]? = some (xa, xb)) := (show _ = _ from by rw [hx]; exact List.getElem?_eq_getElem hlt)
      have hb63 : (xb.length : Int) ≤ 1048576 := by omega
      have hxa : (xa : Int) ≤ 1048576 := by omega
      have HRB := Lib.hid hrb
      clear hcell hcs hrb hb2' hx
      go_wp2_with fail
      have HI0 : Hid (Ow (wr.alloc (.cells #[.int .i64 (xa : Int), .slice A1 xb.length c1] 131 (0, 0))) (fun k => k = w.heap.size) 5 1 (.slice A6 s.length c6) s.length ((splice (applyW s (l.take k)) xa (xb.take 0)).map enc8) ∧ Fr (fun k => k = w.heap.size) (wr.alloc (.cells #[.int .i64 (xa : Int), .slice A1 xb.length c1] 131 (0, 0))) (wr.alloc (.cells #[.int .i64 (xa : Int), .slice A1 xb.length c1] 131 (0, 0)))) := (show _ ∧ _ from ⟨by rw [List.take_zero, splice_nil]; exact HR.out.1.fr ((Fr.refl No _).alloc _) (fun _ _ _ h => h), Fr.refl _ _⟩)
      obtain ⟨wA, hwA⟩ : ∃ wA, Hid (wA = wr.alloc (.cells #[.int .i64 (xa : Int), .slice A1 xb.length c1] 131 (0, 0))) := ⟨_, rfl⟩
      have f0 : wA.cell? ⟨wr.heap.size, 0, none⟩ = some (.int .i64 (xa : Int)) := by rw [hwA.out]; exact blk_cell (blk_new wr _) 0
      have hgt : Hid (0 < s.length → wr.heap.size ≠ w.heap.size) := (show 0 < s.length → wr.heap.size ≠ w.heap.size from fun h0 => by
        obtain ⟨g, _, _, _, hg, hblk, _⟩ := HR.out.1.form h0
        have := heap_lt hblk
        omega)
      have HRB2 : Hid (Rb wA (fun k => F2 k ∧ k < w.heap.size) (.slice A1 xb.length c1) xb) := (show Rb _ _ _ _ from by rw [hwA.out]; exact HRB.out.fr ((Fr.refl No _).alloc _) (fun _ _ _ h => h))
      have HFA : Hid (Fr No w wA) := (show Fr No w wA from by rw [hwA.out]; exact HR.out.2.alloc _)
      obtain ⟨S, hS⟩ : ∃ S, Hid (S = applyW s (l.take k)) := ⟨_, rfl⟩
      have hSl : Hid (S.length = s.length) := (show _ = _ from by rw [hS.out]; exact applyW_length _ _ (fun x hx => HF.out x (List.mem_of_mem_take hx)))
      rw [← hwA.out, ← hS.out] at HI0
      rw [← hwA.out]
      go_loopw [21] (fun i wx => ∃ j : Nat, j ≤ xb.length ∧ i = .int .i64 j ∧ Hid (Ow wx (fun k => k = w.heap.size) 5 1 (.slice A6 s.length c6) s.length ((splice S xa (xb.take j)).map enc8) ∧ Fr (fun k => k = w.heap.size) wA wx)) (fun i _ => xb.length - (intOf i).toNat)
      case atStart => exact ⟨0, Nat.zero_le _, rfl, HI0⟩
      case round =>
        obtain ⟨j, hj, rfl, HJ⟩ := hrel
        by_cases hjt : j < xb.length
        · obtain ⟨y, hy⟩ : ∃ y, Hid (xb[j]? = some y) := ⟨_, List.getElem?_eq_getElem hjt⟩
          obtain ⟨b2, o2, he2, _, hF2, hyc⟩ := byte_at (HRB2.out.fr HJ.out.2 (fun k _ h1 h2 => by omega)) hy.out
          subst he2
          obtain ⟨g, c7, cur, he3, hg, hblk, _, _, hcs7, _⟩ := HJ.out.1.form (by omega)
          cases he3
          subst hg
          have f1 := HJ.out.2.cell f0 (hgt.out (by omega))
          have hcur : xa + j < cur.size := by omega
          obtain ⟨old, g1⟩ : ∃ old, wr.cell? ⟨w.heap.size, xa + j, none⟩ = some old := ⟨cur[xa + j], by rw [blk_cell hblk, Array.getElem?_eq_getElem hcur]⟩
          have g2 : wr.frozen? ⟨w.heap.size, xa + j, none⟩ = false := blk_free hblk _
          have HJ2 : Hid (Ow (wr.setCell ⟨w.heap.size, xa + j, none⟩ (.int .u8 (y.toNat : Int))) (fun k => k = w.heap.size) 5 1 (.slice (some ⟨w.heap.size, 0, none⟩) s.length c6) s.length ((splice S xa (xb.take (j + 1))).map enc8) ∧ Fr (fun k => k = w.heap.size) wA (wr.setCell ⟨w.heap.size, xa + j, none⟩ (.int .u8 (y.toNat : Int)))) := by
            refine (show _ ∧ _ from ⟨?_, HJ.out.2.setCell _ _ (fun _ => rfl)⟩)
            have h1 := HJ.out.1.set (xa + j) (enc8 y)
            rw [← List.map_set] at h1
            have h2 := splice_step (L := S) (b := xb) (a := xa) (j := j) (by rw [hSl.out]; exact hfx) hjt
            have h3 : xb[j] = y := by have := hy.out; rw [List.getElem?_eq_getElem hjt] at this; exact Option.some.inj this
            rw [h3] at h2
            rw [← h2]
            exact h1
          have g3 := y.toNat_lt
          clear hblk hcs7 hcur
          go_wp2_with fail
          go_roundw
          case rel => exact ⟨j + 1, by omega, by go_num, HJ2⟩
          case measure => simp [intOf]; omega
        · have hjl : j = xb.length := by omega
          subst hjl
          clear hjt
          have HR2 : Hid (Ow wr (fun k => k = w.heap.size) 5 1 (.slice A6 s.length c6) s.length ((applyW s (l.take (k + 1))).map enc8) ∧ Fr No w wr) := by
            refine (show _ ∧ _ from ⟨?_, HFA.out.news HJ.out.2 (fun k hk => by omega)⟩)
            rw [applyW_snoc _ _ _ _ HXK.out, ← hS.out]
            have h1 := HJ.out.1
            rw [List.take_of_length_le (Nat.le_refl _)] at h1
            exact h1
          go_wp2_with fail
          go_roundw
          case rel => exact ⟨k + 1, by omega, by go_num, HR2⟩
          case measure => simp [intOf]; omega
    · have hkl : k = l.length := by omega
      subst hkl
      clear hlt
      go_wp2_with fail
      go_ret
      have h1 := HR.out.1
      rw [List.take_of_length_le (Nat.le_refl _)] at h1
      have hlen := applyW_length l s HF.out
      refine (show TellsB _ _ _ _ from ⟨_, rfl, ?_, HR.out.2⟩)
      rw [hlen]
      exact h1.mono fun k hk => Nat.le_of_eq hk.symm
end Go.Proofs.Ytbaohngnpgappaa
