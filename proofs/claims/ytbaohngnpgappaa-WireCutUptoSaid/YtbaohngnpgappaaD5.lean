/- The statements' own small functions of the disk, more: what is done with a disk (Op), few. -/
import Derived.Test.YtbaohngnpgappaaD4
import Derived.Test.YtbaohngnpgappaaA2
set_option linter.unusedVariables false
set_option linter.unusedSimpArgs false
namespace Go.Proofs.Ytbaohngnpgappaa
open Go.RowKit
def I64 (n : Int) : Prop := -9223372036854775808 ≤ n ∧ n ≤ 9223372036854775807
structure OpD where
  act : Int
  at_ : Int
  n : Int
  b : List UInt8
  keep : Nat
  tear : Int
def OpK : Kind OpD where
  sz := 6
  R := fun w F x cs => ∃ vb, cs = [.int .i64 x.act, .int .i64 x.at_, .int .i64 x.n, vb, .int .u64 (x.keep : Int), .int .i64 x.tear] ∧ Rb w F vb x.b ∧ I64 x.at_ ∧ I64 x.n ∧ x.keep < 18446744073709551616
  len := by rintro w F x cs ⟨vb, rfl, _⟩; rfl
  one := by
    rintro w F x cs ⟨vb, rfl, hb, _⟩ u hu
    obtain ⟨A, c, rfl, _⟩ := hb.shape
    simp at hu
    rcases hu with rfl | rfl | rfl | rfl | rfl | rfl <;> rfl
  mono := by rintro w F F' x cs h ⟨vb, rfl, hb, r⟩; exact ⟨vb, rfl, hb.mono h, r⟩
  bound := by rintro w F x cs ⟨vb, rfl, hb, r⟩; exact ⟨vb, rfl, hb.bound, r⟩
  move := by rintro w w' F x cs h ⟨vb, rfl, hb, r⟩; exact ⟨vb, rfl, hb.move h, r⟩
def fewB (l : List OpD) : Bool := decide (l.length ≤ 120) && l.all (fun o => decide (o.b.length ≤ 300))
set_option maxHeartbeats 1000000 in
theorem few_any {w : World} {F : Nat → Prop} {v : Value} {l : List OpD} (h : Row OpK w F v l) : Calls Try.prog 26 #[v] w (Told (.bool (fewB l)) w) := by
  obtain ⟨A, c, rfl, hc1, hc2⟩ := h.shape
  have hl63 : (l.length : Int) ≤ 9223372036854775807 := by simp only [maxLen] at hc2; omega
  have H := Lib.hid h
  clear h hc2
  by_cases hbig : (120 : Int) < l.length
  · have hf : Hid (fewB l = false) := (show fewB l = false from by unfold fewB; simp; omega)
    go_enter Try.func26, Try.ntmps26
    go_wp2_with fail
    go_ret
    exact (show Told _ _ _ _ from ⟨by rw [hf.out]; rfl, Fr.refl _ _⟩)
  · have hbig' : (l.length : Int) ≤ 120 := by omega
    clear hbig
    go_enter Try.func26, Try.ntmps26
    go_wp2_with fail
    go_loopw [10] (fun i wr => ∃ k : Nat, k ≤ l.length ∧ i = .int .i64 k ∧ Hid ((l.take k).all (fun o => decide (o.b.length ≤ 300)) = true ∧ Fr No w wr)) (fun i _ => l.length - (intOf i).toNat)
    case atStart => exact ⟨0, Nat.zero_le _, rfl, (show _ ∧ _ from ⟨rfl, Fr.refl _ _⟩)⟩
    case round =>
      obtain ⟨k, hk, rfl, HR⟩ := hrel
      by_cases hlt : k < l.length
      · obtain ⟨b, o, c', cs, he, _, _, hF, ⟨vb, hcs, hrb, _⟩, hcell⟩ := (H.out.fr (by decide) HR.out.2 (fun _ _ _ h => h)).at_ k hlt
        cases he
        obtain ⟨Ab, cb, hvb, hb1, hb2⟩ := hrb.shape
        subst hvb
        have hbl : (l[k].b.length : Int) ≤ 9223372036854775807 := by simp only [maxLen] at hb2; omega
        have c0 := hcell 0 _ (by rw [hcs]; rfl)
        have c1 := hcell 1 _ (by rw [hcs]; rfl)
        have c2 := hcell 2 _ (by rw [hcs]; rfl)
        have c3 := hcell 3 _ (by rw [hcs]; rfl)
        have c4 := hcell 4 _ (by rw [hcs]; rfl)
        have c5 := hcell 5 _ (by rw [hcs]; rfl)
        simp only [show OpK.sz = 6 from rfl, Nat.add_zero] at c0 c1 c2 c3 c4 c5
        clear hcell hcs hrb hb2
        by_cases hbl2 : (300 : Int) < l[k].b.length
        · have hf : Hid (fewB l = false) := (show fewB l = false from by
            unfold fewB
            rw [Bool.and_eq_false_iff]
            right
            rw [List.all_eq_false]
            exact ⟨l[k], List.getElem_mem hlt, by simp; omega⟩)
          go_wp2_with fail
          go_ret
          exact (show Told _ _ _ _ from ⟨by rw [hf.out]; rfl, HR.out.2.alloc _⟩)
        · have hbl3 : (l[k].b.length : Int) ≤ 300 := by omega
          clear hbl2
          have HR4 : Hid ((l.take (k + 1)).all (fun o => decide (o.b.length ≤ 300)) = true) := (show _ = true from by
            rw [List.take_add_one, List.all_append, HR.out.1, List.getElem?_eq_getElem hlt]; simp; omega)
          go_wp2_with fail
          go_roundw
          case rel => exact ⟨k + 1, by omega, by go_num, (show _ ∧ _ from ⟨HR4.out, HR.out.2.alloc _⟩)⟩
          case measure => simp [intOf]; omega
      · have hkl : k = l.length := by omega
        subst hkl
        have hf : Hid (fewB l = true) := (show fewB l = true from by
          have h1 := HR.out.1
          rw [List.take_of_length_le (Nat.le_refl _)] at h1
          unfold fewB
          rw [h1]; simp; omega)
        go_wp2_with fail
        go_ret
        exact (show Told _ _ _ _ from ⟨by rw [hf.out]; rfl, HR.out.2⟩)
end Go.Proofs.Ytbaohngnpgappaa
