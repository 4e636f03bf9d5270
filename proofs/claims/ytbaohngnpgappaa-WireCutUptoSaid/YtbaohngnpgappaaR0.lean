/- Arguments as data, opened: a slice of integers that came in. -/
import Derived.Test.YtbaohngnpgappaaA1
import Derived.Test.YtbaohngnpgappaaRows
import Derived.ProofKit
import Derived.OpenShut
import Derived.ShutString
import Derived.ChangeOld
import Derived.SizedLaws
set_option linter.unusedVariables false
set_option linter.unusedSimpArgs false
namespace Go.Proofs.Ytbaohngnpgappaa
open Go.ChangeShapes Go.WideShapes Go.ChangeAt Go.RowKit
theorem laidOut : laidOutB Try.prog = true := by kernel_rfl
theorem ownKnobNone : ownKnob Try.prog.godebug = none := by kernel_rfl
/-- What the kit's reading of a slice of integers says. -/
def ArgRow (k : IntKind) (w : World) (a : Option Addr) (len cap : Nat) (zs : List Int) : Prop :=
  (a = none ∧ len = 0 ∧ cap = 0 ∧ zs = []) ∨
  ∃ x, a = some x ∧ len ≤ cap ∧ cap ≤ maxLen ∧ zs.length = cap ∧ (∀ i, i < zs.length → w.cell? (x.add i) = some (.int k (zs.getD i 0))) ∧ ∀ n ∈ zs, (Lit.int k n).wf = true
theorem addr_plain {w : World} {x : Addr} {v : Value} (h : w.cell? (x.add 0) = some v) : ∃ b o, x = ⟨b, o, none⟩ := by
  obtain ⟨b, o, s⟩ := x
  cases s with
  | none => exact ⟨b, o, rfl⟩
  | some s =>
    simp [Addr.add, World.cell?] at h
    split at h
    · simp at h
    · cases h
theorem rb_arg {w : World} {a : Option Addr} {len cap : Nat} {zs : List Int} (h : ArgRow .u8 w a len cap zs) : ∃ l : List UInt8, l.length = len ∧ Rb w (fun k => k < w.heap.size) (.slice a len cap) l := by
  rcases h with ⟨rfl, rfl, rfl, rfl⟩ | ⟨x, rfl, h1, h2, h3, h4, h5⟩
  · exact ⟨[], rfl, Rds.nil _ _ _ _ _ (Nat.zero_le _)⟩
  · have hl : ((zs.take len).map fun n => UInt8.ofNat n.toNat).length = len := by rw [List.length_map, List.length_take]; omega
    refine ⟨(zs.take len).map fun n => UInt8.ofNat n.toNat, hl, some x, cap, by rw [hl], by omega, h2, fun j u hj => ?_⟩
    rw [List.getElem?_map, List.getElem?_take] at hj
    split at hj
    · rename_i hjl
      have hjz : j < zs.length := by omega
      rw [List.getElem?_eq_getElem hjz] at hj
      have hu : u = UInt8.ofNat zs[j].toNat := (Option.some.inj hj).symm
      obtain ⟨b, o, rfl⟩ := addr_plain (h4 0 (by omega))
      have hc := h4 j hjz
      rw [add_none] at hc
      refine ⟨b, o, rfl, World.block_lt_of_cell? w _ hc, ?_⟩
      rw [hc, hu]
      have hw := h5 zs[j] (List.getElem_mem hjz)
      have hr := bounds_u8 hw
      have e : zs.getD j 0 = zs[j] := by simp [List.getD_eq_getElem?_getD, List.getElem?_eq_getElem hjz]
      rw [e]
      unfold enc8
      congr 2
      rw [UInt8.toNat_ofNat']
      omega
    · cases hj
end Go.Proofs.Ytbaohngnpgappaa
