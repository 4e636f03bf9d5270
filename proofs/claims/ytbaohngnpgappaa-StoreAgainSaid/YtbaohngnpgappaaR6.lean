/- Arguments as data, opened: entries, changes, what is saved. -/
import Derived.Test.YtbaohngnpgappaaS26
set_option linter.unusedVariables false
set_option linter.unusedSimpArgs false
namespace Go.Proofs.Ytbaohngnpgappaa
open Go.ChangeShapes Go.WideShapes Go.ChangeAt Go.RowKit
section
variable {H : Type} {enc : TypeId × Value → H} {W : World} {held : Bool}
theorem two {cs : List Value} (h : cs.length = 2) : ∃ u0 u1, cs = [u0, u1] := by
  rcases cs with _ | ⟨a, _ | ⟨b, _ | ⟨c, r⟩⟩⟩ <;> simp at h
  exact ⟨_, _, rfl⟩
theorem opens_en : Opens enc W (fun _ => true) held EnK 64 := by
  intro fuel cs x h
  obtain ⟨xs, n, _, _, hl, hxl, hf⟩ := DataW.trod_struct Try.underlying64 h
  rw [show Try.prog.cellsOf 64 = 2 from by kernel_rfl] at hl
  replace hxl : xs.length = 2 := hxl
  have c3 : Try.prog.cellsOf 3 = 1 := by kernel_rfl
  have c22 : Try.prog.cellsOf 22 = 1 := by kernel_rfl
  obtain ⟨u0, u1, rfl⟩ := two hl
  have f0 : DataW.trod enc Try.prog W 0 (fun _ => true) held n 3 (([u0, u1].drop 0).take (Try.prog.cellsOf 3)) = xs[0]? := hf 0 _ rfl
  have f1 : DataW.trod enc Try.prog W 0 (fun _ => true) held n 22 (([u0, u1].drop 1).take (Try.prog.cellsOf 22)) = xs[1]? := hf 1 _ rfl
  simp only [c3, c22, List.drop, List.take] at f0 f1
  rw [List.getElem?_eq_getElem (by omega)] at f0 f1
  obtain ⟨n0, e0, _, w0⟩ := DataW.trod_int Try.underlying3 f0
  obtain ⟨v, l, e1, hb⟩ := bytes_arg Try.underlying22 Try.underlying5 (by kernel_rfl) f1 rfl
  cases e0; cases e1
  exact ⟨(n0, l), u1, rfl, hb, bounds_i64 w0⟩
theorem opens_ch : Opens enc W (fun _ => true) held ChK 62 := by
  intro fuel cs x h
  obtain ⟨xs, n, _, _, hl, hxl, hf⟩ := DataW.trod_struct Try.underlying62 h
  rw [show Try.prog.cellsOf 62 = 6 from by kernel_rfl] at hl
  replace hxl : xs.length = 6 := hxl
  have c3 : Try.prog.cellsOf 3 = 1 := by kernel_rfl
  have c22 : Try.prog.cellsOf 22 = 1 := by kernel_rfl
  have c60 : Try.prog.cellsOf 60 = 1 := by kernel_rfl
  obtain ⟨u0, u1, u2, u3, u4, u5, rfl⟩ := six hl
  have f0 : DataW.trod enc Try.prog W 0 (fun _ => true) held n 3 (([u0, u1, u2, u3, u4, u5].drop 0).take (Try.prog.cellsOf 3)) = xs[0]? := hf 0 _ rfl
  have f1 : DataW.trod enc Try.prog W 0 (fun _ => true) held n 3 (([u0, u1, u2, u3, u4, u5].drop 1).take (Try.prog.cellsOf 3)) = xs[1]? := hf 1 _ rfl
  have f2 : DataW.trod enc Try.prog W 0 (fun _ => true) held n 3 (([u0, u1, u2, u3, u4, u5].drop 2).take (Try.prog.cellsOf 3)) = xs[2]? := hf 2 _ rfl
  have f3 : DataW.trod enc Try.prog W 0 (fun _ => true) held n 3 (([u0, u1, u2, u3, u4, u5].drop 3).take (Try.prog.cellsOf 3)) = xs[3]? := hf 3 _ rfl
  have f4 : DataW.trod enc Try.prog W 0 (fun _ => true) held n 60 (([u0, u1, u2, u3, u4, u5].drop 4).take (Try.prog.cellsOf 60)) = xs[4]? := hf 4 _ rfl
  have f5 : DataW.trod enc Try.prog W 0 (fun _ => true) held n 22 (([u0, u1, u2, u3, u4, u5].drop 5).take (Try.prog.cellsOf 22)) = xs[5]? := hf 5 _ rfl
  simp only [c3, c22, c60, List.drop, List.take] at f0 f1 f2 f3 f4 f5
  rw [List.getElem?_eq_getElem (by omega)] at f0 f1 f2 f3 f4 f5
  obtain ⟨n0, e0, _, w0⟩ := DataW.trod_int Try.underlying3 f0
  obtain ⟨n1, e1, _, w1⟩ := DataW.trod_int Try.underlying3 f1
  obtain ⟨n2, e2, _, w2⟩ := DataW.trod_int Try.underlying3 f2
  obtain ⟨n3, e3, _, w3⟩ := DataW.trod_int Try.underlying3 f3
  obtain ⟨v4, l4, e4, hrow⟩ := row_arg Try.underlying60 (by kernel_rfl) (by decide) opens_en f4
  obtain ⟨v5, l5, e5, hb⟩ := bytes_arg Try.underlying22 Try.underlying5 (by kernel_rfl) f5 rfl
  cases e0; cases e1; cases e2; cases e3; cases e4; cases e5
  exact ⟨⟨n0, n1, n2, n3, l4, l5⟩, u4, u5, rfl, hrow, hb, bounds_i64 w0, bounds_i64 w1, bounds_i64 w2, bounds_i64 w3⟩
theorem opens_sv : Opens enc W (fun _ => true) held SvK 68 := by
  intro fuel cs x h
  obtain ⟨xs, n, _, _, hl, hxl, hf⟩ := DataW.trod_struct Try.underlying68 h
  rw [show Try.prog.cellsOf 68 = 6 from by kernel_rfl] at hl
  replace hxl : xs.length = 6 := hxl
  have c3 : Try.prog.cellsOf 3 = 1 := by kernel_rfl
  have c22 : Try.prog.cellsOf 22 = 1 := by kernel_rfl
  have c60 : Try.prog.cellsOf 60 = 1 := by kernel_rfl
  obtain ⟨u0, u1, u2, u3, u4, u5, rfl⟩ := six hl
  have f0 : DataW.trod enc Try.prog W 0 (fun _ => true) held n 3 (([u0, u1, u2, u3, u4, u5].drop 0).take (Try.prog.cellsOf 3)) = xs[0]? := hf 0 _ rfl
  have f1 : DataW.trod enc Try.prog W 0 (fun _ => true) held n 3 (([u0, u1, u2, u3, u4, u5].drop 1).take (Try.prog.cellsOf 3)) = xs[1]? := hf 1 _ rfl
  have f2 : DataW.trod enc Try.prog W 0 (fun _ => true) held n 3 (([u0, u1, u2, u3, u4, u5].drop 2).take (Try.prog.cellsOf 3)) = xs[2]? := hf 2 _ rfl
  have f3 : DataW.trod enc Try.prog W 0 (fun _ => true) held n 3 (([u0, u1, u2, u3, u4, u5].drop 3).take (Try.prog.cellsOf 3)) = xs[3]? := hf 3 _ rfl
  have f4 : DataW.trod enc Try.prog W 0 (fun _ => true) held n 22 (([u0, u1, u2, u3, u4, u5].drop 4).take (Try.prog.cellsOf 22)) = xs[4]? := hf 4 _ rfl
  have f5 : DataW.trod enc Try.prog W 0 (fun _ => true) held n 60 (([u0, u1, u2, u3, u4, u5].drop 5).take (Try.prog.cellsOf 60)) = xs[5]? := hf 5 _ rfl
  simp only [c3, c22, c60, List.drop, List.take] at f0 f1 f2 f3 f4 f5
  rw [List.getElem?_eq_getElem (by omega)] at f0 f1 f2 f3 f4 f5
  obtain ⟨n0, e0, _, w0⟩ := DataW.trod_int Try.underlying3 f0
  obtain ⟨n1, e1, _, w1⟩ := DataW.trod_int Try.underlying3 f1
  obtain ⟨n2, e2, _, w2⟩ := DataW.trod_int Try.underlying3 f2
  obtain ⟨n3, e3, _, w3⟩ := DataW.trod_int Try.underlying3 f3
  obtain ⟨v4, l4, e4, hb⟩ := bytes_arg Try.underlying22 Try.underlying5 (by kernel_rfl) f4 rfl
  obtain ⟨v5, l5, e5, hrow⟩ := row_arg Try.underlying60 (by kernel_rfl) (by decide) opens_en f5
  cases e0; cases e1; cases e2; cases e3; cases e4; cases e5
  exact ⟨⟨n0, n1, n2, n3, l4, l5⟩, u4, u5, rfl, hb, hrow, bounds_i64 w0, bounds_i64 w1, bounds_i64 w2, bounds_i64 w3⟩
end
theorem again_row {w : World} {size syncs : Int} {vl : Value} {l : List Ch} (hl : Row ChK w (fun k => k < w.heap.size) vl l) (h0 : (Lit.int .i64 size).wf = true) (h2 : (Lit.int .i64 syncs).wf = true) :
    Calls Try.prog 10 #[.int .i64 size, vl, .int .i64 syncs] w (Told (.bool true) w) := again_any hl (bounds_i64 h0) (bounds_i64 h2)
end Go.Proofs.Ytbaohngnpgappaa
