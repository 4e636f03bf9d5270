/- Arguments as data, opened: rows of whatever kind, and what is done with a disk. -/
import Derived.Test.YtbaohngnpgappaaR0
import Derived.Test.YtbaohngnpgappaaA2
import Derived.Test.YtbaohngnpgappaaD5
import Derived.Deep.Slices
set_option linter.unusedVariables false
set_option linter.unusedSimpArgs false
namespace Go.Proofs.Ytbaohngnpgappaa
open Go.ChangeShapes Go.WideShapes Go.ChangeAt Go.RowKit
section
variable {H : Type} {enc : TypeId × Value → H} {W : World} {spare : Nat → Bool} {held : Bool}
/-- What of type e is read as data is told by the kind. -/
def Opens {α : Type} (enc : TypeId × Value → H) (W : World) (spare : Nat → Bool) (held : Bool) (K : Kind α) (e : TypeId) : Prop :=
  ∀ (fuel : Nat) (cs : List Value) (x : DataW H × List MemPlace), DataW.trod enc Try.prog W 0 spare held fuel e cs = some x → ∃ a, K.R W (fun k => k < W.heap.size) a cs
theorem cells_at {w : World} {b : Nat} {a : Addr} {n : Nat} {cs : List Value} (h : w.cells? b a n = some cs) : cs.length = n ∧ ∀ i u, cs[i]? = some u → w.cell? (a.add i) = some u := by
  unfold World.cells? at h
  split at h
  · have h1 := mapM_some_length h
    have hl : cs.length = n := by simpa using h1
    refine ⟨hl, fun i u hu => ?_⟩
    have hi : i < n := by rw [← hl]; exact (List.getElem?_eq_some_iff.1 hu).1
    have h2 := mapM_some_get h i i (by simp [hi])
    rw [h2, hu]
  · cases h
theorem plain_at {w : World} {x : Addr} {i : Nat} {v : Value} (h : w.cell? (x.add i) = some v) (h0 : i = 0) : ∃ b o, x = ⟨b, o, none⟩ := by subst h0; exact addr_plain h
theorem row_arg {α : Type} {K : Kind α} {t e : TypeId} {fuel : Nat} {cs : List Value} {x : DataW H × List MemPlace} (ht : Try.prog.underlying t = some (.slice e)) (hsz : Try.prog.cellsOf e = K.sz) (hK : 0 < K.sz) (ho : Opens enc W spare held K e)
    (h : DataW.trod enc Try.prog W 0 spare held fuel t cs = some x) : ∃ v l, cs = [v] ∧ Row K W (fun k => k < W.heap.size) v l := by
  rcases Deep.open_slice ht h with ⟨rfl, _⟩ | ⟨a, len, cap, m, n, D, Pl, rfl, _, h1, h2, hm, _, hel⟩
  · exact ⟨_, [], rfl, Row.nil _ _ _ _ _ (Nat.zero_le _)⟩
  · have hle : len ≤ m := by rw [hm]; split <;> omega
    have key : ∀ j, j < len → ∃ x cs', K.R W (fun k => k < W.heap.size) x cs' ∧ ∀ i u, cs'[i]? = some u → W.cell? ((a.add (j * K.sz)).add i) = some u := by
      intro j hj
      obtain ⟨cs', h3, h4⟩ := hel j (by omega)
      obtain ⟨y, hy⟩ := ho _ _ _ h4
      rw [hsz] at h3
      exact ⟨y, cs', hy, (cells_at h3).2⟩
    suffices hs : ∀ k, k ≤ len → ∃ l : List α, l.length = k ∧ ∀ j x, l[j]? = some x → ∃ cs', K.R W (fun k => k < W.heap.size) x cs' ∧ ∀ i u, cs'[i]? = some u → W.cell? ((a.add (j * K.sz)).add i) = some u by
      obtain ⟨l, hl, hx⟩ := hs len (Nat.le_refl _)
      refine ⟨_, l, rfl, some a, cap, by rw [hl], by omega, h2, fun j y hj => ?_⟩
      have hj2 := (List.getElem?_eq_some_iff.1 hj).1
      obtain ⟨y0, hy0⟩ : ∃ y0, l[0]? = some y0 := ⟨_, List.getElem?_eq_getElem (by omega)⟩
      obtain ⟨cs0, hr0, hc0⟩ := hx 0 y0 hy0
      have hl0 := K.len hr0
      have hc00 := hc0 0 _ (List.getElem?_eq_getElem (by omega))
      rw [Nat.zero_mul, Deep.add_add, Nat.zero_add] at hc00
      obtain ⟨b, o, rfl⟩ := addr_plain hc00
      obtain ⟨cs', hr, hc⟩ := hx j y hj
      refine ⟨b, o, cs', rfl, ?_, hr, fun i u hu => ?_⟩
      · rw [add_none] at hc00
        exact World.block_lt_of_cell? W _ hc00
      · have := hc i u hu
        rw [Deep.add_add, add_none] at this
        rw [Nat.add_assoc]
        exact this
    intro k
    induction k with
    | zero => intro _; exact ⟨[], rfl, fun j x h => by simp at h⟩
    | succ k ih =>
      intro hk
      obtain ⟨l, hl, hx⟩ := ih (by omega)
      obtain ⟨y, cs', hr, hc⟩ := key k (by omega)
      refine ⟨l ++ [y], by rw [List.length_append, hl]; rfl, fun j z hj => ?_⟩
      rcases Nat.lt_or_ge j k with h3 | h3
      · rw [List.getElem?_append_left (by omega)] at hj
        exact hx j z hj
      · have : j = k := by have := (List.getElem?_eq_some_iff.1 hj).1; simp at this; omega
        subst this
        rw [List.getElem?_append_right (by omega), hl, Nat.sub_self] at hj
        cases hj
        exact ⟨cs', hr, hc⟩
theorem bytes_arg {t e : TypeId} {fuel : Nat} {cs : List Value} {x : DataW H × List MemPlace} (ht : Try.prog.underlying t = some (.slice e)) (he : Try.prog.underlying e = some (.int .u8)) (hc : Try.prog.cellsOf e = 1)
    (h : DataW.trod enc Try.prog W 0 spare held fuel t cs = some x) (hspare : spare = fun _ => true) : ∃ v l, cs = [v] ∧ Rb W (fun k => k < W.heap.size) v l := by
  subst hspare
  rcases open_ints ht he hc h with ⟨rfl, _⟩ | ⟨a, l, c, zs, rfl, _, hl, hm, hz, _, hcell, hwz⟩
  · exact ⟨_, [], rfl, Rds.nil _ _ _ _ _ (Nat.zero_le _)⟩
  · obtain ⟨l', _, hr⟩ := rb_arg (w := W) (a := some a) (len := l) (cap := c) (zs := zs) (.inr ⟨_, rfl, hl, hm, by simpa using hz, hcell, hwz⟩)
    exact ⟨_, l', rfl, hr⟩
theorem six {cs : List Value} (h : cs.length = 6) : ∃ u0 u1 u2 u3 u4 u5, cs = [u0, u1, u2, u3, u4, u5] := by
  rcases cs with _ | ⟨a, _ | ⟨b, _ | ⟨c, _ | ⟨d, _ | ⟨e, _ | ⟨f, _ | ⟨g, r⟩⟩⟩⟩⟩⟩⟩ <;> simp at h
  exact ⟨_, _, _, _, _, _, rfl⟩
theorem opens_op : Opens enc W (fun _ => true) held OpK 38 := by
  intro fuel cs x h
  obtain ⟨xs, n, _, _, hl, hxl, hf⟩ := DataW.trod_struct Try.underlying38 h
  rw [show Try.prog.cellsOf 38 = 6 from by kernel_rfl] at hl
  replace hxl : xs.length = 6 := hxl
  have c3 : Try.prog.cellsOf 3 = 1 := by kernel_rfl
  have c22 : Try.prog.cellsOf 22 = 1 := by kernel_rfl
  have c36 : Try.prog.cellsOf 36 = 1 := by kernel_rfl
  obtain ⟨u0, u1, u2, u3, u4, u5, rfl⟩ := six hl
  have f0 : DataW.trod enc Try.prog W 0 (fun _ => true) held n 3 (([u0, u1, u2, u3, u4, u5].drop 0).take (Try.prog.cellsOf 3)) = xs[0]? := hf 0 _ rfl
  have f1 : DataW.trod enc Try.prog W 0 (fun _ => true) held n 3 (([u0, u1, u2, u3, u4, u5].drop 1).take (Try.prog.cellsOf 3)) = xs[1]? := hf 1 _ rfl
  have f2 : DataW.trod enc Try.prog W 0 (fun _ => true) held n 3 (([u0, u1, u2, u3, u4, u5].drop 2).take (Try.prog.cellsOf 3)) = xs[2]? := hf 2 _ rfl
  have f3 : DataW.trod enc Try.prog W 0 (fun _ => true) held n 22 (([u0, u1, u2, u3, u4, u5].drop 3).take (Try.prog.cellsOf 22)) = xs[3]? := hf 3 _ rfl
  have f4 : DataW.trod enc Try.prog W 0 (fun _ => true) held n 36 (([u0, u1, u2, u3, u4, u5].drop 4).take (Try.prog.cellsOf 36)) = xs[4]? := hf 4 _ rfl
  have f5 : DataW.trod enc Try.prog W 0 (fun _ => true) held n 3 (([u0, u1, u2, u3, u4, u5].drop 5).take (Try.prog.cellsOf 3)) = xs[5]? := hf 5 _ rfl
  simp only [c3, c22, c36, List.drop, List.take] at f0 f1 f2 f3 f4 f5
  rw [List.getElem?_eq_getElem (by omega)] at f0 f1 f2 f3 f4 f5
  obtain ⟨n0, e0, _, w0⟩ := DataW.trod_int Try.underlying3 f0
  obtain ⟨n1, e1, _, w1⟩ := DataW.trod_int Try.underlying3 f1
  obtain ⟨n2, e2, _, w2⟩ := DataW.trod_int Try.underlying3 f2
  obtain ⟨v, l, e3, hb⟩ := bytes_arg Try.underlying22 Try.underlying5 (by kernel_rfl) f3 rfl
  obtain ⟨n4, e4, _, w4⟩ := DataW.trod_int Try.underlying36 f4
  obtain ⟨n5, e5, _, w5⟩ := DataW.trod_int Try.underlying3 f5
  cases e0; cases e1; cases e2; cases e3; cases e4; cases e5
  have b4 := bounds_u64 w4
  refine ⟨⟨n0, n1, n2, l, n4.toNat, n5⟩, u3, ?_, hb, bounds_i64 w1, bounds_i64 w2, by simp only; omega⟩
  simp only
  rw [show ((n4.toNat : Nat) : Int) = n4 from by omega]
end
end Go.Proofs.Ytbaohngnpgappaa
