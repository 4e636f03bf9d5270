/- Arguments as data, opened: items, and rows of them. -/
import Derived.Test.YtbaohngnpgappaaR1
import Derived.Test.YtbaohngnpgappaaW0
import Derived.Deep.Slices
import Derived.ChangeArms
set_option linter.unusedVariables false
set_option linter.unusedSimpArgs false
namespace Go.Proofs.Ytbaohngnpgappaa
open Go.ChangeShapes Go.WideShapes Go.ChangeAt Go.RowKit
section
variable {H : Type} {enc : TypeId × Value → H} {W : World} {spare : Nat → Bool} {held : Bool}
/-- As 'Opens', for readings of less fuel. -/
def OpensTo {α : Type} (enc : TypeId × Value → H) (W : World) (spare : Nat → Bool) (held : Bool) (K : Kind α) (e : TypeId) (N : Nat) : Prop :=
  ∀ (fuel : Nat) (cs : List Value) (x : DataW H × List MemPlace), fuel < N → DataW.trod enc Try.prog W 0 spare held fuel e cs = some x → ∃ a, K.R W (fun k => k < W.heap.size) a cs
theorem row_arg_to {α : Type} {K : Kind α} {t e : TypeId} {fuel : Nat} {cs : List Value} {x : DataW H × List MemPlace} (ht : Try.prog.underlying t = some (.slice e)) (hsz : Try.prog.cellsOf e = K.sz) (hK : 0 < K.sz) (ho : OpensTo enc W spare held K e fuel)
    (h : DataW.trod enc Try.prog W 0 spare held fuel t cs = some x) : ∃ v l, cs = [v] ∧ Row K W (fun k => k < W.heap.size) v l := by
  rcases DataW.trod_slice ht h with ⟨rfl, _⟩ | ⟨a, len, cap, elems, rest, n, hn, rfl, _, _, h1, h2, hlen, hel, _, _⟩
  · exact ⟨_, [], rfl, Row.nil _ _ _ _ _ (Nat.zero_le _)⟩
  · have key : ∀ j, j < len → ∃ x cs', K.R W (fun k => k < W.heap.size) x cs' ∧ ∀ i u, cs'[i]? = some u → W.cell? ((a.add (j * K.sz)).add i) = some u := by
      intro j hj
      have hk := hel j hj
      rw [List.getElem?_eq_getElem (by omega)] at hk
      obtain ⟨cs', h3, h4⟩ := Option.bind_eq_some_iff.1 hk
      obtain ⟨y, hy⟩ := ho _ _ _ (by omega) h4
      rw [hsz] at h3
      exact ⟨y, cs', hy, (cells_at h3).2⟩
    suffices hs : ∀ k, k ≤ len → ∃ l : List α, l.length = k ∧ ∀ j x, l[j]? = some x → ∃ cs', K.R W (fun k => k < W.heap.size) x cs' ∧ ∀ i u, cs'[i]? = some u → W.cell? ((a.add (j * K.sz)).add i) = some u by
      obtain ⟨l, hl, hx⟩ := hs len (Nat.le_refl _)
      refine ⟨_, l, rfl, some a, cap, by rw [hl], by omega, h2, fun j y hj => ?_⟩
      have hj2 := (List.getElem?_eq_some_iff.1 hj).1
      obtain ⟨y0, hy0⟩ : ∃ y0, l[0]? = some y0 := ⟨_, List.getElem?_eq_getElem (by omega)⟩
      obtain ⟨cs0, hr0, hc0⟩ := hx 0 y0 hy0
      have hl0 := K.len hr0
      have hc00 := hc0 0 _ (List.getElem?_eq_getElem (by omega))
      rw [Nat.zero_mul, Deep.add_add, Nat.zero_add] at hc00
      obtain ⟨b, o, rfl⟩ := addr_plain hc00
      obtain ⟨cs', hr, hc⟩ := hx j y hj
      refine ⟨b, o, cs', rfl, ?_, hr, fun i u hu => ?_⟩
      · rw [add_none] at hc00
        exact World.block_lt_of_cell? W _ hc00
      · have := hc i u hu
        rw [Deep.add_add, add_none] at this
        rw [Nat.add_assoc]
        exact this
    intro k
    induction k with
    | zero => intro _; exact ⟨[], rfl, fun j x h => by simp at h⟩
    | succ k ih =>
      intro hk
      obtain ⟨l, hl, hx⟩ := ih (by omega)
      obtain ⟨y, cs', hr, hc⟩ := key k (by omega)
      refine ⟨l ++ [y], by rw [List.length_append, hl]; rfl, fun j z hj => ?_⟩
      rcases Nat.lt_or_ge j k with h3 | h3
      · rw [List.getElem?_append_left (by omega)] at hj
        exact hx j z hj
      · have : j = k := by have := (List.getElem?_eq_some_iff.1 hj).1; simp at this; omega
        subst this
        rw [List.getElem?_append_right (by omega), hl, Nat.sub_self] at hj
        cases hj
        exact ⟨cs', hr, hc⟩
theorem four {cs : List Value} (h : cs.length = 4) : ∃ u0 u1 u2 u3, cs = [u0, u1, u2, u3] := by
  rcases cs with _ | ⟨a, _ | ⟨b, _ | ⟨c, _ | ⟨d, _ | ⟨e, r⟩⟩⟩⟩⟩ <;> simp at h
  exact ⟨_, _, _, _, rfl⟩
theorem opens_item : ∀ N, OpensTo enc W spare held ItK 48 N := by
  intro N
  induction N with
  | zero => intro fuel cs x hf; omega
  | succ N ih =>
    intro fuel cs x hf h
    obtain ⟨xs, n, hn, _, hl, hxl, hf'⟩ := DataW.trod_struct Try.underlying48 h
    rw [show Try.prog.cellsOf 48 = 4 from by kernel_rfl] at hl
    replace hxl : xs.length = 4 := hxl
    have c3 : Try.prog.cellsOf 3 = 1 := by kernel_rfl
    have c2 : Try.prog.cellsOf 2 = 1 := by kernel_rfl
    have c9 : Try.prog.cellsOf 9 = 1 := by kernel_rfl
    have c46 : Try.prog.cellsOf 46 = 1 := by kernel_rfl
    obtain ⟨u0, u1, u2, u3, rfl⟩ := four hl
    have f0 : DataW.trod enc Try.prog W 0 spare held n 3 (([u0, u1, u2, u3].drop 0).take (Try.prog.cellsOf 3)) = xs[0]? := hf' 0 _ rfl
    have f1 : DataW.trod enc Try.prog W 0 spare held n 2 (([u0, u1, u2, u3].drop 1).take (Try.prog.cellsOf 2)) = xs[1]? := hf' 1 _ rfl
    have f2 : DataW.trod enc Try.prog W 0 spare held n 9 (([u0, u1, u2, u3].drop 2).take (Try.prog.cellsOf 9)) = xs[2]? := hf' 2 _ rfl
    have f3 : DataW.trod enc Try.prog W 0 spare held n 46 (([u0, u1, u2, u3].drop 3).take (Try.prog.cellsOf 46)) = xs[3]? := hf' 3 _ rfl
    simp only [c3, c2, c9, c46, List.drop, List.take] at f0 f1 f2 f3
    rw [List.getElem?_eq_getElem (by omega)] at f0 f1 f2 f3
    obtain ⟨n0, e0, _, w0⟩ := DataW.trod_int Try.underlying3 f0
    obtain ⟨n1, e1, _, w1⟩ := DataW.trod_int Try.underlying2 f1
    obtain ⟨s, e2, _, w2⟩ := DataW.trod_string Try.underlying9 f2
    obtain ⟨v, l, e3, hr⟩ := row_arg_to (K := ItK) Try.underlying46 (by kernel_rfl) (by decide) (fun fu cs x hfu => ih fu cs x (by omega)) f3
    cases e0; cases e1; cases e2; cases e3
    refine ⟨.mk n0 n1 s.data.toList l, ?_⟩
    have hs : str s.data.toList = .string s := by unfold str; simp
    rw [← hs]
    exact itR_of_row hr ⟨bounds_i64 w0, bounds_i64 w1, by simpa using w2⟩
theorem items_arg {fuel : Nat} {cs : List Value} {x : DataW H × List MemPlace} (h : DataW.trod enc Try.prog W 0 spare held fuel 46 cs = some x) : ∃ v l, cs = [v] ∧ Row ItK W (fun k => k < W.heap.size) v l :=
  row_arg_to (K := ItK) Try.underlying46 (by kernel_rfl) (by decide) (opens_item _) h
theorem item_arg {fuel : Nat} {cs : List Value} {x : DataW H × List MemPlace} (h : DataW.trod enc Try.prog W 0 spare held fuel 48 cs = some x) : ∃ a, ItR W (fun k => k < W.heap.size) a cs :=
  opens_item (fuel + 1) _ _ _ (by omega) h
end
end Go.Proofs.Ytbaohngnpgappaa
