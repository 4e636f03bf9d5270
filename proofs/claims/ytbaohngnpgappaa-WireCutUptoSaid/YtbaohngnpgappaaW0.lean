/- Items as data: what lies in memory for one. -/
import Derived.Test.YtbaohngnpgappaaA2
import Derived.Test.YtbaohngnpgappaaD5
set_option linter.unusedVariables false
set_option linter.unusedSimpArgs false
namespace Go.Proofs.Ytbaohngnpgappaa
open Go.RowKit
inductive It where
  | mk (k n : Int) (s : List UInt8) (l : List It)
namespace It
def k : It → Int | mk a _ _ _ => a
def n : It → Int | mk _ a _ _ => a
def s : It → List UInt8 | mk _ _ a _ => a
def l : It → List It | mk _ _ _ a => a
end It
/-- What is said of each item of a tree is shown from what is said of its lists' items. -/
theorem It.ind {p : It → Prop} (h : ∀ k n s l, (∀ x ∈ l, p x) → p (.mk k n s l)) : ∀ v, p v := by
  intro v
  exact It.rec (motive_1 := p) (motive_2 := fun l => ∀ x ∈ l, p x) (fun k n s l ih => h k n s l ih) (fun x hx => by cases hx) (fun a r ha hr x hx => by
    rcases List.mem_cons.1 hx with rfl | hx
    · exact ha
    · exact hr x hx) v
/-- What any value is in a Go int64 and a Go string. -/
def Fits (k n : Int) (s : List UInt8) : Prop := I64 k ∧ I64 n ∧ s.length ≤ maxLen
def str (s : List UInt8) : Value := .string ⟨s.toArray⟩
mutual
def ItR (w : World) (F : Nat → Prop) : It → List Value → Prop
  | .mk k n s l, cs => ∃ A c, cs = [.int .i64 k, .int .i64 n, str s, .slice A l.length c] ∧ l.length ≤ c ∧ c ≤ maxLen ∧ Fits k n s ∧ ItsR w F A l 0
def ItsR (w : World) (F : Nat → Prop) (A : Option Addr) : List It → Nat → Prop
  | [], _ => True
  | x :: r, j => (∃ b o cs, A = some ⟨b, o, none⟩ ∧ F b ∧ ItR w F x cs ∧ ∀ i u, cs[i]? = some u → w.cell? ⟨b, o + j * 4 + i, none⟩ = some u) ∧ ItsR w F A r (j + 1)
end
theorem itsR_iff {w : World} {F : Nat → Prop} {A : Option Addr} : ∀ {l : List It} {m : Nat}, ItsR w F A l m ↔ ∀ j x, l[j]? = some x → ∃ b o cs, A = some ⟨b, o, none⟩ ∧ F b ∧ ItR w F x cs ∧ ∀ i u, cs[i]? = some u → w.cell? ⟨b, o + (m + j) * 4 + i, none⟩ = some u := by
  intro l
  induction l with
  | nil => intro m; simp [ItsR]
  | cons x r ih =>
    intro m
    rw [ItsR, ih]
    constructor
    · rintro ⟨h1, h2⟩ j y hj
      rcases j with _ | j
      · cases hj; exact h1
      · rw [show m + (j + 1) = m + 1 + j from by omega]
        exact h2 j y hj
    · intro h
      refine ⟨h 0 x rfl, fun j y hj => ?_⟩
      rw [show m + 1 + j = m + (j + 1) from by omega]
      exact h (j + 1) y hj
theorem itR_iff {w : World} {F : Nat → Prop} {k n : Int} {s : List UInt8} {l : List It} {cs : List Value} : ItR w F (.mk k n s l) cs ↔ ∃ A c, cs = [.int .i64 k, .int .i64 n, str s, .slice A l.length c] ∧ l.length ≤ c ∧ c ≤ maxLen ∧ Fits k n s ∧
    ∀ j x, l[j]? = some x → ∃ b o cs, A = some ⟨b, o, none⟩ ∧ F b ∧ ItR w F x cs ∧ ∀ i u, cs[i]? = some u → w.cell? ⟨b, o + j * 4 + i, none⟩ = some u := by
  rw [ItR]
  simp only [itsR_iff, Nat.zero_add]
theorem itR_len {w : World} {F : Nat → Prop} {v : It} {cs : List Value} (h : ItR w F v cs) : cs.length = 4 := by
  obtain ⟨k, n, s, l⟩ := v
  obtain ⟨A, c, rfl, _⟩ := itR_iff.1 h
  rfl
theorem itR_one {w : World} {F : Nat → Prop} {v : It} {cs : List Value} (h : ItR w F v cs) : ∀ u ∈ cs, u.oneCell' = true := by
  obtain ⟨k, n, s, l⟩ := v
  obtain ⟨A, c, rfl, _⟩ := itR_iff.1 h
  intro u hu
  simp [str] at hu
  rcases hu with rfl | rfl | rfl | rfl <;> rfl
theorem itR_mono {w : World} {F F' : Nat → Prop} (hf : ∀ k, F k → F' k) : ∀ (v : It) (cs : List Value), ItR w F v cs → ItR w F' v cs := by
  refine It.ind fun k n s l ih cs h => ?_
  obtain ⟨A, c, rfl, h1, h2, hf2, h3⟩ := itR_iff.1 h
  refine itR_iff.2 ⟨A, c, rfl, h1, h2, hf2, fun j x hj => ?_⟩
  obtain ⟨b, o, cs, hA, hb, hr, hc⟩ := h3 j x hj
  exact ⟨b, o, cs, hA, hf b hb, ih x (List.mem_of_getElem? hj) cs hr, hc⟩
theorem itR_bound {w : World} {F : Nat → Prop} : ∀ (v : It) (cs : List Value), ItR w F v cs → ItR w (fun k => F k ∧ k < w.heap.size) v cs := by
  refine It.ind fun k n s l ih cs h => ?_
  obtain ⟨A, c, rfl, h1, h2, hf2, h3⟩ := itR_iff.1 h
  refine itR_iff.2 ⟨A, c, rfl, h1, h2, hf2, fun j x hj => ?_⟩
  obtain ⟨b, o, cs, hA, hb, hr, hc⟩ := h3 j x hj
  have hl := itR_len hr
  exact ⟨b, o, cs, hA, ⟨hb, World.block_lt_of_cell? w _ (hc 0 _ (List.getElem?_eq_getElem (by omega)))⟩, ih x (List.mem_of_getElem? hj) cs hr, hc⟩
theorem cell_move {w w' : World} {b : Nat} (h : w'.heap[b]? = w.heap[b]?) (i : Nat) : w'.cell? ⟨b, i, none⟩ = w.cell? ⟨b, i, none⟩ := by simp [World.cell?, h]
theorem itR_move {w w' : World} {F : Nat → Prop} (hm : ∀ k, F k → k < w.heap.size → w'.heap[k]? = w.heap[k]?) : ∀ (v : It) (cs : List Value), ItR w F v cs → ItR w' F v cs := by
  refine It.ind fun k n s l ih cs h => ?_
  obtain ⟨A, c, rfl, h1, h2, hf2, h3⟩ := itR_iff.1 h
  refine itR_iff.2 ⟨A, c, rfl, h1, h2, hf2, fun j x hj => ?_⟩
  obtain ⟨b, o, cs, hA, hb, hr, hc⟩ := h3 j x hj
  have hl := itR_len hr
  have hlt := World.block_lt_of_cell? w _ (hc 0 _ (List.getElem?_eq_getElem (by omega)))
  exact ⟨b, o, cs, hA, hb, ih x (List.mem_of_getElem? hj) cs hr, fun i u hu => by rw [cell_move (hm b hb hlt)]; exact hc i u hu⟩
def ItK : Kind It where
  sz := 4
  R := ItR
  len := itR_len
  one := itR_one
  mono := fun hf h => itR_mono hf _ _ h
  bound := fun h => itR_bound _ _ h
  move := fun hm h => itR_move hm _ _ h
theorem itR_row {w : World} {F : Nat → Prop} {k n : Int} {s : List UInt8} {l : List It} {cs : List Value} (h : ItR w F (.mk k n s l) cs) : ∃ vl, cs = [.int .i64 k, .int .i64 n, str s, vl] ∧ Row ItK w F vl l ∧ Fits k n s := by
  obtain ⟨A, c, rfl, h1, h2, hf2, h3⟩ := itR_iff.1 h
  exact ⟨_, rfl, ⟨A, c, rfl, h1, h2, h3⟩, hf2⟩
theorem itR_of_row {w : World} {F : Nat → Prop} {k n : Int} {s : List UInt8} {l : List It} {vl : Value} (h : Row ItK w F vl l) (hf2 : Fits k n s) : ItR w F (.mk k n s l) [.int .i64 k, .int .i64 n, str s, vl] := by
  obtain ⟨A, c, rfl, h1, h2, h3⟩ := h
  exact itR_iff.2 ⟨A, c, rfl, h1, h2, hf2, h3⟩
/-! ### what an item is -/
mutual
def It.size : It → Nat
  | .mk _ _ _ l => 1 + It.sizes l
def It.sizes : List It → Nat
  | [] => 0
  | x :: r => It.size x + It.sizes r
end
mutual
def It.deep : It → Nat
  | .mk _ _ _ l => It.deeps l + 1
def It.deeps : List It → Nat
  | [] => 0
  | x :: r => max (It.deep x) (It.deeps r)
end
def headOk (k n : Int) (s : List UInt8) (l : List It) : Bool := decide (1 ≤ k ∧ k ≤ 3 ∧ (k = 1 ∨ n = 0) ∧ (k = 2 ∨ s = []) ∧ (k = 3 ∨ l = []))
mutual
def It.ok : It → Bool
  | .mk k n s l => headOk k n s l && It.oks l
def It.oks : List It → Bool
  | [] => true
  | x :: r => It.ok x && It.oks r
end
theorem It.sizes_mem {x : It} : ∀ {l : List It}, x ∈ l → x.size ≤ It.sizes l := by
  intro l
  induction l with
  | nil => intro h; cases h
  | cons y r ih =>
    intro h
    rw [It.sizes]
    rcases List.mem_cons.1 h with rfl | h
    · omega
    · have := ih h; omega
theorem It.size_pos (v : It) : 1 ≤ v.size := by cases v; rw [It.size]; omega
theorem It.sizes_app (a b : List It) : It.sizes (a ++ b) = It.sizes a + It.sizes b := by
  induction a with
  | nil => simp [It.sizes]
  | cons x r ih => simp only [List.cons_append, It.sizes, ih]; omega
theorem It.deeps_app (a b : List It) : It.deeps (a ++ b) = max (It.deeps a) (It.deeps b) := by
  induction a with
  | nil => simp [It.deeps]
  | cons x r ih => simp only [List.cons_append, It.deeps, ih]; omega
theorem It.oks_app (a b : List It) : It.oks (a ++ b) = (It.oks a && It.oks b) := by
  induction a with
  | nil => simp [It.oks]
  | cons x r ih => simp only [List.cons_append, It.oks, ih, Bool.and_assoc]
theorem It.deep_size : ∀ v : It, v.deep ≤ v.size := by
  refine It.ind fun k n s l ih => ?_
  rw [It.deep, It.size]
  suffices h : It.deeps l ≤ It.sizes l by omega
  clear k n s
  induction l with
  | nil => exact Nat.le_refl _
  | cons x r ih2 =>
    rw [It.deeps, It.sizes]
    have h1 := ih x List.mem_cons_self
    have h2 := ih2 (fun y hy => ih y (List.mem_cons_of_mem _ hy))
    omega
theorem It.sizes_len : ∀ l : List It, l.length ≤ It.sizes l := by
  intro l
  induction l with
  | nil => exact Nat.le_refl _
  | cons x r ih => rw [It.sizes, List.length_cons]; have := It.size_pos x; omega
/-- An item as one value. -/
def ItV (w : World) (F : Nat → Prop) (v : Value) (x : It) : Prop := ∃ cs, v = .agg cs.toArray ∧ ItR w F x cs
end Go.Proofs.Ytbaohngnpgappaa
