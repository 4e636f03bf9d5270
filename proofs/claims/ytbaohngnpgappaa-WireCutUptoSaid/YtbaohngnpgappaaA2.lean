/- Own words, third part: rows of elements of several cells that are read: a kind says what an element's cells are. -/
import Derived.Test.YtbaohngnpgappaaA1
set_option linter.unusedVariables false
set_option linter.unusedSimpArgs false
namespace Go.Proofs.Ytbaohngnpgappaa
open Go.RowKit
/-- What an element's cells say; F: the blocks that it leads to lie in F. -/
structure Kind (α : Type) where
  sz : Nat
  R : World → (Nat → Prop) → α → List Value → Prop
  len : ∀ {w F x cs}, R w F x cs → cs.length = sz
  one : ∀ {w F x cs}, R w F x cs → ∀ u ∈ cs, u.oneCell' = true
  mono : ∀ {w} {F F' : Nat → Prop} {x cs}, (∀ k, F k → F' k) → R w F x cs → R w F' x cs
  bound : ∀ {w : World} {F x cs}, R w F x cs → R w (fun k => F k ∧ k < w.heap.size) x cs
  move : ∀ {w w' : World} {F : Nat → Prop} {x cs}, (∀ k, F k → k < w.heap.size → w'.heap[k]? = w.heap[k]?) → R w F x cs → R w' F x cs
/-- A row of elements that is read. -/
def Row {α : Type} (K : Kind α) (w : World) (F : Nat → Prop) (v : Value) (xs : List α) : Prop :=
  ∃ A c, v = .slice A xs.length c ∧ xs.length ≤ c ∧ c ≤ maxLen ∧ ∀ j x, xs[j]? = some x → ∃ b o cs, A = some ⟨b, o, none⟩ ∧ F b ∧ K.R w F x cs ∧ ∀ i u, cs[i]? = some u → w.cell? ⟨b, o + j * K.sz + i, none⟩ = some u
section
variable {α : Type} {K : Kind α} {w w' : World} {F F' : Nat → Prop} {v : Value} {xs : List α}
theorem Row.nil (K : Kind α) (w : World) (F : Nat → Prop) (A : Option Addr) (c : Nat) (hc : c ≤ maxLen) : Row K w F (.slice A 0 c) [] := ⟨A, c, rfl, Nat.zero_le _, hc, fun j x h => by simp at h⟩
theorem Row.mono (h : Row K w F v xs) (hf : ∀ k, F k → F' k) : Row K w F' v xs := by
  obtain ⟨A, c, hv, h1, h2, h3⟩ := h
  exact ⟨A, c, hv, h1, h2, fun j x hj => by obtain ⟨b, o, cs, e, hb, hr, hc⟩ := h3 j x hj; exact ⟨b, o, cs, e, hf b hb, K.mono hf hr, hc⟩⟩
theorem cell_lt {w : World} {b o : Nat} {u : Value} (h : w.cell? ⟨b, o, none⟩ = some u) : b < w.heap.size := World.block_lt_of_cell? w _ h
/-- Element j: where it lies, its cells. -/
theorem Row.at_ (h : Row K w F v xs) (j : Nat) (hj : j < xs.length) : ∃ b o c cs, v = .slice (some ⟨b, o, none⟩) xs.length c ∧ xs.length ≤ c ∧ c ≤ maxLen ∧ F b ∧ K.R w F xs[j] cs ∧ ∀ i u, cs[i]? = some u → w.cell? ⟨b, o + j * K.sz + i, none⟩ = some u := by
  obtain ⟨A, c, hv, h1, h2, h3⟩ := h
  obtain ⟨b, o, cs, e, hb, hr, hc⟩ := h3 j _ (List.getElem?_eq_getElem hj)
  exact ⟨b, o, c, cs, by rw [hv, e], h1, h2, hb, hr, hc⟩
theorem Row.shape (h : Row K w F v xs) : ∃ A c, v = .slice A xs.length c ∧ xs.length ≤ c ∧ c ≤ maxLen := by
  obtain ⟨A, c, hv, h1, h2, _⟩ := h
  exact ⟨A, c, hv, h1, h2⟩
theorem Row.move (hK : 0 < K.sz) (h : Row K w F v xs) (hm : ∀ k, F k → k < w.heap.size → w'.heap[k]? = w.heap[k]?) : Row K w' F v xs := by
  obtain ⟨A, c, hv, h1, h2, h3⟩ := h
  refine ⟨A, c, hv, h1, h2, fun j x hj => ?_⟩
  obtain ⟨b, o, cs, e, hb, hr, hc⟩ := h3 j x hj
  exact ⟨b, o, cs, e, hb, K.move hm hr, fun i u hu => (World.cell?_of_block (hm b hb (cell_lt (hc i u hu)))).trans (hc i u hu)⟩
theorem Row.fr (hK : 0 < K.sz) {S : Nat → Prop} (h : Row K w F v xs) (hf : Fr S w w') (hs : ∀ k, k < w.heap.size → F k → ¬ S k) : Row K w' F v xs := h.move hK fun k hk hl => hf.block k hl (hs k hl hk)
theorem Row.bound (hK : 0 < K.sz) (h : Row K w F v xs) : Row K w (fun k => F k ∧ k < w.heap.size) v xs := by
  obtain ⟨A, c, hv, h1, h2, h3⟩ := h
  refine ⟨A, c, hv, h1, h2, fun j x hj => ?_⟩
  obtain ⟨b, o, cs, e, hb, hr, hc⟩ := h3 j x hj
  have hl : 0 < cs.length := by rw [K.len hr]; exact hK
  exact ⟨b, o, cs, e, ⟨hb, cell_lt (hc 0 _ (List.getElem?_eq_getElem hl))⟩, K.bound hr, hc⟩
/-- The cells of the elements, one behind the other: for 'append'. -/
theorem Row.news (h : Row K w F v xs) : ∃ (A : Option Addr) (c : Nat) (news : List Value), v = .slice A xs.length c ∧ xs.length ≤ c ∧ c ≤ maxLen ∧ news.length = xs.length * K.sz ∧ (∀ u ∈ news, u.oneCell' = true) ∧ (∀ j u, news[j]? = some u → ∃ ad, A = some ad ∧ w.cell? (ad.add j) = some u) ∧
    ∀ j x, xs[j]? = some x → ∃ cs, K.R w F x cs ∧ ∀ i u, cs[i]? = some u → news[j * K.sz + i]? = some u := by
  obtain ⟨A, c, hv, h1, h2, h3⟩ := h
  suffices H : ∀ n, n ≤ xs.length → ∃ news : List Value, news.length = n * K.sz ∧ (∀ u ∈ news, u.oneCell' = true) ∧ (∀ j u, news[j]? = some u → ∃ ad, A = some ad ∧ w.cell? (ad.add j) = some u) ∧
      ∀ j x, j < n → xs[j]? = some x → ∃ cs, K.R w F x cs ∧ ∀ i u, cs[i]? = some u → news[j * K.sz + i]? = some u by
    obtain ⟨news, e1, e2, e3, e4⟩ := H xs.length (Nat.le_refl _)
    exact ⟨A, c, news, hv, h1, h2, e1, e2, e3, fun j x hj => e4 j x (List.getElem?_eq_some_iff.1 hj).1 hj⟩
  intro n
  induction n with
  | zero => exact fun _ => ⟨[], by simp, by simp, by simp, fun j x hj => by omega⟩
  | succ n ih =>
    intro hn
    obtain ⟨news, e1, e2, e3, e4⟩ := ih (by omega)
    obtain ⟨b, o, cs, e, hb, hr, hc⟩ := h3 n _ (List.getElem?_eq_getElem (by omega))
    have hl := K.len hr
    refine ⟨news ++ cs, by rw [List.length_append, e1, hl, Nat.succ_mul], ?_, ?_, ?_⟩
    · intro u hu
      rcases List.mem_append.1 hu with hu | hu
      · exact e2 u hu
      · exact K.one hr u hu
    · intro j u hj
      rcases Nat.lt_or_ge j news.length with h | h
      · rw [List.getElem?_append_left h] at hj; exact e3 j u hj
      · rw [List.getElem?_append_right h] at hj
        refine ⟨_, e, ?_⟩
        rw [add_none]
        have := hc _ u hj
        rw [show o + j = o + n * K.sz + (j - news.length) from by omega]
        exact this
    · intro j x hj hx
      rcases Nat.lt_or_ge j n with h | h
      · obtain ⟨cs', hr', hc'⟩ := e4 j x h hx
        refine ⟨cs', hr', fun i u hu => ?_⟩
        have h5 := hc' i u hu
        rw [List.getElem?_append_left (List.getElem?_eq_some_iff.1 h5).1]
        exact h5
      · have hjn : j = n := by omega
        subst hjn
        rw [List.getElem?_eq_getElem (by omega)] at hx
        cases hx
        refine ⟨cs, hr, fun i u hu => ?_⟩
        rw [List.getElem?_append_right (by omega), e1, Nat.add_sub_cancel_left]
        exact hu
end
/-- Rows of one's own whose elements' cells are told by a kind. -/
def OwK {α : Type} (K : Kind α) (e : TypeId) (w : World) (O F : Nat → Prop) (v : Value) (xs : List α) : Prop :=
  ∃ cells, Ow w O e K.sz v xs.length cells ∧ ∀ j x, xs[j]? = some x → ∃ cs, K.R w F x cs ∧ ∀ i u, cs[i]? = some u → cells[j * K.sz + i]? = some u
section
variable {α : Type} {K : Kind α} {e : TypeId} {w w' : World} {O O' F F' : Nat → Prop} {v : Value} {xs : List α}
theorem OwK.nil (K : Kind α) (e : TypeId) (w : World) (O F : Nat → Prop) : OwK K e w O F (.slice none 0 0) [] := ⟨[], Ow.nil _ _ _ _, fun j x h => by simp at h⟩
theorem OwK.mono (h : OwK K e w O F v xs) (ho : ∀ k, O k → O' k) (hf : ∀ k, F k → F' k) : OwK K e w O' F' v xs := by
  obtain ⟨cells, h1, h2⟩ := h
  exact ⟨cells, h1.mono ho, fun j x hj => by obtain ⟨cs, hr, hc⟩ := h2 j x hj; exact ⟨cs, K.mono hf hr, hc⟩⟩
theorem OwK.fr {S : Nat → Prop} (h : OwK K e w O F v xs) (hf : Fr S w w') (hs : ∀ k, k < w.heap.size → O k ∨ F k → ¬ S k) : OwK K e w' O F v xs := by
  obtain ⟨cells, h1, h2⟩ := h
  exact ⟨cells, h1.fr hf (fun k hk ho => hs k hk (.inl ho)), fun j x hj => by obtain ⟨cs, hr, hc⟩ := h2 j x hj; exact ⟨cs, K.move (fun k hk hl => hf.block k hl (hs k hl (.inr hk))) hr, hc⟩⟩
theorem OwK.shape (h : OwK K e w O F v xs) : ∃ A c, v = .slice A xs.length c ∧ xs.length ≤ c ∧ c ≤ maxLen := by
  obtain ⟨cells, h1, _⟩ := h
  exact h1.shape
theorem OwK.reads (h : OwK K e w O F v xs) : Row K w (fun k => O k ∨ F k) v xs := by
  obtain ⟨cells, h1, h2⟩ := h
  obtain ⟨A, c, hv, h3, h4, h5⟩ := h1.cells
  refine ⟨A, c, hv, h3, h4, fun j x hj => ?_⟩
  obtain ⟨cs, hr, hc⟩ := h2 j x hj
  rcases Nat.eq_zero_or_pos cs.length with h0 | hp
  · have hl : j < xs.length := (List.getElem?_eq_some_iff.1 hj).1
    obtain ⟨g, c', cur, he, hO, _⟩ := h1.form (by omega)
    rw [hv] at he
    injection he with he
    exact ⟨g, 0, cs, he, .inl hO, K.mono (fun _ h => .inr h) hr, fun i u hu => by rw [List.eq_nil_of_length_eq_zero h0] at hu; simp at hu⟩
  · obtain ⟨g, hA, hO, _, _⟩ := h5 _ _ (hc 0 _ (List.getElem?_eq_getElem hp))
    refine ⟨g, 0, cs, hA, .inl hO, K.mono (fun _ h => .inr h) hr, fun i u hu => ?_⟩
    obtain ⟨g', hA', _, hcell, _⟩ := h5 _ _ (hc i u hu)
    rw [hA] at hA'
    cases hA'
    rw [Nat.zero_add]
    exact hcell
/-- One element more. -/
theorem OwK.snoc {w1 : World} {v1 : Value} {cells cs : List Value} {x : α} (hl : cells.length = xs.length * K.sz) (h2 : ∀ j x, xs[j]? = some x → ∃ cs, K.R w1 F x cs ∧ ∀ i u, cs[i]? = some u → cells[j * K.sz + i]? = some u)
    (hown : Ow w1 O e K.sz v1 (xs.length + 1) (cells ++ cs)) (hr : K.R w1 F x cs) : OwK K e w1 O F v1 (xs ++ [x]) := by
  refine ⟨cells ++ cs, by simpa using hown, fun j y hj => ?_⟩
  rcases Nat.lt_or_ge j xs.length with h | h
  · rw [List.getElem?_append_left h] at hj
    obtain ⟨cs', hr', hc'⟩ := h2 j y hj
    refine ⟨cs', hr', fun i u hu => ?_⟩
    have h5 := hc' i u hu
    rw [List.getElem?_append_left (List.getElem?_eq_some_iff.1 h5).1]
    exact h5
  · have hjn : j = xs.length := by
      have := (List.getElem?_eq_some_iff.1 hj).1
      simp at this
      omega
    subst hjn
    rw [List.getElem?_append_right (Nat.le_refl _), Nat.sub_self] at hj
    cases hj
    refine ⟨cs, hr, fun i u hu => ?_⟩
    rw [List.getElem?_append_right (by omega), hl, Nat.add_sub_cancel_left]
    exact hu
end
/-- One cell by an encoding. -/
def Kind.scalar {α : Type} (enc : α → Value) (h1 : ∀ x, (enc x).oneCell' = true) : Kind α where
  sz := 1
  R := fun _ _ x cs => cs = [enc x]
  len := fun h => by rw [h]; rfl
  one := fun h u hu => by rw [h] at hu; rw [List.mem_singleton.1 hu]; exact h1 _
  mono := fun _ h => h
  bound := fun h => h
  move := fun _ h => h
end Go.Proofs.Ytbaohngnpgappaa
