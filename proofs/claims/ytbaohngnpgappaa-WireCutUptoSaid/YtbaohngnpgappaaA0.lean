/- Own words for this seat: frames (which blocks a call may turn), rows that are read, rows of the call's own; what append, copy, slicing and make come to over them. Plain definitions and theorems. -/
import Derived.WalkKit
import Derived.Laws.CopyOwn
import Derived.Laws.IdiomCopy
import Derived.Maps.AppendAt
import Derived.Deep.AppendLies
import Derived.Deep.RegionHeld3
import Derived.Deep.QuietTactic
import Derived.BigQuiet
import Derived.Deep.OwnRows
import Derived.Lib.ConvBytes
import Derived.Lib.Hide
import Derived.Deep.Draws
import Derived.KernelRfl
set_option linter.unusedVariables false
set_option linter.unusedSimpArgs false
namespace Go.Proofs.Ytbaohngnpgappaa
open Go.RowKit

/-! ### frames -/
/-- Only blocks of S may have turned; the rest of the world is as it was. -/
structure Fr (S : Nat → Prop) (w w' : World) : Prop where
  os : w'.os = w.os
  tape : w'.tape = w.tape
  output : w'.output = w.output
  size : w.heap.size ≤ w'.heap.size
  block : ∀ k, k < w.heap.size → ¬ S k → w'.heap[k]? = w.heap[k]?
def No : Nat → Prop := fun _ => False
theorem Fr.refl (S : Nat → Prop) (w : World) : Fr S w w := ⟨rfl, rfl, rfl, Nat.le_refl _, fun _ _ _ => rfl⟩
theorem Fr.mono {S T : Nat → Prop} {w w' : World} (h : Fr S w w') (hs : ∀ k, k < w.heap.size → S k → T k) : Fr T w w' :=
  ⟨h.os, h.tape, h.output, h.size, fun k hk hn => h.block k hk fun hS => hn (hs k hk hS)⟩
/-- Two steps. -/
theorem Fr.trans {S T U : Nat → Prop} {a b c : World} (h : Fr S a b) (k : Fr T b c) (hs : ∀ i, i < a.heap.size → S i → U i) (ht : ∀ i, i < a.heap.size → T i → U i) : Fr U a c :=
  ⟨k.os.trans h.os, k.tape.trans h.tape, k.output.trans h.output, Nat.le_trans h.size k.size, fun i hi hn =>
    (k.block i (Nat.lt_of_lt_of_le hi h.size) fun hT => hn (ht i hi hT)).trans (h.block i hi fun hS => hn (hs i hi hS))⟩
theorem Fr.then {S : Nat → Prop} {a b c : World} (h : Fr S a b) (k : Fr S b c) : Fr S a c := h.trans k (fun _ _ h => h) (fun _ _ h => h)
theorem Fr.ofBelow {S : Nat → Prop} {w w' : World} (h : Below w.heap.size w w') : Fr S w w' := ⟨h.os, h.tape, h.output, h.size, fun k hk _ => h.block k hk⟩
theorem Fr.toBelow {S : Nat → Prop} {w w' : World} (h : Fr S w w') (hs : ∀ k, k < w.heap.size → ¬ S k) : Below w.heap.size w w' := ⟨h.os, h.tape, h.output, h.size, fun k hk => h.block k hk (hs k hk)⟩
theorem Fr.alloc {S : Nat → Prop} {a w : World} (h : Fr S a w) (o : Obj) : Fr S a (w.alloc o) :=
  h.then ⟨rfl, rfl, rfl, by simp, fun k hk _ => Below.heap_alloc _ _ _ hk⟩
theorem Fr.drew {S : Nat → Prop} {a w : World} (h : Fr S a w) : Fr S a w.drew := ⟨h.os, h.tape, h.output, h.size, h.block⟩
theorem Fr.drewN {S : Nat → Prop} {a w : World} (h : Fr S a w) (n : Nat) : Fr S a (w.drewN n) := ⟨h.os, h.tape, h.output, h.size, h.block⟩
theorem Fr.setCell {S : Nat → Prop} {a w : World} (h : Fr S a w) (p : Addr) (u : Value) (hp : p.block < a.heap.size → S p.block) : Fr S a (w.setCell p u) :=
  ⟨h.os, h.tape, h.output, by simpa [World.setCell] using h.size, fun k hk hn => by
    rw [Below.heap_setCell _ _ _ _ (fun e => by subst e; exact hn (hp hk))]; exact h.block k hk hn⟩
theorem Fr.grown {S : Nat → Prop} {w w' : World} {row : Option Nat} (hg : w.grownBy w' row) (hr : ∀ k, row = some k → S k) : Fr S w w' :=
  ⟨hg.os, hg.tape, hg.output, hg.size, fun k hk hn => hg.block k hk fun e => hn (hr k e.symm)⟩
theorem Fr.cell {S : Nat → Prop} {w w' : World} (h : Fr S w w') {a : Addr} {v : Value} (hc : w.cell? a = some v) (hn : ¬ S a.block) : w'.cell? a = some v :=
  (World.cell?_of_block (h.block a.block (World.block_lt_of_cell? w a hc) hn)).trans hc
theorem Fr.heap {S : Nat → Prop} {w w' : World} (h : Fr S w w') {k : Nat} {o : Obj} (hc : w.heap[k]? = some o) (hn : ¬ S k) : w'.heap[k]? = some o :=
  (h.block k (Array.getElem?_eq_some_iff.1 hc).1 hn).trans hc
theorem heap_lt {w : World} {k : Nat} {o : Obj} (hc : w.heap[k]? = some o) : k < w.heap.size := (Array.getElem?_eq_some_iff.1 hc).1

/-! ### blocks -/
theorem blk_cell {w : World} {b : Nat} {cs : Array Value} {t : TypeId} {fr : Nat × Nat} (h : w.heap[b]? = some (.cells cs t fr)) (i : Nat) : w.cell? ⟨b, i, none⟩ = cs[i]? := by simp [World.cell?, h]
theorem blk_free {w : World} {b : Nat} {cs : Array Value} {t : TypeId} (h : w.heap[b]? = some (.cells cs t (0, 0))) (i : Nat) : w.frozen? ⟨b, i, none⟩ = false := by simp [World.frozen?, h]
theorem blk_set {w : World} {b : Nat} {cs : Array Value} {t : TypeId} {fr : Nat × Nat} (h : w.heap[b]? = some (.cells cs t fr)) (i : Nat) (v : Value) : (w.setCell ⟨b, i, none⟩ v).heap[b]? = some (.cells (cs.setIfInBounds i v) t fr) := by
  simp [World.setCell, Array.getElem?_modify, h]
theorem blk_new (w : World) (o : Obj) : (w.alloc o).heap[w.heap.size]? = some o := heap_alloc_new w o
theorem blk_new' {w : World} {o : Obj} {n : Nat} (h : n = w.heap.size) : (w.alloc o).heap[n]? = some o := by subst h; exact blk_new w o
theorem blk_drew {w : World} {b : Nat} {o : Obj} (h : w.heap[b]? = some o) : w.drew.heap[b]? = some o := h
theorem blk_drewN {w : World} {b : Nat} {o : Obj} (h : w.heap[b]? = some o) (n : Nat) : (w.drewN n).heap[b]? = some o := h
theorem blk_alloc {w : World} {b : Nat} {o : Obj} (h : w.heap[b]? = some o) (o' : Obj) : (w.alloc o').heap[b]? = some o := by
  rw [Below.heap_alloc _ _ _ (heap_lt h)]; exact h
theorem blk_far {w : World} {b : Nat} {o : Obj} (h : w.heap[b]? = some o) {p : Addr} (hp : b ≠ p.block) (v : Value) : (w.setCell p v).heap[b]? = some o := by
  rw [Below.heap_setCell _ _ _ _ hp]; exact h
theorem cell_alloc {w : World} {a : Addr} {v : Value} (h : w.cell? a = some v) (o : Obj) : (w.alloc o).cell? a = some v :=
  (World.cell?_of_block (Below.heap_alloc _ _ _ (World.block_lt_of_cell? w a h))).trans h
theorem add_none (b o j : Nat) : (⟨b, o, none⟩ : Addr).add j = ⟨b, o + j, none⟩ := by unfold Addr.add; split <;> simp_all

/-! ### rows of one-cell elements that are read; F: where they lie, if there are any -/
def Rds {α : Type} (enc : α → Value) (w : World) (F : Nat → Prop) (v : Value) (xs : List α) : Prop :=
  ∃ A c, v = .slice A xs.length c ∧ xs.length ≤ c ∧ c ≤ maxLen ∧ ∀ j x, xs[j]? = some x → ∃ b o, A = some ⟨b, o, none⟩ ∧ F b ∧ w.cell? ⟨b, o + j, none⟩ = some (enc x)
def enc8 (b : UInt8) : Value := .int .u8 (b.toNat : Int)
theorem one8 (l : List UInt8) : ∀ u ∈ l.map enc8, u.oneCell' = true := by
  intro u hu
  obtain ⟨x, _, rfl⟩ := List.mem_map.1 hu
  rfl
/-- A slice of bytes that is read. -/
abbrev Rb (w : World) (F : Nat → Prop) (v : Value) (l : List UInt8) : Prop := Rds enc8 w F v l
section
variable {α : Type} {enc : α → Value} {w w' : World} {F F' : Nat → Prop} {v : Value} {xs : List α}
theorem Rds.nil (enc : α → Value) (w : World) (F : Nat → Prop) (A : Option Addr) (c : Nat) (hc : c ≤ maxLen) : Rds enc w F (.slice A 0 c) [] := ⟨A, c, rfl, Nat.zero_le _, hc, fun j x h => by simp at h⟩
theorem Rds.mono (h : Rds enc w F v xs) (hf : ∀ k, F k → F' k) : Rds enc w F' v xs := by
  obtain ⟨A, c, hv, h1, h2, h3⟩ := h
  exact ⟨A, c, hv, h1, h2, fun j x hj => by obtain ⟨b, o, e, hb, hc⟩ := h3 j x hj; exact ⟨b, o, e, hf b hb, hc⟩⟩
theorem Rds.bound (h : Rds enc w F v xs) : Rds enc w (fun k => F k ∧ k < w.heap.size) v xs := by
  obtain ⟨A, c, hv, h1, h2, h3⟩ := h
  exact ⟨A, c, hv, h1, h2, fun j x hj => by obtain ⟨b, o, e, hb, hc⟩ := h3 j x hj; exact ⟨b, o, e, ⟨hb, World.block_lt_of_cell? w _ hc⟩, hc⟩⟩
theorem Rds.move (h : Rds enc w F v xs) (hm : ∀ k, F k → k < w.heap.size → w'.heap[k]? = w.heap[k]?) : Rds enc w' F v xs := by
  obtain ⟨A, c, hv, h1, h2, h3⟩ := h
  exact ⟨A, c, hv, h1, h2, fun j x hj => by
    obtain ⟨b, o, e, hb, hc⟩ := h3 j x hj
    exact ⟨b, o, e, hb, (World.cell?_of_block (hm b hb (World.block_lt_of_cell? w _ hc))).trans hc⟩⟩
theorem Rds.fr {S : Nat → Prop} (h : Rds enc w F v xs) (hf : Fr S w w') (hs : ∀ k, k < w.heap.size → F k → ¬ S k) : Rds enc w' F v xs := h.move fun k hk hl => hf.block k hl (hs k hl hk)
theorem Rds.take_ (h : Rds enc w F v xs) (n : Nat) (hn : n ≤ xs.length) : ∃ A c, v = .slice A xs.length c ∧ xs.length ≤ c ∧ c ≤ maxLen ∧ Rds enc w F (.slice A n c) (xs.take n) := by
  obtain ⟨A, c, hv, h1, h2, h3⟩ := h
  refine ⟨A, c, hv, h1, h2, A, c, by rw [List.length_take, Nat.min_eq_left hn], by rw [List.length_take]; omega, h2, fun j x hj => ?_⟩
  rw [List.getElem?_take] at hj
  split at hj
  · exact h3 j x hj
  · cases hj
/-- The cells from m on, the address as a letter. -/
theorem Rds.drop_ (h : Rds enc w F v xs) (m : Nat) (hm : m ≤ xs.length) : ∃ A c, v = .slice A xs.length c ∧ xs.length ≤ c ∧ c ≤ maxLen ∧ Rds enc w F (.slice (if c = m then A else A.map (·.add m)) (xs.length - m) (c - m)) (xs.drop m) := by
  obtain ⟨A, c, hv, h1, h2, h3⟩ := h
  refine ⟨A, c, hv, h1, h2, _, _, by rw [List.length_drop], by rw [List.length_drop]; omega, by omega, fun j x hj => ?_⟩
  rw [List.getElem?_drop] at hj
  obtain ⟨b, o, e, hb, hc⟩ := h3 _ x hj
  have hlt : m + j < xs.length := (List.getElem?_eq_some_iff.1 hj).1
  rw [if_neg (by omega), e]
  exact ⟨b, o + m, by simp [add_none], hb, by rw [Nat.add_assoc]; exact hc⟩
theorem Rds.news (h : Rds enc w F v xs) : ∃ A c, v = .slice A xs.length c ∧ xs.length ≤ c ∧ c ≤ maxLen ∧ ∀ j u, (xs.map enc)[j]? = some u → ∃ ad, A = some ad ∧ w.cell? (ad.add j) = some u := by
  obtain ⟨A, c, hv, h1, h2, h3⟩ := h
  refine ⟨A, c, hv, h1, h2, fun j u hj => ?_⟩
  rw [List.getElem?_map] at hj
  obtain ⟨x, hx, rfl⟩ := Option.map_eq_some_iff.1 hj
  obtain ⟨b, o, e, _, hc⟩ := h3 j x hx
  exact ⟨_, e, by rw [add_none]; exact hc⟩
/-- Element i. -/
theorem Rds.at_ (h : Rds enc w F v xs) (i : Nat) (hi : i < xs.length) : ∃ b o c, v = .slice (some ⟨b, o, none⟩) xs.length c ∧ xs.length ≤ c ∧ c ≤ maxLen ∧ F b ∧ w.cell? ⟨b, o + i, none⟩ = some (enc xs[i]) := by
  obtain ⟨A, c, hv, h1, h2, h3⟩ := h
  obtain ⟨b, o, e, hb, hc⟩ := h3 i _ (List.getElem?_eq_getElem hi)
  exact ⟨b, o, c, by rw [hv, e], h1, h2, hb, hc⟩
/-- All of it, where there is something. -/
theorem Rds.all_ (h : Rds enc w F v xs) (hp : 0 < xs.length) : ∃ b o c, v = .slice (some ⟨b, o, none⟩) xs.length c ∧ xs.length ≤ c ∧ c ≤ maxLen ∧ F b ∧ ∀ i (hi : i < xs.length), w.cell? ⟨b, o + i, none⟩ = some (enc xs[i]) := by
  obtain ⟨A, c, hv, h1, h2, h3⟩ := h
  obtain ⟨b, o, e, hb, hc⟩ := h3 0 _ (List.getElem?_eq_getElem hp)
  refine ⟨b, o, c, by rw [hv, e], h1, h2, hb, fun i hi => ?_⟩
  obtain ⟨b', o', e', _, hc'⟩ := h3 i _ (List.getElem?_eq_getElem hi)
  rw [e] at e'
  cases e'
  exact hc'
theorem Rds.shape (h : Rds enc w F v xs) : ∃ A c, v = .slice A xs.length c ∧ xs.length ≤ c ∧ c ≤ maxLen := by
  obtain ⟨A, c, hv, h1, h2, _⟩ := h
  exact ⟨A, c, hv, h1, h2⟩
end

/-! ### rows of the call's own (the kit's 'ownsRow', base 0), with the blocks that they may lie in -/
/-- v owns the cells xs (n elements of type e, sz cells each); its block is one of O's. -/
def Ow (w : World) (O : Nat → Prop) (e : TypeId) (sz : Nat) (v : Value) (n : Nat) (xs : List Value) : Prop := w.ownsRow 0 e sz v n xs ∧ ∀ k, v.ownBlock = some k → O k
section
variable {w w' : World} {O O' : Nat → Prop} {e : TypeId} {sz n : Nat} {v : Value} {xs : List Value}
theorem Ow.nil (w : World) (O : Nat → Prop) (e : TypeId) (sz : Nat) : Ow w O e sz (.slice none 0 0) 0 [] := ⟨World.ownsRow_nil w 0 e sz, fun k hk => by simp [Value.ownBlock] at hk⟩
theorem Ow.mono (h : Ow w O e sz v n xs) (hf : ∀ k, O k → O' k) : Ow w O' e sz v n xs := ⟨h.1, fun k hk => hf k (h.2 k hk)⟩
theorem Ow.bound (h : Ow w O e sz v n xs) : Ow w (fun k => O k ∧ k < w.heap.size) e sz v n xs := ⟨h.1, fun k hk => ⟨h.2 k hk, (h.1.lt k hk).2⟩⟩
theorem Ow.just (h : Ow w O e sz v n xs) : Ow w (fun k => v.ownBlock = some k) e sz v n xs := ⟨h.1, fun k hk => hk⟩
theorem Ow.move (h : Ow w O e sz v n xs) (hm : ∀ k, O k → k < w.heap.size → w'.heap[k]? = w.heap[k]?) : Ow w' O e sz v n xs := by
  refine ⟨⟨h.1.1, ?_⟩, h.2⟩
  rcases h.1.2 with h2 | ⟨g, cap, cur, rfl, hg, hh, r⟩
  · exact .inl h2
  · exact .inr ⟨g, cap, cur, rfl, hg, (hm g (h.2 g (by simp [Value.ownBlock])) (heap_lt hh)).trans hh, r⟩
theorem Ow.fr {S : Nat → Prop} (h : Ow w O e sz v n xs) (hf : Fr S w w') (hs : ∀ k, k < w.heap.size → O k → ¬ S k) : Ow w' O e sz v n xs := h.move fun k hk hl => hf.block k hl (hs k hl hk)
theorem Ow.shape (h : Ow w O e sz v n xs) : ∃ A c, v = .slice A n c ∧ n ≤ c ∧ c ≤ maxLen := by
  rcases h.1.2 with ⟨rfl, rfl⟩ | ⟨g, cap, cur, rfl, hg, hh, h1, h2, _⟩
  · exact ⟨none, 0, rfl, Nat.le_refl _, Nat.zero_le _⟩
  · exact ⟨_, cap, rfl, h1, h2⟩
/-- Where there is an element: the block. -/
theorem Ow.form (h : Ow w O e sz v n xs) (hp : 0 < n) : ∃ g c cur, v = .slice (some ⟨g, 0, none⟩) n c ∧ O g ∧ w.heap[g]? = some (.cells cur e (0, 0)) ∧ n ≤ c ∧ c ≤ maxLen ∧ cur.size = c * sz ∧ cur.toList.take (n * sz) = xs := by
  rcases h.1.2 with ⟨rfl, rfl⟩ | ⟨g, cap, cur, rfl, hg, hh, h1, h2, h3, h4⟩
  · omega
  · exact ⟨g, cap, cur, rfl, h.2 g rfl, hh, h1, h2, h3, h4⟩
theorem Ow.len (h : Ow w O e sz v n xs) : xs.length = n * sz := h.1.1
theorem Ow.cells (h : Ow w O e sz v n xs) : ∃ A c, v = .slice A n c ∧ n ≤ c ∧ c ≤ maxLen ∧ ∀ j u, xs[j]? = some u → ∃ g, A = some ⟨g, 0, none⟩ ∧ O g ∧ w.cell? ⟨g, j, none⟩ = some u ∧ w.frozen? ⟨g, j, none⟩ = false := by
  rcases h.1.2 with ⟨rfl, rfl⟩ | ⟨g, cap, cur, rfl, hg, hh, h1, h2, h3, h4⟩
  · refine ⟨none, 0, rfl, Nat.le_refl _, Nat.zero_le _, fun j u hj => ?_⟩
    have := h.1.1
    simp at this
    simp [this] at hj
  · refine ⟨_, cap, rfl, h1, h2, fun j u hj => ⟨g, rfl, h.2 g rfl, ?_, blk_free hh _⟩⟩
    rw [blk_cell hh]
    rw [← h4, List.getElem?_take] at hj
    split at hj
    · simpa using hj
    · cases hj
theorem Ow.reads {α : Type} {enc : α → Value} {l : List α} (h : Ow w O e 1 v l.length (l.map enc)) : Rds enc w O v l := by
  obtain ⟨A, c, hv, h1, h2, h3⟩ := h.cells
  refine ⟨A, c, hv, h1, h2, fun j x hj => ?_⟩
  obtain ⟨g, hA, hg, hc, _⟩ := h3 j (enc x) (by rw [List.getElem?_map, hj]; rfl)
  exact ⟨g, 0, hA, hg, by rw [Nat.zero_add]; exact hc⟩
end

/-! ### append -/
section
variable {P : Program}
theorem run_app {W : World} {O : Nat → Prop} (t ty e : TypeId) (z : Value) (sz bytes : Nat) (ht : P.underlying t = some (.slice e)) (hinfo : (P.info? e).map (fun i => (i.zero, i.size, i.bytes)) = some (some z, sz, bytes))
    (hz : z.cells.size = sz) (hs0 : 0 < sz) (hb0 : 0 < bytes) (v : Value) (n : Nat) (xs : List Value) (HO : Ow W O e sz v n xs) (A : Option Addr) (m c : Nat) (news : List Value) (hl : news.length = m * sz)
    (hnews : ∀ j u, news[j]? = some u → ∃ ad, A = some ad ∧ W.cell? (ad.add j) = some u) (h1 : ∀ u ∈ news, u.oneCell' = true) (hb : (n + m) * bytes ≤ 140737488355328) :
    ∃ v1 w1, (Builtin.append_ #[t, t] ty #[v, .slice A m c]).run P W = .ok v1 w1 ∧ Ow w1 (fun k => v.ownBlock = some k ∨ k = W.heap.size) e sz v1 (n + m) (xs ++ news) ∧ Fr (fun k => v.ownBlock = some k) W w1 := by
  obtain ⟨i0, hi, hzz⟩ := Option.map_eq_some_iff.1 hinfo
  simp only [Prod.mk.injEq] at hzz
  obtain ⟨hz0, hz1, hz2⟩ := hzz
  have hlen : n + m ≤ 140737488355328 := Nat.le_trans (Nat.le_mul_of_pos_right _ hb0) hb
  rcases Nat.eq_zero_or_pos m with rfl | hm
  · obtain rfl : news = [] := List.eq_nil_of_length_eq_zero (by simpa using hl)
    refine ⟨v, W, ?_, ?_, Fr.refl _ _⟩
    · rcases HO.1.2 with ⟨rfl, rfl⟩ | ⟨g, cap, cur, rfl, _, hh, hnc, hcm, hsz, _⟩
      · cases A <;> simp [Builtin.append_, run_underlying ht, sizeOf, typeInfo, hi, Builtin.lenOf, Builtin.firstCells, loadCells, loadCellsFrom]
      · cases A <;> simp [Builtin.append_, run_underlying ht, sizeOf, typeInfo, hi, Builtin.lenOf, Builtin.firstCells, hnc, storeCells, loadCells, loadCellsFrom]
    · rw [Nat.add_zero, List.append_nil]; exact ⟨HO.1, fun k hk => .inl hk⟩
  · have hnl : 0 < news.length := by rw [hl]; exact Nat.mul_pos hm hs0
    obtain ⟨ad, rfl, _⟩ := hnews 0 _ (List.getElem?_eq_getElem hnl)
    obtain ⟨v1, w1, hr, h2, h3, _, h5⟩ := run_append_own_at (P := P) W 0 t ty e i0 z sz bytes ht hi hz0 hz1 hz2 hz hs0 v n xs HO.1 ad m c news hl
      (fun j u hj => by obtain ⟨ad', he, hc⟩ := hnews j u hj; cases he; exact hc) h1 (by simp only [maxLen]; omega) hb (Nat.zero_le _)
    refine ⟨v1, w1, hr, ⟨h2, fun k hk => ?_⟩, Fr.grown h3 fun k hk => hk⟩
    rcases h5 with h5 | h5
    · exact .inl (h5 ▸ hk)
    · exact .inr (by rw [h5] at hk; exact (Option.some.inj hk).symm)
/-- append of one element whose cells lie in a block of their own. -/
theorem wp_app {W : World} {O : Nat → Prop} {o : Oper} {a : Act} {K : Act → World → Prop} {Q : Exit → Act → World → Prop} (s x : Operand) (t e : TypeId)
    (ho : o.op = .call { callee := .builtin .append, args := #[s, x], argTypes := #[t, t] })
    (z : Value) (sz bytes : Nat) (ht : P.underlying t = some (.slice e)) (hinfo : (P.info? e).map (fun i => (i.zero, i.size, i.bytes)) = some (some z, sz, bytes))
    (hz : z.cells.size = sz) (hs0 : 0 < sz) (hb0 : 0 < bytes) (v : Value) (n : Nat) (xs : List Value) (hs : a.eval s = v) (A : Option Addr) (m c : Nat) (hx : a.eval x = .slice A m c) (HO : Ow W O e sz v n xs) (news : List Value) (hl : news.length = m * sz)
    (hnews : ∀ j u, news[j]? = some u → ∃ ad, A = some ad ∧ W.cell? (ad.add j) = some u) (h1 : ∀ u ∈ news, u.oneCell' = true) (hb : (n + m) * bytes ≤ 140737488355328)
    (h : ∀ v1 w1, Ow w1 (fun k => v.ownBlock = some k ∨ k = W.heap.size) e sz v1 (n + m) (xs ++ news) → Fr (fun k => v.ownBlock = some k) W w1 → K (a.put o.dst v1) w1) : o.wp P a W K Q := by
  obtain ⟨v1, w1, hr, h2, h3⟩ := run_app (P := P) t o.type e z sz bytes ht hinfo hz hs0 hb0 v n xs HO A m c news hl hnews h1 hb
  unfold Oper.wp execOp
  simp only [ho, resolve, invoke, builtin, Sem.run_bind, Sem.run_pure, Result.andThen_ok, List.map_toArray, List.map_cons, List.map_nil, hs, hx, hr]
  exact h v1 w1 h2 h3
theorem wpList_app {W : World} {O : Nat → Prop} {ops : Array Oper} {rest : List Oper} {o : Oper} {a : Act} {Q : Exit → Act → World → Prop} (hgd : o.guard = none) (s x : Operand) (t e : TypeId)
    (ho : o.op = .call { callee := .builtin .append, args := #[s, x], argTypes := #[t, t] })
    (z : Value) (sz bytes : Nat) (ht : P.underlying t = some (.slice e)) (hinfo : (P.info? e).map (fun i => (i.zero, i.size, i.bytes)) = some (some z, sz, bytes))
    (hz : z.cells.size = sz) (hs0 : 0 < sz) (hb0 : 0 < bytes) (v : Value) (n : Nat) (xs : List Value) (hs : a.eval s = v) (A : Option Addr) (m c : Nat) (hx : a.eval x = .slice A m c) (HO : Ow W O e sz v n xs) (news : List Value) (hl : news.length = m * sz)
    (hnews : ∀ j u, news[j]? = some u → ∃ ad, A = some ad ∧ W.cell? (ad.add j) = some u) (h1 : ∀ u ∈ news, u.oneCell' = true) (hb : (n + m) * bytes ≤ 140737488355328)
    (h : ∀ v1 w1, Ow w1 (fun k => v.ownBlock = some k ∨ k = W.heap.size) e sz v1 (n + m) (xs ++ news) → Fr (fun k => v.ownBlock = some k) W w1 → wpList P ops Q rest (a.put o.dst v1) w1) : wpList P ops Q (o :: rest) a W :=
  wpList_plain hgd fun K hK => wp_app s x t e ho z sz bytes ht hinfo hz hs0 hb0 v n xs hs A m c hx HO news hl hnews h1 hb fun v1 w1 h2 h3 => hK _ _ (h v1 w1 h2 h3)
end

/-! ### copy into a row of the call's own, from a place on -/
section
variable {P : Program}
theorem splice_nil {α : Type} (L : List α) (off : Nat) : splice L off [] = L := by simp [splice]
theorem run_cpy {W : World} {O : Nat → Prop} (t t' ty e : TypeId) (ht : P.underlying t = some (.slice e)) (hsz : (P.info? e).map (·.size) = some 1)
    (v : Value) (n : Nat) (xs : List Value) (HO : Ow W O e 1 v n xs) (off : Nat) (hoff : off ≤ n) (dp : Option Addr) (dLen dCap : Nat) (hdl : off + dLen ≤ n) (hd : 0 < dLen → ∀ g c, v = .slice (some ⟨g, 0, none⟩) n c → dp = some ⟨g, off, none⟩)
    (sp : Option Addr) (sLen sCap : Nat) (cs : List Value) (hn : cs.length = min sLen dLen) (hsrc : ∀ j u, cs[j]? = some u → ∃ ad, sp = some ad ∧ W.cell? (ad.add j) = some u) (h1 : ∀ u ∈ cs, u.oneCell' = true) :
    ∃ w1, (Builtin.copy_ #[t, t'] ty #[.slice dp dLen dCap, .slice sp sLen sCap]).run P W = .ok (goInt cs.length) w1 ∧ Ow w1 (fun k => v.ownBlock = some k) e 1 v n (splice xs off cs) ∧ Fr (fun k => v.ownBlock = some k) W w1 := by
  rcases Nat.eq_zero_or_pos cs.length with h0 | hp
  · obtain rfl : cs = [] := List.eq_nil_of_length_eq_zero h0
    exact ⟨W, run_copy_none (P := P) W t t' ty e dp sp dLen dCap sLen sCap ht hsz (by simpa using hn.symm), by rw [splice_nil]; exact HO.just, Fr.refl _ _⟩
  · have hdp : 0 < dLen := by omega
    obtain ⟨g, c, cur, rfl, hO, hh, hnc, hcm, hcs, htk⟩ := HO.form (by omega)
    obtain rfl := hd hdp g c rfl
    obtain ⟨ad, rfl, _⟩ := hsrc 0 _ (List.getElem?_eq_getElem hp)
    have hfit : off + cs.length ≤ cur.size := by omega
    have hr := run_copy_row (P := P) W t t' ty e g off dLen dCap ad sLen sCap cur e cs ht hsz hh hn (fun j u hj => by obtain ⟨ad', he, hc⟩ := hsrc j u hj; cases he; exact hc) hfit h1
    refine ⟨_, hr, ⟨⟨?_, .inr ⟨g, c, _, rfl, Nat.zero_le _, setRow_heap W g cur _ e _ hh, hnc, hcm, ?_, ?_⟩⟩, fun k hk => hk⟩, ⟨rfl, rfl, rfl, by simp [World.setRow], fun k hk hn => setRow_other W g k _ (fun e => hn (by simp [Value.ownBlock, e]))⟩⟩
    · rw [length_splice _ _ _ (by rw [HO.len]; omega), HO.len]
    · simp [Array.length_toList]; omega
    · have hxl : n * 1 = n := Nat.mul_one n
      rw [hxl] at htk ⊢
      rw [← htk]
      simp only [splice]
      have hcl : cur.toList.length = cur.size := Array.length_toList
      have hof : off + cs.length ≤ n := by omega
      have e1 : (cur.toList.take off).length = off := by rw [List.length_take]; omega
      rw [List.take_append, List.take_append, e1, List.take_take, List.take_take, List.take_of_length_le (l := cs) (by omega), List.drop_take, Nat.min_eq_right (by omega : off ≤ n), Nat.min_eq_left (by omega : off ≤ n), List.length_append, e1, List.append_assoc]
theorem wp_cpy {W : World} {O : Nat → Prop} {o : Oper} {a : Act} {K : Act → World → Prop} {Q : Exit → Act → World → Prop} (d s : Operand) (t t' e : TypeId) (ho : o.op = .call { callee := .builtin .copy, args := #[d, s], argTypes := #[t, t'] })
    (ht : P.underlying t = some (.slice e)) (hsz : (P.info? e).map (·.size) = some 1)
    (dp : Option Addr) (dLen dCap : Nat) (hde : a.eval d = .slice dp dLen dCap) (sp : Option Addr) (sLen sCap : Nat) (hse : a.eval s = .slice sp sLen sCap)
    (v : Value) (n : Nat) (xs : List Value) (HO : Ow W O e 1 v n xs) (off : Nat) (hoff : off ≤ n) (hdl : off + dLen ≤ n) (hd : 0 < dLen → ∀ g c, v = .slice (some ⟨g, 0, none⟩) n c → dp = some ⟨g, off, none⟩)
    (cs : List Value) (hn : cs.length = min sLen dLen) (hsrc : ∀ j u, cs[j]? = some u → ∃ ad, sp = some ad ∧ W.cell? (ad.add j) = some u) (h1 : ∀ u ∈ cs, u.oneCell' = true)
    (h : ∀ w1, Ow w1 (fun k => v.ownBlock = some k) e 1 v n (splice xs off cs) → Fr (fun k => v.ownBlock = some k) W w1 → K (a.put o.dst (goInt cs.length)) w1) : o.wp P a W K Q := by
  obtain ⟨w1, hr, h2, h3⟩ := run_cpy (P := P) t t' o.type e ht hsz v n xs HO off hoff dp dLen dCap hdl hd sp sLen sCap cs hn hsrc h1
  unfold Oper.wp execOp
  simp only [ho, resolve, invoke, builtin, Sem.run_bind, Sem.run_pure, Result.andThen_ok, List.map_toArray, List.map_cons, List.map_nil, hde, hse, hr]
  exact h w1 h2 h3
theorem wpList_cpy {W : World} {O : Nat → Prop} {ops : Array Oper} {rest : List Oper} {o : Oper} {a : Act} {Q : Exit → Act → World → Prop} (hgd : o.guard = none) (d s : Operand) (t t' e : TypeId) (ho : o.op = .call { callee := .builtin .copy, args := #[d, s], argTypes := #[t, t'] })
    (ht : P.underlying t = some (.slice e)) (hsz : (P.info? e).map (·.size) = some 1)
    (dp : Option Addr) (dLen dCap : Nat) (hde : a.eval d = .slice dp dLen dCap) (sp : Option Addr) (sLen sCap : Nat) (hse : a.eval s = .slice sp sLen sCap)
    (v : Value) (n : Nat) (xs : List Value) (HO : Ow W O e 1 v n xs) (off : Nat) (hoff : off ≤ n) (hdl : off + dLen ≤ n) (hd : 0 < dLen → ∀ g c, v = .slice (some ⟨g, 0, none⟩) n c → dp = some ⟨g, off, none⟩)
    (cs : List Value) (hn : cs.length = min sLen dLen) (hsrc : ∀ j u, cs[j]? = some u → ∃ ad, sp = some ad ∧ W.cell? (ad.add j) = some u) (h1 : ∀ u ∈ cs, u.oneCell' = true)
    (h : ∀ w1, Ow w1 (fun k => v.ownBlock = some k) e 1 v n (splice xs off cs) → Fr (fun k => v.ownBlock = some k) W w1 → wpList P ops Q rest (a.put o.dst (goInt cs.length)) w1) : wpList P ops Q (o :: rest) a W :=
  wpList_plain hgd fun K hK => wp_cpy d s t t' e ho ht hsz dp dLen dCap hde sp sLen sCap hse v n xs HO off hoff hdl hd cs hn hsrc h1 fun w1 h2 h3 => hK _ _ (h w1 h2 h3)
end
/-! ### cuts -/
theorem cut_at {A : Option Addr} {n c a : Nat} (hc : n ≤ c) : 0 < n - a → ∀ g c', Value.slice A n c = .slice (some ⟨g, 0, none⟩) n c' → (if c = a then A else Option.map (fun x => x.add a) A) = some ⟨g, a, none⟩ := by
  intro h g c' he
  cases he
  rw [if_neg (by omega)]
  simp [add_none]
theorem splice_map {α β : Type} (f : α → β) (L : List α) (a : Nat) (b : List α) : splice (L.map f) a (b.map f) = (splice L a b).map f := by
  simp [splice, List.map_take, List.map_drop]
theorem cut_run {P : Program} (t e : TypeId) (ht : P.underlying t = some (.slice e)) (hsz : (P.info? e).map (·.size) = some 1) (A : Option Addr) (n c a : Nat) (h : a ≤ n) :
    ∃ A' : Option Addr, (∀ W : World, (Instr.slice t (.slice A n c) (some (.int .i64 (a : Int))) none none).run P W = .ok (.slice A' (n - a) (c - a)) W) ∧ A' = (if c = a then A else Option.map (fun x => x.add a) A) := by
  obtain ⟨i, hi, hs⟩ := Option.map_eq_some_iff.1 hsz
  refine ⟨_, fun W => ?_, rfl⟩
  have hel : P.elem t = e := by simp [Program.elem, ht]
  have hu : P.underlying t = some (.slice (P.elem t)) := by rw [hel]; exact ht
  rw [run_slice_l W t A n c hu .i64 (a : Int) (Int.natCast_nonneg _) (by omega), hel]
  simp [sizeOf, typeInfo, hi, hs, sliced, Result.andThen]
/-- xs[x:y] -/
theorem cut2_run {P : Program} (t e : TypeId) (ht : P.underlying t = some (.slice e)) (hsz : (P.info? e).map (·.size) = some 1) (A : Option Addr) (n c : Nat) (x y : Int) (h0 : 0 ≤ x) (h1 : x ≤ y) (h2 : y ≤ c) :
    ∃ A' : Option Addr, (∀ W : World, (Instr.slice t (.slice A n c) (some (.int .i64 x)) (some (.int .i64 y)) none).run P W = .ok (.slice A' (y.toNat - x.toNat) (c - x.toNat)) W) ∧ A' = (if c = x.toNat then A else Option.map (fun a => a.add x.toNat) A) := by
  obtain ⟨i, hi, hs⟩ := Option.map_eq_some_iff.1 hsz
  refine ⟨_, fun W => ?_, rfl⟩
  have hel : P.elem t = e := by simp [Program.elem, ht]
  have hu : P.underlying t = some (.slice (P.elem t)) := by rw [hel]; exact ht
  rw [run_slice_lh W t A n c hu .i64 .i64 x y h0 h1 h2, hel]
  simp [sizeOf, typeInfo, hi, hs, sliced, Result.andThen]
/-- xs[:y] -/
theorem cut0_run {P : Program} (t e : TypeId) (ht : P.underlying t = some (.slice e)) (hsz : (P.info? e).map (·.size) = some 1) (A : Option Addr) (n c : Nat) (y : Int) (h1 : 0 ≤ y) (h2 : y ≤ c) :
    ∀ W : World, (Instr.slice t (.slice A n c) none (some (.int .i64 y)) none).run P W = .ok (.slice A y.toNat c) W := by
  obtain ⟨i, hi, hs⟩ := Option.map_eq_some_iff.1 hsz
  intro W
  have hel : P.elem t = e := by simp [Program.elem, ht]
  have hu : P.underlying t = some (.slice (P.elem t)) := by rw [hel]; exact ht
  rw [run_slice_h W t A n c hu .i64 y h1 h2, hel]
  simp [sizeOf, typeInfo, hi, hs, sliced, Result.andThen]
  intro h
  cases A <;> simp [Addr.add]
theorem Rds.cut {α : Type} {enc : α → Value} {w : World} {F : Nat → Prop} {A : Option Addr} {c : Nat} {xs : List α} (h : Rds enc w F (.slice A xs.length c) xs) (x y : Nat) (hxy : x ≤ y) (hy : y ≤ xs.length) :
    Rds enc w F (.slice (if c = x then A else Option.map (fun a => a.add x) A) (y - x) (c - x)) ((xs.take y).drop x) := by
  obtain ⟨A', c', hv, h1, h2, h3⟩ := h
  cases hv
  have hl : ((xs.take y).drop x).length = y - x := by rw [List.length_drop, List.length_take]; omega
  refine ⟨_, _, by rw [hl], by omega, by omega, fun j u hj => ?_⟩
  rw [List.getElem?_drop, List.getElem?_take] at hj
  split at hj
  · obtain ⟨b, o, e, hb, hc⟩ := h3 _ u hj
    rw [if_neg (by omega), e]
    exact ⟨b, o + x, by simp [add_none], hb, by rw [Nat.add_assoc]; exact hc⟩
  · cases hj
/-! ### string(b) -/
theorem strOf_enc (l : List UInt8) : strOfNums (l.map fun b => (b.toNat : Int)) = ⟨l.toArray⟩ := by
  unfold strOfNums
  congr 1
  rw [List.map_map]
  congr 1
  induction l with
  | nil => rfl
  | cons x r ih => simp only [List.map_cons, ih, Function.comp]; congr 1; simp
theorem conv_str {P : Program} {W : World} {F : Nat → Prop} {v : Value} {l : List UInt8} {src dst e : TypeId} (hs : P.underlying src = some (.slice e)) (he : P.underlying e = some (.int .u8)) (hd : P.underlying dst = some .string) (h : Rb W F v l) :
    (convert src dst v).run P W = .ok (.string ⟨l.toArray⟩) W := by
  obtain ⟨A, c, rfl, h1, h2, h3⟩ := h
  cases A with
  | none =>
    obtain rfl : l = [] := by
      cases l with
      | nil => rfl
      | cons x xs => obtain ⟨b, o, h, _⟩ := h3 0 _ rfl; cases h
    exact run_convert_bytes_nil W src e hs he 0 c dst hd
  | some ad =>
    have hl : (loadCells ad l.length).run P W = .ok ((l.map fun b => (b.toNat : Int)).map (Value.int .u8)).toArray W := by
      have := run_loadCells_list (P := P) W ad ((l.map fun b => (b.toNat : Int)).map (Value.int .u8)) (fun j v hj => by
        rw [List.map_map, List.getElem?_map] at hj
        obtain ⟨x, hx, rfl⟩ := Option.map_eq_some_iff.1 hj
        obtain ⟨b, o, hA, _, hc⟩ := h3 j x hx
        cases hA
        rw [add_none]
        exact hc)
      simpa using this
    rw [run_convert_bytes_string W src dst e _ l.length c hs he hd, run_bytesToString W ad l.length c _ hl, foldl_push_bytes]
    have := strOf_enc l
    unfold strOfNums at this
    have e2 : (ByteArray.empty.data : Array UInt8) = #[] := rfl
    rw [e2, Array.empty_append, this]
end Go.Proofs.Ytbaohngnpgappaa
