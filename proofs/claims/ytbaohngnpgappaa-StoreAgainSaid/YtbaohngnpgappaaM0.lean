/- Joined texts: A0, A1, A2, A3. -/
import Derived.WalkKit
import Derived.Laws.CopyOwn
import Derived.Laws.IdiomCopy
import Derived.Maps.AppendAt
import Derived.Deep.AppendLies
import Derived.Deep.RegionHeld3
import Derived.Deep.QuietTactic
import Derived.BigQuiet
import Derived.Deep.OwnRows
import Derived.Lib.ConvBytes
import Derived.Lib.Hide
import Derived.Deep.Draws
import Derived.KernelRfl
import Derived.OrdersHeld
import Derived.Lib.AppendStr
set_option linter.unusedVariables false
set_option linter.unusedSimpArgs false
namespace Go.Proofs.Ytbaohngnpgappaa
open Go.RowKit

/-! ### frames -/
/-- Only blocks of S may have turned; the rest of the world is as it was. -/
structure Fr (S : Nat → Prop) (w w' : World) : Prop where
  os : w'.os = w.os
  tape : w'.tape = w.tape
  output : w'.output = w.output
  size : w.heap.size ≤ w'.heap.size
  block : ∀ k, k < w.heap.size → ¬ S k → w'.heap[k]? = w.heap[k]?
def No : Nat → Prop := fun _ => False
theorem Fr.refl (S : Nat → Prop) (w : World) : Fr S w w := ⟨rfl, rfl, rfl, Nat.le_refl _, fun _ _ _ => rfl⟩
theorem Fr.mono {S T : Nat → Prop} {w w' : World} (h : Fr S w w') (hs : ∀ k, k < w.heap.size → S k → T k) : Fr T w w' :=
  ⟨h.os, h.tape, h.output, h.size, fun k hk hn => h.block k hk fun hS => hn (hs k hk hS)⟩
/-- Two steps. -/
theorem Fr.trans {S T U : Nat → Prop} {a b c : World} (h : Fr S a b) (k : Fr T b c) (hs : ∀ i, i < a.heap.size → S i → U i) (ht : ∀ i, i < a.heap.size → T i → U i) : Fr U a c :=
  ⟨k.os.trans h.os, k.tape.trans h.tape, k.output.trans h.output, Nat.le_trans h.size k.size, fun i hi hn =>
    (k.block i (Nat.lt_of_lt_of_le hi h.size) fun hT => hn (ht i hi hT)).trans (h.block i hi fun hS => hn (hs i hi hS))⟩
theorem Fr.then {S : Nat → Prop} {a b c : World} (h : Fr S a b) (k : Fr S b c) : Fr S a c := h.trans k (fun _ _ h => h) (fun _ _ h => h)
theorem Fr.ofBelow {S : Nat → Prop} {w w' : World} (h : Below w.heap.size w w') : Fr S w w' := ⟨h.os, h.tape, h.output, h.size, fun k hk _ => h.block k hk⟩
theorem Fr.toBelow {S : Nat → Prop} {w w' : World} (h : Fr S w w') (hs : ∀ k, k < w.heap.size → ¬ S k) : Below w.heap.size w w' := ⟨h.os, h.tape, h.output, h.size, fun k hk => h.block k hk (hs k hk)⟩
theorem Fr.alloc {S : Nat → Prop} {a w : World} (h : Fr S a w) (o : Obj) : Fr S a (w.alloc o) :=
  h.then ⟨rfl, rfl, rfl, by simp, fun k hk _ => Below.heap_alloc _ _ _ hk⟩
theorem Fr.drew {S : Nat → Prop} {a w : World} (h : Fr S a w) : Fr S a w.drew := ⟨h.os, h.tape, h.output, h.size, h.block⟩
theorem Fr.drewN {S : Nat → Prop} {a w : World} (h : Fr S a w) (n : Nat) : Fr S a (w.drewN n) := ⟨h.os, h.tape, h.output, h.size, h.block⟩
theorem Fr.setCell {S : Nat → Prop} {a w : World} (h : Fr S a w) (p : Addr) (u : Value) (hp : p.block < a.heap.size → S p.block) : Fr S a (w.setCell p u) :=
  ⟨h.os, h.tape, h.output, by simpa [World.setCell] using h.size, fun k hk hn => by
    rw [Below.heap_setCell _ _ _ _ (fun e => by subst e; exact hn (hp hk))]; exact h.block k hk hn⟩
theorem Fr.grown {S : Nat → Prop} {w w' : World} {row : Option Nat} (hg : w.grownBy w' row) (hr : ∀ k, row = some k → S k) : Fr S w w' :=
  ⟨hg.os, hg.tape, hg.output, hg.size, fun k hk hn => hg.block k hk fun e => hn (hr k e.symm)⟩
theorem Fr.cell {S : Nat → Prop} {w w' : World} (h : Fr S w w') {a : Addr} {v : Value} (hc : w.cell? a = some v) (hn : ¬ S a.block) : w'.cell? a = some v :=
  (World.cell?_of_block (h.block a.block (World.block_lt_of_cell? w a hc) hn)).trans hc
theorem Fr.heap {S : Nat → Prop} {w w' : World} (h : Fr S w w') {k : Nat} {o : Obj} (hc : w.heap[k]? = some o) (hn : ¬ S k) : w'.heap[k]? = some o :=
  (h.block k (Array.getElem?_eq_some_iff.1 hc).1 hn).trans hc
theorem heap_lt {w : World} {k : Nat} {o : Obj} (hc : w.heap[k]? = some o) : k < w.heap.size := (Array.getElem?_eq_some_iff.1 hc).1

/-! ### blocks -/
theorem blk_cell {w : World} {b : Nat} {cs : Array Value} {t : TypeId} {fr : Nat × Nat} (h : w.heap[b]? = some (.cells cs t fr)) (i : Nat) : w.cell? ⟨b, i, none⟩ = cs[i]? := by simp [World.cell?, h]
theorem blk_free {w : World} {b : Nat} {cs : Array Value} {t : TypeId} (h : w.heap[b]? = some (.cells cs t (0, 0))) (i : Nat) : w.frozen? ⟨b, i, none⟩ = false := by simp [World.frozen?, h]
theorem blk_set {w : World} {b : Nat} {cs : Array Value} {t : TypeId} {fr : Nat × Nat} (h : w.heap[b]? = some (.cells cs t fr)) (i : Nat) (v : Value) : (w.setCell ⟨b, i, none⟩ v).heap[b]? = some (.cells (cs.setIfInBounds i v) t fr) := by
  simp [World.setCell, Array.getElem?_modify, h]
theorem blk_new (w : World) (o : Obj) : (w.alloc o).heap[w.heap.size]? = some o := heap_alloc_new w o
theorem blk_new' {w : World} {o : Obj} {n : Nat} (h : n = w.heap.size) : (w.alloc o).heap[n]? = some o := by subst h; exact blk_new w o
theorem blk_drew {w : World} {b : Nat} {o : Obj} (h : w.heap[b]? = some o) : w.drew.heap[b]? = some o := h
theorem blk_drewN {w : World} {b : Nat} {o : Obj} (h : w.heap[b]? = some o) (n : Nat) : (w.drewN n).heap[b]? = some o := h
theorem blk_alloc {w : World} {b : Nat} {o : Obj} (h : w.heap[b]? = some o) (o' : Obj) : (w.alloc o').heap[b]? = some o := by
  rw [Below.heap_alloc _ _ _ (heap_lt h)]; exact h
theorem blk_far {w : World} {b : Nat} {o : Obj} (h : w.heap[b]? = some o) {p : Addr} (hp : b ≠ p.block) (v : Value) : (w.setCell p v).heap[b]? = some o := by
  rw [Below.heap_setCell _ _ _ _ hp]; exact h
theorem cell_alloc {w : World} {a : Addr} {v : Value} (h : w.cell? a = some v) (o : Obj) : (w.alloc o).cell? a = some v :=
  (World.cell?_of_block (Below.heap_alloc _ _ _ (World.block_lt_of_cell? w a h))).trans h
theorem add_none (b o j : Nat) : (⟨b, o, none⟩ : Addr).add j = ⟨b, o + j, none⟩ := by unfold Addr.add; split <;> simp_all

/-! ### rows of one-cell elements that are read; F: where they lie, if there are any -/
def Rds {α : Type} (enc : α → Value) (w : World) (F : Nat → Prop) (v : Value) (xs : List α) : Prop :=
  ∃ A c, v = .slice A xs.length c ∧ xs.length ≤ c ∧ c ≤ maxLen ∧ ∀ j x, xs[j]? = some x → ∃ b o, A = some ⟨b, o, none⟩ ∧ F b ∧ w.cell? ⟨b, o + j, none⟩ = some (enc x)
def enc8 (b : UInt8) : Value := .int .u8 (b.toNat : Int)
theorem one8 (l : List UInt8) : ∀ u ∈ l.map enc8, u.oneCell' = true := by
  intro u hu
  obtain ⟨x, _, rfl⟩ := List.mem_map.1 hu
  rfl
/-- A slice of bytes that is read. -/
abbrev Rb (w : World) (F : Nat → Prop) (v : Value) (l : List UInt8) : Prop := Rds enc8 w F v l
section
variable {α : Type} {enc : α → Value} {w w' : World} {F F' : Nat → Prop} {v : Value} {xs : List α}
theorem Rds.nil (enc : α → Value) (w : World) (F : Nat → Prop) (A : Option Addr) (c : Nat) (hc : c ≤ maxLen) : Rds enc w F (.slice A 0 c) [] := ⟨A, c, rfl, Nat.zero_le _, hc, fun j x h => by simp at h⟩
theorem Rds.mono (h : Rds enc w F v xs) (hf : ∀ k, F k → F' k) : Rds enc w F' v xs := by
  obtain ⟨A, c, hv, h1, h2, h3⟩ := h
  exact ⟨A, c, hv, h1, h2, fun j x hj => by obtain ⟨b, o, e, hb, hc⟩ := h3 j x hj; exact ⟨b, o, e, hf b hb, hc⟩⟩
theorem Rds.bound (h : Rds enc w F v xs) : Rds enc w (fun k => F k ∧ k < w.heap.size) v xs := by
  obtain ⟨A, c, hv, h1, h2, h3⟩ := h
  exact ⟨A, c, hv, h1, h2, fun j x hj => by obtain ⟨b, o, e, hb, hc⟩ := h3 j x hj; exact ⟨b, o, e, ⟨hb, World.block_lt_of_cell? w _ hc⟩, hc⟩⟩
theorem Rds.move (h : Rds enc w F v xs) (hm : ∀ k, F k → k < w.heap.size → w'.heap[k]? = w.heap[k]?) : Rds enc w' F v xs := by
  obtain ⟨A, c, hv, h1, h2, h3⟩ := h
  exact ⟨A, c, hv, h1, h2, fun j x hj => by
    obtain ⟨b, o, e, hb, hc⟩ := h3 j x hj
    exact ⟨b, o, e, hb, (World.cell?_of_block (hm b hb (World.block_lt_of_cell? w _ hc))).trans hc⟩⟩
theorem Rds.fr {S : Nat → Prop} (h : Rds enc w F v xs) (hf : Fr S w w') (hs : ∀ k, k < w.heap.size → F k → ¬ S k) : Rds enc w' F v xs := h.move fun k hk hl => hf.block k hl (hs k hl hk)
theorem Rds.take_ (h : Rds enc w F v xs) (n : Nat) (hn : n ≤ xs.length) : ∃ A c, v = .slice A xs.length c ∧ xs.length ≤ c ∧ c ≤ maxLen ∧ Rds enc w F (.slice A n c) (xs.take n) := by
  obtain ⟨A, c, hv, h1, h2, h3⟩ := h
  refine ⟨A, c, hv, h1, h2, A, c, by rw [List.length_take, Nat.min_eq_left hn], by rw [List.length_take]; omega, h2, fun j x hj => ?_⟩
  rw [List.getElem?_take] at hj
  split at hj
  · exact h3 j x hj
  · cases hj
/-- The cells from m on, the address as a letter. -/
theorem Rds.drop_ (h : Rds enc w F v xs) (m : Nat) (hm : m ≤ xs.length) : ∃ A c, v = .slice A xs.length c ∧ xs.length ≤ c ∧ c ≤ maxLen ∧ Rds enc w F (.slice (if c = m then A else A.map (·.add m)) (xs.length - m) (c - m)) (xs.drop m) := by
  obtain ⟨A, c, hv, h1, h2, h3⟩ := h
  refine ⟨A, c, hv, h1, h2, _, _, by rw [List.length_drop], by rw [List.length_drop]; omega, by omega, fun j x hj => ?_⟩
  rw [List.getElem?_drop] at hj
  obtain ⟨b, o, e, hb, hc⟩ := h3 _ x hj
  have hlt : m + j < xs.length := (List.getElem?_eq_some_iff.1 hj).1
  rw [if_neg (by omega), e]
  exact ⟨b, o + m, by simp [add_none], hb, by rw [Nat.add_assoc]; exact hc⟩
theorem Rds.news (h : Rds enc w F v xs) : ∃ A c, v = .slice A xs.length c ∧ xs.length ≤ c ∧ c ≤ maxLen ∧ ∀ j u, (xs.map enc)[j]? = some u → ∃ ad, A = some ad ∧ w.cell? (ad.add j) = some u := by
  obtain ⟨A, c, hv, h1, h2, h3⟩ := h
  refine ⟨A, c, hv, h1, h2, fun j u hj => ?_⟩
  rw [List.getElem?_map] at hj
  obtain ⟨x, hx, rfl⟩ := Option.map_eq_some_iff.1 hj
  obtain ⟨b, o, e, _, hc⟩ := h3 j x hx
  exact ⟨_, e, by rw [add_none]; exact hc⟩
/-- Element i. -/
theorem Rds.at_ (h : Rds enc w F v xs) (i : Nat) (hi : i < xs.length) : ∃ b o c, v = .slice (some ⟨b, o, none⟩) xs.length c ∧ xs.length ≤ c ∧ c ≤ maxLen ∧ F b ∧ w.cell? ⟨b, o + i, none⟩ = some (enc xs[i]) := by
  obtain ⟨A, c, hv, h1, h2, h3⟩ := h
  obtain ⟨b, o, e, hb, hc⟩ := h3 i _ (List.getElem?_eq_getElem hi)
  exact ⟨b, o, c, by rw [hv, e], h1, h2, hb, hc⟩
/-- All of it, where there is something. -/
theorem Rds.all_ (h : Rds enc w F v xs) (hp : 0 < xs.length) : ∃ b o c, v = .slice (some ⟨b, o, none⟩) xs.length c ∧ xs.length ≤ c ∧ c ≤ maxLen ∧ F b ∧ ∀ i (hi : i < xs.length), w.cell? ⟨b, o + i, none⟩ = some (enc xs[i]) := by
  obtain ⟨A, c, hv, h1, h2, h3⟩ := h
  obtain ⟨b, o, e, hb, hc⟩ := h3 0 _ (List.getElem?_eq_getElem hp)
  refine ⟨b, o, c, by rw [hv, e], h1, h2, hb, fun i hi => ?_⟩
  obtain ⟨b', o', e', _, hc'⟩ := h3 i _ (List.getElem?_eq_getElem hi)
  rw [e] at e'
  cases e'
  exact hc'
theorem Rds.shape (h : Rds enc w F v xs) : ∃ A c, v = .slice A xs.length c ∧ xs.length ≤ c ∧ c ≤ maxLen := by
  obtain ⟨A, c, hv, h1, h2, _⟩ := h
  exact ⟨A, c, hv, h1, h2⟩
end

/-! ### rows of the call's own (the kit's 'ownsRow', base 0), with the blocks that they may lie in -/
/-- v owns the cells xs (n elements of type e, sz cells each); its block is one of O's. -/
def Ow (w : World) (O : Nat → Prop) (e : TypeId) (sz : Nat) (v : Value) (n : Nat) (xs : List Value) : Prop := w.ownsRow 0 e sz v n xs ∧ ∀ k, v.ownBlock = some k → O k
section
variable {w w' : World} {O O' : Nat → Prop} {e : TypeId} {sz n : Nat} {v : Value} {xs : List Value}
theorem Ow.nil (w : World) (O : Nat → Prop) (e : TypeId) (sz : Nat) : Ow w O e sz (.slice none 0 0) 0 [] := ⟨World.ownsRow_nil w 0 e sz, fun k hk => by simp [Value.ownBlock] at hk⟩
theorem Ow.mono (h : Ow w O e sz v n xs) (hf : ∀ k, O k → O' k) : Ow w O' e sz v n xs := ⟨h.1, fun k hk => hf k (h.2 k hk)⟩
theorem Ow.bound (h : Ow w O e sz v n xs) : Ow w (fun k => O k ∧ k < w.heap.size) e sz v n xs := ⟨h.1, fun k hk => ⟨h.2 k hk, (h.1.lt k hk).2⟩⟩
theorem Ow.just (h : Ow w O e sz v n xs) : Ow w (fun k => v.ownBlock = some k) e sz v n xs := ⟨h.1, fun k hk => hk⟩
theorem Ow.move (h : Ow w O e sz v n xs) (hm : ∀ k, O k → k < w.heap.size → w'.heap[k]? = w.heap[k]?) : Ow w' O e sz v n xs := by
  refine ⟨⟨h.1.1, ?_⟩, h.2⟩
  rcases h.1.2 with h2 | ⟨g, cap, cur, rfl, hg, hh, r⟩
  · exact .inl h2
  · exact .inr ⟨g, cap, cur, rfl, hg, (hm g (h.2 g (by simp [Value.ownBlock])) (heap_lt hh)).trans hh, r⟩
theorem Ow.fr {S : Nat → Prop} (h : Ow w O e sz v n xs) (hf : Fr S w w') (hs : ∀ k, k < w.heap.size → O k → ¬ S k) : Ow w' O e sz v n xs := h.move fun k hk hl => hf.block k hl (hs k hl hk)
theorem Ow.shape (h : Ow w O e sz v n xs) : ∃ A c, v = .slice A n c ∧ n ≤ c ∧ c ≤ maxLen := by
  rcases h.1.2 with ⟨rfl, rfl⟩ | ⟨g, cap, cur, rfl, hg, hh, h1, h2, _⟩
  · exact ⟨none, 0, rfl, Nat.le_refl _, Nat.zero_le _⟩
  · exact ⟨_, cap, rfl, h1, h2⟩
/-- Where there is an element: the block. -/
theorem Ow.form (h : Ow w O e sz v n xs) (hp : 0 < n) : ∃ g c cur, v = .slice (some ⟨g, 0, none⟩) n c ∧ O g ∧ w.heap[g]? = some (.cells cur e (0, 0)) ∧ n ≤ c ∧ c ≤ maxLen ∧ cur.size = c * sz ∧ cur.toList.take (n * sz) = xs := by
  rcases h.1.2 with ⟨rfl, rfl⟩ | ⟨g, cap, cur, rfl, hg, hh, h1, h2, h3, h4⟩
  · omega
  · exact ⟨g, cap, cur, rfl, h.2 g rfl, hh, h1, h2, h3, h4⟩
theorem Ow.len (h : Ow w O e sz v n xs) : xs.length = n * sz := h.1.1
theorem Ow.cells (h : Ow w O e sz v n xs) : ∃ A c, v = .slice A n c ∧ n ≤ c ∧ c ≤ maxLen ∧ ∀ j u, xs[j]? = some u → ∃ g, A = some ⟨g, 0, none⟩ ∧ O g ∧ w.cell? ⟨g, j, none⟩ = some u ∧ w.frozen? ⟨g, j, none⟩ = false := by
  rcases h.1.2 with ⟨rfl, rfl⟩ | ⟨g, cap, cur, rfl, hg, hh, h1, h2, h3, h4⟩
  · refine ⟨none, 0, rfl, Nat.le_refl _, Nat.zero_le _, fun j u hj => ?_⟩
    have := h.1.1
    simp at this
    simp [this] at hj
  · refine ⟨_, cap, rfl, h1, h2, fun j u hj => ⟨g, rfl, h.2 g rfl, ?_, blk_free hh _⟩⟩
    rw [blk_cell hh]
    rw [← h4, List.getElem?_take] at hj
    split at hj
    · simpa using hj
    · cases hj
theorem Ow.reads {α : Type} {enc : α → Value} {l : List α} (h : Ow w O e 1 v l.length (l.map enc)) : Rds enc w O v l := by
  obtain ⟨A, c, hv, h1, h2, h3⟩ := h.cells
  refine ⟨A, c, hv, h1, h2, fun j x hj => ?_⟩
  obtain ⟨g, hA, hg, hc, _⟩ := h3 j (enc x) (by rw [List.getElem?_map, hj]; rfl)
  exact ⟨g, 0, hA, hg, by rw [Nat.zero_add]; exact hc⟩
end

/-! ### append -/
section
variable {P : Program}
theorem run_app {W : World} {O : Nat → Prop} (t ty e : TypeId) (z : Value) (sz bytes : Nat) (ht : P.underlying t = some (.slice e)) (hinfo : (P.info? e).map (fun i => (i.zero, i.size, i.bytes)) = some (some z, sz, bytes))
    (hz : z.cells.size = sz) (hs0 : 0 < sz) (hb0 : 0 < bytes) (v : Value) (n : Nat) (xs : List Value) (HO : Ow W O e sz v n xs) (A : Option Addr) (m c : Nat) (news : List Value) (hl : news.length = m * sz)
    (hnews : ∀ j u, news[j]? = some u → ∃ ad, A = some ad ∧ W.cell? (ad.add j) = some u) (h1 : ∀ u ∈ news, u.oneCell' = true) (hb : (n + m) * bytes ≤ 140737488355328) :
    ∃ v1 w1, (Builtin.append_ #[t, t] ty #[v, .slice A m c]).run P W = .ok v1 w1 ∧ Ow w1 (fun k => v.ownBlock = some k ∨ k = W.heap.size) e sz v1 (n + m) (xs ++ news) ∧ Fr (fun k => v.ownBlock = some k) W w1 := by
  obtain ⟨i0, hi, hzz⟩ := Option.map_eq_some_iff.1 hinfo
  simp only [Prod.mk.injEq] at hzz
  obtain ⟨hz0, hz1, hz2⟩ := hzz
  have hlen : n + m ≤ 140737488355328 := Nat.le_trans (Nat.le_mul_of_pos_right _ hb0) hb
  rcases Nat.eq_zero_or_pos m with rfl | hm
  · obtain rfl : news = [] := List.eq_nil_of_length_eq_zero (by simpa using hl)
    refine ⟨v, W, ?_, ?_, Fr.refl _ _⟩
    · rcases HO.1.2 with ⟨rfl, rfl⟩ | ⟨g, cap, cur, rfl, _, hh, hnc, hcm, hsz, _⟩
      · cases A <;> simp [Builtin.append_, run_underlying ht, sizeOf, typeInfo, hi, Builtin.lenOf, Builtin.firstCells, loadCells, loadCellsFrom]
      · cases A <;> simp [Builtin.append_, run_underlying ht, sizeOf, typeInfo, hi, Builtin.lenOf, Builtin.firstCells, hnc, storeCells, loadCells, loadCellsFrom]
    · rw [Nat.add_zero, List.append_nil]; exact ⟨HO.1, fun k hk => .inl hk⟩
  · have hnl : 0 < news.length := by rw [hl]; exact Nat.mul_pos hm hs0
    obtain ⟨ad, rfl, _⟩ := hnews 0 _ (List.getElem?_eq_getElem hnl)
    obtain ⟨v1, w1, hr, h2, h3, _, h5⟩ := run_append_own_at (P := P) W 0 t ty e i0 z sz bytes ht hi hz0 hz1 hz2 hz hs0 v n xs HO.1 ad m c news hl
      (fun j u hj => by obtain ⟨ad', he, hc⟩ := hnews j u hj; cases he; exact hc) h1 (by simp only [maxLen]; omega) hb (Nat.zero_le _)
    refine ⟨v1, w1, hr, ⟨h2, fun k hk => ?_⟩, Fr.grown h3 fun k hk => hk⟩
    rcases h5 with h5 | h5
    · exact .inl (h5 ▸ hk)
    · exact .inr (by rw [h5] at hk; exact (Option.some.inj hk).symm)
/-- append of one element whose cells lie in a block of their own. -/
theorem wp_app {W : World} {O : Nat → Prop} {o : Oper} {a : Act} {K : Act → World → Prop} {Q : Exit → Act → World → Prop} (s x : Operand) (t e : TypeId)
    (ho : o.op = .call { callee := .builtin .append, args := #[s, x], argTypes := #[t, t] })
    (z : Value) (sz bytes : Nat) (ht : P.underlying t = some (.slice e)) (hinfo : (P.info? e).map (fun i => (i.zero, i.size, i.bytes)) = some (some z, sz, bytes))
    (hz : z.cells.size = sz) (hs0 : 0 < sz) (hb0 : 0 < bytes) (v : Value) (n : Nat) (xs : List Value) (hs : a.eval s = v) (A : Option Addr) (m c : Nat) (hx : a.eval x = .slice A m c) (HO : Ow W O e sz v n xs) (news : List Value) (hl : news.length = m * sz)
    (hnews : ∀ j u, news[j]? = some u → ∃ ad, A = some ad ∧ W.cell? (ad.add j) = some u) (h1 : ∀ u ∈ news, u.oneCell' = true) (hb : (n + m) * bytes ≤ 140737488355328)
    (h : ∀ v1 w1, Ow w1 (fun k => v.ownBlock = some k ∨ k = W.heap.size) e sz v1 (n + m) (xs ++ news) → Fr (fun k => v.ownBlock = some k) W w1 → K (a.put o.dst v1) w1) : o.wp P a W K Q := by
  obtain ⟨v1, w1, hr, h2, h3⟩ := run_app (P := P) t o.type e z sz bytes ht hinfo hz hs0 hb0 v n xs HO A m c news hl hnews h1 hb
  unfold Oper.wp execOp
  simp only [ho, resolve, invoke, builtin, Sem.run_bind, Sem.run_pure, Result.andThen_ok, List.map_toArray, List.map_cons, List.map_nil, hs, hx, hr]
  exact h v1 w1 h2 h3
theorem wpList_app {W : World} {O : Nat → Prop} {ops : Array Oper} {rest : List Oper} {o : Oper} {a : Act} {Q : Exit → Act → World → Prop} (hgd : o.guard = none) (s x : Operand) (t e : TypeId)
    (ho : o.op = .call { callee := .builtin .append, args := #[s, x], argTypes := #[t, t] })
    (z : Value) (sz bytes : Nat) (ht : P.underlying t = some (.slice e)) (hinfo : (P.info? e).map (fun i => (i.zero, i.size, i.bytes)) = some (some z, sz, bytes))
    (hz : z.cells.size = sz) (hs0 : 0 < sz) (hb0 : 0 < bytes) (v : Value) (n : Nat) (xs : List Value) (hs : a.eval s = v) (A : Option Addr) (m c : Nat) (hx : a.eval x = .slice A m c) (HO : Ow W O e sz v n xs) (news : List Value) (hl : news.length = m * sz)
    (hnews : ∀ j u, news[j]? = some u → ∃ ad, A = some ad ∧ W.cell? (ad.add j) = some u) (h1 : ∀ u ∈ news, u.oneCell' = true) (hb : (n + m) * bytes ≤ 140737488355328)
    (h : ∀ v1 w1, Ow w1 (fun k => v.ownBlock = some k ∨ k = W.heap.size) e sz v1 (n + m) (xs ++ news) → Fr (fun k => v.ownBlock = some k) W w1 → wpList P ops Q rest (a.put o.dst v1) w1) : wpList P ops Q (o :: rest) a W :=
  wpList_plain hgd fun K hK => wp_app s x t e ho z sz bytes ht hinfo hz hs0 hb0 v n xs hs A m c hx HO news hl hnews h1 hb fun v1 w1 h2 h3 => hK _ _ (h v1 w1 h2 h3)
end

/-! ### copy into a row of the call's own, from a place on -/
section
variable {P : Program}
theorem splice_nil {α : Type} (L : List α) (off : Nat) : splice L off [] = L := by simp [splice]
theorem run_cpy {W : World} {O : Nat → Prop} (t t' ty e : TypeId) (ht : P.underlying t = some (.slice e)) (hsz : (P.info? e).map (·.size) = some 1)
    (v : Value) (n : Nat) (xs : List Value) (HO : Ow W O e 1 v n xs) (off : Nat) (hoff : off ≤ n) (dp : Option Addr) (dLen dCap : Nat) (hdl : off + dLen ≤ n) (hd : 0 < dLen → ∀ g c, v = .slice (some ⟨g, 0, none⟩) n c → dp = some ⟨g, off, none⟩)
    (sp : Option Addr) (sLen sCap : Nat) (cs : List Value) (hn : cs.length = min sLen dLen) (hsrc : ∀ j u, cs[j]? = some u → ∃ ad, sp = some ad ∧ W.cell? (ad.add j) = some u) (h1 : ∀ u ∈ cs, u.oneCell' = true) :
    ∃ w1, (Builtin.copy_ #[t, t'] ty #[.slice dp dLen dCap, .slice sp sLen sCap]).run P W = .ok (goInt cs.length) w1 ∧ Ow w1 (fun k => v.ownBlock = some k) e 1 v n (splice xs off cs) ∧ Fr (fun k => v.ownBlock = some k) W w1 := by
  rcases Nat.eq_zero_or_pos cs.length with h0 | hp
  · obtain rfl : cs = [] := List.eq_nil_of_length_eq_zero h0
    exact ⟨W, run_copy_none (P := P) W t t' ty e dp sp dLen dCap sLen sCap ht hsz (by simpa using hn.symm), by rw [splice_nil]; exact HO.just, Fr.refl _ _⟩
  · have hdp : 0 < dLen := by omega
    obtain ⟨g, c, cur, rfl, hO, hh, hnc, hcm, hcs, htk⟩ := HO.form (by omega)
    obtain rfl := hd hdp g c rfl
    obtain ⟨ad, rfl, _⟩ := hsrc 0 _ (List.getElem?_eq_getElem hp)
    have hfit : off + cs.length ≤ cur.size := by omega
    have hr := run_copy_row (P := P) W t t' ty e g off dLen dCap ad sLen sCap cur e cs ht hsz hh hn (fun j u hj => by obtain ⟨ad', he, hc⟩ := hsrc j u hj; cases he; exact hc) hfit h1
    refine ⟨_, hr, ⟨⟨?_, .inr ⟨g, c, _, rfl, Nat.zero_le _, setRow_heap W g cur _ e _ hh, hnc, hcm, ?_, ?_⟩⟩, fun k hk => hk⟩, ⟨rfl, rfl, rfl, by simp [World.setRow], fun k hk hn => setRow_other W g k _ (fun e => hn (by simp [Value.ownBlock, e]))⟩⟩
    · rw [length_splice _ _ _ (by rw [HO.len]; omega), HO.len]
    · simp [Array.length_toList]; omega
    · have hxl : n * 1 = n := Nat.mul_one n
      rw [hxl] at htk ⊢
      rw [← htk]
      simp only [splice]
      have hcl : cur.toList.length = cur.size := Array.length_toList
      have hof : off + cs.length ≤ n := by omega
      have e1 : (cur.toList.take off).length = off := by rw [List.length_take]; omega
      rw [List.take_append, List.take_append, e1, List.take_take, List.take_take, List.take_of_length_le (l := cs) (by omega), List.drop_take, Nat.min_eq_right (by omega : off ≤ n), Nat.min_eq_left (by omega : off ≤ n), List.length_append, e1, List.append_assoc]
theorem wp_cpy {W : World} {O : Nat → Prop} {o : Oper} {a : Act} {K : Act → World → Prop} {Q : Exit → Act → World → Prop} (d s : Operand) (t t' e : TypeId) (ho : o.op = .call { callee := .builtin .copy, args := #[d, s], argTypes := #[t, t'] })
    (ht : P.underlying t = some (.slice e)) (hsz : (P.info? e).map (·.size) = some 1)
    (dp : Option Addr) (dLen dCap : Nat) (hde : a.eval d = .slice dp dLen dCap) (sp : Option Addr) (sLen sCap : Nat) (hse : a.eval s = .slice sp sLen sCap)
    (v : Value) (n : Nat) (xs : List Value) (HO : Ow W O e 1 v n xs) (off : Nat) (hoff : off ≤ n) (hdl : off + dLen ≤ n) (hd : 0 < dLen → ∀ g c, v = .slice (some ⟨g, 0, none⟩) n c → dp = some ⟨g, off, none⟩)
    (cs : List Value) (hn : cs.length = min sLen dLen) (hsrc : ∀ j u, cs[j]? = some u → ∃ ad, sp = some ad ∧ W.cell? (ad.add j) = some u) (h1 : ∀ u ∈ cs, u.oneCell' = true)
    (h : ∀ w1, Ow w1 (fun k => v.ownBlock = some k) e 1 v n (splice xs off cs) → Fr (fun k => v.ownBlock = some k) W w1 → K (a.put o.dst (goInt cs.length)) w1) : o.wp P a W K Q := by
  obtain ⟨w1, hr, h2, h3⟩ := run_cpy (P := P) t t' o.type e ht hsz v n xs HO off hoff dp dLen dCap hdl hd sp sLen sCap cs hn hsrc h1
  unfold Oper.wp execOp
  simp only [ho, resolve, invoke, builtin, Sem.run_bind, Sem.run_pure, Result.andThen_ok, List.map_toArray, List.map_cons, List.map_nil, hde, hse, hr]
  exact h w1 h2 h3
theorem wpList_cpy {W : World} {O : Nat → Prop} {ops : Array Oper} {rest : List Oper} {o : Oper} {a : Act} {Q : Exit → Act → World → Prop} (hgd : o.guard = none) (d s : Operand) (t t' e : TypeId) (ho : o.op = .call { callee := .builtin .copy, args := #[d, s], argTypes := #[t, t'] })
    (ht : P.underlying t = some (.slice e)) (hsz : (P.info? e).map (·.size) = some 1)
    (dp : Option Addr) (dLen dCap : Nat) (hde : a.eval d = .slice dp dLen dCap) (sp : Option Addr) (sLen sCap : Nat) (hse : a.eval s = .slice sp sLen sCap)
    (v : Value) (n : Nat) (xs : List Value) (HO : Ow W O e 1 v n xs) (off : Nat) (hoff : off ≤ n) (hdl : off + dLen ≤ n) (hd : 0 < dLen → ∀ g c, v = .slice (some ⟨g, 0, none⟩) n c → dp = some ⟨g, off, none⟩)
    (cs : List Value) (hn : cs.length = min sLen dLen) (hsrc : ∀ j u, cs[j]? = some u → ∃ ad, sp = some ad ∧ W.cell? (ad.add j) = some u) (h1 : ∀ u ∈ cs, u.oneCell' = true)
    (h : ∀ w1, Ow w1 (fun k => v.ownBlock = some k) e 1 v n (splice xs off cs) → Fr (fun k => v.ownBlock = some k) W w1 → wpList P ops Q rest (a.put o.dst (goInt cs.length)) w1) : wpList P ops Q (o :: rest) a W :=
  wpList_plain hgd fun K hK => wp_cpy d s t t' e ho ht hsz dp dLen dCap hde sp sLen sCap hse v n xs HO off hoff hdl hd cs hn hsrc h1 fun w1 h2 h3 => hK _ _ (h w1 h2 h3)
end
/-! ### cuts -/
theorem cut_at {A : Option Addr} {n c a : Nat} (hc : n ≤ c) : 0 < n - a → ∀ g c', Value.slice A n c = .slice (some ⟨g, 0, none⟩) n c' → (if c = a then A else Option.map (fun x => x.add a) A) = some ⟨g, a, none⟩ := by
  intro h g c' he
  cases he
  rw [if_neg (by omega)]
  simp [add_none]
theorem splice_map {α β : Type} (f : α → β) (L : List α) (a : Nat) (b : List α) : splice (L.map f) a (b.map f) = (splice L a b).map f := by
  simp [splice, List.map_take, List.map_drop]
theorem cut_run {P : Program} (t e : TypeId) (ht : P.underlying t = some (.slice e)) (hsz : (P.info? e).map (·.size) = some 1) (A : Option Addr) (n c a : Nat) (h : a ≤ n) :
    ∃ A' : Option Addr, (∀ W : World, (Instr.slice t (.slice A n c) (some (.int .i64 (a : Int))) none none).run P W = .ok (.slice A' (n - a) (c - a)) W) ∧ A' = (if c = a then A else Option.map (fun x => x.add a) A) := by
  obtain ⟨i, hi, hs⟩ := Option.map_eq_some_iff.1 hsz
  refine ⟨_, fun W => ?_, rfl⟩
  have hel : P.elem t = e := by simp [Program.elem, ht]
  have hu : P.underlying t = some (.slice (P.elem t)) := by rw [hel]; exact ht
  rw [run_slice_l W t A n c hu .i64 (a : Int) (Int.natCast_nonneg _) (by omega), hel]
  simp [sizeOf, typeInfo, hi, hs, sliced, Result.andThen]
/-- xs[x:y] -/
theorem cut2_run {P : Program} (t e : TypeId) (ht : P.underlying t = some (.slice e)) (hsz : (P.info? e).map (·.size) = some 1) (A : Option Addr) (n c : Nat) (x y : Int) (h0 : 0 ≤ x) (h1 : x ≤ y) (h2 : y ≤ c) :
    ∃ A' : Option Addr, (∀ W : World, (Instr.slice t (.slice A n c) (some (.int .i64 x)) (some (.int .i64 y)) none).run P W = .ok (.slice A' (y.toNat - x.toNat) (c - x.toNat)) W) ∧ A' = (if c = x.toNat then A else Option.map (fun a => a.add x.toNat) A) := by
  obtain ⟨i, hi, hs⟩ := Option.map_eq_some_iff.1 hsz
  refine ⟨_, fun W => ?_, rfl⟩
  have hel : P.elem t = e := by simp [Program.elem, ht]
  have hu : P.underlying t = some (.slice (P.elem t)) := by rw [hel]; exact ht
  rw [run_slice_lh W t A n c hu .i64 .i64 x y h0 h1 h2, hel]
  simp [sizeOf, typeInfo, hi, hs, sliced, Result.andThen]
/-- xs[:y] -/
theorem cut0_run {P : Program} (t e : TypeId) (ht : P.underlying t = some (.slice e)) (hsz : (P.info? e).map (·.size) = some 1) (A : Option Addr) (n c : Nat) (y : Int) (h1 : 0 ≤ y) (h2 : y ≤ c) :
    ∀ W : World, (Instr.slice t (.slice A n c) none (some (.int .i64 y)) none).run P W = .ok (.slice A y.toNat c) W := by
  obtain ⟨i, hi, hs⟩ := Option.map_eq_some_iff.1 hsz
  intro W
  have hel : P.elem t = e := by simp [Program.elem, ht]
  have hu : P.underlying t = some (.slice (P.elem t)) := by rw [hel]; exact ht
  rw [run_slice_h W t A n c hu .i64 y h1 h2, hel]
  simp [sizeOf, typeInfo, hi, hs, sliced, Result.andThen]
  intro h
  cases A <;> simp [Addr.add]
theorem Rds.cut {α : Type} {enc : α → Value} {w : World} {F : Nat → Prop} {A : Option Addr} {c : Nat} {xs : List α} (h : Rds enc w F (.slice A xs.length c) xs) (x y : Nat) (hxy : x ≤ y) (hy : y ≤ xs.length) :
    Rds enc w F (.slice (if c = x then A else Option.map (fun a => a.add x) A) (y - x) (c - x)) ((xs.take y).drop x) := by
  obtain ⟨A', c', hv, h1, h2, h3⟩ := h
  cases hv
  have hl : ((xs.take y).drop x).length = y - x := by rw [List.length_drop, List.length_take]; omega
  refine ⟨_, _, by rw [hl], by omega, by omega, fun j u hj => ?_⟩
  rw [List.getElem?_drop, List.getElem?_take] at hj
  split at hj
  · obtain ⟨b, o, e, hb, hc⟩ := h3 _ u hj
    rw [if_neg (by omega), e]
    exact ⟨b, o + x, by simp [add_none], hb, by rw [Nat.add_assoc]; exact hc⟩
  · cases hj
/-! ### string(b) -/
theorem strOf_enc (l : List UInt8) : strOfNums (l.map fun b => (b.toNat : Int)) = ⟨l.toArray⟩ := by
  unfold strOfNums
  congr 1
  rw [List.map_map]
  congr 1
  induction l with
  | nil => rfl
  | cons x r ih => simp only [List.map_cons, ih, Function.comp]; congr 1; simp
theorem conv_str {P : Program} {W : World} {F : Nat → Prop} {v : Value} {l : List UInt8} {src dst e : TypeId} (hs : P.underlying src = some (.slice e)) (he : P.underlying e = some (.int .u8)) (hd : P.underlying dst = some .string) (h : Rb W F v l) :
    (convert src dst v).run P W = .ok (.string ⟨l.toArray⟩) W := by
  obtain ⟨A, c, rfl, h1, h2, h3⟩ := h
  cases A with
  | none =>
    obtain rfl : l = [] := by
      cases l with
      | nil => rfl
      | cons x xs => obtain ⟨b, o, h, _⟩ := h3 0 _ rfl; cases h
    exact run_convert_bytes_nil W src e hs he 0 c dst hd
  | some ad =>
    have hl : (loadCells ad l.length).run P W = .ok ((l.map fun b => (b.toNat : Int)).map (Value.int .u8)).toArray W := by
      have := run_loadCells_list (P := P) W ad ((l.map fun b => (b.toNat : Int)).map (Value.int .u8)) (fun j v hj => by
        rw [List.map_map, List.getElem?_map] at hj
        obtain ⟨x, hx, rfl⟩ := Option.map_eq_some_iff.1 hj
        obtain ⟨b, o, hA, _, hc⟩ := h3 j x hx
        cases hA
        rw [add_none]
        exact hc)
      simpa using this
    rw [run_convert_bytes_string W src dst e _ l.length c hs he hd, run_bytesToString W ad l.length c _ hl, foldl_push_bytes]
    have := strOf_enc l
    unfold strOfNums at this
    have e2 : (ByteArray.empty.data : Array UInt8) = #[] := rfl
    rw [e2, Array.empty_append, this]
end Go.Proofs.Ytbaohngnpgappaa
namespace Go.Proofs.Ytbaohngnpgappaa
open Go.RowKit

section
variable {P : Program} {ops : Array Oper} {Q : Exit → Act → World → Prop} {S : World → Prop} {ds : List Nat}
/-- Whatever comes up: behind each operation that is none of ds S holds if it held. -/
def wpAnyD (P : Program) (ops : Array Oper) (Q : Exit → Act → World → Prop) (S : World → Prop) (ds : List Nat) : Nat → Array Bool → Act → World → Prop
  | 0, l, a, w => Region.ready .any ops l = [] ∧ Q .normal a w
  | n + 1, l, a, w => (Region.ready .any ops l = [] → Q .normal a w) ∧ ∀ i ∈ Region.ready .any ops l, wpOp P ops Q i (fun a' w' => (i ∉ ds → S w → S w') ∧ wpAnyD P ops Q S ds n (l.setIfInBounds i true) a' w') a w
theorem wpAny_of_D : ∀ (n : Nat) (l : Array Bool) (a : Act) (w : World), wpAnyD P ops Q S ds n l a w → wpAny P .any ops Q n l a w
  | 0, _, _, _, h => h
  | n + 1, _, _, _, h => ⟨h.1, fun i hi => wpOp_mono (fun _ _ h' => wpAny_of_D n _ _ _ h'.2) (h.2 i hi)⟩
theorem YieldsIf.true_ {o : Oper} {v : Value} {a : Act} (h : Yields P ops o v a) : YieldsIf P ops (fun _ => True) o v a := h.yieldsIf
/-- Number i is taken first. T: what its value asks of the world: nothing, or S, and then each of ds waits for it. -/
theorem D_take {T : World → Prop} (b : Bool) (hTS : if b then ∀ w, T w else ∀ w w' : World, (S w → S w') → T w → T w') {i : Nat} {oi : Oper} {v : Value} (hi : ops[i]? = some oi) (hsel : ∀ (j : Nat) (o : Oper) cs b, ops[j]? = some o → o.op ≠ .select cs b)
    (hQ : ∀ c a w, Q (.panic c) (a.put oi.dst v) w → Q (.panic c) a w) :
    ∀ (n : Nat) (l : Array Bool) (a : Act) (w : World),
      (∀ j oj, ops[j]? = some oj → j ≠ i → l.getD j true = false → (∀ e ∈ oj.after, Region.binds .any e = true → e.on ≠ i) → oi.apart ops oj = true) →
      (b = false → ∀ j ∈ ds, l.getD j true = false → ∀ oj, ops[j]? = some oj → ∃ e ∈ oj.after, Region.binds .any e = true ∧ e.on = i) →
      i ∈ Region.ready .any ops l → YieldsIf P ops T oi v a → T w → wpAnyD P ops Q S ds n (l.setIfInBounds i true) (a.put oi.dst v) w → wpAnyD P ops Q S ds (n + 1) l a w := by
  intro n
  induction n with
  | zero =>
    intro l a w _ _ hr hy hT H
    refine ⟨fun h => (by rw [h] at hr; cases hr), fun j hj => ?_⟩
    by_cases hji : j = i
    · subst hji; exact hy.wpOp hi hT ⟨fun _ h => h, H⟩
    · have := ready_mono hj hji
      rw [H.1] at this
      cases this
  | succ n ih =>
    intro l a w hfree hds hr hy hT H
    refine ⟨fun h => (by rw [h] at hr; cases hr), fun j hj => ?_⟩
    by_cases hji : j = i
    · subst hji; exact hy.wpOp hi hT ⟨fun _ h => h, H⟩
    · have h1 := H.2 j (ready_mono hj hji)
      obtain ⟨hjun, oj, hoj, hall⟩ := mem_ready.1 hj
      have hnot : ∀ e ∈ oj.after, Region.binds .any e = true → e.on ≠ i := fun e he hb heq => by
        have h1 := hall e he hb
        have h0 := (mem_ready.1 hr).1
        rw [heq] at h1
        rcases Nat.lt_or_ge i l.size with h' | h'
        · simp [h'] at h0 h1; rw [h0] at h1; cases h1
        · simp [Array.getElem?_eq_none h'] at h1
      have hjd : b = false → j ∉ ds := fun hb0 hm => by
        obtain ⟨e, he, hb, hon⟩ := hds hb0 j hm hjun oj hoj
        exact hnot e he hb hon
      have h2 := wpOp_putIf hoj (hfree j oj hoj hji hjun hnot) (fun cs b => hsel i oi cs b hi) (fun cs b => hsel j oj cs b hoj) hQ hy h1
      have hun : ∀ k, (l.setIfInBounds j true).getD k true = false → l.getD k true = false := fun k hk => by
        by_cases hjk : j = k
        · subst hjk; exact hjun
        · rw [getD_set_ne true hjk] at hk; exact hk
      refine wpOp_mono (fun a' w' h3 => ⟨h3.2.1, ih (l.setIfInBounds j true) a' w' (fun k ok hk hki hu hno => hfree k ok hk hki (hun k hu) hno) (fun hb0 k hk hu => hds hb0 k hk (hun k hu)) (ready_mono hr (Ne.symm hji)) h3.1 (by cases b; exact hTS w w' (h3.2.1 (hjd rfl)) hT; exact hTS w') ?_⟩) h2
      rw [Array.setIfInBounds_comm _ _ hji]
      exact h3.2.2

/-- The operations one by one: what is no effect yields; an effect is run, S is shown behind it if it is none of ds. -/
def wpSeq (P : Program) (ops : Array Oper) (Q : Exit → Act → World → Prop) (S : World → Prop) (eff lds ds : List Nat) : List Nat → Act → World → Prop
  | [], a, w => Q .normal a w
  | i :: r, a, w => if eff.contains i then wpOp P ops Q i (fun a' w' => (i ∉ ds → S w') ∧ wpSeq P ops Q S eff lds ds r a' w') a w
    else ∃ oi v, ops[i]? = some oi ∧ (if lds.contains i then YieldsIf P ops S oi v a ∧ S w else Yields P ops oi v a) ∧ wpSeq P ops Q S eff lds ds r (a.put oi.dst v) w
def directB (ops : Array Oper) (d i : Nat) : Bool := ((ops[d]?).map fun o => o.after.any fun e => Region.binds .any e && e.on == i).getD true
def seqB (ops : Array Oper) (eff lds ds : List Nat) : List Nat → Array Bool → Bool
  | [], l => (Region.ready .any ops l).isEmpty
  | i :: r, l => (if eff.contains i then Region.ready .any ops l == [i] else Region.free .any ops l i && (Region.ready .any ops l).contains i && (!lds.contains i || ds.all (fun d => l.getD d true || directB ops d i))) && seqB ops eff lds ds r (l.setIfInBounds i true)
theorem seq_sound (hs : Region.noSelect ops = true) (hQ : ∀ c (a : Act) (d : Tmp) (v : Value) w, Q (.panic c) (a.put (some d) v) w → Q (.panic c) a w) {eff lds : List Nat} : ∀ (order : List Nat) (l : Array Bool) (a : Act) (w : World), seqB ops eff lds ds order l = true → wpSeq P ops Q S eff lds ds order a w → wpAnyD P ops Q S ds order.length l a w := by
  intro order
  induction order with
  | nil =>
    intro l a w hb h
    exact ⟨by simpa [seqB] using hb, h⟩
  | cons i r ih =>
    intro l a w hb h
    simp only [seqB, Bool.and_eq_true] at hb
    obtain ⟨hb1, hb2⟩ := hb
    simp only [wpSeq] at h
    by_cases he : eff.contains i = true
    · rw [if_pos he] at h hb1
      have hr : Region.ready .any ops l = [i] := by simpa using hb1
      refine ⟨fun h0 => (by rw [hr] at h0; cases h0), fun j hj => ?_⟩
      rw [hr] at hj
      obtain rfl := List.mem_singleton.1 hj
      exact wpOp_mono (fun a' w' h' => ⟨fun hn _ => h'.1 hn, ih _ a' w' hb2 h'.2⟩) h
    · rw [if_neg he] at h hb1
      obtain ⟨oi, v, hi, hy, hrest⟩ := h
      simp only [Bool.and_eq_true] at hb1
      obtain ⟨⟨hf, hr⟩, hd⟩ := hb1
      have hfree := Region.free_spec hi hf
      have hr' : i ∈ Region.ready .any ops l := by simpa using hr
      by_cases hl : lds.contains i = true
      · rw [if_pos hl] at hy
        rw [hl, Bool.not_true, Bool.false_or] at hd
        refine D_take false (T := S) (fun w w' h => h) hi (Region.noSelect_spec hs) (fun c a w h => by cases hdst : oi.dst with | none => rw [hdst] at h; exact h | some d => rw [hdst] at h; exact hQ c a d _ w h) _ l a w hfree (fun _ j hj hun oj hoj => ?_) hr' hy.1 hy.2 (ih _ _ w hb2 hrest)
        have h1 := List.all_eq_true.1 hd j hj
        rw [hun, Bool.false_or] at h1
        simp only [directB, hoj, Option.map_some, Option.getD_some] at h1
        obtain ⟨e, he, h2⟩ := Array.any_eq_true'.1 h1
        simp only [Bool.and_eq_true, beq_iff_eq] at h2
        exact ⟨e, he, h2⟩
      · rw [if_neg hl] at hy
        exact D_take true (T := fun _ => True) (fun _ => trivial) hi (Region.noSelect_spec hs) (fun c a w h => by cases hdst : oi.dst with | none => rw [hdst] at h; exact h | some d => rw [hdst] at h; exact hQ c a d _ w h) _ l a w hfree (fun h => by cases h) hr' (YieldsIf.true_ hy) trivial (ih _ _ w hb2 hrest)
/-- A REGION OF OPEN ORDER. -/
theorem wp_seq_region {id : Nat} {a : Act} {w : World} (S : World → Prop) (eff lds ds order : List Nat) (hm : P.follows .mixedOrders = true) (hs : Region.noSelect ops = true)
    (hlen : order.length = ops.size) (hb : seqB ops eff lds ds order (Array.replicate ops.size false) = true) (hQ : ∀ c (a : Act) (d : Tmp) (v : Value) w, Q (.panic c) (a.put (some d) v) w → Q (.panic c) a w)
    (h : wpSeq P ops Q S eff lds ds order a w.drew) : (Code.region id ops true).wp P Q a w :=
  wp_region_any hm (by have := wpAny_of_D _ _ _ _ (seq_sound (S := S) (ds := ds) hs hQ order _ a w.drew hb h); rw [hlen] at this; exact this)

/-! the steps -/
variable {eff lds : List Nat} {i : Nat} {r : List Nat} {oi : Oper} {a a' : Act} {w : World} {v : Value}
theorem sq_done (h : Q .normal a w) : wpSeq P ops Q S eff lds ds [] a w := h
theorem sq_any (hi0 : ops.toList[i]? = some oi) (he : eff.contains i = false) (hl : lds.contains i = false) (hw : Region.wanted oi (yielded ops a.tmps) = true) (hrun : ∀ W, (execOp a.eval oi).run P W = .ok (.value v) W) (ha : a.put oi.dst v = a') (h : wpSeq P ops Q S eff lds ds r a' w) : wpSeq P ops Q S eff lds ds (i :: r) a w := by
  have hi : ops[i]? = some oi := by rw [← Array.getElem?_toList]; exact hi0
  subst ha
  simp only [wpSeq, he, hl]
  exact ⟨oi, v, hi, .inl ⟨hw, hrun⟩, h⟩
theorem sq_load (hi0 : ops.toList[i]? = some oi) (he : eff.contains i = false) (hl : lds.contains i = true) (hw : Region.wanted oi (yielded ops a.tmps) = true) (hrun : ∀ W, S W → (execOp a.eval oi).run P W = .ok (.value v) W) (hS : S w) (ha : a.put oi.dst v = a') (h : wpSeq P ops Q S eff lds ds r a' w) : wpSeq P ops Q S eff lds ds (i :: r) a w := by
  have hi : ops[i]? = some oi := by rw [← Array.getElem?_toList]; exact hi0
  subst ha
  simp only [wpSeq, he, hl, if_true]
  exact ⟨oi, v, hi, ⟨.inl ⟨hw, hrun⟩, hS⟩, h⟩
theorem sq_off (hi0 : ops.toList[i]? = some oi) (he : eff.contains i = false) (hw : Region.wanted oi (yielded ops a.tmps) = false) (hS : lds.contains i = true → S w) (ha : a.put oi.dst undef = a') (h : wpSeq P ops Q S eff lds ds r a' w) : wpSeq P ops Q S eff lds ds (i :: r) a w := by
  have hi : ops[i]? = some oi := by rw [← Array.getElem?_toList]; exact hi0
  subst ha
  simp only [wpSeq, he]
  refine ⟨oi, undef, hi, ?_, h⟩
  split
  · rename_i hl; exact ⟨.inr ⟨hw, rfl⟩, hS hl⟩
  · exact .inr ⟨hw, rfl⟩
/-- An effect: its step is shown (S behind it, if it is none of ds). -/
theorem sq_eff (hi0 : ops.toList[i]? = some oi) (he : eff.contains i = true) (hw : Region.wanted oi (yielded ops a.tmps) = true)
    (h : ∀ K : Act → World → Prop, Hid (∀ a' w', (i ∉ ds → S w') → wpSeq P ops Q S eff lds ds r a' w' → K a' w') → oi.wp P a w K Q) : wpSeq P ops Q S eff lds ds (i :: r) a w := by
  have hi : ops[i]? = some oi := by rw [← Array.getElem?_toList]; exact hi0
  simp only [wpSeq, he, if_true, wpOp, hi, hw]
  exact .inl (h _ (fun a' w' h1 h2 => ⟨h1, h2⟩))
theorem sq_eff_off (hi0 : ops.toList[i]? = some oi) (he : eff.contains i = true) (hw : Region.wanted oi (yielded ops a.tmps) = false) (hS : i ∉ ds → S w) (ha : a.put oi.dst undef = a') (h : wpSeq P ops Q S eff lds ds r a' w) : wpSeq P ops Q S eff lds ds (i :: r) a w := by
  have hi : ops[i]? = some oi := by rw [← Array.getElem?_toList]; exact hi0
  subst ha
  simp only [wpSeq, he, if_true, wpOp, hi, hw]
  exact ⟨hS, h⟩
/-- An effect that yields a value (and may make memory). -/
theorem sq_value {w1 : World} (hi0 : ops.toList[i]? = some oi) (he : eff.contains i = true) (hw : Region.wanted oi (yielded ops a.tmps) = true) (hrun : (execOp a.eval oi).run P w = .ok (.value v) w1)
    (hS : i ∉ ds → S w1) (ha : a.put oi.dst v = a') (h : wpSeq P ops Q S eff lds ds r a' w1) : wpSeq P ops Q S eff lds ds (i :: r) a w := by
  have hi : ops[i]? = some oi := by rw [← Array.getElem?_toList]; exact hi0
  subst ha
  refine sq_eff hi0 he hw fun K hK => ?_
  unfold Oper.wp
  rw [hrun]
  exact hK.out _ _ hS h
/-- A store. -/
theorem sq_store {w1 : World} (hi0 : ops.toList[i]? = some oi) (he : eff.contains i = true) (hw : Region.wanted oi (yielded ops a.tmps) = true) (hd : oi.dst = none) (hrun : (execOp a.eval oi).run P w = .ok .skip w1)
    (hS : i ∉ ds → S w1) (h : wpSeq P ops Q S eff lds ds r a w1) : wpSeq P ops Q S eff lds ds (i :: r) a w := by
  have hi : ops[i]? = some oi := by rw [← Array.getElem?_toList]; exact hi0
  refine sq_eff hi0 he hw fun K hK => ?_
  unfold Oper.wp
  rw [hrun]
  show K (a.put oi.dst undef) w1
  rw [hd]
  exact hK.out _ _ hS h
theorem enters {f : FuncId} {fn : Func} (hf : P.funcs[f]? = some fn) (hname : (fn.name == "runtime.NumGoroutine") = false) (hb : fn.body.isSome = true) (args : Array Value) (w : World) : (callFunc f args).run P w = .ok (.enter f args) w := by
  have h1 : fn.name ≠ "runtime.NumGoroutine" := by simpa using hname
  obtain ⟨c, hc⟩ := Option.isSome_iff_exists.1 hb
  simp [callFunc, hf, h1, hc]
/-- A call of a function by its number. -/
theorem sq_call (hi0 : ops.toList[i]? = some oi) (he : eff.contains i = true) (hw : Region.wanted oi (yielded ops a.tmps) = true) {f : FuncId} {fn : Func} {as : Array Operand} {ts : Array TypeId} (hop : oi.op = .call { callee := .value (.func f), args := as, argTypes := ts })
    (hf : P.funcs[f]? = some fn) (hname : (fn.name == "runtime.NumGoroutine") = false) (hb : fn.body.isSome = true) (args : List Value) (hargs : as.toList.map a.eval = args)
    (h : Calls P f args.toArray w fun e w' => ∃ v, e = .returned v ∧ (i ∉ ds → S w') ∧ wpSeq P ops Q S eff lds ds r (a.put oi.dst v) w') : wpSeq P ops Q S eff lds ds (i :: r) a w := by
  refine sq_eff hi0 he hw fun K hK => ?_
  have hargs' : as.map a.eval = args.toArray := by rw [← hargs, ← Array.toList_map]
  have hrun : (execOp a.eval oi).run P w = .ok (.enter f args.toArray) w := by
    unfold execOp
    simp [hop, resolve, Deferred.ofValue, invoke, Act.eval, hargs', enters hf hname hb args.toArray w]
  unfold Oper.wp
  rw [hrun, Oper.upon_enter]
  refine h.mono fun e w'' hh => ?_
  obtain ⟨v, rfl, hS, hk⟩ := hh
  exact hK.out _ _ hS hk
/-- The same in a plain region. -/
theorem wpList_call {rest : List Oper} {o : Oper} (hg : o.guard = none) {f : FuncId} {fn : Func} {as : Array Operand} {ts : Array TypeId} (hop : o.op = .call { callee := .value (.func f), args := as, argTypes := ts })
    (hf : P.funcs[f]? = some fn) (hname : (fn.name == "runtime.NumGoroutine") = false) (hb : fn.body.isSome = true) (args : List Value) (hargs : as.toList.map a.eval = args)
    (h : Calls P f args.toArray w fun e w' => ∃ v, e = .returned v ∧ wpList P ops Q rest (a.put o.dst v) w') : wpList P ops Q (o :: rest) a w := by
  refine wpList_plain hg fun K hK => ?_
  have hargs' : as.map a.eval = args.toArray := by rw [← hargs, ← Array.toList_map]
  have hrun : (execOp a.eval o).run P w = .ok (.enter f args.toArray) w := by
    unfold execOp
    simp [hop, resolve, Deferred.ofValue, invoke, Act.eval, hargs', enters hf hname hb args.toArray w]
  unfold Oper.wp
  rw [hrun, Oper.upon_enter]
  refine h.mono fun e w'' hh => ?_
  obtain ⟨v, rfl, hk⟩ := hh
  exact hK _ _ hk
/-- append. -/
theorem sq_app {O : Nat → Prop} (hi0 : ops.toList[i]? = some oi) (he : eff.contains i = true) (hw : Region.wanted oi (yielded ops a.tmps) = true) (s x : Operand) (t e : TypeId)
    (ho : oi.op = .call { callee := .builtin .append, args := #[s, x], argTypes := #[t, t] })
    (z : Value) (sz bytes : Nat) (ht : P.underlying t = some (.slice e)) (hinfo : (P.info? e).map (fun i => (i.zero, i.size, i.bytes)) = some (some z, sz, bytes))
    (hz : z.cells.size = sz) (hs0 : 0 < sz) (hb0 : 0 < bytes) (v : Value) (n : Nat) (xs : List Value) (hs : a.eval s = v) (A : Option Addr) (m c : Nat) (hx : a.eval x = .slice A m c) (HO : Ow w O e sz v n xs) (news : List Value) (hl : news.length = m * sz)
    (hnews : ∀ j u, news[j]? = some u → ∃ ad, A = some ad ∧ w.cell? (ad.add j) = some u) (h1 : ∀ u ∈ news, u.oneCell' = true) (hb : (n + m) * bytes ≤ 140737488355328)
    (h : ∀ v1 w1, Ow w1 (fun k => v.ownBlock = some k ∨ k = w.heap.size) e sz v1 (n + m) (xs ++ news) → Fr (fun k => v.ownBlock = some k) w w1 → (i ∉ ds → S w1) ∧ wpSeq P ops Q S eff lds ds r (a.put oi.dst v1) w1) : wpSeq P ops Q S eff lds ds (i :: r) a w :=
  sq_eff hi0 he hw fun K hK => wp_app s x t e ho z sz bytes ht hinfo hz hs0 hb0 v n xs hs A m c hx HO news hl hnews h1 hb fun v1 w1 h2 h3 => hK.out _ _ (h v1 w1 h2 h3).1 (h v1 w1 h2 h3).2
/-- copy. -/
theorem sq_cpy {O : Nat → Prop} (hi0 : ops.toList[i]? = some oi) (he : eff.contains i = true) (hw : Region.wanted oi (yielded ops a.tmps) = true) (d s : Operand) (t t' e : TypeId) (ho : oi.op = .call { callee := .builtin .copy, args := #[d, s], argTypes := #[t, t'] })
    (ht : P.underlying t = some (.slice e)) (hsz : (P.info? e).map (·.size) = some 1)
    (dp : Option Addr) (dLen dCap : Nat) (hde : a.eval d = .slice dp dLen dCap) (sp : Option Addr) (sLen sCap : Nat) (hse : a.eval s = .slice sp sLen sCap)
    (v : Value) (n : Nat) (xs : List Value) (HO : Ow w O e 1 v n xs) (off : Nat) (hoff : off ≤ n) (hdl : off + dLen ≤ n) (hd : 0 < dLen → ∀ g c, v = .slice (some ⟨g, 0, none⟩) n c → dp = some ⟨g, off, none⟩)
    (cs : List Value) (hn : cs.length = min sLen dLen) (hsrc : ∀ j u, cs[j]? = some u → ∃ ad, sp = some ad ∧ w.cell? (ad.add j) = some u) (h1 : ∀ u ∈ cs, u.oneCell' = true)
    (h : ∀ w1, Ow w1 (fun k => v.ownBlock = some k) e 1 v n (splice xs off cs) → Fr (fun k => v.ownBlock = some k) w w1 → (i ∉ ds → S w1) ∧ wpSeq P ops Q S eff lds ds r (a.put oi.dst (goInt cs.length)) w1) : wpSeq P ops Q S eff lds ds (i :: r) a w :=
  sq_eff hi0 he hw fun K hK => wp_cpy d s t t' e ho ht hsz dp dLen dCap hde sp sLen sCap hse v n xs HO off hoff hdl hd cs hn hsrc h1 fun w1 h2 h3 => hK.out _ _ (h w1 h2 h3).1 (h w1 h2 h3).2
theorem wpList_wanted {rest : List Oper} {o : Oper} (hw : Region.wanted o (yielded ops a.tmps) = true) (h : ∀ K : Act → World → Prop, (∀ a w, wpList P ops Q rest a w → K a w) → o.wp P a w K Q) : wpList P ops Q (o :: rest) a w :=
  wpList_step fun K hK => by rw [if_pos hw]; exact h K hK
/-- A call in a plain region, guarded or not. -/
theorem wpListG_call {rest : List Oper} {o : Oper} (hw : Region.wanted o (yielded ops a.tmps) = true) {f : FuncId} {fn : Func} {as : Array Operand} {ts : Array TypeId} (hop : o.op = .call { callee := .value (.func f), args := as, argTypes := ts })
    (hf : P.funcs[f]? = some fn) (hname : (fn.name == "runtime.NumGoroutine") = false) (hb : fn.body.isSome = true) (args : List Value) (hargs : as.toList.map a.eval = args)
    (h : Calls P f args.toArray w fun e w' => ∃ v, e = .returned v ∧ wpList P ops Q rest (a.put o.dst v) w') : wpList P ops Q (o :: rest) a w := by
  refine wpList_wanted hw fun K hK => ?_
  have hargs' : as.map a.eval = args.toArray := by rw [← hargs, ← Array.toList_map]
  have hrun : (execOp a.eval o).run P w = .ok (.enter f args.toArray) w := by
    unfold execOp
    simp [hop, resolve, Deferred.ofValue, invoke, Act.eval, hargs', enters hf hname hb args.toArray w]
  unfold Oper.wp
  rw [hrun, Oper.upon_enter]
  refine h.mono fun e w'' hh => ?_
  obtain ⟨v, rfl, hk⟩ := hh
  exact hK _ _ hk
theorem wpListG_run {rest : List Oper} {o : Oper} (hw : Region.wanted o (yielded ops a.tmps) = true) {w' : World} (hrun : (execOp a.eval o).run P w = .ok (.value v) w') (h : wpList P ops Q rest (a.put o.dst v) w') : wpList P ops Q (o :: rest) a w := by
  refine wpList_wanted hw fun K hK => ?_
  unfold Oper.wp
  rw [hrun]
  exact hK _ _ h
/-- string(b) in a plain region. -/
theorem wpListG_str {rest : List Oper} {o : Oper} (hw : Region.wanted o (yielded ops a.tmps) = true) {F : Nat → Prop} {l : List UInt8} {src dst e : TypeId} {x : Operand} (ho : o.op = .convert src dst x) (hs : P.underlying src = some (.slice e)) (he : P.underlying e = some (.int .u8)) (hd : P.underlying dst = some .string)
    (hb : Rb w F (a.eval x) l) (h : wpList P ops Q rest (a.put o.dst (.string ⟨l.toArray⟩)) w) : wpList P ops Q (o :: rest) a w := by
  refine wpListG_run hw ?_ h
  unfold execOp
  simp [ho, conv_str hs he hd hb]
/-- The walk stands still here. -/
def Stop (p : Prop) : Prop := p
theorem Stop.go {p : Prop} (h : p) : Stop p := h
theorem halt_dst {rest : List Oper} {o : Oper} (N : Nat) (h : o.dst = some N) (k : Stop (wpList P ops Q (o :: rest) a w)) : wpList P ops Q (o :: rest) a w := k
end
end Go.Proofs.Ytbaohngnpgappaa
namespace Go.Proofs.Ytbaohngnpgappaa
open Go.RowKit
/-- What an element's cells say; F: the blocks that it leads to lie in F. -/
structure Kind (α : Type) where
  sz : Nat
  R : World → (Nat → Prop) → α → List Value → Prop
  len : ∀ {w F x cs}, R w F x cs → cs.length = sz
  one : ∀ {w F x cs}, R w F x cs → ∀ u ∈ cs, u.oneCell' = true
  mono : ∀ {w} {F F' : Nat → Prop} {x cs}, (∀ k, F k → F' k) → R w F x cs → R w F' x cs
  bound : ∀ {w : World} {F x cs}, R w F x cs → R w (fun k => F k ∧ k < w.heap.size) x cs
  move : ∀ {w w' : World} {F : Nat → Prop} {x cs}, (∀ k, F k → k < w.heap.size → w'.heap[k]? = w.heap[k]?) → R w F x cs → R w' F x cs
/-- A row of elements that is read. -/
def Row {α : Type} (K : Kind α) (w : World) (F : Nat → Prop) (v : Value) (xs : List α) : Prop :=
  ∃ A c, v = .slice A xs.length c ∧ xs.length ≤ c ∧ c ≤ maxLen ∧ ∀ j x, xs[j]? = some x → ∃ b o cs, A = some ⟨b, o, none⟩ ∧ F b ∧ K.R w F x cs ∧ ∀ i u, cs[i]? = some u → w.cell? ⟨b, o + j * K.sz + i, none⟩ = some u
section
variable {α : Type} {K : Kind α} {w w' : World} {F F' : Nat → Prop} {v : Value} {xs : List α}
theorem Row.nil (K : Kind α) (w : World) (F : Nat → Prop) (A : Option Addr) (c : Nat) (hc : c ≤ maxLen) : Row K w F (.slice A 0 c) [] := ⟨A, c, rfl, Nat.zero_le _, hc, fun j x h => by simp at h⟩
theorem Row.mono (h : Row K w F v xs) (hf : ∀ k, F k → F' k) : Row K w F' v xs := by
  obtain ⟨A, c, hv, h1, h2, h3⟩ := h
  exact ⟨A, c, hv, h1, h2, fun j x hj => by obtain ⟨b, o, cs, e, hb, hr, hc⟩ := h3 j x hj; exact ⟨b, o, cs, e, hf b hb, K.mono hf hr, hc⟩⟩
theorem cell_lt {w : World} {b o : Nat} {u : Value} (h : w.cell? ⟨b, o, none⟩ = some u) : b < w.heap.size := World.block_lt_of_cell? w _ h
/-- Element j: where it lies, its cells. -/
theorem Row.at_ (h : Row K w F v xs) (j : Nat) (hj : j < xs.length) : ∃ b o c cs, v = .slice (some ⟨b, o, none⟩) xs.length c ∧ xs.length ≤ c ∧ c ≤ maxLen ∧ F b ∧ K.R w F xs[j] cs ∧ ∀ i u, cs[i]? = some u → w.cell? ⟨b, o + j * K.sz + i, none⟩ = some u := by
  obtain ⟨A, c, hv, h1, h2, h3⟩ := h
  obtain ⟨b, o, cs, e, hb, hr, hc⟩ := h3 j _ (List.getElem?_eq_getElem hj)
  exact ⟨b, o, c, cs, by rw [hv, e], h1, h2, hb, hr, hc⟩
theorem Row.shape (h : Row K w F v xs) : ∃ A c, v = .slice A xs.length c ∧ xs.length ≤ c ∧ c ≤ maxLen := by
  obtain ⟨A, c, hv, h1, h2, _⟩ := h
  exact ⟨A, c, hv, h1, h2⟩
theorem Row.move (hK : 0 < K.sz) (h : Row K w F v xs) (hm : ∀ k, F k → k < w.heap.size → w'.heap[k]? = w.heap[k]?) : Row K w' F v xs := by
  obtain ⟨A, c, hv, h1, h2, h3⟩ := h
  refine ⟨A, c, hv, h1, h2, fun j x hj => ?_⟩
  obtain ⟨b, o, cs, e, hb, hr, hc⟩ := h3 j x hj
  exact ⟨b, o, cs, e, hb, K.move hm hr, fun i u hu => (World.cell?_of_block (hm b hb (cell_lt (hc i u hu)))).trans (hc i u hu)⟩
theorem Row.fr (hK : 0 < K.sz) {S : Nat → Prop} (h : Row K w F v xs) (hf : Fr S w w') (hs : ∀ k, k < w.heap.size → F k → ¬ S k) : Row K w' F v xs := h.move hK fun k hk hl => hf.block k hl (hs k hl hk)
theorem Row.bound (hK : 0 < K.sz) (h : Row K w F v xs) : Row K w (fun k => F k ∧ k < w.heap.size) v xs := by
  obtain ⟨A, c, hv, h1, h2, h3⟩ := h
  refine ⟨A, c, hv, h1, h2, fun j x hj => ?_⟩
  obtain ⟨b, o, cs, e, hb, hr, hc⟩ := h3 j x hj
  have hl : 0 < cs.length := by rw [K.len hr]; exact hK
  exact ⟨b, o, cs, e, ⟨hb, cell_lt (hc 0 _ (List.getElem?_eq_getElem hl))⟩, K.bound hr, hc⟩
/-- The cells of the elements, one behind the other: for 'append'. -/
theorem Row.news (h : Row K w F v xs) : ∃ (A : Option Addr) (c : Nat) (news : List Value), v = .slice A xs.length c ∧ xs.length ≤ c ∧ c ≤ maxLen ∧ news.length = xs.length * K.sz ∧ (∀ u ∈ news, u.oneCell' = true) ∧ (∀ j u, news[j]? = some u → ∃ ad, A = some ad ∧ w.cell? (ad.add j) = some u) ∧
    ∀ j x, xs[j]? = some x → ∃ cs, K.R w F x cs ∧ ∀ i u, cs[i]? = some u → news[j * K.sz + i]? = some u := by
  obtain ⟨A, c, hv, h1, h2, h3⟩ := h
  suffices H : ∀ n, n ≤ xs.length → ∃ news : List Value, news.length = n * K.sz ∧ (∀ u ∈ news, u.oneCell' = true) ∧ (∀ j u, news[j]? = some u → ∃ ad, A = some ad ∧ w.cell? (ad.add j) = some u) ∧
      ∀ j x, j < n → xs[j]? = some x → ∃ cs, K.R w F x cs ∧ ∀ i u, cs[i]? = some u → news[j * K.sz + i]? = some u by
    obtain ⟨news, e1, e2, e3, e4⟩ := H xs.length (Nat.le_refl _)
    exact ⟨A, c, news, hv, h1, h2, e1, e2, e3, fun j x hj => e4 j x (List.getElem?_eq_some_iff.1 hj).1 hj⟩
  intro n
  induction n with
  | zero => exact fun _ => ⟨[], by simp, by simp, by simp, fun j x hj => by omega⟩
  | succ n ih =>
    intro hn
    obtain ⟨news, e1, e2, e3, e4⟩ := ih (by omega)
    obtain ⟨b, o, cs, e, hb, hr, hc⟩ := h3 n _ (List.getElem?_eq_getElem (by omega))
    have hl := K.len hr
    refine ⟨news ++ cs, by rw [List.length_append, e1, hl, Nat.succ_mul], ?_, ?_, ?_⟩
    · intro u hu
      rcases List.mem_append.1 hu with hu | hu
      · exact e2 u hu
      · exact K.one hr u hu
    · intro j u hj
      rcases Nat.lt_or_ge j news.length with h | h
      · rw [List.getElem?_append_left h] at hj; exact e3 j u hj
      · rw [List.getElem?_append_right h] at hj
        refine ⟨_, e, ?_⟩
        rw [add_none]
        have := hc _ u hj
        rw [show o + j = o + n * K.sz + (j - news.length) from by omega]
        exact this
    · intro j x hj hx
      rcases Nat.lt_or_ge j n with h | h
      · obtain ⟨cs', hr', hc'⟩ := e4 j x h hx
        refine ⟨cs', hr', fun i u hu => ?_⟩
        have h5 := hc' i u hu
        rw [List.getElem?_append_left (List.getElem?_eq_some_iff.1 h5).1]
        exact h5
      · have hjn : j = n := by omega
        subst hjn
        rw [List.getElem?_eq_getElem (by omega)] at hx
        cases hx
        refine ⟨cs, hr, fun i u hu => ?_⟩
        rw [List.getElem?_append_right (by omega), e1, Nat.add_sub_cancel_left]
        exact hu
end
/-- Rows of one's own whose elements' cells are told by a kind. -/
def OwK {α : Type} (K : Kind α) (e : TypeId) (w : World) (O F : Nat → Prop) (v : Value) (xs : List α) : Prop :=
  ∃ cells, Ow w O e K.sz v xs.length cells ∧ ∀ j x, xs[j]? = some x → ∃ cs, K.R w F x cs ∧ ∀ i u, cs[i]? = some u → cells[j * K.sz + i]? = some u
section
variable {α : Type} {K : Kind α} {e : TypeId} {w w' : World} {O O' F F' : Nat → Prop} {v : Value} {xs : List α}
theorem OwK.nil (K : Kind α) (e : TypeId) (w : World) (O F : Nat → Prop) : OwK K e w O F (.slice none 0 0) [] := ⟨[], Ow.nil _ _ _ _, fun j x h => by simp at h⟩
theorem OwK.mono (h : OwK K e w O F v xs) (ho : ∀ k, O k → O' k) (hf : ∀ k, F k → F' k) : OwK K e w O' F' v xs := by
  obtain ⟨cells, h1, h2⟩ := h
  exact ⟨cells, h1.mono ho, fun j x hj => by obtain ⟨cs, hr, hc⟩ := h2 j x hj; exact ⟨cs, K.mono hf hr, hc⟩⟩
theorem OwK.fr {S : Nat → Prop} (h : OwK K e w O F v xs) (hf : Fr S w w') (hs : ∀ k, k < w.heap.size → O k ∨ F k → ¬ S k) : OwK K e w' O F v xs := by
  obtain ⟨cells, h1, h2⟩ := h
  exact ⟨cells, h1.fr hf (fun k hk ho => hs k hk (.inl ho)), fun j x hj => by obtain ⟨cs, hr, hc⟩ := h2 j x hj; exact ⟨cs, K.move (fun k hk hl => hf.block k hl (hs k hl (.inr hk))) hr, hc⟩⟩
theorem OwK.shape (h : OwK K e w O F v xs) : ∃ A c, v = .slice A xs.length c ∧ xs.length ≤ c ∧ c ≤ maxLen := by
  obtain ⟨cells, h1, _⟩ := h
  exact h1.shape
theorem OwK.reads (h : OwK K e w O F v xs) : Row K w (fun k => O k ∨ F k) v xs := by
  obtain ⟨cells, h1, h2⟩ := h
  obtain ⟨A, c, hv, h3, h4, h5⟩ := h1.cells
  refine ⟨A, c, hv, h3, h4, fun j x hj => ?_⟩
  obtain ⟨cs, hr, hc⟩ := h2 j x hj
  rcases Nat.eq_zero_or_pos cs.length with h0 | hp
  · have hl : j < xs.length := (List.getElem?_eq_some_iff.1 hj).1
    obtain ⟨g, c', cur, he, hO, _⟩ := h1.form (by omega)
    rw [hv] at he
    injection he with he
    exact ⟨g, 0, cs, he, .inl hO, K.mono (fun _ h => .inr h) hr, fun i u hu => by rw [List.eq_nil_of_length_eq_zero h0] at hu; simp at hu⟩
  · obtain ⟨g, hA, hO, _, _⟩ := h5 _ _ (hc 0 _ (List.getElem?_eq_getElem hp))
    refine ⟨g, 0, cs, hA, .inl hO, K.mono (fun _ h => .inr h) hr, fun i u hu => ?_⟩
    obtain ⟨g', hA', _, hcell, _⟩ := h5 _ _ (hc i u hu)
    rw [hA] at hA'
    cases hA'
    rw [Nat.zero_add]
    exact hcell
/-- One element more. -/
theorem OwK.snoc {w1 : World} {v1 : Value} {cells cs : List Value} {x : α} (hl : cells.length = xs.length * K.sz) (h2 : ∀ j x, xs[j]? = some x → ∃ cs, K.R w1 F x cs ∧ ∀ i u, cs[i]? = some u → cells[j * K.sz + i]? = some u)
    (hown : Ow w1 O e K.sz v1 (xs.length + 1) (cells ++ cs)) (hr : K.R w1 F x cs) : OwK K e w1 O F v1 (xs ++ [x]) := by
  refine ⟨cells ++ cs, by simpa using hown, fun j y hj => ?_⟩
  rcases Nat.lt_or_ge j xs.length with h | h
  · rw [List.getElem?_append_left h] at hj
    obtain ⟨cs', hr', hc'⟩ := h2 j y hj
    refine ⟨cs', hr', fun i u hu => ?_⟩
    have h5 := hc' i u hu
    rw [List.getElem?_append_left (List.getElem?_eq_some_iff.1 h5).1]
    exact h5
  · have hjn : j = xs.length := by
      have := (List.getElem?_eq_some_iff.1 hj).1
      simp at this
      omega
    subst hjn
    rw [List.getElem?_append_right (Nat.le_refl _), Nat.sub_self] at hj
    cases hj
    refine ⟨cs, hr, fun i u hu => ?_⟩
    rw [List.getElem?_append_right (by omega), hl, Nat.add_sub_cancel_left]
    exact hu
end
/-- One cell by an encoding. -/
def Kind.scalar {α : Type} (enc : α → Value) (h1 : ∀ x, (enc x).oneCell' = true) : Kind α where
  sz := 1
  R := fun _ _ x cs => cs = [enc x]
  len := fun h => by rw [h]; rfl
  one := fun h u hu => by rw [h] at hu; rw [List.mem_singleton.1 hu]; exact h1 _
  mono := fun _ h => h
  bound := fun h => h
  move := fun _ h => h
end Go.Proofs.Ytbaohngnpgappaa
namespace Go.Proofs.Ytbaohngnpgappaa
open Go.RowKit
section
variable {P : Program}
theorem run_apps {W : World} {O : Nat → Prop} (t u ty e : TypeId) (ht : P.underlying t = some (.slice e)) (hu : P.underlying u = some .string) (hinfo : (P.info? e).map (fun i => (i.zero, i.size, i.bytes)) = some (some (.int .u8 0), 1, 1))
    (v : Value) (n : Nat) (xs : List Value) (HO : Ow W O e 1 v n xs) (y : ByteArray) (hb : n + y.size ≤ 140737488355328) :
    ∃ v1 w1, (Builtin.append_ #[t, u] ty #[v, .string y]).run P W = .ok v1 w1 ∧ Ow w1 (fun k => v.ownBlock = some k ∨ k = W.heap.size) e 1 v1 (n + y.size) (xs ++ Lib.strCells y) ∧ Fr (fun k => v.ownBlock = some k) W w1 := by
  obtain ⟨i, hi, hzz⟩ := Option.map_eq_some_iff.1 hinfo
  simp only [Prod.mk.injEq] at hzz
  obtain ⟨hz0, hz1, hz2⟩ := hzz
  obtain ⟨v1, w1, hr, ho, hg, hnil⟩ := Lib.run_append_own_string (P := P) W 0 t u ty e i ht hu hi hz0 hz1 hz2 v n xs HO.1 y (by simp only [maxLen]; omega) hb (Nat.zero_le _)
  refine ⟨v1, w1, hr, ⟨ho, fun k hk => ?_⟩, Fr.grown hg fun k hk => hk⟩
  rcases HO.1.2 with ⟨rfl, rfl⟩ | ⟨g, cap, cur, rfl, _, hh, hnc, hcm, hcs, _⟩
  · by_cases h0 : y.size = 0
    · rw [hnil.2 ⟨rfl, h0⟩] at hk
      simp [Value.ownBlock] at hk
    · have h2 := run_append_nil_string (P := P) W t u ty e i (.int .u8 0) ht hu hi hz0 y (by omega) (by omega) (by rw [hz2]; omega)
      rw [hr] at h2
      injection h2 with h3 h4
      rw [h3] at hk
      exact .inr (Option.some.inj hk).symm
  · by_cases hroom : n + y.size ≤ cap
    · have h2 := Lib.run_append_room_string (P := P) W t u ty e i ht hu hi hz1 g n cap cur hh y hroom (by omega)
      rw [hr] at h2
      injection h2 with h3 h4
      rw [h3] at hk
      exact .inl hk
    · have holds : ∀ j u, xs[j]? = some u → W.cell? ((⟨g, 0, none⟩ : Addr).add j) = some u := fun j u hj => by
        obtain ⟨A, c, he, _, _, hc⟩ := HO.cells
        cases he
        obtain ⟨g', he, _, h5, _⟩ := hc j u hj
        cases he
        rw [add_none, Nat.zero_add]
        exact h5
      have h2 := Lib.run_append_grow_string (P := P) W t u ty e i (.int .u8 0) ht hu hi hz0 ⟨g, 0, none⟩ n cap xs (by rw [hz1]; have := HO.len; omega) holds y (by omega) (by omega) (by rw [hz2]; exact growslice_fits (by omega) (by omega))
      rw [hr] at h2
      injection h2 with h3 h4
      rw [h3] at hk
      exact .inr (Option.some.inj hk).symm
theorem wp_apps {W : World} {O : Nat → Prop} {o : Oper} {a : Act} {K : Act → World → Prop} {Q : Exit → Act → World → Prop} (s x : Operand) (t u e : TypeId)
    (ho : o.op = .call { callee := .builtin .append, args := #[s, x], argTypes := #[t, u] }) (ht : P.underlying t = some (.slice e)) (hu : P.underlying u = some .string) (hinfo : (P.info? e).map (fun i => (i.zero, i.size, i.bytes)) = some (some (.int .u8 0), 1, 1))
    (v : Value) (n : Nat) (xs : List Value) (hs : a.eval s = v) (y : ByteArray) (hx : a.eval x = .string y) (HO : Ow W O e 1 v n xs) (hb : n + y.size ≤ 140737488355328)
    (h : ∀ v1 w1, Ow w1 (fun k => v.ownBlock = some k ∨ k = W.heap.size) e 1 v1 (n + y.size) (xs ++ Lib.strCells y) → Fr (fun k => v.ownBlock = some k) W w1 → K (a.put o.dst v1) w1) : o.wp P a W K Q := by
  obtain ⟨v1, w1, hr, h2, h3⟩ := run_apps (P := P) t u o.type e ht hu hinfo v n xs HO y hb
  unfold Oper.wp execOp
  simp only [ho, resolve, invoke, builtin, Sem.run_bind, Sem.run_pure, Result.andThen_ok, List.map_toArray, List.map_cons, List.map_nil, hs, hx, hr]
  exact h v1 w1 h2 h3
theorem sq_apps {ops : Array Oper} {Q : Exit → Act → World → Prop} {S : World → Prop} {ds eff lds : List Nat} {i : Nat} {r : List Nat} {oi : Oper} {a : Act} {w : World} {O : Nat → Prop} (hi0 : ops.toList[i]? = some oi) (he : eff.contains i = true) (hw : Region.wanted oi (yielded ops a.tmps) = true) (s x : Operand) (t u e : TypeId)
    (ho : oi.op = .call { callee := .builtin .append, args := #[s, x], argTypes := #[t, u] }) (ht : P.underlying t = some (.slice e)) (hu : P.underlying u = some .string) (hinfo : (P.info? e).map (fun i => (i.zero, i.size, i.bytes)) = some (some (.int .u8 0), 1, 1))
    (v : Value) (n : Nat) (xs : List Value) (hs : a.eval s = v) (y : ByteArray) (hx : a.eval x = .string y) (HO : Ow w O e 1 v n xs) (hb : n + y.size ≤ 140737488355328)
    (h : ∀ v1 w1, Ow w1 (fun k => v.ownBlock = some k ∨ k = w.heap.size) e 1 v1 (n + y.size) (xs ++ Lib.strCells y) → Fr (fun k => v.ownBlock = some k) w w1 → (i ∉ ds → S w1) ∧ wpSeq P ops Q S eff lds ds r (a.put oi.dst v1) w1) : wpSeq P ops Q S eff lds ds (i :: r) a w :=
  sq_eff hi0 he hw fun K hK => wp_apps s x t u e ho ht hu hinfo v n xs hs y hx HO hb fun v1 w1 h2 h3 => hK.out _ _ (h v1 w1 h2 h3).1 (h v1 w1 h2 h3).2
end
theorem strCells_is (s : List UInt8) : Lib.strCells ⟨s.toArray⟩ = s.map enc8 := by
  simp [Lib.strCells, enc8]
end Go.Proofs.Ytbaohngnpgappaa
