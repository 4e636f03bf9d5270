/- wire's add: an item's bytes. -/
import Derived.Test.YtbaohngnpgappaaW7
set_option linter.unusedVariables false
set_option linter.unusedSimpArgs false
namespace Go.Proofs.Ytbaohngnpgappaa
open Go.RowKit
def byteOf (n : Int) : UInt8 := UInt8.ofNat (n % 256).toNat
theorem byteOf_enc (n : Int) : enc8 (byteOf n) = .int .u8 (IntKind.u8.wrap n) := by
  unfold enc8 byteOf
  rw [IntKind.wrap_u8, UInt8.toNat_ofNat']
  congr 1
  omega
def num8 (n : Int) : List UInt8 := (List.range 8).map fun j => byteOf (n / 2 ^ (56 - 8 * j))
mutual
def It.enc : It → List UInt8
  | .mk k n s l => byteOf k :: (if k = 1 then num8 n else if k = 2 then countB s.length ++ s else countB l.length ++ It.encs l)
def It.encs : List It → List UInt8
  | [] => []
  | x :: r => It.enc x ++ It.encs r
end
theorem It.encs_app (a b : List It) : It.encs (a ++ b) = It.encs a ++ It.encs b := by
  induction a with
  | nil => rfl
  | cons x r ih => simp only [List.cons_append, It.encs, ih, List.append_assoc]
mutual
def It.texts : It → Prop
  | .mk _ _ s l => s.length < 34359738368 ∧ It.textss l
def It.textss : List It → Prop
  | [] => True
  | x :: r => It.texts x ∧ It.textss r
end
/-- A row of bytes that grows. -/
structure Grow (w : World) (v0 v : Value) (L : List UInt8) (wr : World) : Prop where
  own : Ow wr (fun k => v0.ownBlock = some k ∨ w.heap.size ≤ k) 5 1 v L.length (L.map enc8)
  fr : Fr (fun k => v0.ownBlock = some k) w wr
theorem Grow.start {w w1 : World} {v0 : Value} {O : Nat → Prop} {L : List UInt8} (h : Ow w O 5 1 v0 L.length (L.map enc8)) (hf : Fr No w w1) : Grow w1 v0 v0 L w1 :=
  ⟨(h.just.fr hf (fun _ _ _ h => h)).mono (fun k hk => .inl hk), Fr.refl _ _⟩
theorem Grow.quiet {w wr w' : World} {v0 v : Value} {L : List UInt8} (h : Grow w v0 v L wr) (hf : Fr No wr w') : Grow w v0 v L w' := ⟨h.own.fr hf (fun _ _ _ h => h), h.fr.trans hf (fun _ _ h => h) (fun _ _ h => h.elim)⟩
theorem Grow.app {w wr w6 : World} {v0 v v6 : Value} {L news : List UInt8} {m : Nat} (h : Grow w v0 v L wr) (ho : Ow w6 (fun k => v.ownBlock = some k ∨ k = wr.heap.size) 5 1 v6 (L.length + m) (L.map enc8 ++ news.map enc8)) (hf : Fr (fun k => v.ownBlock = some k) wr w6) (hm : m = news.length) : Grow w v0 v6 (L ++ news) w6 := by
  subst hm
  refine ⟨?_, h.fr.trans hf (fun _ _ h => h) (fun k hk hv => ?_)⟩
  · rw [List.length_append, List.map_append]
    refine ho.mono (fun k hk => ?_)
    rcases hk with hk | hk
    · exact h.own.2 k hk
    · exact .inr (by rw [hk]; exact h.fr.size)
  · rcases h.own.2 k hv with h1 | h1
    · exact h1
    · omega
theorem Grow.call {w wr w' : World} {v0 v : Value} {L L' : List UInt8} {e : Ending} (h : Grow w v0 v L wr) (hp : AddPost wr v L' e w') : ∃ v', e = .returned v' ∧ Grow w v0 v' L' w' := by
  obtain ⟨v', he, ho, hf⟩ := hp
  refine ⟨v', he, ho.mono (fun k hk => ?_), h.fr.trans hf (fun _ _ h => h) (fun k hk hv => ?_)⟩
  · rcases hk with hk | hk
    · exact h.own.2 k hk
    · exact .inr (Nat.le_trans h.fr.size hk)
  · rcases h.own.2 k hv with h1 | h1
    · exact h1
    · omega
theorem Grow.post {w w1 wr : World} {v0 v : Value} {L : List UInt8} (h : Grow w1 v0 v L wr) (hf : Fr No w w1) : AddPost w v0 L (.returned v) wr :=
  ⟨v, rfl, h.own.mono (fun k hk => hk.imp id (Nat.le_trans hf.size)), hf.trans h.fr (fun _ _ h => h.elim) (fun _ _ h => h)⟩
theorem num8_len (n : Int) : (num8 n).length = 8 := by simp [num8]
theorem num8_step (n : Int) {j : Nat} (h : j < 8) : (num8 n).take (j + 1) = (num8 n).take j ++ [byteOf (n / 2 ^ (56 - 8 * j))] := by
  rw [List.take_add_one]
  unfold num8
  rw [List.getElem?_map, List.getElem?_range h]
  rfl
end Go.Proofs.Ytbaohngnpgappaa
