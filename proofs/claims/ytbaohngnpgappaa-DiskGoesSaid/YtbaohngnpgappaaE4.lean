/- The disk and the document's, side by side. -/
import Derived.Test.YtbaohngnpgappaaE3
import Derived.Test.YtbaohngnpgappaaD5
set_option linter.unusedVariables false
set_option linter.unusedSimpArgs false
namespace Go.Proofs.Ytbaohngnpgappaa
open Go.RowKit
/-- Both, in memory apart from one another and from G. -/
def Duo (w : World) (G : Nat → Prop) (x y : Value) (d : Dk) (s : List UInt8) (ws : List (Nat × List UInt8)) : Prop :=
  ∃ Ox Rx Oy Ry, DiskIs w Ox Rx x d ∧ RefIs w Oy Ry y s ws ∧ (∀ k, Ox k → ¬ Oy k ∧ ¬ Ry k) ∧ (∀ k, Oy k → ¬ Rx k) ∧ (∀ k, (Ox k ∨ Rx k) ∨ (Oy k ∨ Ry k) → ¬ G k)
section
variable {w w' : World} {G G' : Nat → Prop} {x y v : Value} {d d' : Dk} {s s' : List UInt8} {ws ws' : List (Nat × List UInt8)} {e : Ending}
theorem Duo.far {S : Nat → Prop} (h : Duo w G x y d s ws) (hf : Fr S w w') (hs : ∀ k, k < w.heap.size → S k → G k) : Duo w' G x y d s ws := by
  obtain ⟨Ox, Rx, Oy, Ry, h1, h2, h3, h4, h5⟩ := h
  exact ⟨Ox, Rx, Oy, Ry, h1.fr hf (fun k hk ho h => h5 k (.inl ho) (hs k hk h)), h2.fr hf (fun k hk ho h => h5 k (.inr ho) (hs k hk h)), h3, h4, h5⟩
theorem Duo.quiet (h : Duo w G x y d s ws) (hf : Fr No w w') : Duo w' G x y d s ws := h.far hf (fun _ _ h => h.elim)
theorem Duo.less (h : Duo w G x y d s ws) (hg : ∀ k, G' k → G k) : Duo w G' x y d s ws := by
  obtain ⟨Ox, Rx, Oy, Ry, h1, h2, h3, h4, h5⟩ := h
  exact ⟨Ox, Rx, Oy, Ry, h1, h2, h3, h4, fun k hk h => h5 k hk (hg k h)⟩
/-- What is new is apart, too. -/
theorem Duo.more (h : Duo w G x y d s ws) (hf : Fr No w w') : Duo w' (fun k => G k ∨ w.heap.size ≤ k) x y d s ws := by
  obtain ⟨Ox, Rx, Oy, Ry, h1, h2, h3, h4, h5⟩ := h
  refine ⟨Ox, Rx, Oy, Ry, h1.no hf, h2.fr hf (fun _ _ _ h => h), h3, h4, fun k hk h => ?_⟩
  rcases h with h | h
  · exact h5 k hk h
  · rcases hk with hk | hk
    · have := h1.lt k hk; omega
    · have := h2.lt k hk; omega
theorem Duo.moreFar {S : Nat → Prop} (h : Duo w G x y d s ws) (hf : Fr S w w') (hs : ∀ k, k < w.heap.size → S k → G k) : Duo w' (fun k => G k ∨ w.heap.size ≤ k) x y d s ws := by
  obtain ⟨Ox, Rx, Oy, Ry, h1, h2, h3, h4, h5⟩ := h
  refine ⟨Ox, Rx, Oy, Ry, h1.fr hf (fun k hk ho h => h5 k (.inl ho) (hs k hk h)), h2.fr hf (fun k hk ho h => h5 k (.inr ho) (hs k hk h)), h3, h4, fun k hk h => ?_⟩
  rcases h with h | h
  · exact h5 k hk h
  · rcases hk with hk | hk
    · have := h1.lt k hk; omega
    · have := h2.lt k hk; omega
theorem Duo.turnX {f : FuncId} {args : Array Value} (h : Duo w G x y d s ws) (hG : ∀ k, G k → k < w.heap.size) (hc : ∀ O R, (∀ k, O k ∨ R k → ¬ G k) → DiskIs w O R x d → Calls Try.prog f args w (DiskPost w O R x v d')) :
    Calls Try.prog f args w fun e w' => e = .returned v ∧ Duo w' G x y d' s ws ∧ Fr (fun k => ¬ G k) w w' := by
  obtain ⟨Ox, Rx, Oy, Ry, h1, h2, h3, h4, h5⟩ := h
  refine (hc Ox Rx (fun k hk => h5 k (.inl hk)) h1).mono ?_
  rintro e w' ⟨O', R', he, hD, hO, hR, hf⟩
  refine ⟨he, ⟨O', R', Oy, Ry, hD, h2.fr hf (fun k _ hk ho => hk.elim (h3 k ho).1 (h3 k ho).2), ?_, ?_, ?_⟩, hf.mono (fun k _ ho => h5 k (.inl (.inl ho)))⟩
  · intro k hk
    rcases hO k hk with h | h
    · exact h3 k h
    · exact ⟨fun h6 => by have := h2.lt k (.inl h6); omega, fun h6 => by have := h2.lt k (.inr h6); omega⟩
  · intro k hk hk2
    rcases hR k hk2 with h | h
    · exact h4 k hk h
    · have := h2.lt k (.inl hk); omega
  · intro k hk hg
    have h6 := hG k hg
    rcases hk with (hk | hk) | hk
    · rcases hO k hk with h | h
      · exact h5 k (.inl (.inl h)) hg
      · omega
    · rcases hR k hk with h | h
      · exact h5 k (.inl (.inr h)) hg
      · omega
    · exact h5 k (.inr hk) hg
theorem Duo.turnY {f : FuncId} {args : Array Value} (h : Duo w G x y d s ws) (hG : ∀ k, G k → k < w.heap.size) (hc : ∀ O R, (∀ k, O k ∨ R k → ¬ G k) → RefIs w O R y s ws → Calls Try.prog f args w (RefPost w O R y v s' ws')) :
    Calls Try.prog f args w fun e w' => e = .returned v ∧ Duo w' G x y d s' ws' ∧ Fr (fun k => ¬ G k) w w' := by
  obtain ⟨Ox, Rx, Oy, Ry, h1, h2, h3, h4, h5⟩ := h
  refine (hc Oy Ry (fun k hk => h5 k (.inr hk)) h2).mono ?_
  rintro e w' ⟨O', R', he, hD, hO, hR, hf⟩
  refine ⟨he, ⟨Ox, Rx, O', R', h1.fr hf (fun k _ hk ho => hk.elim (fun h => (h3 k h).1 ho) (fun h => h4 k ho h)), hD, ?_, ?_, ?_⟩, hf.mono (fun k _ ho => h5 k (.inr (.inl ho)))⟩
  · intro k hk
    refine ⟨fun h6 => ?_, fun h6 => ?_⟩
    · rcases hO k h6 with h | h
      · exact (h3 k hk).1 h
      · have := h1.lt k (.inl hk); omega
    · rcases hR k h6 with h | h
      · exact (h3 k hk).2 h
      · have := h1.lt k (.inl hk); omega
  · intro k hk hk2
    rcases hO k hk with h | h
    · exact h4 k h hk2
    · have := h1.lt k (.inr hk2); omega
  · intro k hk hg
    have h6 := hG k hg
    rcases hk with hk | (hk | hk)
    · exact h5 k (.inl hk) hg
    · rcases hO k hk with h | h
      · exact h5 k (.inr (.inl h)) hg
      · omega
    · rcases hR k hk with h | h
      · exact h5 k (.inr (.inr h)) hg
      · omega
theorem Duo.disk (h : Duo w G x y d s ws) : ∃ O R, DiskIs w O R x d ∧ ∀ k, O k ∨ R k → ¬ G k := by
  obtain ⟨Ox, Rx, Oy, Ry, h1, h2, h3, h4, h5⟩ := h
  exact ⟨Ox, Rx, h1, fun k hk => h5 k (.inl hk)⟩
theorem Duo.doc (h : Duo w G x y d s ws) : ∃ O R, RefIs w O R y s ws ∧ ∀ k, O k ∨ R k → ¬ G k := by
  obtain ⟨Ox, Rx, Oy, Ry, h1, h2, h3, h4, h5⟩ := h
  exact ⟨Oy, Ry, h2, fun k hk => h5 k (.inr hk)⟩
theorem Duo.ptr (h : Duo w G x y d s ws) : (∃ b, x = .pointer (some ⟨b, 0, none⟩)) ∧ ∃ b, y = .pointer (some ⟨b, 0, none⟩) := by
  obtain ⟨Ox, Rx, Oy, Ry, h1, h2, h3, h4, h5⟩ := h
  exact ⟨h1.ptr, h2.ptr⟩
/-- A copy takes the disk's place; the disk is another's. -/
theorem Duo.copy (h : Duo w G x y d s ws) (hG : ∀ k, G k → k < w.heap.size)
    (hc : ∀ O R, DiskIs w O R x d → Calls Try.prog 31 #[x] w (CopyPost w R d)) :
    Calls Try.prog 31 #[x] w fun e w' => ∃ z, e = .returned z ∧ Fr No w w' ∧ ∃ O R, DiskIs w' O R x d ∧ (∀ k, O k → ¬ G k) ∧ Duo w' (fun k => G k ∨ O k) z y d s ws := by
  obtain ⟨Ox, Rx, Oy, Ry, h1, h2, h3, h4, h5⟩ := h
  refine (hc Ox Rx h1).mono ?_
  rintro e w' ⟨z, he, hD, hf⟩
  refine ⟨z, he, hf, Ox, Rx, h1.no hf, fun k hk => h5 k (.inl (.inl hk)), _, Rx, Oy, Ry, hD, h2.fr hf (fun _ _ _ h => h), ?_, h4, ?_⟩
  · intro k hk
    exact ⟨fun h6 => by have := h2.lt k (.inl h6); omega, fun h6 => by have := h2.lt k (.inr h6); omega⟩
  · intro k hk hg
    rcases hg with hg | hg
    · have h6 := hG k hg
      rcases hk with (hk | hk) | hk
      · omega
      · exact h5 k (.inl (.inr hk)) hg
      · exact h5 k (.inr hk) hg
    · have h6 := h1.lt k (.inl hg)
      rcases hk with (hk | hk) | hk
      · omega
      · exact h1.apart k hg hk
      · rcases hk with hk | hk
        · exact (h3 k hg).1 hk
        · exact (h3 k hg).2 hk
end
/-- What the step leaves. -/
def StepPost (w : World) (B n : Nat) (y : Value) (m : Nat) (e : Ending) (w' : World) : Prop :=
  ∃ z d, e = .returned (.tuple #[z, .bool true]) ∧ Duo w' (fun k => k < B) z y d d.safe d.waits ∧ d.now.length = n ∧ applyW d.safe d.waits = d.now ∧ d.waits.length ≤ m + 1 ∧ Fr (fun k => B ≤ k) w w'
end Go.Proofs.Ytbaohngnpgappaa
