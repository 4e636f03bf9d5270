/- The chapter's example. -/
import Derived.Test.YtbaohngnpgappaaS23
import Derived.Test.YtbaohngnpgappaaS20
set_option linter.unusedVariables false
set_option linter.unusedSimpArgs false
namespace Go.Proofs.Ytbaohngnpgappaa
open Go.RowKit
section
variable {w0 w w' : World} {X X0 : Nat → Prop} {p pd v : Value} {x x' : St}
theorem StIs.do_ {F : Nat → Prop} {vc : Value} {c : Ch} {k : Nat} {last : Sv} {h n : Nat} (hS : StIs w X p pd x) (K : KeptS k x last h n) (hk : k + 1 ≤ 61) (hf : FewC c) (hc : KV ChK w F vc c) (hF : ∀ k, F k → ¬ X k) :
    Calls Try.prog 41 #[p, vc] w (StPost w X p pd (.int .i64 (doS x c).2) (doS x c).1) := by
  obtain ⟨bp, O, R, G, vs, vl, rfl, hS⟩ := hS
  exact do_any hS (K.fine (by omega)) K.told hc hF (K.sm.ok (by omega)) hf.lim hf.bulk (fun s hs => (K.sm.next hf hs).small hk)
theorem StIs.saved {s : Sv} (hS : StIs w X p pd x) (hl : x.s.lim) : Calls Try.prog 43 #[p] w (SvPost w x.s) := by
  obtain ⟨bp, O, R, G, vs, vl, rfl, hS⟩ := hS
  exact saved_any hS hl
theorem StIs.disk (hS : StIs w X p pd x) : ∃ O R, DiskIs w O R pd x.d ∧ ∀ k, O k ∨ R k → X k := by
  obtain ⟨bp, O, R, G, vs, vl, rfl, hS⟩ := hS
  exact ⟨O, R, hS.disk, hS.dx⟩
/-- What is done to the disk by itself. -/
theorem StWay.disk (h : StWay w0 X0 w p pd x) {f : FuncId} {args : Array Value} {d' : Dk} (hc : ∀ O R, DiskIs w O R pd x.d → Calls Try.prog f args w (DiskPost w O R pd v d')) :
    Calls Try.prog f args w (fun e w' => e = .returned v ∧ StWay w0 X0 w' p pd { x with d := d' }) := by
  refine h.step (fun X hS _ => ?_)
  obtain ⟨bp, O, R, G, vs, vl, rfl, hS⟩ := hS
  refine (hc O R hS.disk).mono ?_
  rintro e w' ⟨O', R', rfl, hD, hO, hR, hf⟩
  exact ⟨_, rfl, ⟨bp, O', R', G, vs, vl, rfl, hS.turn hD hO hR hf⟩, hS.turnX hO hR, hf.mono (fun k _ hk => hS.dx k (.inl hk))⟩
/-- The store is opened anew. -/
theorem StWay.reopen {m hh n : Nat} {s0 s : Sv} {cs : List Ch} (h : StWay w0 X0 w p pd x) (H : Holds x.d m hh n s0 cs s) :
    Calls Try.prog 47 #[pd] w (fun e w' => ∃ p', e = .returned (.tuple #[p', .int .i64 0]) ∧ (∃ bp, p' = .pointer (some ⟨bp, 0, none⟩)) ∧ StWay w0 X0 w' p' pd ⟨x.d, s, hh, n, m⟩) := by
  obtain ⟨X, hS, h2, h3⟩ := h
  obtain ⟨O, R, hD, hX⟩ := hS.disk
  refine (open_disk hD H).mono ?_
  rintro e w' ⟨p', rfl, hp, Y, g1, g2, g3⟩
  refine ⟨p', rfl, hp, Y, g1, fun k hk => ?_, h3.trans g3 (fun _ _ h => h) (fun k hk ho => ?_)⟩
  · rcases g2 k hk with h4 | h4
    · exact h2 k (hX k h4)
    · exact .inr (Nat.le_trans h3.size h4)
  · rcases h2 k (hX k ho) with h4 | h4
    · exact h4
    · omega
/-- All of it is new: the world is as it was. -/
theorem StWay.fresh (h : StWay w0 X0 w p pd x) (hX : ∀ k, X0 k → w0.heap.size ≤ k) : Fr No w0 w := by
  obtain ⟨X, hS, h2, h3⟩ := h
  exact h3.mono (fun k hk hx => by have := hX k hx; omega)
theorem StWay.of_new {O : Nat → Prop} {wz : World} (hf : Fr No wz w0) (hO : ∀ k, O k → wz.heap.size ≤ k) (h : StWay w0 (fun k => O k ∨ No k) w p pd x) : StWay wz No w p pd x := by
  obtain ⟨X, hS, h2, h3⟩ := h
  refine ⟨X, hS, fun k hk => .inr ?_, hf.trans h3 (fun _ _ h => h) (fun k hk h => ?_)⟩
  · rcases h2 k hk with (h4 | h4) | h4
    · exact hO k h4
    · exact h4.elim
    · exact Nat.le_trans hf.size h4
  · rcases h with h4 | h4
    · have := hO k h4; omega
    · exact h4
end
theorem laid_len {x : St} {b : List UInt8} (hf : x.fine) (hr : roomB x b = true) : (x.laid b).d.now.length = x.d.now.length := by
  obtain ⟨h1, h2, h3, h4, h5⟩ := hf
  have hr2 : x.at_ + b.length ≤ x.d.half := by simpa [roomB] using hr
  have hk := half_mul (hs := x.d.half) h2
  have hsz : x.d.half * 2 + 16 ≤ x.d.now.length := by unfold Dk.half; omega
  exact length_splice _ _ _ (by unfold St.place; omega)
theorem synced_len {x : St} (h : 4096 ≤ x.d.now.length) (hm : x.mark ≤ 1) : x.synced.d.now.length = x.d.now.length := by
  have h1 : (splice x.d.now (1 + 5 * (1 - x.mark)) (markB x.half x.at_)).length = x.d.now.length := length_splice _ _ _ (by rw [markB_len]; omega)
  show (splice (splice x.d.now (1 + 5 * (1 - x.mark)) (markB x.half x.at_)) 0 [byteOf ((1 - x.mark : Nat) : Int)]).length = _
  rw [length_splice _ _ _ (by rw [h1]; show 0 + 1 ≤ _; omega), h1]
theorem over_fine {x : St} (h : x.fine) (ht : x.d.told x.mark ≤ 1) : x.over.fine := ⟨h.1, (show 1 - x.d.told x.mark ≤ 1 by omega), h.2.2.1, Nat.zero_le _, h.2.2.2.2⟩
theorem doS_len {x : St} {c : Ch} (hf : x.fine) (ht : x.d.told x.mark ≤ 1) : (doS x c).1.d.now.length = x.d.now.length := by
  rcases do_cases x c with ⟨_, h2⟩ | ⟨s, _, h2, h3⟩ | ⟨s, _, _, h3, h4⟩ | ⟨s, _, _, _, h4⟩
  · rw [h2]
  · rw [h3]; exact laid_len hf h2
  · rw [h4]; exact laid_len (over_fine hf ht) h3
  · rw [h4]
theorem fmt_facts {N : Nat} (hN : 4096 ≤ N) : (fmtS (Dk.new N)).s = Sv.zero ∧ (fmtS (Dk.new N)).at_ ≤ 200 ∧ (fmtS (Dk.new N)).d.now.length = N := by
  have hz := recS_zero_len
  have hl1 : ((Dk.new N).put 0 (List.replicate 16 0)).now.length = N := by
    show (splice (List.replicate N 0) 0 (List.replicate 16 0)).length = N
    rw [length_splice _ _ _ (by rw [List.length_replicate, List.length_replicate]; omega), List.length_replicate]
  have hf : (St.fresh ((Dk.new N).put 0 (List.replicate 16 0))).fine := ⟨by show 4096 ≤ ((Dk.new N).put 0 (List.replicate 16 0)).now.length; omega, by show 0 ≤ 1; omega, by show 0 ≤ 1; omega, Nat.zero_le _, by show ([] ++ [_]).length ≤ 900000; simp⟩
  have hhalf : 2040 ≤ ((Dk.new N).put 0 (List.replicate 16 0)).half := by unfold Dk.half; omega
  have hr : roomB (St.fresh ((Dk.new N).put 0 (List.replicate 16 0))) (recS Sv.zero) = true := by
    unfold roomB
    rw [decide_eq_true_eq]
    show 0 + (recS Sv.zero).length ≤ _
    exact Nat.le_trans (by omega) hhalf
  have hlay : layS (St.fresh ((Dk.new N).put 0 (List.replicate 16 0))) (recS Sv.zero) = (St.fresh ((Dk.new N).put 0 (List.replicate 16 0))).laid (recS Sv.zero) := by unfold layS; rw [if_pos hr]
  have hl2 := laid_len hf hr
  have hl3 : ((St.fresh ((Dk.new N).put 0 (List.replicate 16 0))).laid (recS Sv.zero)).d.now.length = N := hl2.trans hl1
  unfold fmtS
  rw [hlay]
  refine ⟨rfl, ?_, ?_⟩
  · show 0 + (recS Sv.zero).length ≤ 200
    omega
  · rw [synced_len (by rw [hl3]; exact hN) (by show 0 ≤ 1; omega)]
    exact hl3
/-! ### the example -/
def exC1 : Ch := ⟨1, 3, 1, 0, [], []⟩
def exC2 : Ch := ⟨2, 0, 0, 1, [(3, [97])], []⟩
def exS1 : Sv := ⟨3, 1, 0, 0, [], []⟩
def exS2 : Sv := ⟨3, 1, 0, 0, [], [(3, [97])]⟩
theorem ex_i64 {z : Int} (h0 : 0 ≤ z) (h1 : z ≤ 100) : I64 z := by unfold I64; omega
theorem ex_few1 : FewC exC1 := ⟨Nat.zero_le _, Nat.zero_le _, fun e he => (by cases he), ex_i64 (by decide) (by decide), ex_i64 (by decide) (by decide), ex_i64 (by decide) (by decide), ex_i64 (by decide) (by decide)⟩
theorem ex_few2 : FewC exC2 := ⟨Nat.zero_le _, by decide, fun e he => by
  have h : e = (3, [97]) := by simpa [exC2] using he
  subst h
  exact ⟨by decide, ex_i64 (by decide) (by decide)⟩, ex_i64 (by decide) (by decide), ex_i64 (by decide) (by decide), ex_i64 (by decide) (by decide), ex_i64 (by decide) (by decide)⟩
theorem ex_next1 : nextS Sv.zero exC1 = some exS1 := rfl
theorem ex_next2 : nextS exS1 exC2 = some exS2 := rfl
theorem ex_len1 : (recC exC1).length ≤ 200 := by
  unfold recC
  rw [sealB_len]
  have : (itCh exC1).enc.length ≤ 192 := by decide +kernel
  omega
theorem ex_len2 : (recC exC2).length ≤ 200 := by
  unfold recC
  rw [sealB_len]
  have : (itCh exC2).enc.length ≤ 192 := by decide +kernel
  omega
theorem doS_ok {x : St} {c : Ch} {s : Sv} (h : nextS x.s c = some s) (hr : roomB x (recC c) = true) : doS x c = ({ x.laid (recC c) with s := s }, 0) := by
  unfold doS
  rw [h]
  simp only
  rw [if_pos hr]
/-- The example's stores: behind the first change, synced, behind the second one. -/
theorem ex_run : ∃ (x1 x3 : St) (n : Nat), doS (fmtS (Dk.new 5000)) exC1 = (x1, 0) ∧ doS x1.synced exC2 = (x3, 0) ∧ x3.s = exS2 ∧ KeptS 0 (fmtS (Dk.new 5000)) Sv.zero 0 n ∧ KeptS 1 x1 Sv.zero 0 n ∧ KeptS 1 x1.synced exS1 x1.half x1.at_ ∧ KeptS 2 x3 exS1 x1.half x1.at_ := by
  obtain ⟨n, K0⟩ := fmt_kept (N := 5000) (by omega)
  obtain ⟨f1, f2, f3⟩ := fmt_facts (N := 5000) (by omega)
  obtain ⟨x0, hx0⟩ : ∃ x, x = fmtS (Dk.new 5000) := ⟨_, rfl⟩
  rw [← hx0] at K0 f1 f2 f3 ⊢
  have hh0 : x0.d.half = 2492 := by unfold Dk.half; rw [f3]
  have l1 := ex_len1
  have l2 := ex_len2
  have hr1 : roomB x0 (recC exC1) = true := by unfold roomB; rw [decide_eq_true_eq]; omega
  have hd1 := doS_ok (x := x0) (c := exC1) (by rw [f1]; exact ex_next1) hr1
  have K1 := K0.do_ (by omega) ex_few1
  rw [hd1] at K1
  obtain ⟨x1, hx1⟩ : ∃ x, x = ({ x0.laid (recC exC1) with s := exS1 } : St) := ⟨_, rfl⟩
  rw [← hx1] at K1 hd1
  have hs1 : x1.s = exS1 := by rw [hx1]
  have ha1 : x1.at_ = x0.at_ + (recC exC1).length := by rw [hx1]; rfl
  have hl1 : x1.d.now.length = 5000 := by
    rw [hx1]
    exact (laid_len (K0.fine (by omega)) hr1).trans f3
  have K2 := K1.sync
  rw [hs1] at K2
  have hm1 : x1.mark ≤ 1 := by
    obtain ⟨s0, cs, H⟩ := K1.good.held
    exact H.m1
  have hl2 : x1.synced.d.now.length = 5000 := by rw [synced_len (by omega) hm1]; exact hl1
  have hh2 : x1.synced.d.half = 2492 := by unfold Dk.half; rw [hl2]
  have hr2 : roomB x1.synced (recC exC2) = true := by
    unfold roomB
    rw [decide_eq_true_eq, hh2]
    show x1.at_ + _ ≤ _
    omega
  have hd2 := doS_ok (x := x1.synced) (c := exC2) (s := exS2) (by show nextS x1.s exC2 = _; rw [hs1]; exact ex_next2) hr2
  have K3 := K2.do_ (by omega) ex_few2
  rw [hd2] at K3
  exact ⟨x1, _, n, hd1, hd2, rfl, K0, K1, K2, K3⟩
end Go.Proofs.Ytbaohngnpgappaa
