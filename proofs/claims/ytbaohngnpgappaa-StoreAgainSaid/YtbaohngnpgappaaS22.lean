/- Small changes: what is saved stays small; a change keeps a store. -/
import Derived.Test.YtbaohngnpgappaaS21
import Derived.Test.YtbaohngnpgappaaS15
set_option linter.unusedVariables false
set_option linter.unusedSimpArgs false
namespace Go.Proofs.Ytbaohngnpgappaa
open Go.RowKit
def FewE (l : List En) : Prop := ∀ e ∈ l, e.2.length ≤ 500 ∧ I64 e.1
/-- A change that is small enough to be played. -/
structure FewC (c : Ch) : Prop where
  b : c.b.length ≤ 1500
  l : c.l.length ≤ 20
  e : FewE c.l
  i : I64 c.kind ∧ I64 c.term ∧ I64 c.vote ∧ I64 c.at_
/-- What is saved behind k such changes. -/
structure Sm (k : Nat) (s : Sv) : Prop where
  l : s.l.length ≤ 20 * k
  e : FewE s.l
  b : s.snap.length ≤ 1500
  base : 0 ≤ s.base ∧ s.base ≤ 1099511627776
  i : I64 s.term ∧ I64 s.vote ∧ I64 s.base ∧ I64 s.bterm
theorem Sm.more {k k' : Nat} {s : Sv} (h : Sm k s) (hk : k ≤ k') : Sm k' s := ⟨by have := h.l; omega, h.e, h.b, h.base, h.i⟩
theorem sm_zero : Sm 0 Sv.zero := ⟨Nat.zero_le _, fun e he => (by cases he), Nat.zero_le _, by unfold Sv.zero; simp, by unfold I64 Sv.zero; simp⟩
theorem bulk_es {l : List En} (h : FewE l) : It.bulks (l.map itEn) ≤ 503 * l.length := by
  induction l with
  | nil => exact Nat.zero_le _
  | cons a r ih =>
    have h1 := ih (fun e he => h e (List.mem_cons_of_mem _ he))
    have h2 := (h a List.mem_cons_self).1
    rw [List.map_cons, It.bulks, List.length_cons]
    have h3 : (itEn a).bulk = 0 + 1 + ((0 + 1 + 0) + ((a.2.length + 1 + 0) + 0)) := rfl
    omega
theorem bulk_rec {a b c d : Int} {tx : List UInt8} {es : List En} (h : FewE es) : (itRec a b c d tx es).bulk ≤ 10 + tx.length + 503 * es.length := by
  have h1 := bulk_es h
  have h2 : (itRec a b c d tx es).bulk = 0 + 1 + ((0 + 1 + 0) + ((0 + 1 + 0) + ((0 + 1 + 0) + ((0 + 1 + 0) + ((tx.length + 1 + 0) + ((0 + 1 + It.bulks (es.map itEn)) + 0)))))) := rfl
  omega
theorem fit_rec {a b c d : Int} {tx : List UInt8} {es : List En} (h : FewE es) (ha : I64 a) (hb : I64 b) (hc : I64 c) (hd : I64 d) : (itRec a b c d tx es).fit := by
  have z : I64 0 := by unfold I64; omega
  have hn : ∀ n, I64 n → (itNum n).fit := fun n hn => ⟨by unfold I64; omega, hn, trivial⟩
  have ht : ∀ t, (itText t).fit := fun t => ⟨by unfold I64; omega, z, trivial⟩
  have hl : ∀ l, It.fits l → (itList l).fit := fun l hl => ⟨by unfold I64; omega, z, hl⟩
  refine hl _ (It.fits_iff.2 fun x hx => ?_)
  simp only [List.mem_cons, List.not_mem_nil, or_false] at hx
  rcases hx with rfl | rfl | rfl | rfl | rfl | rfl
  · exact hn _ ha
  · exact hn _ hb
  · exact hn _ hc
  · exact hn _ hd
  · exact ht _
  · refine hl _ (It.fits_iff.2 fun x hx => ?_)
    obtain ⟨e, he, rfl⟩ := List.mem_map.1 hx
    refine hl _ (It.fits_iff.2 fun x hx => ?_)
    simp only [List.mem_cons, List.not_mem_nil, or_false] at hx
    rcases hx with rfl | rfl
    · exact hn _ (h e he).2
    · exact ht _
theorem Sm.small {k : Nat} {s : Sv} (h : Sm k s) (hk : k ≤ 61) : s.small := by
  have h1 := h.l
  have h2 := h.b
  have h3 : (itSv s).bulk ≤ 10 + s.snap.length + 503 * s.l.length := bulk_rec h.e
  exact ⟨by omega, by omega⟩
theorem Sm.fit {k : Nat} {s : Sv} (h : Sm k s) : (itSv s).fit := fit_rec h.e h.i.1 h.i.2.1 h.i.2.2.1 h.i.2.2.2
theorem Sm.ok {k : Nat} {s : Sv} (h : Sm k s) (hk : k ≤ 61) : s.ok := by
  have h1 := h.l
  have h2 := h.b
  exact ⟨⟨by omega, fun x hx => by have := (h.e x hx).1; omega, by omega⟩, h.base⟩
theorem FewC.lim {c : Ch} (h : FewC c) : c.lim := ⟨by have := h.l; omega, fun x hx => by have := (h.e x hx).1; omega, by have := h.b; omega⟩
theorem FewC.bulk {c : Ch} (h : FewC c) : (itCh c).bulk ≤ 1048576 := by
  have h1 := h.l
  have h2 := h.b
  have h3 : (itCh c).bulk ≤ 10 + c.b.length + 503 * c.l.length := bulk_rec h.e
  omega
theorem FewC.fit {c : Ch} (h : FewC c) : (itCh c).fit := fit_rec h.e h.i.1 h.i.2.1 h.i.2.2.1 h.i.2.2.2
theorem Sm.next {k : Nat} {s s' : Sv} {c : Ch} (h : Sm k s) (hc : FewC c) (hn : nextS s c = some s') : Sm (k + 1) s' := by
  have h1 := h.l
  have c1 := hc.l
  unfold nextS at hn
  split at hn
  · split at hn
    · cases hn
    · cases hn
      exact ⟨by show s.l.length ≤ _; omega, h.e, h.b, h.base, hc.i.2.1, hc.i.2.2.1, h.i.2.2.1, h.i.2.2.2⟩
  · split at hn
    · split at hn
      · cases hn
      · cases hn
        refine ⟨?_, fun e he => ?_, h.b, h.base, h.i⟩
        · show (s.l.take _ ++ c.l).length ≤ _
          rw [List.length_append, List.length_take]; omega
        · rcases List.mem_append.1 he with he | he
          · exact h.e e (List.take_subset _ _ he)
          · exact hc.e e he
    · split at hn
      · split at hn
        · cases hn
        · cases hn
          have hat : s.base ≤ c.at_ ∧ c.at_ ≤ 1099511627776 := by omega
          have hb := h.base
          refine ⟨?_, fun e he => ?_, hc.b, ⟨by show 0 ≤ c.at_; omega, hat.2⟩, h.i.1, h.i.2.1, hc.i.2.2.2, hc.i.2.1⟩
          · show (if keepS s c then s.l.drop _ else []).length ≤ _
            split
            · rw [List.length_drop]; omega
            · exact Nat.zero_le _
          · have he' : e ∈ (if keepS s c then s.l.drop (c.at_ - s.base).toNat else []) := he
            split at he'
            · exact h.e e (List.drop_subset _ _ he')
            · cases he'
      · cases hn
/-- What Do comes to. -/
theorem do_cases (x : St) (c : Ch) : (nextS x.s c = none ∧ doS x c = (x, 1)) ∨ (∃ s, nextS x.s c = some s ∧ roomB x (recC c) = true ∧ doS x c = ({ x.laid (recC c) with s := s }, 0)) ∨
    (∃ s, nextS x.s c = some s ∧ roomB x (recC c) = false ∧ roomB x.over (recS s) = true ∧ doS x c = ({ x.over.laid (recS s) with s := s }, 0)) ∨ (∃ s, nextS x.s c = some s ∧ roomB x (recC c) = false ∧ roomB x.over (recS s) = false ∧ doS x c = (x, 210)) := by
  unfold doS
  cases hn : nextS x.s c with
  | none => exact .inl ⟨rfl, rfl⟩
  | some s =>
    simp only
    cases h1 : roomB x (recC c)
    · cases h2 : roomB x.over (recS s)
      · exact .inr (.inr (.inr ⟨s, rfl, rfl, h2, by rw [if_neg (by decide), if_neg (by decide)]⟩))
      · exact .inr (.inr (.inl ⟨s, rfl, rfl, h2, by rw [if_neg (by decide), if_pos rfl]⟩))
    · exact .inr (.inl ⟨s, rfl, rfl, by rw [if_pos rfl]⟩)
/-- A store on its way: k changes were made, no more than so many writes wait. -/
structure KeptS (k : Nat) (x : St) (last : Sv) (h n : Nat) : Prop where
  good : Good x last h n
  sm : Sm k x.s
  waits : x.d.waits.length ≤ 1000 + k
theorem KeptS.fine {k : Nat} {x : St} {last : Sv} {h n : Nat} (K : KeptS k x last h n) (hk : k ≤ 61) : x.fine := K.good.fine (by have := K.waits; omega)
theorem KeptS.told {k : Nat} {x : St} {last : Sv} {h n : Nat} (K : KeptS k x last h n) : x.d.told x.mark ≤ 1 := by
  rw [K.good.told]
  obtain ⟨s0, cs, H⟩ := K.good.held
  exact H.h1
theorem KeptS.do_ {k : Nat} {x : St} {last : Sv} {h n : Nat} (K : KeptS k x last h n) (hk : k + 1 ≤ 61) {c : Ch} (hc : FewC c) : KeptS (k + 1) (doS x c).1 last h n := by
  have hs : ∀ s, nextS x.s c = some s → Sm (k + 1) s := fun s hs => K.sm.next hc hs
  have hw := K.waits
  rcases do_cases x c with ⟨h1, h2⟩ | ⟨s, h1, h2, h3⟩ | ⟨s, h1, h2, h3, h4⟩ | ⟨s, h1, h2, h3, h4⟩
  · rw [h2]
    exact ⟨K.good, K.sm.more (by omega), by show x.d.waits.length ≤ _; omega⟩
  · rw [h3]
    refine ⟨K.good.laid hc.fit hc.bulk hc.lim h1 ((hs s h1).ok hk) h2, hs s h1, ?_⟩
    show (x.d.waits ++ [_]).length ≤ _
    rw [List.length_append, List.length_singleton]
    omega
  · rw [h4]
    refine ⟨K.good.over (hs s h1).fit ((hs s h1).small hk) ((hs s h1).ok hk) h3, hs s h1, ?_⟩
    show (x.d.waits ++ [_]).length ≤ _
    rw [List.length_append, List.length_singleton]
    omega
  · rw [h4]
    exact ⟨K.good, K.sm.more (by omega), by show x.d.waits.length ≤ _; omega⟩
theorem KeptS.sync {k : Nat} {x : St} {last : Sv} {h n : Nat} (K : KeptS k x last h n) : KeptS k x.synced x.s x.half x.at_ := ⟨K.good.synced, K.sm, Nat.zero_le _⟩
theorem KeptS.crash {k : Nat} {x : St} {last : Sv} {h n : Nat} (K : KeptS k x last h n) (hl : Sm k last) (keep : Nat) (tear : Int) : KeptS k ⟨x.d.crash keep tear, last, h, n, x.mark⟩ last h n ∧ ∃ s0 cs, Holds (x.d.crash keep tear) x.mark h n s0 cs last :=
  ⟨⟨(K.good.crash keep tear).1, hl, Nat.zero_le _⟩, (K.good.crash keep tear).2⟩
/-- What waits is written, then the mark that does not count, then the byte that tells which one does. -/
theorem synced_good {x : St} (hl : 4096 ≤ x.d.now.length) (hm : x.mark ≤ 1) (half1 : x.half ≤ 1) (room : x.at_ ≤ x.d.half) (hnow : x.d.now = applyW x.d.safe x.d.waits) (cur : Log x.d x.half x.at_ x.s) : Good x.synced x.s x.half x.at_ := by
  obtain ⟨t0, ds, e1, e2, e3, e4, e5⟩ := cur.ex
  have hsz : x.d.half * 2 + 16 ≤ x.d.now.length := by unfold Dk.half; omega
  have hkm := half_mul (hs := x.d.half) half1
  have hroom := room
  have hml := markB_len x.half x.at_
  obtain ⟨a, ha⟩ : ∃ a, a = 1 + 5 * (1 - x.mark) := ⟨_, rfl⟩
  obtain ⟨mk, hmk⟩ : ∃ mk, mk = markB x.half x.at_ := ⟨_, rfl⟩
  obtain ⟨tp, htp⟩ : ∃ tp, tp = [byteOf ((1 - x.mark : Nat) : Int)] := ⟨_, rfl⟩
  have htl : tp.length = 1 := by rw [htp]; rfl
  rw [← hmk] at hml
  obtain ⟨L1, hL1⟩ : ∃ L, L = splice x.d.now a mk := ⟨_, rfl⟩
  obtain ⟨L2, hL2⟩ : ∃ L, L = splice L1 0 tp := ⟨_, rfl⟩
  have hl1 : L1.length = x.d.now.length := by rw [hL1]; exact length_splice _ _ _ (by omega)
  have hl2 : L2.length = x.d.now.length := by rw [hL2, length_splice _ _ _ (by omega)]; exact hl1
  have hsafe : applyW (applyW (applyW x.d.safe x.d.waits) [(a, mk)]) [(0, tp)] = L2 := by
    rw [← hnow, hL2, hL1]
    rfl
  have hget : ∀ i, L2[i]? = if i < 1 then tp[i]? else if i < a then x.d.now[i]? else if i < a + 5 then mk[i - a]? else x.d.now[i]? := by
    intro i
    rw [hL2, splice_get (by omega), hL1, splice_get (by omega), htl, hml]
    by_cases h1 : i < 1
    · rw [if_neg (by omega), if_pos (by omega), if_pos h1]
      rfl
    · rw [if_neg (by omega), if_neg (by omega), if_neg h1]
  have he : x.synced = ⟨⟨applyW (applyW (applyW x.d.safe x.d.waits) [(a, mk)]) [(0, tp)], L2, []⟩, x.s, x.half, x.at_, 1 - x.mark⟩ := by
    rw [hL2, hL1, htp, hmk, ha]
    rfl
  rw [he, hsafe]
  have hhalf : (Dk.half ⟨L2, L2, []⟩) = x.d.half := by
    show (L2.length - 16) / 2 = _
    rw [hl2]; rfl
  have hregion : (L2.drop (16 + x.half * x.d.half)).take x.at_ = recS t0 ++ logC ds := by
    rw [← e1]
    exact cut_agree (fun i h1 h2 => by rw [hget, if_neg (by omega), if_neg (by omega), if_neg (by omega)])
  refine ⟨⟨t0, ds, ?_⟩, rfl, fun w hw => (by cases hw), rfl, fun w hw => (by cases hw), half1, by rw [hhalf]; exact hroom, fun _ => Nat.le_refl _, ⟨t0, ds, by rw [hhalf]; exact hregion, e2, e3, e4, e5⟩⟩
  refine ⟨by show 4096 ≤ L2.length; omega, by show 1 - x.mark ≤ 1; omega, half1, by rw [hhalf]; exact hroom, ?_, ?_, by rw [hhalf]; exact hregion, e2, e3, e4, e5⟩
  · show readB L2 0 1 = [byteOf ((1 - x.mark : Nat) : Int)]
    rw [← htp]
    apply List.ext_getElem?
    intro j
    have h1 := readB_get L2 0 1 j (by omega)
    rw [show ((0 : Nat) : Int) = 0 from rfl, show ((1 : Nat) : Int) = 1 from rfl] at h1
    rw [h1, Nat.zero_add]
    by_cases hj : j < 1
    · rw [if_pos hj, hget, if_pos hj]
    · rw [if_neg hj, List.getElem?_eq_none (by omega)]
  · show readB L2 ((1 + 5 * (1 - x.mark) : Nat) : Int) 5 = markB x.half x.at_
    rw [← ha, ← hmk]
    apply List.ext_getElem?
    intro j
    have h1 := readB_get L2 a 5 j (by omega)
    rw [show ((5 : Nat) : Int) = 5 from rfl] at h1
    rw [h1]
    by_cases hj : j < 5
    · rw [if_pos hj, hget, if_neg (by omega), if_neg (by omega), if_pos (by omega), Nat.add_sub_cancel_left]
    · rw [if_neg hj, List.getElem?_eq_none (by omega)]
/-- A disk of zeros. -/
def Dk.new (N : Nat) : Dk := ⟨List.replicate N 0, List.replicate N 0, []⟩
theorem recS_zero_len : (recS Sv.zero).length ≤ 200 := by
  unfold recS
  rw [sealB_len]
  have : (itSv Sv.zero).enc.length ≤ 192 := by decide +kernel
  omega
theorem fmt_kept {N : Nat} (hN : 4096 ≤ N) : ∃ n, KeptS 0 (fmtS (Dk.new N)) Sv.zero 0 n := by
  have hz := recS_zero_len
  obtain ⟨d1, hd1⟩ : ∃ d1, d1 = (Dk.new N).put 0 (List.replicate 16 0) := ⟨_, rfl⟩
  have hl1 : d1.now.length = N := by
    rw [hd1]
    show (splice (List.replicate N 0) 0 (List.replicate 16 0)).length = N
    rw [length_splice _ _ _ (by rw [List.length_replicate, List.length_replicate]; omega), List.length_replicate]
  have hhalf : d1.half * 2 + 16 ≤ N ∧ 2040 ≤ d1.half := by unfold Dk.half; rw [hl1]; omega
  have hr : roomB (St.fresh d1) (recS Sv.zero) = true := by
    unfold roomB
    rw [decide_eq_true_eq]
    show 0 + (recS Sv.zero).length ≤ d1.half
    omega
  have hlay : layS (St.fresh d1) (recS Sv.zero) = (St.fresh d1).laid (recS Sv.zero) := by unfold layS; rw [if_pos hr]
  have hfit : 16 + 0 * d1.half + 0 + (recS Sv.zero).length ≤ d1.now.length := by rw [Nat.zero_mul]; omega
  have hplace : (St.fresh d1).place = 16 + 0 * d1.half + 0 := rfl
  have hl2 : (splice d1.now (16 + 0 * d1.half + 0) (recS Sv.zero)).length = d1.now.length := length_splice _ _ _ hfit
  have hh2 : (d1.put (16 + 0 * d1.half + 0) (recS Sv.zero)).half = d1.half := by
    show ((splice d1.now _ _).length - 16) / 2 = _
    rw [hl2]; rfl
  have h := synced_good (x := (St.fresh d1).laid (recS Sv.zero)) (by
      show 4096 ≤ (splice d1.now _ _).length
      rw [hplace, hl2]; omega) (by show 0 ≤ 1; omega) (by show 0 ≤ 1; omega) (by
      show 0 + (recS Sv.zero).length ≤ (d1.put (16 + 0 * d1.half + 0) (recS Sv.zero)).half
      rw [hh2]; omega) (by
      show splice d1.now _ _ = applyW d1.safe (d1.waits ++ [_])
      rw [applyW_append, hd1]
      rfl) ⟨Sv.zero, [], by
      show ((splice d1.now (16 + 0 * d1.half + 0) (recS Sv.zero)).drop (16 + 0 * (d1.put (16 + 0 * d1.half + 0) (recS Sv.zero)).half)).take (0 + (recS Sv.zero).length) = _
      rw [hh2, splice_cut hfit rfl]
      simp [logC], sm_zero.fit, (sm_zero.small (by omega)).2, sm_zero.ok (by omega), rfl⟩
  refine ⟨(St.fresh d1).at_ + (recS Sv.zero).length, ?_⟩
  unfold fmtS
  rw [← hd1, hlay]
  exact ⟨h, sm_zero, Nat.zero_le _⟩
end Go.Proofs.Ytbaohngnpgappaa
