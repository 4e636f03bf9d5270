/- The plain law of the store: what was synced stays, whatever waits; no program in sight. -/
import Derived.Test.YtbaohngnpgappaaS19
set_option linter.unusedVariables false
set_option linter.unusedSimpArgs false
namespace Go.Proofs.Ytbaohngnpgappaa
open Go.RowKit
/-- A disk that holds what was saved: which mark counts, which half, up to where; what was saved first, and the changes behind that. -/
structure Holds (d : Dk) (m h n : Nat) (s0 : Sv) (cs : List Ch) (s : Sv) : Prop where
  len : 4096 ≤ d.now.length
  m1 : m ≤ 1
  h1 : h ≤ 1
  n1 : n ≤ d.half
  top : readB d.now 0 1 = [byteOf (m : Int)]
  mark : readB d.now ((1 + 5 * m : Nat) : Int) 5 = markB h n
  all : (d.now.drop (16 + h * d.half)).take n = recS s0 ++ logC cs
  fit : (itSv s0).fit
  bulk : (itSv s0).bulk ≤ 1048576
  ok : s0.ok
  goes : Goes s0 cs s
/-! ### where what waits may not write -/
def Prot (h hs n i : Nat) : Prop := i < 16 ∨ (16 + h * hs ≤ i ∧ i < 16 + h * hs + n)
def Far (h hs n a l : Nat) : Prop := 16 ≤ a ∧ (a + l ≤ 16 + h * hs ∨ 16 + h * hs + n ≤ a)
theorem far_get {l b : List UInt8} {a h hs n i : Nat} (hab : a + b.length ≤ l.length) (hf : Far h hs n a b.length) (hp : Prot h hs n i) : (splice l a b)[i]? = l[i]? := by
  rw [splice_get hab]
  obtain ⟨h1, h2⟩ := hf
  by_cases h3 : i < a
  · rw [if_pos h3]
  · rw [if_neg h3]
    by_cases h4 : i < a + b.length
    · rcases hp with h5 | h5
      · omega
      · omega
    · rw [if_neg h4]
theorem applyW_far {h hs n i : Nat} (hp : Prot h hs n i) : ∀ (ws : List (Nat × List UInt8)) (s : List UInt8), (∀ x ∈ ws, x.1 + x.2.length ≤ s.length) → (∀ x ∈ ws, Far h hs n x.1 x.2.length) → (applyW s ws)[i]? = s[i]? := by
  intro ws
  induction ws with
  | nil => intro s _ _; rfl
  | cons x r ih =>
    intro s h1 h2
    have hx := h1 x List.mem_cons_self
    show (applyW (splice s x.1 x.2) r)[i]? = s[i]?
    rw [ih _ (fun y hy => by rw [length_splice _ _ _ hx]; exact h1 y (List.mem_cons_of_mem _ hy)) (fun y hy => h2 y (List.mem_cons_of_mem _ hy))]
    exact far_get hx (h2 x List.mem_cons_self) hp
theorem readB_agree {l l' : List UInt8} {a m : Nat} (hm : 1 ≤ m) (h : ∀ i, a ≤ i → i < a + m → l'[i]? = l[i]?) : readB l' (a : Int) (m : Int) = readB l (a : Int) (m : Int) := by
  apply List.ext_getElem?
  intro j
  rw [readB_get _ _ _ _ hm, readB_get _ _ _ _ hm]
  by_cases hj : j < m
  · rw [if_pos hj, if_pos hj]
    exact h (a + j) (by omega) (by omega)
  · rw [if_neg hj, if_neg hj]
theorem cut_agree {l l' : List UInt8} {a m : Nat} (h : ∀ i, a ≤ i → i < a + m → l'[i]? = l[i]?) : (l'.drop a).take m = (l.drop a).take m := by
  apply List.ext_getElem?
  intro j
  rw [List.getElem?_take, List.getElem?_take]
  by_cases hj : j < m
  · rw [if_pos hj, if_pos hj, List.getElem?_drop, List.getElem?_drop]
    exact h (a + j) (by omega) (by omega)
  · rw [if_neg hj, if_neg hj]
/-- What stands in the places that count stands there still. -/
theorem Holds.agree {d d' : Dk} {m h n : Nat} {s0 : Sv} {cs : List Ch} {s : Sv} (H : Holds d m h n s0 cs s) (hl : d'.now.length = d.now.length) (ha : ∀ i, Prot h d.half n i → d'.now[i]? = d.now[i]?) : Holds d' m h n s0 cs s := by
  have hh : d'.half = d.half := by unfold Dk.half; rw [hl]
  have hm := H.m1
  refine ⟨by rw [hl]; exact H.len, H.m1, H.h1, by rw [hh]; exact H.n1, ?_, ?_, ?_, H.fit, H.bulk, H.ok, H.goes⟩
  · rw [← H.top]
    exact readB_agree (a := 0) (m := 1) (by omega) (fun i _ hi => ha i (.inl (by omega)))
  · rw [← H.mark]
    exact readB_agree (a := 1 + 5 * m) (m := 5) (by omega) (fun i _ hi => ha i (.inl (by omega)))
  · rw [hh, ← H.all]
    exact cut_agree (fun i h1 h2 => ha i (.inr ⟨h1, h2⟩))
theorem half_mul {h hs : Nat} (h1 : h ≤ 1) : (h = 0 ∧ h * hs = 0) ∨ (h = 1 ∧ h * hs = hs) := by
  rcases (show h = 0 ∨ h = 1 by omega) with h0 | h0
  · left; exact ⟨h0, by rw [h0, Nat.zero_mul]⟩
  · right; exact ⟨h0, by rw [h0, Nat.one_mul]⟩
/-- What stands in a half, from its begin on. -/
structure Log (d : Dk) (half at_ : Nat) (s : Sv) : Prop where
  ex : ∃ (s0 : Sv) (cs : List Ch), (d.now.drop (16 + half * d.half)).take at_ = recS s0 ++ logC cs ∧ (itSv s0).fit ∧ (itSv s0).bulk ≤ 1048576 ∧ s0.ok ∧ Goes s0 cs s
theorem Goes.snoc {c : Ch} {s2 : Sv} (h1 : (itCh c).fit) (h2 : (itCh c).bulk ≤ 1048576) (h3 : c.lim) (h5 : s2.ok) : ∀ (cs : List Ch) (s0 s1 : Sv), Goes s0 cs s1 → nextS s1 c = some s2 → Goes s0 (cs ++ [c]) s2 := by
  intro cs
  induction cs with
  | nil =>
    intro s0 s1 h h4
    have h' : s0 = s1 := h
    subst h'
    exact ⟨h1, h2, h3, s2, h4, h5, rfl⟩
  | cons a r ih =>
    intro s0 s1 h h4
    obtain ⟨g1, g2, g3, s', g4, g5, g6⟩ := h
    exact ⟨g1, g2, g3, s', g4, g5, ih s' s1 g6 h4⟩
/-- The store as it is kept; last: what was synced last; h, n: its half, and up to where. -/
structure Good (x : St) (last : Sv) (h n : Nat) : Prop where
  held : ∃ s0 cs, Holds x.d x.mark h n s0 cs last
  safe : x.d.safe.length = x.d.now.length
  fits : ∀ w ∈ x.d.waits, w.1 + w.2.length ≤ x.d.now.length
  now : x.d.now = applyW x.d.safe x.d.waits
  far : ∀ w ∈ x.d.waits, Far h x.d.half n w.1 w.2.length
  half1 : x.half ≤ 1
  room : x.at_ ≤ x.d.half
  ahead : x.half = h → n ≤ x.at_
  cur : Log x.d x.half x.at_ x.s
section
variable {x : St} {last : Sv} {h n : Nat}
theorem Good.told (G : Good x last h n) : x.d.told x.mark = h := by
  obtain ⟨s0, cs, H⟩ := G.held
  have hm := H.m1
  have hh := H.h1
  have hl := H.len
  have h1 := readB_get x.d.now (1 + 5 * x.mark) 5 0 (by omega)
  rw [show ((5 : Nat) : Int) = 5 from rfl, H.mark, if_pos (by omega), Nat.add_zero] at h1
  unfold Dk.told
  rw [← h1]
  show (byteOf (h : Int)).toNat = h
  rcases (show h = 0 ∨ h = 1 by omega) with h0 | h0
  · subst h0; rfl
  · subst h0; rfl
theorem Good.fine (G : Good x last h n) (hw : x.d.waits.length ≤ 900000) : x.fine := by
  obtain ⟨s0, cs, H⟩ := G.held
  exact ⟨H.len, G.half1, H.m1, G.room, hw⟩
/-- Bytes are written behind what stands in the half, or into the other one. -/
theorem Good.put (G : Good x last h n) {b : List UInt8} {a : Nat} {k p : Nat} {s : Sv} (hk : k ≤ 1) (ha : a = 16 + k * x.d.half + p) (hp : p + b.length ≤ x.d.half) (hh : k = h → n ≤ p)
    (hlog : Log (x.d.put a b) k (p + b.length) s) : Good ⟨x.d.put a b, s, k, p + b.length, x.mark⟩ last h n := by
  obtain ⟨s0, cs, H⟩ := G.held
  have hl := H.len
  have hn1 := H.n1
  have hsz : x.d.half * 2 + 16 ≤ x.d.now.length := by unfold Dk.half; omega
  have hkm := half_mul (hs := x.d.half) hk
  have hhm := half_mul (hs := x.d.half) H.h1
  have hfit : a + b.length ≤ x.d.now.length := by omega
  have hfar : Far h x.d.half n a b.length := by
    refine ⟨by omega, ?_⟩
    by_cases he : k = h
    · have := hh he
      subst he
      omega
    · omega
  have hlen : (splice x.d.now a b).length = x.d.now.length := length_splice _ _ _ hfit
  have hhalf : (x.d.put a b).half = x.d.half := by
    show ((splice x.d.now a b).length - 16) / 2 = _
    rw [hlen]; rfl
  refine ⟨⟨s0, cs, H.agree hlen (fun i hi => far_get hfit hfar hi)⟩, G.safe.trans hlen.symm, fun w hw => ?_, ?_, fun w hw => ?_, hk, ?_, fun he => ?_, hlog⟩
  · show w.1 + w.2.length ≤ (splice x.d.now a b).length
    rw [hlen]
    rcases List.mem_append.1 hw with hw | hw
    · exact G.fits w hw
    · rw [List.mem_singleton.1 hw]; exact hfit
  · show splice x.d.now a b = applyW x.d.safe (x.d.waits ++ [(a, b)])
    rw [applyW_append, ← G.now]
  · rw [hhalf]
    rcases List.mem_append.1 hw with hw | hw
    · exact G.far w hw
    · rw [List.mem_singleton.1 hw]; exact hfar
  · rw [hhalf]; exact hp
  · show n ≤ p + b.length
    have := hh he
    omega
theorem splice_cut {l b : List UInt8} {a p q : Nat} (h : a + p + b.length ≤ l.length) (hq : q = p + b.length) : ((splice l (a + p) b).drop a).take q = (l.drop a).take p ++ b := by
  subst hq
  have hl1 : ((l.drop a).take p).length = p := by rw [List.length_take, List.length_drop]; omega
  apply List.ext_getElem?
  intro j
  rw [List.getElem?_take]
  by_cases hj : j < p + b.length
  · rw [if_pos hj, List.getElem?_drop, splice_get h]
    by_cases h1 : j < p
    · rw [if_pos (by omega), List.getElem?_append_left (by omega), List.getElem?_take, if_pos h1, List.getElem?_drop]
    · rw [if_neg (by omega), if_pos (by omega), List.getElem?_append_right (by omega), hl1]
      congr 1
      omega
  · rw [if_neg hj, List.getElem?_eq_none]
    rw [List.length_append, hl1]
    omega
theorem Good.laid (G : Good x last h n) {c : Ch} {s2 : Sv} (h1 : (itCh c).fit) (h2 : (itCh c).bulk ≤ 1048576) (h3 : c.lim) (h4 : nextS x.s c = some s2) (h5 : s2.ok) (hr : roomB x (recC c) = true) : Good { x.laid (recC c) with s := s2 } last h n := by
  have hroom : x.at_ + (recC c).length ≤ x.d.half := by simpa [roomB] using hr
  obtain ⟨s0, cs, H⟩ := G.held
  have hl := H.len
  have hsz : x.d.half * 2 + 16 ≤ x.d.now.length := by unfold Dk.half; omega
  have hkm := half_mul (hs := x.d.half) G.half1
  have hfit : 16 + x.half * x.d.half + x.at_ + (recC c).length ≤ x.d.now.length := by omega
  have hhalf : (x.d.put (16 + x.half * x.d.half + x.at_) (recC c)).half = x.d.half := by
    show ((splice x.d.now _ _).length - 16) / 2 = _
    rw [length_splice _ _ _ hfit]; rfl
  obtain ⟨t0, ds, e1, e2, e3, e4, e5⟩ := G.cur.ex
  have h7 := G.put (k := x.half) (p := x.at_) (b := recC c) (s := s2) (a := 16 + x.half * x.d.half + x.at_) G.half1 rfl hroom (fun he => G.ahead he) ⟨t0, ds ++ [c], by
    rw [hhalf]
    show ((splice x.d.now (16 + x.half * x.d.half + x.at_) (recC c)).drop _).take _ = _
    rw [splice_cut hfit rfl, e1]
    unfold logC
    rw [List.map_append, List.flatten_append, List.append_assoc]
    simp, e2, e3, e4, Goes.snoc h1 h2 h3 h5 _ _ _ e5 h4⟩
  exact h7
theorem Good.over (G : Good x last h n) {s2 : Sv} (h1 : (itSv s2).fit) (h2 : s2.small) (h5 : s2.ok) (hr : roomB x.over (recS s2) = true) : Good { x.over.laid (recS s2) with s := s2 } last h n := by
  have ht := G.told
  obtain ⟨s0, cs, H⟩ := G.held
  have hh := H.h1
  have hroom : 0 + (recS s2).length ≤ x.d.half := by simpa [roomB, St.over] using hr
  have hl := H.len
  have hsz : x.d.half * 2 + 16 ≤ x.d.now.length := by unfold Dk.half; omega
  have hkm := half_mul (h := 1 - h) (hs := x.d.half) (by omega)
  have hfit : 16 + (1 - h) * x.d.half + 0 + (recS s2).length ≤ x.d.now.length := by omega
  have hhalf : (x.d.put (16 + (1 - h) * x.d.half + 0) (recS s2)).half = x.d.half := by
    show ((splice x.d.now _ _).length - 16) / 2 = _
    rw [length_splice _ _ _ hfit]; rfl
  have h7 := G.put (k := 1 - h) (p := 0) (b := recS s2) (s := s2) (a := 16 + (1 - h) * x.d.half + 0) (by omega) rfl hroom (fun he => by omega) ⟨s2, [], by
    rw [hhalf]
    show ((splice x.d.now (16 + (1 - h) * x.d.half + 0) (recS s2)).drop _).take _ = _
    rw [splice_cut hfit rfl]
    simp [logC], h1, h2.2, h5, rfl⟩
  have he : { x.over.laid (recS s2) with s := s2 } = (⟨x.d.put (16 + (1 - h) * x.d.half + 0) (recS s2), s2, 1 - h, 0 + (recS s2).length, x.mark⟩ : St) := by
    unfold St.laid St.over St.place
    rw [ht]
  rw [he]
  exact h7
/-- What waits is written, then the mark that does not count, then the byte that tells which one does. -/
theorem Good.synced (G : Good x last h n) : Good x.synced x.s x.half x.at_ := by
  obtain ⟨s0, cs, H⟩ := G.held
  obtain ⟨t0, ds, e1, e2, e3, e4, e5⟩ := G.cur.ex
  have hl := H.len
  have hm := H.m1
  have hsz : x.d.half * 2 + 16 ≤ x.d.now.length := by unfold Dk.half; omega
  have hkm := half_mul (hs := x.d.half) G.half1
  have hroom := G.room
  have hml := markB_len x.half x.at_
  obtain ⟨a, ha⟩ : ∃ a, a = 1 + 5 * (1 - x.mark) := ⟨_, rfl⟩
  obtain ⟨mk, hmk⟩ : ∃ mk, mk = markB x.half x.at_ := ⟨_, rfl⟩
  obtain ⟨tp, htp⟩ : ∃ tp, tp = [byteOf ((1 - x.mark : Nat) : Int)] := ⟨_, rfl⟩
  have htl : tp.length = 1 := by rw [htp]; rfl
  rw [← hmk] at hml
  obtain ⟨L1, hL1⟩ : ∃ L, L = splice x.d.now a mk := ⟨_, rfl⟩
  obtain ⟨L2, hL2⟩ : ∃ L, L = splice L1 0 tp := ⟨_, rfl⟩
  have hl1 : L1.length = x.d.now.length := by rw [hL1]; exact length_splice _ _ _ (by omega)
  have hl2 : L2.length = x.d.now.length := by rw [hL2, length_splice _ _ _ (by omega)]; exact hl1
  have hsafe : applyW (applyW (applyW x.d.safe x.d.waits) [(a, mk)]) [(0, tp)] = L2 := by
    rw [← G.now, hL2, hL1]
    rfl
  have hget : ∀ i, L2[i]? = if i < 1 then tp[i]? else if i < a then x.d.now[i]? else if i < a + 5 then mk[i - a]? else x.d.now[i]? := by
    intro i
    rw [hL2, splice_get (by omega), hL1, splice_get (by omega), htl, hml]
    by_cases h1 : i < 1
    · rw [if_neg (by omega), if_pos (by omega), if_pos h1]
      rfl
    · rw [if_neg (by omega), if_neg (by omega), if_neg h1]
  have he : x.synced = ⟨⟨applyW (applyW (applyW x.d.safe x.d.waits) [(a, mk)]) [(0, tp)], L2, []⟩, x.s, x.half, x.at_, 1 - x.mark⟩ := by
    rw [hL2, hL1, htp, hmk, ha]
    rfl
  rw [he, hsafe]
  have hhalf : (Dk.half ⟨L2, L2, []⟩) = x.d.half := by
    show (L2.length - 16) / 2 = _
    rw [hl2]; rfl
  have hregion : (L2.drop (16 + x.half * x.d.half)).take x.at_ = recS t0 ++ logC ds := by
    rw [← e1]
    exact cut_agree (fun i h1 h2 => by rw [hget, if_neg (by omega), if_neg (by omega), if_neg (by omega)])
  refine ⟨⟨t0, ds, ?_⟩, rfl, fun w hw => (by cases hw), rfl, fun w hw => (by cases hw), G.half1, by rw [hhalf]; exact hroom, fun _ => Nat.le_refl _, ⟨t0, ds, by rw [hhalf]; exact hregion, e2, e3, e4, e5⟩⟩
  refine ⟨by show 4096 ≤ L2.length; omega, by show 1 - x.mark ≤ 1; omega, G.half1, by rw [hhalf]; exact hroom, ?_, ?_, by rw [hhalf]; exact hregion, e2, e3, e4, e5⟩
  · show readB L2 0 1 = [byteOf ((1 - x.mark : Nat) : Int)]
    rw [← htp]
    apply List.ext_getElem?
    intro j
    have h1 := readB_get L2 0 1 j (by omega)
    rw [show ((0 : Nat) : Int) = 0 from rfl, show ((1 : Nat) : Int) = 1 from rfl] at h1
    rw [h1, Nat.zero_add]
    by_cases hj : j < 1
    · rw [if_pos hj, hget, if_pos hj]
    · rw [if_neg hj, List.getElem?_eq_none (by omega)]
  · show readB L2 ((1 + 5 * (1 - x.mark) : Nat) : Int) 5 = markB x.half x.at_
    rw [← ha, ← hmk]
    apply List.ext_getElem?
    intro j
    have h1 := readB_get L2 a 5 j (by omega)
    rw [show ((5 : Nat) : Int) = 5 from rfl] at h1
    rw [h1]
    by_cases hj : j < 5
    · rw [if_pos hj, hget, if_neg (by omega), if_neg (by omega), if_pos (by omega), Nat.add_sub_cancel_left]
    · rw [if_neg hj, List.getElem?_eq_none (by omega)]
theorem Far.less {h hs n a l l' : Nat} (hf : Far h hs n a l) (hl : l' ≤ l) : Far h hs n a l' := ⟨hf.1, by rcases hf.2 with h2 | h2; exact .inl (by omega); exact .inr h2⟩
theorem crash_len {s : List UInt8} {l : List (Nat × List UInt8)} {tear : Int} (hf : ∀ x ∈ l, x.1 + x.2.length ≤ s.length) : (crashS s l tear).length = s.length := by
  unfold crashS
  cases hl : l.getLast? with
  | none => rfl
  | some x =>
    have hx : x ∈ l := List.mem_of_getLast? hl
    have h1 : (applyW s l.dropLast).length = s.length := applyW_length _ _ (fun y hy => hf y (List.dropLast_subset _ hy))
    simp only
    rw [length_splice _ _ _ (by have := @tearB_len tear x.2; have := hf x hx; omega), h1]
theorem crash_far {h hs n i : Nat} (hp : Prot h hs n i) {s : List UInt8} {l : List (Nat × List UInt8)} {tear : Int} (hf : ∀ x ∈ l, x.1 + x.2.length ≤ s.length) (hfar : ∀ x ∈ l, Far h hs n x.1 x.2.length) : (crashS s l tear)[i]? = s[i]? := by
  unfold crashS
  cases hl : l.getLast? with
  | none => rfl
  | some x =>
    have hx : x ∈ l := List.mem_of_getLast? hl
    have h1 : (applyW s l.dropLast).length = s.length := applyW_length _ _ (fun y hy => hf y (List.dropLast_subset _ hy))
    simp only
    rw [far_get (by have := @tearB_len tear x.2; have := hf x hx; omega) ((hfar x hx).less (@tearB_len tear x.2)) hp]
    exact applyW_far hp _ _ (fun y hy => hf y (List.dropLast_subset _ hy)) (fun y hy => hfar y (List.dropLast_subset _ hy))
def Dk.crash (d : Dk) (keep : Nat) (tear : Int) : Dk := ⟨crashS d.safe (keptW d.waits keep d.waits.length) tear, crashS d.safe (keptW d.waits keep d.waits.length) tear, []⟩
/-- Behind any crash the store that is opened is kept, and holds what was synced. -/
theorem Good.crash (G : Good x last h n) (keep : Nat) (tear : Int) : Good ⟨x.d.crash keep tear, last, h, n, x.mark⟩ last h n ∧ ∃ s0 cs, Holds (x.d.crash keep tear) x.mark h n s0 cs last := by
  obtain ⟨s0, cs, H⟩ := G.held
  have hfit : ∀ y ∈ keptW x.d.waits keep x.d.waits.length, y.1 + y.2.length ≤ x.d.safe.length := fun y hy => by rw [G.safe]; exact G.fits y (keptW_mem hy)
  have hfar : ∀ y ∈ keptW x.d.waits keep x.d.waits.length, Far h x.d.half n y.1 y.2.length := fun y hy => G.far y (keptW_mem hy)
  have hl : (x.d.crash keep tear).now.length = x.d.now.length := (crash_len hfit).trans G.safe
  have hhalf : (x.d.crash keep tear).half = x.d.half := by unfold Dk.half; rw [hl]
  have hH : Holds (x.d.crash keep tear) x.mark h n s0 cs last := H.agree hl (fun i hi => by
    rw [show (x.d.crash keep tear).now = crashS x.d.safe (keptW x.d.waits keep x.d.waits.length) tear from rfl, crash_far hi hfit hfar, G.now]
    exact (applyW_far hi _ _ (fun y hy => by rw [G.safe]; exact G.fits y hy) G.far).symm)
  refine ⟨⟨⟨s0, cs, hH⟩, rfl, fun w hw => (by cases hw), rfl, fun w hw => (by cases hw), H.h1, by rw [hhalf]; exact H.n1, fun _ => Nat.le_refl _, ⟨s0, cs, ?_, H.fit, H.bulk, H.ok, H.goes⟩⟩, s0, cs, hH⟩
  exact hH.all
end
end Go.Proofs.Ytbaohngnpgappaa
