/- Joined texts: W30, W31, W32, W33, W34, W35. -/
import Derived.Test.YtbaohngnpgappaaM4
set_option linter.unusedVariables false
set_option linter.unusedSimpArgs false
namespace Go.Proofs.Ytbaohngnpgappaa
open Go.RowKit
/-- Where a reader stands: the next byte, in how many lists, why it has given up. -/
structure RS where
  at_ : Nat
  win : Nat
  e : Int
def nextR (L : List UInt8) (s : RS) : UInt8 × RS :=
  if s.e = 0 then (match L[s.at_]? with | some c => (c, { s with at_ := s.at_ + 1 }) | none => (0, { s with e := 10 })) else (0, s)
def cntR (L : List UInt8) : Nat → Bool → Nat → RS → Nat × RS
  | 0, _, _, s => (0, s)
  | f + 1, first, n, s =>
    if (nextR L s).2.e ≠ 0 then (0, (nextR L s).2)
    else if (first = true ∧ (nextR L s).1.toNat = 128) ∨ 2147483647 < n * 128 + (nextR L s).1.toNat % 128 then (0, { (nextR L s).2 with e := 11 })
    else if (nextR L s).1.toNat < 128 then (n * 128 + (nextR L s).1.toNat % 128, (nextR L s).2)
    else cntR L f false (n * 128 + (nextR L s).1.toNat % 128) (nextR L s).2
def countR (L : List UInt8) (s : RS) : Nat × RS := cntR L (L.length + 1) true 0 s
def nextsR (L : List UInt8) : Nat → RS → List UInt8 × RS
  | 0, s => ([], s)
  | k + 1, s => ((nextR L s).1 :: (nextsR L k (nextR L s).2).1, (nextsR L k (nextR L s).2).2)
def itemsR (f : RS → It × RS) : Nat → RS → List It × RS
  | 0, s => ([], s)
  | n + 1, s => if s.e = 0 then ((f s).1 :: (itemsR f n (f s).2).1, (itemsR f n (f s).2).2) else ([], s)
def startR (L : List UInt8) (s : RS) : RS := if s.at_ < L.length ∧ s.win = 40 ∧ s.e = 0 then { s with e := 3 } else s
def textR (L : List UInt8) (n : Nat) (s : RS) : List UInt8 × RS :=
  if s.e = 0 then (if L.length < n + s.at_ then ([], { s with e := 10 }) else ((L.drop s.at_).take n, { s with at_ := s.at_ + n })) else ([], s)
def itemR (L : List UInt8) : Nat → RS → It × RS
  | 0, s => (.mk 0 0 [] [], s)
  | d + 1, s =>
    let c := nextR L (startR L s)
    if c.2.e ≠ 0 then (.mk c.1.toNat 0 [] [], c.2)
    else if c.1.toNat = 1 then (let b := nextsR L 8 c.2; (.mk 1 (IntKind.i64.wrap (rdn b.1 : Int)) [] [], b.2))
    else if c.1.toNat = 2 then (let n := countR L c.2; let t := textR L n.1 n.2; (.mk 2 0 t.1 [], t.2))
    else if c.1.toNat = 3 then (let n := countR L { c.2 with win := c.2.win + 1 }; let l := itemsR (itemR L d) n.1 n.2; (.mk 3 0 [] l.1, { l.2 with win := l.2.win - 1 }))
    else (.mk c.1.toNat 0 [] [], { c.2 with e := 11 })
def readI (L : List UInt8) : It × Nat × Int :=
  let r := itemR L 41 ⟨0, 0, 0⟩
  if r.2.e ≠ 0 then (.mk 0 0 [] [], 0, r.2.e) else (r.1, r.2.at_, 0)
/-! ### where it stands behind each -/
theorem nextR_off {L : List UInt8} {s : RS} (h : s.e ≠ 0) : nextR L s = (0, s) := by unfold nextR; rw [if_neg h]
theorem nextR_on {L : List UInt8} {s : RS} {c : UInt8} (h : s.e = 0) (hc : L[s.at_]? = some c) : nextR L s = (c, { s with at_ := s.at_ + 1 }) := by unfold nextR; rw [if_pos h, hc]
theorem nextR_end {L : List UInt8} {s : RS} (h : s.e = 0) (hc : L.length ≤ s.at_) : nextR L s = (0, { s with e := 10 }) := by unfold nextR; rw [if_pos h, List.getElem?_eq_none hc]
/-- What every step keeps. -/
structure Kept (L : List UInt8) (s t : RS) : Prop where
  at1 : s.at_ ≤ t.at_
  at2 : s.at_ ≤ L.length → t.at_ ≤ L.length
  win : t.win = s.win
  e : s.e ≠ 0 → t = s
theorem Kept.refl (L : List UInt8) (s : RS) : Kept L s s := ⟨Nat.le_refl _, fun h => h, rfl, fun _ => rfl⟩
theorem Kept.trans {L : List UInt8} {s t u : RS} (h : Kept L s t) (k : Kept L t u) : Kept L s u :=
  ⟨Nat.le_trans h.at1 k.at1, fun a => k.at2 (h.at2 a), k.win.trans h.win, fun a => by have := h.e a; subst this; exact k.e a⟩
theorem nextR_kept (L : List UInt8) (s : RS) : Kept L s (nextR L s).2 := by
  by_cases h : s.e = 0
  · rcases Nat.lt_or_ge s.at_ L.length with hl | hl
    · rw [nextR_on h (List.getElem?_eq_getElem hl)]
      exact ⟨Nat.le_succ _, fun _ => hl, rfl, fun a => absurd h a⟩
    · rw [nextR_end h hl]
      exact ⟨Nat.le_refl _, fun a => a, rfl, fun a => absurd h a⟩
  · rw [nextR_off h]
    exact Kept.refl _ _
theorem kept_err {L : List UInt8} {s : RS} (h : s.e = 0) (e : Int) : Kept L s { s with e := e } := ⟨Nat.le_refl _, fun a => a, rfl, fun a => absurd h a⟩
theorem nextR_e {L : List UInt8} {s : RS} (h : (nextR L s).2.e = 0) : s.e = 0 := by
  by_cases h0 : s.e = 0
  · exact h0
  · rw [nextR_off h0] at h; exact absurd h h0
theorem cntR_kept (L : List UInt8) : ∀ (f : Nat) (first : Bool) (n : Nat) (s : RS), Kept L s (cntR L f first n s).2 := by
  intro f
  induction f with
  | zero => exact fun _ _ s => Kept.refl _ _
  | succ f ih =>
    intro first n s
    rw [cntR]
    split
    · exact nextR_kept L s
    · rename_i h0
      have h0 : (nextR L s).2.e = 0 := Classical.not_not.1 h0
      split
      · exact (nextR_kept L s).trans (kept_err h0 11)
      · split
        · exact nextR_kept L s
        · exact (nextR_kept L s).trans (ih _ _ _)
theorem countR_kept (L : List UInt8) (s : RS) : Kept L s (countR L s).2 := cntR_kept _ _ _ _ _
theorem nextsR_kept (L : List UInt8) : ∀ (k : Nat) (s : RS), Kept L s (nextsR L k s).2 := by
  intro k
  induction k with
  | zero => exact fun s => Kept.refl _ _
  | succ k ih => intro s; rw [nextsR]; exact (nextR_kept L s).trans (ih _)
theorem itemsR_kept (L : List UInt8) {f : RS → It × RS} (hf : ∀ s, Kept L s (f s).2) : ∀ (n : Nat) (s : RS), Kept L s (itemsR f n s).2 := by
  intro n
  induction n with
  | zero => exact fun s => Kept.refl _ _
  | succ n ih =>
    intro s
    rw [itemsR]
    split
    · exact (hf s).trans (ih _)
    · exact Kept.refl _ _
theorem startR_kept (L : List UInt8) (s : RS) : Kept L s (startR L s) := by
  unfold startR
  split
  · rename_i h; exact kept_err h.2.2 3
  · exact Kept.refl _ _
theorem textR_kept (L : List UInt8) (n : Nat) (s : RS) : Kept L s (textR L n s).2 := by
  unfold textR
  split
  · rename_i h
    split
    · exact kept_err h 10
    · rename_i h2
      exact ⟨by show s.at_ ≤ s.at_ + n; omega, fun _ => by show s.at_ + n ≤ L.length; omega, rfl, fun a => absurd h a⟩
  · exact Kept.refl _ _
theorem itemR_kept (L : List UInt8) : ∀ (d : Nat) (s : RS), Kept L s (itemR L d s).2 := by
  intro d
  induction d with
  | zero => exact fun s => Kept.refl _ _
  | succ d ih =>
    intro s
    have h1 := (startR_kept L s).trans (nextR_kept L (startR L s))
    rw [itemR]
    simp only
    split
    · exact h1
    · rename_i h0
      have h0 : (nextR L (startR L s)).2.e = 0 := Classical.not_not.1 h0
      split
      · exact h1.trans (nextsR_kept L 8 _)
      · split
        · exact h1.trans ((countR_kept L _).trans (textR_kept L _ _))
        · split
          · have h2 := (countR_kept L { (nextR L (startR L s)).2 with win := (nextR L (startR L s)).2.win + 1 }).trans (itemsR_kept L ih (countR L { (nextR L (startR L s)).2 with win := (nextR L (startR L s)).2.win + 1 }).1 (countR L { (nextR L (startR L s)).2 with win := (nextR L (startR L s)).2.win + 1 }).2)
            refine h1.trans ⟨h2.at1, h2.at2, ?_, fun a => absurd h0 a⟩
            have := h2.win
            simp only at this ⊢
            omega
          · exact h1.trans (kept_err h0 11)
end Go.Proofs.Ytbaohngnpgappaa
namespace Go.Proofs.Ytbaohngnpgappaa
open Go.RowKit
theorem get_drop {L r : List UInt8} {a : Nat} {c : UInt8} (h : L.drop a = c :: r) : L[a]? = some c ∧ L.drop (a + 1) = r ∧ a < L.length := by
  have h1 : L[a]? = some c := by
    have := List.getElem?_drop (xs := L) (i := a) (j := 0)
    rw [h] at this
    simpa using this.symm
  refine ⟨h1, ?_, (List.getElem?_eq_some_iff.1 h1).1⟩
  rw [← List.drop_drop, h]; rfl
theorem next_drop {L r : List UInt8} {a w : Nat} {c : UInt8} (h : L.drop a = c :: r) : nextR L ⟨a, w, 0⟩ = (c, ⟨a + 1, w, 0⟩) := nextR_on (s := ⟨a, w, 0⟩) rfl (get_drop h).1
theorem next_nil {L : List UInt8} {a w : Nat} (h : L.drop a = []) : nextR L ⟨a, w, 0⟩ = (0, ⟨a, w, 10⟩) := nextR_end (s := ⟨a, w, 0⟩) rfl (by simpa using h)
def cfold (n : Nat) (l : List UInt8) : Nat := l.foldl (fun a c => a * 128 + c.toNat % 128) n
theorem cfold_ge : ∀ (l : List UInt8) (n : Nat), n ≤ cfold n l := by
  intro l
  induction l with
  | nil => exact fun n => Nat.le_refl _
  | cons c r ih => intro n; exact Nat.le_trans (by omega) (ih (n * 128 + c.toNat % 128))
theorem cfold_cons (n : Nat) (c : UInt8) (r : List UInt8) : cfold n (c :: r) = cfold (n * 128 + c.toNat % 128) r := rfl
theorem cntR_ok {L : List UInt8} : ∀ (h : List UInt8) (f : Nat) (first : Bool) (n a w : Nat) (x : UInt8) (r : List UInt8), (∀ c ∈ h, 128 ≤ c.toNat) → x.toNat < 128 → (first = true → ∀ c q, h = c :: q → c.toNat ≠ 128) → cfold n (h ++ [x]) ≤ 2147483647 → h.length < f → L.drop a = h ++ x :: r →
    cntR L f first n ⟨a, w, 0⟩ = (cfold n (h ++ [x]), ⟨a + h.length + 1, w, 0⟩) := by
  intro h
  induction h with
  | nil =>
    intro f first n a w x r _ hx _ hb hf hd
    obtain ⟨g, rfl⟩ : ∃ g, f = g + 1 := ⟨f - 1, by simp at hf; omega⟩
    rw [cntR, next_drop hd]
    have h2 : n * 128 + x.toNat % 128 ≤ 2147483647 := hb
    rw [if_neg (by simp), if_neg (by simp only; omega), if_pos hx]
    rfl
  | cons c q ih =>
    intro f first n a w x r hc hx hfi hb hf hd
    obtain ⟨g, rfl⟩ : ∃ g, f = g + 1 := ⟨f - 1, by simp at hf; omega⟩
    have hc1 := hc c List.mem_cons_self
    rw [cntR, next_drop hd]
    have h2 : n * 128 + c.toNat % 128 ≤ 2147483647 := by
      rw [List.cons_append, cfold_cons] at hb
      exact Nat.le_trans (cfold_ge _ _) hb
    have h3 : ¬ (first = true ∧ c.toNat = 128) := fun h => hfi h.1 c q rfl h.2
    rw [if_neg (by simp), if_neg (by simp only; intro h; rcases h with h | h; exact h3 h; omega), if_neg (by simp only; omega)]
    simp only
    rw [ih g false _ (a + 1) w x r (fun y hy => hc y (List.mem_cons_of_mem _ hy)) hx (by simp) hb (by simp at hf; omega) (get_drop hd).2.1]
    rw [List.cons_append, cfold_cons, List.length_cons, show a + 1 + q.length + 1 = a + (q.length + 1) + 1 from by omega]
theorem cntR_cut {L : List UInt8} : ∀ (h : List UInt8) (f : Nat) (first : Bool) (n a w : Nat), (∀ c ∈ h, 128 ≤ c.toNat) → (first = true → ∀ c q, h = c :: q → c.toNat ≠ 128) → cfold n h ≤ 2147483647 → h.length < f → L.drop a = h →
    (cntR L f first n ⟨a, w, 0⟩).2.e = 10 := by
  intro h
  induction h with
  | nil =>
    intro f first n a w _ _ hb hf hd
    obtain ⟨g, rfl⟩ : ∃ g, f = g + 1 := ⟨f - 1, by simp at hf; omega⟩
    rw [cntR, next_nil hd, if_pos (show (10 : Int) ≠ 0 by decide)]
  | cons c q ih =>
    intro f first n a w hc hfi hb hf hd
    obtain ⟨g, rfl⟩ : ∃ g, f = g + 1 := ⟨f - 1, by simp at hf; omega⟩
    have hc1 := hc c List.mem_cons_self
    rw [cntR, next_drop hd]
    have h2 : n * 128 + c.toNat % 128 ≤ 2147483647 := by
      rw [cfold_cons] at hb
      exact Nat.le_trans (cfold_ge _ _) hb
    have h3 : ¬ (first = true ∧ c.toNat = 128) := fun h => hfi h.1 c q rfl h.2
    rw [if_neg (by simp), if_neg (by simp only; intro h; rcases h with h | h; exact h3 h; omega), if_neg (by simp only; omega)]
    exact ih g false _ (a + 1) w (fun y hy => hc y (List.mem_cons_of_mem _ hy)) (by simp) hb (by simp at hf; omega) (get_drop hd).2.1
theorem hiB_head : ∀ (n : Nat) (c : UInt8) (q : List UInt8), hiB n = c :: q → c.toNat ≠ 128 := by
  intro n
  induction n using Nat.strongRecOn with
  | ind n ih =>
    intro c q h
    rcases Nat.eq_zero_or_pos n with rfl | hn
    · rw [hiB_zero] at h; cases h
    · rw [hiB_pos hn] at h
      rcases Nat.eq_zero_or_pos (n / 128) with h0 | h0
      · rw [h0, hiB_zero] at h
        have h1 := (List.cons.inj h).1
        rw [← h1, UInt8.toNat_ofNat']
        omega
      · cases hh : hiB (n / 128) with
        | nil =>
          have := cval_hiB (n / 128)
          rw [hh] at this
          simp [cval] at this
          omega
        | cons c' q' =>
          rw [hh, List.cons_append] at h
          rw [← (List.cons.inj h).1]
          exact ih (n / 128) (by omega) c' q' hh
theorem countR_ok {L r : List UInt8} {a w m : Nat} (hm : m ≤ 2147483647) (hd : L.drop a = countB m ++ r) : countR L ⟨a, w, 0⟩ = (m, ⟨a + (countB m).length, w, 0⟩) := by
  have hl : (countB m ++ r).length ≤ L.length := by rw [← hd, List.length_drop]; omega
  have hv : cfold 0 (hiB (m / 128) ++ [UInt8.ofNat (m % 128)]) = m := cval_countB m
  unfold countR
  rw [cntR_ok (hiB (m / 128)) (L.length + 1) true 0 a w (UInt8.ofNat (m % 128)) r (hiB_ge _) (by rw [UInt8.toNat_ofNat']; omega) (fun _ => hiB_head _) (by rw [hv]; exact hm) (by
    rw [countB] at hl; simp at hl; omega) (by rw [hd, countB, List.append_assoc]; rfl), hv]
  rw [countB, List.length_append, List.length_singleton, Nat.add_assoc]
theorem countR_cut {L p q : List UInt8} {a w m : Nat} (hm : m ≤ 2147483647) (hd : L.drop a = p) (hp : p ++ q = countB m) (hq : q ≠ []) : (countR L ⟨a, w, 0⟩).2.e = 10 := by
  obtain ⟨q0, x, rfl⟩ : ∃ q0 x, q = q0 ++ [x] := ⟨_, _, (List.dropLast_concat_getLast hq).symm⟩
  rw [countB, ← List.append_assoc] at hp
  have hpre : p ++ q0 = hiB (m / 128) := List.append_inj_left' hp rfl
  have hv : cfold 0 (p ++ q0) = m / 128 := by rw [hpre]; exact cval_hiB _
  have hle : cfold 0 p ≤ cfold 0 (p ++ q0) := by
    unfold cfold
    rw [List.foldl_append]
    exact cfold_ge _ _
  have hl : p.length ≤ L.length := by rw [← hd, List.length_drop]; omega
  refine cntR_cut p (L.length + 1) true 0 a w (fun c hc => hiB_ge (m / 128) c (by rw [← hpre]; exact List.mem_append_left _ hc)) (fun _ c r he => hiB_head (m / 128) c (r ++ q0) (by rw [← hpre, he]; rfl)) (by omega) (by omega) hd
/-! ### eight bytes -/
theorem nextsR_ok {L : List UInt8} : ∀ (l : List UInt8) (a w : Nat) (r : List UInt8), L.drop a = l ++ r → nextsR L l.length ⟨a, w, 0⟩ = (l, ⟨a + l.length, w, 0⟩) := by
  intro l
  induction l with
  | nil => exact fun a w r _ => rfl
  | cons c q ih =>
    intro a w r hd
    rw [List.length_cons, nextsR, next_drop hd, ih (a + 1) w r (get_drop hd).2.1, show a + (q.length + 1) = a + 1 + q.length from by omega]
theorem nextsR_err (L : List UInt8) : ∀ (k : Nat) (s : RS), s.e ≠ 0 → (nextsR L k s).2 = s := fun k s h => (nextsR_kept L k s).e h
theorem nextsR_cut {L : List UInt8} : ∀ (p : List UInt8) (k a w : Nat), p.length < k → L.drop a = p → (nextsR L k ⟨a, w, 0⟩).2.e = 10 := by
  intro p
  induction p with
  | nil =>
    intro k a w hk hd
    obtain ⟨j, rfl⟩ : ∃ j, k = j + 1 := ⟨k - 1, by simp at hk; omega⟩
    rw [nextsR, next_nil hd]
    simp only
    rw [nextsR_err L j ⟨a, w, 10⟩ (show (10 : Int) ≠ 0 by decide)]
  | cons c q ih =>
    intro k a w hk hd
    obtain ⟨j, rfl⟩ : ∃ j, k = j + 1 := ⟨k - 1, by simp at hk; omega⟩
    rw [nextsR, next_drop hd]
    exact ih j (a + 1) w (by simp at hk; omega) (get_drop hd).2.1
theorem rdn_mod (l : List UInt8) (n : Int) (m : Nat) (hl : l = (List.range m).map fun j => byteOf (n / 2 ^ (8 * (m - 1 - j)))) : (rdn l : Int) = n % 2 ^ (8 * m) := by
  suffices h : ∀ k, k ≤ m → (rdn ((List.range k).map fun j => byteOf (n / 2 ^ (8 * (m - 1 - j)))) : Int) = n / 2 ^ (8 * (m - k)) % 2 ^ (8 * k) by
    have := h m (Nat.le_refl _)
    rw [hl, this, Nat.sub_self, Nat.mul_zero, Int.pow_zero, Int.ediv_one]
  intro k
  induction k with
  | zero => intro _; simp [rdn]
  | succ k ih =>
    intro hk
    have h1 := ih (by omega)
    rw [List.range_succ, List.map_append]
    unfold rdn at h1 ⊢
    rw [List.foldl_append]
    simp only [List.map_cons, List.map_nil, List.foldl_cons, List.foldl_nil]
    rw [Int.natCast_add, Int.natCast_mul, h1, enc8_is, IntKind.wrap_u8]
    have e1 : m - 1 - k = m - (k + 1) := by omega
    rw [e1, show 8 * (m - k) = 8 * (m - (k + 1)) + 8 from by omega, Int.pow_add, show 8 * (k + 1) = 8 * k + 8 from by omega, Int.pow_add, ← Int.ediv_ediv_of_nonneg (Int.le_of_lt (Int.pow_pos (by decide)))]
    generalize n / 2 ^ (8 * (m - (k + 1))) = q
    have hp : (0 : Int) < 2 ^ (8 * k) := Int.pow_pos (by decide)
    generalize (2 : Int) ^ (8 * k) = P at hp
    have h3 := Int.emod_add_mul_ediv q 256
    have h4 := Int.emod_add_mul_ediv (q / 256) P
    have h5 : q % (P * 256) = q / 256 % P * 256 + q % 256 := by
      have h6 : q = (q / 256 % P * 256 + q % 256) + (P * 256) * (q / 256 / P) := by
        have : (P * 256) * (q / 256 / P) = 256 * (P * (q / 256 / P)) := by rw [Int.mul_comm P 256, Int.mul_assoc]
        rw [this]; omega
      have h7 := Int.emod_nonneg (q / 256) (Int.ne_of_gt hp)
      have h8 := Int.emod_lt_of_pos (q / 256) hp
      have h9 := Int.emod_nonneg q (show (256 : Int) ≠ 0 by decide)
      have h10 := Int.emod_lt_of_pos q (show (0 : Int) < 256 by decide)
      rw [h6, Int.add_mul_emod_self_left, ← h6]
      refine Int.emod_eq_of_lt ?_ ?_
      · omega
      · omega
    show q / 256 % P * 256 + q % 256 = q % (P * 256)
    exact h5.symm
theorem num8_back {n : Int} (h : I64 n) : IntKind.i64.wrap (rdn (num8 n) : Int) = n := by
  have h1 := rdn_mod (num8 n) n 8 (by unfold num8; refine List.map_congr_left fun j hj => ?_; rw [show 56 - 8 * j = 8 * (8 - 1 - j) from by have := List.mem_range.1 hj; omega])
  rw [h1, IntKind.wrap_i64]
  unfold I64 at h
  omega
end Go.Proofs.Ytbaohngnpgappaa
namespace Go.Proofs.Ytbaohngnpgappaa
open Go.RowKit
theorem kb1 : (byteOf 1).toNat = 1 := by decide
theorem kb2 : (byteOf 2).toNat = 2 := by decide
theorem kb3 : (byteOf 3).toNat = 3 := by decide
theorem kb21 : ¬ (byteOf 2).toNat = 1 := by decide
theorem kb31 : ¬ (byteOf 3).toNat = 1 := by decide
theorem kb32 : ¬ (byteOf 3).toNat = 2 := by decide
theorem It.deeps_mem {x : It} : ∀ {l : List It}, x ∈ l → x.deep ≤ It.deeps l := by
  intro l
  induction l with
  | nil => intro h; cases h
  | cons y r ih =>
    intro h
    rw [It.deeps]
    rcases List.mem_cons.1 h with rfl | h
    · omega
    · have := ih h; omega
theorem It.len_bulks : ∀ l : List It, l.length ≤ It.bulks l := by
  intro l
  induction l with
  | nil => exact Nat.le_refl _
  | cons x r ih =>
    rw [It.bulks, List.length_cons]
    have : 1 ≤ x.bulk := by cases x; rw [It.bulk]; omega
    omega
theorem It.bulk_mem {x : It} : ∀ {l : List It}, x ∈ l → x.bulk ≤ It.bulks l := by
  intro l
  induction l with
  | nil => intro h; cases h
  | cons y r ih =>
    intro h
    rw [It.bulks]
    rcases List.mem_cons.1 h with rfl | h
    · omega
    · have := ih h; omega
theorem start_id {L : List UInt8} {a w : Nat} (h : w ≠ 40) : startR L ⟨a, w, 0⟩ = ⟨a, w, 0⟩ := by
  unfold startR
  rw [if_neg (fun h2 => h h2.2.1)]
theorem itemR_at {L : List UInt8} {d a w : Nat} {c : UInt8} {r : List UInt8} (hw : w ≠ 40) (hd : L.drop a = c :: r) : itemR L (d + 1) ⟨a, w, 0⟩ =
    if c.toNat = 1 then (.mk 1 (IntKind.i64.wrap (rdn (nextsR L 8 ⟨a + 1, w, 0⟩).1 : Int)) [] [], (nextsR L 8 ⟨a + 1, w, 0⟩).2)
    else if c.toNat = 2 then (.mk 2 0 (textR L (countR L ⟨a + 1, w, 0⟩).1 (countR L ⟨a + 1, w, 0⟩).2).1 [], (textR L (countR L ⟨a + 1, w, 0⟩).1 (countR L ⟨a + 1, w, 0⟩).2).2)
    else if c.toNat = 3 then (.mk 3 0 [] (itemsR (itemR L d) (countR L ⟨a + 1, w + 1, 0⟩).1 (countR L ⟨a + 1, w + 1, 0⟩).2).1, { (itemsR (itemR L d) (countR L ⟨a + 1, w + 1, 0⟩).1 (countR L ⟨a + 1, w + 1, 0⟩).2).2 with win := (itemsR (itemR L d) (countR L ⟨a + 1, w + 1, 0⟩).1 (countR L ⟨a + 1, w + 1, 0⟩).2).2.win - 1 })
    else (.mk c.toNat 0 [] [], ⟨a + 1, w, 11⟩) := by
  rw [itemR, start_id hw, next_drop hd]
  simp only
  rw [if_neg (by simp)]
theorem items_ok {L : List UInt8} {f : RS → It × RS} {w : Nat} : ∀ (l : List It) (a : Nat) (r : List UInt8), (∀ x ∈ l, ∀ (a : Nat) (r : List UInt8), L.drop a = x.enc ++ r → f ⟨a, w, 0⟩ = (x, ⟨a + x.enc.length, w, 0⟩)) → L.drop a = It.encs l ++ r →
    itemsR f l.length ⟨a, w, 0⟩ = (l, ⟨a + (It.encs l).length, w, 0⟩) := by
  intro l
  induction l with
  | nil => exact fun a r _ _ => rfl
  | cons x q ih =>
    intro a r hf hd
    rw [It.encs, List.append_assoc] at hd
    have h1 := hf x List.mem_cons_self a _ hd
    have h2 : L.drop (a + x.enc.length) = It.encs q ++ r := by rw [← List.drop_drop, hd, List.drop_left]
    rw [List.length_cons, itemsR, if_pos rfl, h1]
    simp only
    rw [ih _ r (fun y hy => hf y (List.mem_cons_of_mem _ hy)) h2, It.encs, List.length_append, Nat.add_assoc]
theorem items_err {f : RS → It × RS} {s : RS} (h : s.e ≠ 0) : ∀ n, itemsR f n s = ([], s) := by
  intro n
  cases n with
  | zero => rfl
  | succ n => rw [itemsR, if_neg h]
theorem text_ok {L s r : List UInt8} {a w : Nat} (ha : a ≤ L.length) (hd : L.drop a = s ++ r) : textR L s.length ⟨a, w, 0⟩ = (s, ⟨a + s.length, w, 0⟩) := by
  have hl : (s ++ r).length = L.length - a := by rw [← hd, List.length_drop]
  rw [List.length_append] at hl
  unfold textR
  rw [if_pos rfl]
  simp only
  rw [if_neg (by omega), hd, List.take_left]
/-- What was written is read. -/
theorem item_ok : ∀ (x : It), x.ok = true → x.fit → x.bulk ≤ 2147483647 → ∀ (d : Nat) (L : List UInt8) (a w : Nat) (r : List UInt8), x.deep + w ≤ 40 → 41 ≤ d + w → L.drop a = x.enc ++ r → itemR L d ⟨a, w, 0⟩ = (x, ⟨a + x.enc.length, w, 0⟩) := by
  refine It.ind fun k n s l ih hok hfit hbk d L a w r hdp hdw hd => ?_
  rw [It.deep] at hdp
  rw [It.bulk] at hbk
  rw [It.fit] at hfit
  obtain ⟨g, rfl⟩ : ∃ g, d = g + 1 := ⟨d - 1, by omega⟩
  have hlb := It.len_bulks l
  have hok2 := hok
  rw [It.ok, Bool.and_eq_true] at hok2
  rcases kind_of hok with ⟨rfl, rfl, rfl⟩ | ⟨rfl, rfl, rfl⟩ | ⟨rfl, rfl, rfl⟩
  · have he : (It.mk 1 n [] []).enc = byteOf 1 :: num8 n := by rw [It.enc, if_pos rfl]
    rw [he] at hd ⊢
    rw [itemR_at (by omega) hd, if_pos kb1]
    have h1 := nextsR_ok (num8 n) (a + 1) w r (get_drop hd).2.1
    rw [num8_len] at h1
    rw [h1]
    simp only
    rw [num8_back hfit.2.1, List.length_cons, num8_len]
  · have he : (It.mk 2 0 s []).enc = byteOf 2 :: (countB s.length ++ s) := by rw [It.enc, if_neg (by decide), if_pos rfl]
    rw [he] at hd ⊢
    rw [itemR_at (by omega) hd, if_neg kb21, if_pos kb2]
    have h0 := (get_drop hd).2.1
    rw [List.append_eq, List.append_assoc] at h0
    have h1 := countR_ok (w := w) (show s.length ≤ 2147483647 by omega) h0
    have h2 : L.drop (a + 1 + (countB s.length).length) = s ++ r := by rw [← List.drop_drop, h0, List.drop_left]
    rw [h1]
    simp only
    rw [text_ok (by have h5 := congrArg List.length h0; rw [List.length_drop, List.length_append, List.length_append] at h5; have h6 := (get_drop hd).2.2; omega) h2, List.length_cons, List.length_append, show a + 1 + (countB s.length).length + s.length = a + ((countB s.length).length + s.length + 1) from by omega]
  · have he : (It.mk 3 0 [] l).enc = byteOf 3 :: (countB l.length ++ It.encs l) := by rw [It.enc, if_neg (by decide), if_neg (by decide)]
    rw [he] at hd ⊢
    rw [itemR_at (by omega) hd, if_neg kb31, if_neg kb32, if_pos kb3]
    have h0 := (get_drop hd).2.1
    rw [List.append_eq, List.append_assoc] at h0
    have h1 := countR_ok (w := w + 1) (show l.length ≤ 2147483647 by omega) h0
    have h2 : L.drop (a + 1 + (countB l.length).length) = It.encs l ++ r := by rw [← List.drop_drop, h0, List.drop_left]
    rw [h1]
    simp only
    rw [items_ok (f := itemR L g) (w := w + 1) l _ r (fun x hx a r hd => ih x hx (It.oks_mem hok2.2 hx) (It.fits_iff.1 hfit.2.2 x hx) (by have := It.bulk_mem hx; omega) g L a (w + 1) r (by have := It.deeps_mem hx; omega) (by omega) hd) h2]
    simp only
    rw [List.length_cons, List.length_append, show a + 1 + (countB l.length).length + (It.encs l).length = a + ((countB l.length).length + (It.encs l).length + 1) from by omega, Nat.add_sub_cancel]
theorem text_err {L : List UInt8} {n : Nat} {s : RS} (h : s.e ≠ 0) : (textR L n s).2 = s := (textR_kept L n s).e h
theorem split_app {p q u v : List UInt8} (h : p ++ q = u ++ v) : (∃ q', p ++ q' = u ∧ q' ≠ []) ∨ ∃ p', p = u ++ p' ∧ p' ++ q = v := by
  rcases List.append_eq_append_iff.1 h with ⟨c, h1, h2⟩ | ⟨c, h1, h2⟩
  · rcases c with _ | ⟨x, r⟩
    · right; exact ⟨[], by simpa using h1.symm, by simpa using h2⟩
    · left; exact ⟨x :: r, h1.symm, by simp⟩
  · right; exact ⟨c, h1, h2.symm⟩
theorem items_cut {L : List UInt8} {f : RS → It × RS} {w : Nat} : ∀ (l : List It) (a : Nat) (p q : List UInt8), (∀ x ∈ l, ∀ (a : Nat) (r : List UInt8), L.drop a = x.enc ++ r → f ⟨a, w, 0⟩ = (x, ⟨a + x.enc.length, w, 0⟩)) →
    (∀ x ∈ l, ∀ (a : Nat) (p q : List UInt8), L.drop a = p → p ++ q = x.enc → q ≠ [] → (f ⟨a, w, 0⟩).2.e = 10) → L.drop a = p → p ++ q = It.encs l → q ≠ [] → (itemsR f l.length ⟨a, w, 0⟩).2.e = 10 := by
  intro l
  induction l with
  | nil => intro a p q _ _ _ hp hq; simp [It.encs] at hp; exact absurd hp.2 hq
  | cons x t ih =>
    intro a p q hf hc hd hp hq
    rw [It.encs] at hp
    rw [List.length_cons, itemsR, if_pos rfl]
    simp only
    rcases split_app hp with ⟨q', h1, h2⟩ | ⟨p', h1, h2⟩
    · have h3 := hc x List.mem_cons_self a p q' hd h1 h2
      have h4 : (f ⟨a, w, 0⟩).2.e ≠ 0 := by rw [h3]; exact (show (10 : Int) ≠ 0 by decide)
      rw [items_err h4]
      exact h3
    · subst h1
      have h3 := hf x List.mem_cons_self a p' hd
      rw [h3]
      simp only
      refine ih _ p' q (fun y hy => hf y (List.mem_cons_of_mem _ hy)) (fun y hy => hc y (List.mem_cons_of_mem _ hy)) ?_ h2 hq
      rw [← List.drop_drop, hd, List.drop_left]
/-- What was cut is short. -/
theorem item_cut : ∀ (x : It), x.ok = true → x.fit → x.bulk ≤ 2147483647 → ∀ (d : Nat) (L : List UInt8) (a w : Nat) (p q : List UInt8), x.deep + w ≤ 40 → 41 ≤ d + w → L.drop a = p → p ++ q = x.enc → q ≠ [] → (itemR L d ⟨a, w, 0⟩).2.e = 10 := by
  refine It.ind fun k n s l ih hok hfit hbk d L a w p q hdp hdw hd hp hq => ?_
  rw [It.deep] at hdp
  rw [It.bulk] at hbk
  rw [It.fit] at hfit
  obtain ⟨g, rfl⟩ : ∃ g, d = g + 1 := ⟨d - 1, by omega⟩
  have hlb := It.len_bulks l
  have hok2 := hok
  rw [It.ok, Bool.and_eq_true] at hok2
  rcases p with _ | ⟨c, p⟩
  · rw [itemR, start_id (by omega), next_nil hd]
    simp only
    rw [if_pos (by simp)]
  rw [It.enc] at hp
  have hc := (List.cons.inj hp).1
  have hp2 := (List.cons.inj hp).2
  have hd2 := (get_drop hd).2.1
  have hI := itemR_at (d := g) (show w ≠ 40 by omega) hd
  subst hc
  simp only [List.append_eq] at hp2
  rcases kind_of hok with ⟨rfl, rfl, rfl⟩ | ⟨rfl, rfl, rfl⟩ | ⟨rfl, rfl, rfl⟩
  · rw [if_pos rfl] at hp2
    rw [if_pos kb1] at hI
    rw [hI]
    have hpl : p.length < 8 := by
     have := congrArg List.length hp2
     rw [List.length_append, num8_len] at this
     have hq1 : 0 < q.length := List.length_pos_iff.2 hq
     omega
    have h9 := nextsR_cut (L := L) p 8 (a + 1) w hpl hd2
    generalize nextsR L 8 ⟨a + 1, w, 0⟩ = z at h9 ⊢
    exact h9
  · rw [if_neg (by decide), if_pos rfl] at hp2
    rw [if_neg kb21, if_pos kb2] at hI
    rw [hI]
    simp only
    rcases split_app hp2 with ⟨q', h1, h2⟩ | ⟨p', h1, h2⟩
    · have h3 := countR_cut (w := w) (show s.length ≤ 2147483647 by omega) hd2 h1 h2
      have h4 : (countR L ⟨a + 1, w, 0⟩).2.e ≠ 0 := by rw [h3]; exact (show (10 : Int) ≠ 0 by decide)
      rw [text_err h4]
      exact h3
    · subst h1
      have h3 := countR_ok (w := w) (show s.length ≤ 2147483647 by omega) hd2
      rw [h3]
      have hl : (countB s.length ++ p').length = L.length - (a + 1) := by rw [← hd2, List.length_drop]
      have hl2 := congrArg List.length h2
      rw [List.length_append] at hl hl2
      have hq1 : 0 < q.length := List.length_pos_iff.2 hq
      have hal := (get_drop hd).2.2
      unfold textR
      rw [if_pos rfl]
      simp only
      rw [if_pos (by omega)]
  · rw [if_neg (by decide), if_neg (by decide)] at hp2
    rw [if_neg kb31, if_neg kb32, if_pos kb3] at hI
    rw [hI]
    simp only
    rcases split_app hp2 with ⟨q', h1, h2⟩ | ⟨p', h1, h2⟩
    · have h3 := countR_cut (w := w + 1) (show l.length ≤ 2147483647 by omega) hd2 h1 h2
      have h4 : (countR L ⟨a + 1, w + 1, 0⟩).2.e ≠ 0 := by rw [h3]; exact (show (10 : Int) ≠ 0 by decide)
      rw [items_err h4]
      exact h3
    · subst h1
      have h3 := countR_ok (w := w + 1) (show l.length ≤ 2147483647 by omega) hd2
      rw [h3]
      simp only
      exact items_cut (f := itemR L g) (w := w + 1) l _ p' q (fun x hx a r hd => item_ok x (It.oks_mem hok2.2 hx) (It.fits_iff.1 hfit.2.2 x hx) (by have := It.bulk_mem hx; omega) g L a (w + 1) r (by have := It.deeps_mem hx; omega) (by omega) hd)
        (fun x hx a p q hd hp hq => ih x hx (It.oks_mem hok2.2 hx) (It.fits_iff.1 hfit.2.2 x hx) (by have := It.bulk_mem hx; omega) g L a (w + 1) p q (by have := It.deeps_mem hx; omega) (by omega) hd hp hq) (by rw [← List.drop_drop, hd2, List.drop_left]) h2 hq
end Go.Proofs.Ytbaohngnpgappaa
namespace Go.Proofs.Ytbaohngnpgappaa
open Go.RowKit
theorem next_back {L : List UInt8} {s : RS} (h : (nextR L s).2.e = 0) (ha : s.at_ ≤ L.length) : L.drop s.at_ = (nextR L s).1 :: L.drop (nextR L s).2.at_ ∧ (nextR L s).2.at_ = s.at_ + 1 ∧ (nextR L s).2.win = s.win ∧ s.at_ < L.length := by
  have h0 := nextR_e h
  rcases Nat.lt_or_ge s.at_ L.length with hl | hl
  · rw [nextR_on h0 (List.getElem?_eq_getElem hl)]
    exact ⟨List.drop_eq_getElem_cons hl, rfl, rfl, hl⟩
  · rw [nextR_end h0 hl] at h
    exact absurd h (show ¬ (10 : Int) = 0 by decide)
theorem cntR_back {L : List UInt8} : ∀ (f : Nat) (first : Bool) (n : Nat) (s : RS), (cntR L f first n s).2.e = 0 → s.at_ ≤ L.length → L.length + 1 ≤ f + s.at_ →
    ∃ (h : List UInt8) (x : UInt8), L.drop s.at_ = h ++ x :: L.drop (cntR L f first n s).2.at_ ∧ (∀ c ∈ h, 128 ≤ c.toNat) ∧ x.toNat < 128 ∧ (first = true → ∀ c q, h = c :: q → c.toNat ≠ 128) ∧ (cntR L f first n s).1 = cfold n (h ++ [x]) ∧ cfold n (h ++ [x]) ≤ 2147483647 ∧ (cntR L f first n s).2.at_ = s.at_ + h.length + 1 := by
  intro f
  induction f with
  | zero => intro first n s _ ha hf; omega
  | succ f ih =>
    intro first n s he ha hf
    rw [cntR] at he ⊢
    split at he
    · rename_i h0; exact absurd he h0
    · rename_i h0
      rw [if_neg h0]
      have h0 : (nextR L s).2.e = 0 := Classical.not_not.1 h0
      obtain ⟨n1, n2, n3, n4⟩ := next_back h0 ha
      split at he
      · exact absurd he (show ¬ (11 : Int) = 0 by decide)
      · rename_i h1
        rw [if_neg h1]
        split at he
        · rename_i h2
          rw [if_pos h2]
          refine ⟨[], (nextR L s).1, n1, by simp, h2, by simp, rfl, ?_, by rw [n2]; rfl⟩
          show n * 128 + (nextR L s).1.toNat % 128 ≤ 2147483647
          omega
        · rename_i h2
          rw [if_neg h2]
          obtain ⟨h, x, e1, e2, e3, _, e5, e6, e7⟩ := ih false _ (nextR L s).2 he (by rw [n2]; omega) (by rw [n2]; omega)
          refine ⟨(nextR L s).1 :: h, x, by rw [n1, e1]; rfl, ?_, e3, ?_, by rw [e5]; rfl, e6, by rw [e7, n2, List.length_cons]; omega⟩
          · intro c hc
            rcases List.mem_cons.1 hc with rfl | hc
            · omega
            · exact e2 c hc
          · intro hf1 c q hcq
            rw [← (List.cons.inj hcq).1]
            intro h128
            exact h1 (.inl ⟨hf1, h128⟩)
theorem hiB_canon : ∀ (m : Nat) (h : List UInt8), h.length = m → (∀ c ∈ h, 128 ≤ c.toNat) → (∀ c q, h = c :: q → c.toNat ≠ 128) → hiB (cval h) = h ∧ (h ≠ [] → 0 < cval h) := by
  intro m
  induction m with
  | zero =>
    intro h hl _ _
    have := List.eq_nil_of_length_eq_zero hl
    subst this
    exact ⟨hiB_zero, fun h => absurd rfl h⟩
  | succ m ih =>
    intro h0 hl h1 h2
    have hne : h0 ≠ [] := fun h => by rw [h] at hl; simp at hl
    obtain ⟨h, c, rfl⟩ : ∃ q0 x, h0 = q0 ++ [x] := ⟨_, _, (List.dropLast_concat_getLast hne).symm⟩
    have hc := h1 c (by simp)
    have hcl := c.toNat_lt
    obtain ⟨e1, e2⟩ := ih h (by simp at hl; exact hl) (fun y hy => h1 y (List.mem_append_left _ hy)) (fun y q hy => h2 y (q ++ [c]) (by rw [hy]; rfl))
    have hv : cval (h ++ [c]) = cval h * 128 + c.toNat % 128 := by
      unfold cval
      rw [List.foldl_append]; rfl
    have hp : 0 < cval (h ++ [c]) := by
      rw [hv]
      rcases h with _ | ⟨y, q⟩
      · have := h2 c [] rfl
        omega
      · have := e2 (by simp)
        omega
    refine ⟨?_, fun _ => hp⟩
    rw [hiB_pos hp, hv, show (cval h * 128 + c.toNat % 128) / 128 = cval h from by omega, e1, show (cval h * 128 + c.toNat % 128) % 128 + 128 = c.toNat from by omega, UInt8.ofNat_toNat]
theorem countR_back {L : List UInt8} {s : RS} (he : (countR L s).2.e = 0) (ha : s.at_ ≤ L.length) : L.drop s.at_ = countB (countR L s).1 ++ L.drop (countR L s).2.at_ ∧ (countR L s).2.at_ = s.at_ + (countB (countR L s).1).length ∧ (countR L s).1 ≤ 2147483647 := by
  obtain ⟨h, x, e1, e2, e3, e4, e5, e6, e7⟩ := cntR_back (L.length + 1) true 0 s he ha (by omega)
  have hx : countB (countR L s).1 = h ++ [x] := by
    have hc := (hiB_canon h.length h rfl e2 (e4 rfl)).1
    have hv : (countR L s).1 = cval h * 128 + x.toNat % 128 := by
      show (cntR L (L.length + 1) true 0 s).1 = _
      rw [e5]
      unfold cfold cval
      rw [List.foldl_append]; rfl
    rw [hv, countB, show (cval h * 128 + x.toNat % 128) / 128 = cval h from by omega, hc, show (cval h * 128 + x.toNat % 128) % 128 = x.toNat from by omega, UInt8.ofNat_toNat]
  rw [hx]
  refine ⟨by rw [e1, List.append_assoc]; rfl, ?_, ?_⟩
  · show (cntR L (L.length + 1) true 0 s).2.at_ = _
    rw [e7, List.length_append]; simp; omega
  · show (cntR L (L.length + 1) true 0 s).1 ≤ _
    rw [e5]; exact e6
theorem nextsR_back {L : List UInt8} : ∀ (k : Nat) (s : RS), (nextsR L k s).2.e = 0 → s.at_ ≤ L.length → (nextsR L k s).1.length = k ∧ L.drop s.at_ = (nextsR L k s).1 ++ L.drop (nextsR L k s).2.at_ ∧ (nextsR L k s).2.at_ = s.at_ + k := by
  intro k
  induction k with
  | zero => intro s _ _; exact ⟨rfl, rfl, rfl⟩
  | succ k ih =>
    intro s he ha
    rw [nextsR] at he ⊢
    simp only at he ⊢
    have h0 : (nextR L s).2.e = 0 := by
      by_cases h : (nextR L s).2.e = 0
      · exact h
      · rw [nextsR_err L k _ h] at he; exact he
    obtain ⟨n1, n2, n3, n4⟩ := next_back h0 ha
    obtain ⟨e1, e2, e3⟩ := ih (nextR L s).2 he (by rw [n2]; omega)
    exact ⟨by rw [List.length_cons, e1], by rw [n1, e2]; rfl, by rw [e3, n2]; omega⟩
theorem textR_back {L : List UInt8} {n : Nat} {s : RS} (he : (textR L n s).2.e = 0) : (textR L n s).1.length = n ∧ L.drop s.at_ = (textR L n s).1 ++ L.drop (textR L n s).2.at_ ∧ (textR L n s).2.at_ = s.at_ + n := by
  unfold textR at he ⊢
  by_cases h0 : s.e = 0
  · rw [if_pos h0] at he ⊢
    by_cases h1 : L.length < n + s.at_
    · rw [if_pos h1] at he
      exact absurd he (show ¬ (10 : Int) = 0 by decide)
    · rw [if_neg h1]
      simp only
      refine ⟨by rw [List.length_take, List.length_drop]; omega, ?_, trivial⟩
      rw [← List.drop_drop, List.take_append_drop]
  · rw [if_neg h0] at he
    exact absurd he h0
theorem num8_of {l : List UInt8} (hl : l.length = 8) : num8 (IntKind.i64.wrap (rdn l : Int)) = l := by
  rcases l with _ | ⟨b0, _ | ⟨b1, _ | ⟨b2, _ | ⟨b3, _ | ⟨b4, _ | ⟨b5, _ | ⟨b6, _ | ⟨b7, _ | ⟨b8, r⟩⟩⟩⟩⟩⟩⟩⟩⟩ <;> simp at hl
  have h0 := b0.toNat_lt
  have h1 := b1.toNat_lt
  have h2 := b2.toNat_lt
  have h3 := b3.toNat_lt
  have h4 := b4.toNat_lt
  have h5 := b5.toNat_lt
  have h6 := b6.toNat_lt
  have h7 := b7.toNat_lt
  have hv : (rdn [b0, b1, b2, b3, b4, b5, b6, b7] : Int) = (((((((b0.toNat : Int) * 256 + b1.toNat) * 256 + b2.toNat) * 256 + b3.toNat) * 256 + b4.toNat) * 256 + b5.toNat) * 256 + b6.toNat) * 256 + b7.toNat := by simp [rdn]
  have hn : ∃ n : Int, n = IntKind.i64.wrap (rdn [b0, b1, b2, b3, b4, b5, b6, b7] : Int) := ⟨_, rfl⟩
  obtain ⟨n, hn⟩ := hn
  rw [← hn]
  rw [hv, IntKind.wrap_i64] at hn
  show [byteOf (n / 2 ^ (56 - 8 * 0)), byteOf (n / 2 ^ (56 - 8 * 1)), byteOf (n / 2 ^ (56 - 8 * 2)), byteOf (n / 2 ^ (56 - 8 * 3)), byteOf (n / 2 ^ (56 - 8 * 4)), byteOf (n / 2 ^ (56 - 8 * 5)), byteOf (n / 2 ^ (56 - 8 * 6)), byteOf (n / 2 ^ (56 - 8 * 7))] = _
  simp only [Nat.mul_zero, Nat.sub_zero, Nat.reduceMul, Nat.reduceSub, Int.reducePow]
  rw [byteOf_is _ b0 (by omega), byteOf_is _ b1 (by omega), byteOf_is _ b2 (by omega), byteOf_is _ b3 (by omega), byteOf_is _ b4 (by omega), byteOf_is _ b5 (by omega), byteOf_is _ b6 (by omega), byteOf_is _ b7 (by omega)]
theorem i64_wrap (z : Int) : I64 (IntKind.i64.wrap z) := by
  rw [IntKind.wrap_i64]
  unfold I64
  omega
theorem items_back {L : List UInt8} {f : RS → It × RS} {w : Nat} {D : Nat} (hk : ∀ s, Kept L s (f s).2)
    (hf : ∀ s : RS, (f s).2.e = 0 → s.e = 0 → s.at_ ≤ L.length → s.win = w → (f s).1.ok = true ∧ (f s).1.fit ∧ (f s).1.deep ≤ D ∧ L.drop s.at_ = (f s).1.enc ++ L.drop (f s).2.at_ ∧ (f s).2.at_ = s.at_ + (f s).1.enc.length) :
    ∀ (n : Nat) (s : RS), (itemsR f n s).2.e = 0 → s.e = 0 → s.at_ ≤ L.length → s.win = w → (itemsR f n s).1.length = n ∧ It.oks (itemsR f n s).1 = true ∧ It.fits (itemsR f n s).1 ∧ It.deeps (itemsR f n s).1 ≤ D ∧ L.drop s.at_ = It.encs (itemsR f n s).1 ++ L.drop (itemsR f n s).2.at_ ∧ (itemsR f n s).2.at_ = s.at_ + (It.encs (itemsR f n s).1).length := by
  intro n
  induction n with
  | zero => intro s _ _ _ _; exact ⟨rfl, rfl, trivial, Nat.zero_le _, rfl, rfl⟩
  | succ n ih =>
    intro s he h0 ha hw
    rw [itemsR, if_pos h0] at he ⊢
    simp only at he ⊢
    have hfe : (f s).2.e = 0 := by
      by_cases h : (f s).2.e = 0
      · exact h
      · rw [items_err h] at he; exact he
    obtain ⟨e1, e2, e3, e4, e5⟩ := hf s hfe h0 ha hw
    obtain ⟨g1, g2, g3, g4, g5, g6⟩ := ih (f s).2 he hfe ((hk s).at2 ha) ((hk s).win.trans hw)
    refine ⟨by rw [List.length_cons, g1], by rw [It.oks, e1, g2]; rfl, ⟨e2, g3⟩, by rw [It.deeps]; omega, ?_, ?_⟩
    · rw [It.encs, List.append_assoc, ← g5, ← e4]
    · rw [It.encs, List.length_append, g6, e5, Nat.add_assoc]
/-- What is read is written as these very bytes. -/
theorem item_back {L : List UInt8} : ∀ (d : Nat) (s : RS), (itemR L d s).2.e = 0 → s.e = 0 → s.at_ ≤ L.length → s.win ≤ 40 → 41 ≤ d + s.win →
    (itemR L d s).1.ok = true ∧ (itemR L d s).1.fit ∧ (itemR L d s).1.deep ≤ 40 - s.win ∧ L.drop s.at_ = (itemR L d s).1.enc ++ L.drop (itemR L d s).2.at_ ∧ (itemR L d s).2.at_ = s.at_ + (itemR L d s).1.enc.length ∧ s.win < 40 := by
  intro d
  induction d with
  | zero => intro s _ _ _ hw hd; omega
  | succ d ih =>
    intro s he h0 ha hw hd
    obtain ⟨at_, win, e⟩ := s
    simp only at h0 ha hw hd
    subst h0
    have hne : (itemR L (d + 1) ⟨at_, win, 0⟩).2.e = 0 := he
    have hs : startR L ⟨at_, win, 0⟩ = ⟨at_, win, 0⟩ ∧ at_ < L.length := by
      unfold startR
      rcases Nat.lt_or_ge at_ L.length with hl | hl
      · refine ⟨?_, hl⟩
        by_cases h40 : win = 40
        · exfalso
          rw [itemR] at hne
          have h3 : startR L ⟨at_, win, 0⟩ = ⟨at_, win, 3⟩ := by unfold startR; rw [if_pos ⟨hl, h40, rfl⟩]
          rw [h3, nextR_off (show (3 : Int) ≠ 0 by decide)] at hne
          simp only at hne
          rw [if_pos (show (3 : Int) ≠ 0 by decide)] at hne
          exact absurd hne (show ¬ (3 : Int) = 0 by decide)
        · rw [if_neg (fun h => h40 h.2.1)]
      · exfalso
        rw [itemR] at hne
        have h3 : startR L ⟨at_, win, 0⟩ = ⟨at_, win, 0⟩ := by unfold startR; rw [if_neg (fun h => by have := h.1; simp only at this; omega)]
        rw [h3, nextR_end (s := ⟨at_, win, 0⟩) rfl hl] at hne
        simp only at hne
        rw [if_pos (show (10 : Int) ≠ 0 by decide)] at hne
        exact absurd hne (show ¬ (10 : Int) = 0 by decide)
    have hl := hs.2
    have h40 : win ≠ 40 := by
      intro h40
      rw [itemR] at hne
      have h3 : startR L ⟨at_, win, 0⟩ = ⟨at_, win, 3⟩ := by unfold startR; rw [if_pos ⟨hl, h40, rfl⟩]
      rw [h3] at hs
      have := congrArg RS.e hs.1
      exact absurd this (show ¬ (3 : Int) = 0 by decide)
    have hdc := List.drop_eq_getElem_cons hl
    obtain ⟨c, hc⟩ : ∃ c, c = L[at_] := ⟨_, rfl⟩
    rw [← hc] at hdc
    have hI := itemR_at (d := d) h40 hdc
    have hcl := c.toNat_lt
    have hbk : ∀ k : Nat, c.toNat = k → c = byteOf (k : Int) := fun k hk => (byteOf_is _ _ (by omega)).symm
    by_cases h1 : c.toNat = 1
    · rw [if_pos h1] at hI
      rw [hI] at he ⊢
      simp only at he ⊢
      obtain ⟨e1, e2, e3⟩ := nextsR_back 8 ⟨at_ + 1, win, 0⟩ he (by show at_ + 1 ≤ L.length; omega)
      generalize nextsR L 8 ⟨at_ + 1, win, 0⟩ = z at *
      have henc : (It.mk 1 (IntKind.i64.wrap (rdn z.1 : Int)) [] []).enc = c :: z.1 := by rw [It.enc, if_pos rfl, num8_of e1, hbk 1 h1]; rfl
      refine ⟨by simp [It.ok, It.oks, headOk], ⟨by unfold I64; omega, i64_wrap _, trivial⟩, by rw [It.deep, It.deeps]; omega, ?_, ?_, by omega⟩
      · rw [henc, hdc, List.cons_append]; exact congrArg _ e2
      · rw [henc, List.length_cons, e1, e3]
    · rw [if_neg h1] at hI
      by_cases h2 : c.toNat = 2
      · rw [if_pos h2] at hI
        rw [hI] at he ⊢
        simp only at he ⊢
        have hce : (countR L ⟨at_ + 1, win, 0⟩).2.e = 0 := by
          by_cases h : (countR L ⟨at_ + 1, win, 0⟩).2.e = 0
          · exact h
          · rw [text_err h] at he; exact he
        obtain ⟨e1, e2, e3⟩ := countR_back hce (by show at_ + 1 ≤ L.length; omega)
        generalize countR L ⟨at_ + 1, win, 0⟩ = y at *
        obtain ⟨f1, f2, f3⟩ := textR_back he
        generalize textR L y.1 y.2 = z at *
        have henc : (It.mk 2 0 z.1 []).enc = c :: (countB y.1 ++ z.1) := by rw [It.enc, if_neg (by decide), if_pos rfl, f1, hbk 2 h2]; rfl
        refine ⟨by simp [It.ok, It.oks, headOk], ⟨by unfold I64; omega, by unfold I64; omega, trivial⟩, by rw [It.deep, It.deeps]; omega, ?_, ?_, by omega⟩
        · rw [henc, hdc, List.cons_append, List.append_assoc, ← f2]; exact congrArg _ e1
        · rw [henc, List.length_cons, List.length_append, f1, f3, e2]; show at_ + 1 + _ + _ = _; omega
      · rw [if_neg h2] at hI
        by_cases h3 : c.toNat = 3
        · rw [if_pos h3] at hI
          rw [hI] at he ⊢
          simp only at he ⊢
          have hce : (countR L ⟨at_ + 1, win + 1, 0⟩).2.e = 0 := by
            by_cases h : (countR L ⟨at_ + 1, win + 1, 0⟩).2.e = 0
            · exact h
            · rw [items_err h] at he; exact he
          obtain ⟨e1, e2, e3⟩ := countR_back hce (by show at_ + 1 ≤ L.length; omega)
          have hkc := countR_kept L ⟨at_ + 1, win + 1, 0⟩
          generalize countR L ⟨at_ + 1, win + 1, 0⟩ = y at *
          obtain ⟨f1, f2, f3, f4, f5, f6⟩ := items_back (f := itemR L d) (w := win + 1) (D := 40 - (win + 1)) (itemR_kept L d) (fun s a1 a2 a3 a4 => by
            obtain ⟨b1, b2, b3, b4, b5, b6⟩ := ih s a1 a2 a3 (by omega) (by omega)
            exact ⟨b1, b2, by rw [a4] at b3; exact b3, b4, b5⟩) y.1 y.2 he hce (hkc.at2 (by show at_ + 1 ≤ L.length; omega)) hkc.win
          generalize itemsR (itemR L d) y.1 y.2 = z at *
          have henc : (It.mk 3 0 [] z.1).enc = c :: (countB y.1 ++ It.encs z.1) := by rw [It.enc, if_neg (by decide), if_neg (by decide), f1, hbk 3 h3]; rfl
          refine ⟨by rw [It.ok, f2]; simp [headOk], ⟨by unfold I64; omega, by unfold I64; omega, f3⟩, by rw [It.deep]; omega, ?_, ?_, by omega⟩
          · rw [henc, hdc, List.cons_append, List.append_assoc, ← f5]; exact congrArg _ e1
          · rw [henc, List.length_cons, List.length_append, f6, e2]; show at_ + 1 + _ + _ = _; omega
        · rw [if_neg h3] at hI
          rw [hI] at he
          exact absurd he (show ¬ (11 : Int) = 0 by decide)
theorem It.size_enc : ∀ x : It, x.ok = true → x.size ≤ x.enc.length := by
  refine It.ind fun k n s l ih hok => ?_
  have hok2 := hok
  rw [It.ok, Bool.and_eq_true] at hok2
  have h1 : It.sizes l ≤ (It.encs l).length := by
    have hol := hok2.2
    clear hok hok2
    induction l with
    | nil => exact Nat.le_refl _
    | cons x r ih2 =>
      rw [It.oks, Bool.and_eq_true] at hol
      rw [It.sizes, It.encs, List.length_append]
      have h3 := ih x List.mem_cons_self hol.1
      have h4 := ih2 (fun y hy => ih y (List.mem_cons_of_mem _ hy)) hol.2
      omega
  rw [It.size, It.enc, List.length_cons]
  rcases kind_of hok with ⟨rfl, rfl, rfl⟩ | ⟨rfl, rfl, rfl⟩ | ⟨rfl, rfl, rfl⟩
  · simp only [It.sizes]; omega
  · simp only [It.sizes]; omega
  · rw [if_neg (by decide), if_neg (by decide), List.length_append]; omega
theorem It.texts_enc : ∀ x : It, x.ok = true → x.enc.length < 34359738368 → x.texts := by
  refine It.ind fun k n s l ih hok hlen => ?_
  have hok2 := hok
  rw [It.ok, Bool.and_eq_true] at hok2
  rw [It.enc, List.length_cons] at hlen
  rw [It.texts]
  have key : (It.encs l).length < 34359738368 → It.textss l := by
    have hol := hok2.2
    clear hok hok2 hlen
    induction l with
    | nil => intro _; trivial
    | cons x r ih2 =>
      intro h
      rw [It.oks, Bool.and_eq_true] at hol
      rw [It.encs, List.length_append] at h
      exact ⟨ih x List.mem_cons_self hol.1 (by omega), ih2 (fun y hy => ih y (List.mem_cons_of_mem _ hy)) hol.2 (by omega)⟩
  rcases kind_of hok with ⟨rfl, rfl, rfl⟩ | ⟨rfl, rfl, rfl⟩ | ⟨rfl, rfl, rfl⟩
  · exact ⟨by simp, trivial⟩
  · rw [if_neg (by decide), if_pos rfl, List.length_append] at hlen
    exact ⟨by omega, trivial⟩
  · rw [if_neg (by decide), if_neg (by decide), List.length_append] at hlen
    exact ⟨by simp, key (by omega)⟩
end Go.Proofs.Ytbaohngnpgappaa
namespace Go.Proofs.Ytbaohngnpgappaa
open Go.RowKit
def rdBlk (A : Option Addr) (n c : Nat) (s : RS) : Obj := .cells #[.slice A n c, .int .i64 s.at_, .int .i64 s.win, .int .i64 s.e] 124 (0, 0)
/-- A reader in memory. -/
def RdIs (w : World) (bp : Nat) (A : Option Addr) (n c : Nat) (s : RS) : Prop := w.heap[bp]? = some (rdBlk A n c s)
def NextPost (w : World) (bp : Nat) (A : Option Addr) (n c : Nat) (x : UInt8) (s : RS) (e : Ending) (w' : World) : Prop :=
  e = .returned (.int .u8 (x.toNat : Int)) ∧ RdIs w' bp A n c s ∧ Fr (fun k => k = bp) w w'
theorem rd_cells {w : World} {bp n c : Nat} {A : Option Addr} {s : RS} (h : RdIs w bp A n c s) : w.cell? ⟨bp, 0, none⟩ = some (.slice A n c) ∧ w.cell? ⟨bp, 1, none⟩ = some (.int .i64 s.at_) ∧ w.cell? ⟨bp, 2, none⟩ = some (.int .i64 s.win) ∧ w.cell? ⟨bp, 3, none⟩ = some (.int .i64 s.e) :=
  ⟨blk_cell h 0, blk_cell h 1, blk_cell h 2, blk_cell h 3⟩
theorem rd_free {w : World} {bp n c : Nat} {A : Option Addr} {s : RS} (h : RdIs w bp A n c s) (i : Nat) : w.frozen? ⟨bp, i, none⟩ = false := blk_free h i
theorem rd_at {w : World} {bp n c : Nat} {A : Option Addr} {s : RS} (h : RdIs w bp A n c s) (a : Nat) : RdIs (w.setCell ⟨bp, 1, none⟩ (.int .i64 a)) bp A n c { s with at_ := a } := blk_set h 1 _
theorem rd_win {w : World} {bp n c : Nat} {A : Option Addr} {s : RS} (h : RdIs w bp A n c s) (a : Nat) : RdIs (w.setCell ⟨bp, 2, none⟩ (.int .i64 a)) bp A n c { s with win := a } := blk_set h 2 _
theorem rd_e {w : World} {bp n c : Nat} {A : Option Addr} {s : RS} (h : RdIs w bp A n c s) (e : Int) : RdIs (w.setCell ⟨bp, 3, none⟩ (.int .i64 e)) bp A n c { s with e := e } := blk_set h 3 _
theorem Fr.one {w : World} {bp : Nat} (i : Nat) (u : Value) : Fr (fun k => k = bp) w (w.setCell ⟨bp, i, none⟩ u) := (Fr.refl _ w).setCell _ _ (fun _ => rfl)
set_option maxRecDepth 100000 in
set_option maxHeartbeats 1000000 in
theorem next_any {w : World} {F : Nat → Prop} {bp c : Nat} {A : Option Addr} {L : List UInt8} {s : RS} (hr : Rb w F (.slice A L.length c) L) (hF : ∀ k, F k → ¬ k = bp) (hs : RdIs w bp A L.length c s) (ha : s.at_ ≤ L.length) (hl : L.length ≤ 1099511627776) :
    Calls Try.prog 106 #[.pointer (some ⟨bp, 0, none⟩)] w (NextPost w bp A L.length c (nextR L s).1 (nextR L s).2) := by
  obtain ⟨a, wi, E⟩ := s
  obtain ⟨N, hN⟩ : ∃ N, N = L.length := ⟨_, rfl⟩
  have HN := Lib.hid hN
  rw [← hN] at hr hs hl ⊢
  have ha' : a ≤ N := by rw [hN]; exact ha
  obtain ⟨X, hX⟩ : ∃ X, Hid (X = nextR L ⟨a, wi, E⟩) := ⟨_, show _ = _ from rfl⟩
  rw [← hX.out]
  have H := Lib.hid hr
  have HF := Lib.hid hF
  have HS0 := Lib.hid hs
  obtain ⟨d0, d1, d2, d3⟩ := rd_cells hs
  simp only at d1 d2 d3
  have f1 := rd_free hs 1
  have f3 := rd_free hs 3
  clear hr hF hs ha hN
  by_cases hE : E = 0
  · subst hE
    by_cases hlt : a < N
    · obtain ⟨x, hx⟩ : ∃ x, Hid (L[a]? = some x) := ⟨_, show _ = _ from List.getElem?_eq_getElem (by rw [← HN.out]; exact hlt)⟩
      have hXe : Hid (X = (x, ⟨a + 1, wi, 0⟩)) := (show _ = _ from by rw [hX.out]; exact nextR_on (s := ⟨a, wi, 0⟩) rfl hx.out)
      obtain ⟨bk, o, he, q0, hb, hxc⟩ := byte_at H.out hx.out
      subst he
      have hbp := HF.out bk hb
      clear q0
      have hne : ¬ ((a : Int) = (N : Int)) := by omega
      have hb1 : Hid (((a : Int) == (N : Int)) = false) := (show _ = _ from by simp; omega)
      go_enter Try.func106, Try.ntmps106
      go_wp2_with fail
      refine wp_seq_region (fun W => W.cell? ⟨bp, 0, none⟩ = some (.slice (some ⟨bk, o, none⟩) N c) ∧ W.cell? ⟨bp, 1, none⟩ = some (.int .i64 a) ∧ W.cell? ⟨bp, 3, none⟩ = some (.int .i64 0)) [] [3, 9, 13] [] [0, 1, 2, 3, 4, 5, 6, 7, 8, 9, 10, 11, 12, 13, 14, 15, 16] (by kernel_rfl) (by kernel_rfl) rfl (by kernel_rfl) (fun _ _ _ _ _ h => h) ?_
      have HS : Hid (w.drew.cell? ⟨bp, 0, none⟩ = some (.slice (some ⟨bk, o, none⟩) N c) ∧ w.drew.cell? ⟨bp, 1, none⟩ = some (.int .i64 a) ∧ w.drew.cell? ⟨bp, 3, none⟩ = some (.int .i64 0)) := (show _ ∧ _ from ⟨d0, d1, d3⟩)
      repeat (first
        | (refine sq_off (a' := ?_) rfl rfl (by rfl) (fun _ => (HS).out) ?ha ?_; (case ha => simp only [Act.put, List.setIfInBounds_toArray, List.set_cons_zero, List.set_cons_succ]; rfl))
        | (refine sq_any (v := ?_) (a' := ?_) rfl rfl rfl (by rfl) (fun W => ?hr) ?ha ?_; (case hr => go_simp; first | done | (simp only [(hb1).out]; done) | (simp only [(hb1).out]; rfl) | rfl); (case ha => simp only [Act.put, List.setIfInBounds_toArray, List.set_cons_zero, List.set_cons_succ]; rfl))
        | (refine sq_load (v := ?_) (a' := ?_) rfl rfl rfl (by rfl) (fun W hSW => ?hr) (HS).out ?ha ?_; (case hr => (try dsimp only at hSW); go_simp; first | done | rfl); (case ha => simp only [Act.put, List.setIfInBounds_toArray, List.set_cons_zero, List.set_cons_succ]; rfl)))
      refine sq_done ?_
      obtain ⟨wd, hwd⟩ : ∃ wd, Hid (wd = w.drew) := ⟨_, show _ = _ from rfl⟩
      have hsd : RdIs wd bp (some ⟨bk, o, none⟩) N c ⟨a, wi, 0⟩ := by rw [hwd.out]; exact HS0.out
      have hfd : Fr No w wd := by rw [hwd.out]; exact (Fr.refl _ _).drew
      have hxd : wd.cell? ⟨bk, o + a, none⟩ = some (.int .u8 (x.toNat : Int)) := hfd.cell hxc (fun h => h)
      rw [← hwd.out]
      obtain ⟨e0, e1, e2, e3⟩ := rd_cells hsd
      simp only at e1 e2 e3
      have f1 := rd_free hsd 1
      have hX1 := rd_at hsd (a + 1)
      have HX1 := Lib.hid hX1
      have HFD := Lib.hid hfd
      clear d0 d1 d2 d3 hxc hX1 hsd hfd
      go_wp2_with fail
      obtain ⟨w2, hw2⟩ : ∃ w2, Hid (w2 = wd.setCell ⟨bp, 1, none⟩ (.int .i64 ((a : Int) + 1))) := ⟨_, show _ = _ from rfl⟩
      rw [← hw2.out]
      have hX2 : RdIs w2 bp (some ⟨bk, o, none⟩) N c ⟨a + 1, wi, 0⟩ := by rw [hw2.out]; exact HX1.out
      have hf2 : Fr (fun k => k = bp) wd w2 := by rw [hw2.out]; exact Fr.one _ _
      have hx2 : w2.cell? ⟨bk, o + a, none⟩ = some (.int .u8 (x.toNat : Int)) := hf2.cell hxd hbp
      have HF2 : Hid (Fr (fun k => k = bp) w w2) := (show Fr _ w w2 from (HFD.out.mono (fun _ _ h => h.elim)).then hf2)
      obtain ⟨g0, g1, _, _⟩ := rd_cells hX2
      have HX2 := Lib.hid hX2
      clear e0 e1 e2 e3 f1 f3 hxd hX2 hf2 HX1
      refine wp_seq_region (fun W => W.cell? ⟨bp, 0, none⟩ = some (.slice (some ⟨bk, o, none⟩) N c) ∧ W.cell? ⟨bp, 1, none⟩ = some (.int .i64 ((a : Int) + 1)) ∧ W.cell? ⟨bk, o + a, none⟩ = some (.int .u8 (x.toNat : Int))) [] [3, 7, 10] [] [0, 1, 2, 3, 4, 5, 6, 7, 8, 9, 10, 11] (by kernel_rfl) (by kernel_rfl) rfl (by kernel_rfl) (fun _ _ _ _ _ h => h) ?_
      have HS2 : Hid (w2.drew.cell? ⟨bp, 0, none⟩ = some (.slice (some ⟨bk, o, none⟩) N c) ∧ w2.drew.cell? ⟨bp, 1, none⟩ = some (.int .i64 ((a : Int) + 1)) ∧ w2.drew.cell? ⟨bk, o + a, none⟩ = some (.int .u8 (x.toNat : Int))) := (show _ ∧ _ from ⟨g0, by rw [show ((a : Int) + 1) = ((a + 1 : Nat) : Int) from by omega]; exact g1, hx2⟩)
      clear g0 g1 hx2 HS
      have haN : (a : Int) < (N : Int) := by omega
      have haw : Hid (IntKind.i64.wrap (a : Int) = (a : Int)) := (show _ = _ from by rw [IntKind.wrap_i64]; omega)
      repeat (first
        | (refine sq_off (a' := ?_) rfl rfl (by rfl) (fun _ => (HS2).out) ?ha ?_; (case ha => simp only [Act.put, List.setIfInBounds_toArray, List.set_cons_zero, List.set_cons_succ]; rfl))
        | (refine sq_any (v := ?_) (a' := ?_) rfl rfl rfl (by rfl) (fun W => ?hr) ?ha ?_; (case hr => go_simp; first | done | rfl); (case ha => simp only [Act.put, List.setIfInBounds_toArray, List.set_cons_zero, List.set_cons_succ]; rfl))
        | (refine sq_load (v := ?_) (a' := ?_) rfl rfl rfl (by rfl) (fun W hSW => ?hr) (HS2).out ?ha ?_; (case hr => (try dsimp only at hSW); go_simp; first | done | rfl); (case ha => simp only [Act.put, List.setIfInBounds_toArray, List.set_cons_zero, List.set_cons_succ]; rfl)))
      refine sq_any (v := .pointer (some ⟨bk, o + a, none⟩)) (a' := ?_) rfl rfl rfl (by rfl) (fun W => ?hr) ?ha ?_
      case hr => go_simp; rw [haw.out, if_pos ⟨by omega, haN⟩, Int.toNat_natCast]
      case ha => simp only [Act.put, List.setIfInBounds_toArray, List.set_cons_zero, List.set_cons_succ]; rfl
      repeat (first
        | (refine sq_off (a' := ?_) rfl rfl (by rfl) (fun _ => (HS2).out) ?ha ?_; (case ha => simp only [Act.put, List.setIfInBounds_toArray, List.set_cons_zero, List.set_cons_succ]; rfl))
        | (refine sq_any (v := ?_) (a' := ?_) rfl rfl rfl (by rfl) (fun W => ?hr) ?ha ?_; (case hr => go_simp; first | done | rfl); (case ha => simp only [Act.put, List.setIfInBounds_toArray, List.set_cons_zero, List.set_cons_succ]; rfl))
        | (refine sq_load (v := ?_) (a' := ?_) rfl rfl rfl (by rfl) (fun W hSW => ?hr) (HS2).out ?ha ?_; (case hr => (try dsimp only at hSW); go_simp; first | done | rfl); (case ha => simp only [Act.put, List.setIfInBounds_toArray, List.set_cons_zero, List.set_cons_succ]; rfl)))
      refine sq_done ?_
      go_wp2_with fail
      go_ret
      rw [hXe.out]
      exact (show NextPost _ _ _ _ _ _ _ _ _ from ⟨rfl, HX2.out, HF2.out.then (Fr.refl _ _).drew⟩)
    · have haN : a = N := by omega
      subst haN
      have hXe : Hid (X = (0, ⟨a, wi, 10⟩)) := (show _ = _ from by rw [hX.out]; exact nextR_end (s := ⟨a, wi, 0⟩) rfl (by rw [← HN.out]; exact Nat.le_refl _))
      have hb1 : Hid (((a : Int) == (a : Int)) = true) := (show _ = _ from by simp)
      clear hlt ha'
      go_enter Try.func106, Try.ntmps106
      go_wp2_with fail
      refine wp_seq_region (fun W => W.cell? ⟨bp, 0, none⟩ = some (.slice A a c) ∧ W.cell? ⟨bp, 1, none⟩ = some (.int .i64 a) ∧ W.cell? ⟨bp, 3, none⟩ = some (.int .i64 0)) [] [3, 9, 13] [] [0, 1, 2, 3, 4, 5, 6, 7, 8, 9, 10, 11, 12, 13, 14, 15, 16] (by kernel_rfl) (by kernel_rfl) rfl (by kernel_rfl) (fun _ _ _ _ _ h => h) ?_
      have HS : Hid (w.drew.cell? ⟨bp, 0, none⟩ = some (.slice A a c) ∧ w.drew.cell? ⟨bp, 1, none⟩ = some (.int .i64 a) ∧ w.drew.cell? ⟨bp, 3, none⟩ = some (.int .i64 0)) := (show _ ∧ _ from ⟨d0, d1, d3⟩)
      repeat (first
        | (refine sq_off (a' := ?_) rfl rfl (by rfl) (fun _ => (HS).out) ?ha ?_; (case ha => simp only [Act.put, List.setIfInBounds_toArray, List.set_cons_zero, List.set_cons_succ]; rfl))
        | (refine sq_any (v := ?_) (a' := ?_) rfl rfl rfl (by rfl) (fun W => ?hr) ?ha ?_; (case hr => go_simp; first | done | (simp only [(hb1).out]; done) | (simp only [(hb1).out]; rfl) | rfl); (case ha => simp only [Act.put, List.setIfInBounds_toArray, List.set_cons_zero, List.set_cons_succ]; rfl))
        | (refine sq_load (v := ?_) (a' := ?_) rfl rfl rfl (by rfl) (fun W hSW => ?hr) (HS).out ?ha ?_; (case hr => (try dsimp only at hSW); go_simp; first | done | rfl); (case ha => simp only [Act.put, List.setIfInBounds_toArray, List.set_cons_zero, List.set_cons_succ]; rfl)))
      refine sq_done ?_
      obtain ⟨wd, hwd⟩ : ∃ wd, Hid (wd = w.drew) := ⟨_, show _ = _ from rfl⟩
      have hsd : RdIs wd bp A a c ⟨a, wi, 0⟩ := by rw [hwd.out]; exact HS0.out
      have hfd : Fr No w wd := by rw [hwd.out]; exact (Fr.refl _ _).drew
      rw [← hwd.out]
      obtain ⟨e0, e1, e2, e3⟩ := rd_cells hsd
      simp only at e1 e2 e3
      have f3 := rd_free hsd 3
      have hX1 := rd_e hsd 10
      have HX1 := Lib.hid hX1
      have HF2 : Hid (Fr (fun k => k = bp) w (wd.setCell ⟨bp, 3, none⟩ (.int .i64 10))) := (show Fr _ w _ from (hfd.mono (fun _ _ h => h.elim)).then (Fr.one _ _))
      clear d0 d1 d2 d3 hX1 hsd hfd f1
      go_wp2_with fail
      go_ret
      rw [hXe.out]
      exact (show NextPost _ _ _ _ _ _ _ _ _ from ⟨rfl, HX1.out, HF2.out⟩)
  · have hXe : Hid (X = (0, ⟨a, wi, E⟩)) := (show _ = _ from by rw [hX.out]; exact nextR_off (s := ⟨a, wi, E⟩) hE)
    have hb1 : Hid ((E == 0) = false) := (show _ = _ from by simpa using hE)
    go_enter Try.func106, Try.ntmps106
    go_wp2_with fail
    refine wp_seq_region (fun W => W.cell? ⟨bp, 0, none⟩ = some (.slice A N c) ∧ W.cell? ⟨bp, 1, none⟩ = some (.int .i64 a) ∧ W.cell? ⟨bp, 3, none⟩ = some (.int .i64 E)) [] [3, 9, 13] [] [0, 1, 2, 3, 4, 5, 6, 7, 8, 9, 10, 11, 12, 13, 14, 15, 16] (by kernel_rfl) (by kernel_rfl) rfl (by kernel_rfl) (fun _ _ _ _ _ h => h) ?_
    have HS : Hid (w.drew.cell? ⟨bp, 0, none⟩ = some (.slice A N c) ∧ w.drew.cell? ⟨bp, 1, none⟩ = some (.int .i64 a) ∧ w.drew.cell? ⟨bp, 3, none⟩ = some (.int .i64 E)) := (show _ ∧ _ from ⟨d0, d1, d3⟩)
    repeat (first
      | (refine sq_off (a' := ?_) rfl rfl (by rfl) (fun _ => (HS).out) ?ha ?_; (case ha => simp only [Act.put, List.setIfInBounds_toArray, List.set_cons_zero, List.set_cons_succ]; rfl))
      | (refine sq_any (v := ?_) (a' := ?_) rfl rfl rfl (by rfl) (fun W => ?hr) ?ha ?_; (case hr => go_simp; first | done | (simp only [(hb1).out]; done) | (simp only [(hb1).out]; rfl) | rfl); (case ha => simp only [Act.put, List.setIfInBounds_toArray, List.set_cons_zero, List.set_cons_succ]; rfl))
      | (refine sq_load (v := ?_) (a' := ?_) rfl rfl rfl (by rfl) (fun W hSW => ?hr) (HS).out ?ha ?_; (case hr => (try dsimp only at hSW); go_simp; first | done | rfl); (case ha => simp only [Act.put, List.setIfInBounds_toArray, List.set_cons_zero, List.set_cons_succ]; rfl)))
    refine sq_done ?_
    obtain ⟨wd, hwd⟩ : ∃ wd, Hid (wd = w.drew) := ⟨_, show _ = _ from rfl⟩
    have hsd : RdIs wd bp A N c ⟨a, wi, E⟩ := by rw [hwd.out]; exact HS0.out
    have hfd : Fr No w wd := by rw [hwd.out]; exact (Fr.refl _ _).drew
    rw [← hwd.out]
    obtain ⟨e0, e1, e2, e3⟩ := rd_cells hsd
    simp only at e1 e2 e3
    have HX1 := Lib.hid hsd
    have HF2 : Hid (Fr (fun k => k = bp) w wd) := (show Fr _ w _ from (hfd.mono (fun _ _ h => h.elim)))
    clear d0 d1 d2 d3 hsd hfd f1 f3
    go_wp2_with fail
    go_ret
    rw [hXe.out]
    exact (show NextPost _ _ _ _ _ _ _ _ _ from ⟨rfl, HX1.out, HF2.out⟩)
end Go.Proofs.Ytbaohngnpgappaa
namespace Go.Proofs.Ytbaohngnpgappaa
open Go.RowKit
theorem and127_8 : ∀ m : Fin 256, bits .and .u8 ((m.val : Nat) : Int) 127 = ((m.val % 128 : Nat) : Int) := by decide +kernel
theorem shl7_or (a b : Nat) (ha : a < 2 ^ 40) (hb : b < 128) : bits .or .i64 ((a : Int) * 128) (b : Int) = ((a * 128 + b : Nat) : Int) := by
  have h := (bits_nat .i64 62 (by decide) (fun n h0 h1 => by rw [IntKind.wrap_i64]; omega) (a * 128) b (by omega) (by omega)).2
  rw [show ((a : Int) * 128) = ((a * 128 : Nat) : Int) from by omega, h]
  congr 1
  have := Nat.two_pow_add_eq_or_of_lt (i := 7) (b := b) (by omega) a
  rw [show a * 128 = 2 ^ 7 * a from by omega]
  exact this.symm
def CountPost (w : World) (bp : Nat) (A : Option Addr) (n c : Nat) (x : Nat) (s : RS) (e : Ending) (w' : World) : Prop :=
  e = .returned (.int .i64 (x : Int)) ∧ RdIs w' bp A n c s ∧ Fr (fun k => k = bp) w w'
/-- Where the reader in a world stands. -/
def atOf (w : World) (bp : Nat) : Nat := match w.cell? ⟨bp, 1, none⟩ with | some v => (intOf v).toNat | none => 0
theorem atOf_is {w : World} {bp n c : Nat} {A : Option Addr} {s : RS} (h : RdIs w bp A n c s) : atOf w bp = s.at_ := by
  unfold atOf
  rw [(rd_cells h).2.1]
  simp [intOf]
theorem next_gone {L : List UInt8} {s : RS} (h : (nextR L s).2.e = 0) (ha : s.at_ ≤ L.length) : (nextR L s).2.at_ = s.at_ + 1 ∧ s.at_ < L.length := by
  obtain ⟨_, h2, _, h4⟩ := next_back h ha
  exact ⟨h2, h4⟩
set_option maxRecDepth 100000 in
set_option maxHeartbeats 2000000 in
theorem rcount_any {w : World} {F : Nat → Prop} {bp c : Nat} {A : Option Addr} {L : List UInt8} {s : RS} (hr : Rb w F (.slice A L.length c) L) (hF : ∀ k, F k → ¬ k = bp) (hs : RdIs w bp A L.length c s) (ha : s.at_ ≤ L.length) (hl : L.length ≤ 1099511627776) :
    Calls Try.prog 107 #[.pointer (some ⟨bp, 0, none⟩)] w (CountPost w bp A L.length c (countR L s).1 (countR L s).2) := by
  obtain ⟨N, hN⟩ : ∃ N, N = L.length := ⟨_, rfl⟩
  have HN := Lib.hid hN
  obtain ⟨X, hX⟩ : ∃ X, Hid (X = countR L s) := ⟨_, show _ = _ from rfl⟩
  rw [← hX.out]
  have H : Hid (Rb w (fun k => F k ∧ k < w.heap.size) (.slice A L.length c) L) := (show Rb _ _ _ _ from hr.bound)
  have HF := Lib.hid hF
  have HL := Lib.hid hl
  have HS0 : Hid (X = cntR L (L.length + 1) true 0 s ∧ RdIs w bp A L.length c s ∧ s.at_ ≤ L.length ∧ L.length + 1 ≤ (L.length + 1) + s.at_) := (show _ ∧ _ from ⟨hX.out, hs, ha, by omega⟩)
  rw [← hN] at HS0
  rw [← hN]
  clear hr hF hs ha hN hl
  go_enter Try.func107, Try.ntmps107
  go_wp2_with fail
  go_loopw [3, 4] (fun nn ff wr => ∃ (f : Nat) (first : Bool) (m : Nat) (t : RS), nn = .int .i64 m ∧ ff = .bool first ∧ m ≤ 2147483647 ∧ Hid (X = cntR L f first m t ∧ RdIs wr bp A N c t ∧ t.at_ ≤ N ∧ N + 1 ≤ f + t.at_) ∧ Hid (Fr (fun k => k = bp) w wr)) (fun _ _ wr => N + 1 - atOf wr bp)
  case atStart => exact ⟨_, true, 0, s, rfl, rfl, by omega, HS0, (show Fr _ _ _ from Fr.refl _ _)⟩
  case round =>
    obtain ⟨f, first, m, t, rfl, rfl, hm, HX, HFR⟩ := hrel
    obtain ⟨g, rfl⟩ : ∃ g, f = g + 1 := ⟨f - 1, by have h1 := HX.out.2.2.1; have h2 := HX.out.2.2.2; omega⟩
    have hAT : Hid (atOf wr bp = t.at_) := (show _ = _ from atOf_is HX.out.2.1)
    obtain ⟨Y, hY⟩ : ∃ Y, Hid (Y = nextR L t) := ⟨_, show _ = _ from rfl⟩
    go_wp2_with fail
    refine (next_any (L := L) (F := fun k => F k ∧ k < w.heap.size) (show Rb wr _ (.slice A L.length c) L from H.out.fr HFR.out (fun k _ hk h => HF.out k hk.1 h)) (fun k hk => HF.out k hk.1) (by rw [← HN.out]; exact HX.out.2.1) (by rw [← HN.out]; exact HX.out.2.2.1) HL.out).mono ?_
    rw [← hY.out, ← HN.out]
    rintro e w1 ⟨rfl, hr1, hf1⟩
    have HFR1 : Hid (Fr (fun k => k = bp) w w1) := (show Fr _ w w1 from HFR.out.then hf1)
    obtain ⟨x, t1⟩ := Y
    obtain ⟨a1, wi1, E1⟩ := t1
    simp only at hr1 ⊢
    obtain ⟨_, _, _, e3⟩ := rd_cells hr1
    simp only at e3
    have HR1 := Lib.hid hr1
    have fz3 := rd_free hr1 3
    clear hr1 hf1
    by_cases hE : E1 = 0
    · subst hE
      have HAT : Hid (a1 = t.at_ + 1 ∧ t.at_ < N) := (show _ ∧ _ from by
        have h1 := next_gone (L := L) (s := t) (by rw [← hY.out]) (by rw [← HN.out]; exact HX.out.2.2.1)
        rw [← hY.out, ← HN.out] at h1
        exact h1)
      have gx := x.toNat_lt
      obtain ⟨y, hy⟩ : ∃ y, y = x.toNat % 128 := ⟨_, rfl⟩
      have hy128 : y < 128 := by omega
      obtain ⟨n1, hn1⟩ : ∃ n1, n1 = m * 128 + y := ⟨_, rfl⟩
      have hn1b : n1 ≤ 274877906943 := by omega
      have hand : Hid (bits .and .u8 (x.toNat : Int) 127 = (y : Int)) := (show _ = _ from by rw [hy]; exact and127_8 ⟨x.toNat, gx⟩)
      have hor : Hid (bits .or .i64 ((m : Int) * 128) (y : Int) = (n1 : Int)) := (show _ = _ from by rw [hn1]; exact shl7_or m y (by omega) hy128)
      have HC : Hid (X = if (first = true ∧ x.toNat = 128) ∨ 2147483647 < n1 then (0, ⟨a1, wi1, 11⟩) else if x.toNat < 128 then (n1, ⟨a1, wi1, 0⟩) else cntR L g false n1 ⟨a1, wi1, 0⟩) := (show _ = _ from by
        rw [HX.out.1, cntR, ← hY.out]
        simp only
        rw [if_neg (by simp), ← hy, ← hn1])
      have HW : Hid (IntKind.i64.wrap ((m : Int) * 128) = (m : Int) * 128 ∧ IntKind.i64.wrap (y : Int) = (y : Int)) := (show _ ∧ _ from ⟨by rw [IntKind.wrap_i64]; omega, by rw [IntKind.wrap_i64]; omega⟩)
      clear hn1 hy
      go_wp2_with (with_reducible refine halt_dst 16 rfl ?_)
      refine wpListG_run (by rfl) (v := .int .u8 (y : Int)) (w' := w1) ?hr ?_
      case hr => go_simp; (try rw [hand.out])
      go_wp2_with (with_reducible refine halt_dst 18 rfl ?_)
      refine wpListG_run (by rfl) (v := .int .i64 (n1 : Int)) (w' := w1) ?hr ?_
      case hr => go_simp; (try rw [HW.out.1]); (try rw [HW.out.2]); (try rw [hor.out])
      obtain ⟨b1, hb1⟩ : ∃ b, Hid (b = decide (x.toNat = 128)) := ⟨_, show _ = _ from rfl⟩
      obtain ⟨b2, hb2⟩ : ∃ b, Hid (b = decide (2147483647 < n1)) := ⟨_, show _ = _ from rfl⟩
      have hc1 : Hid (((x.toNat : Int) == 128) = b1) := (show _ = _ from by rw [hb1.out]; by_cases h : x.toNat = 128 <;> simp [h] <;> omega)
      have hc2 : Hid (decide ((2147483647 : Int) < (n1 : Int)) = b2) := (show _ = _ from by rw [hb2.out]; by_cases h : 2147483647 < n1 <;> simp [h] <;> omega)
      cases first
      · cases b2
        · go_wp2_with (with_reducible refine halt_dst 26 rfl ?_)
          refine wpListG_run (by rfl) (v := .bool false) (w' := w1) ?hr ?_
          case hr => go_simp; (have h1 := of_decide_eq_false hb2.out.symm); omega
          have hnb : n1 ≤ 2147483647 := by have h1 := hb2.out; have h2 := of_decide_eq_false h1.symm; omega
          have hno : Hid (¬ ((false = true ∧ x.toNat = 128) ∨ 2147483647 < n1)) := (show ¬ _ from by intro h; rcases h with h | h; exact absurd h.1 (by decide); omega)
          by_cases hlo : (x.toNat : Int) < 128
          · have HXe : Hid (X = (n1, ⟨a1, wi1, 0⟩)) := (show _ = _ from by rw [HC.out, if_neg hno.out, if_pos (by omega)])
            go_wp2_with fail
            go_ret
            rw [HXe.out]
            exact (show CountPost _ _ _ _ _ _ _ _ _ from ⟨rfl, HR1.out, HFR1.out⟩)
          · have HX2 : Hid (X = cntR L g false n1 ⟨a1, wi1, 0⟩ ∧ RdIs w1 bp A N c ⟨a1, wi1, 0⟩ ∧ a1 ≤ N ∧ N + 1 ≤ g + a1) := (show _ ∧ _ from ⟨by rw [HC.out, if_neg hno.out, if_neg (by omega)], HR1.out, by have h1 := HAT.out; omega, by have h1 := HAT.out; have h2 := HX.out.2.2.2; omega⟩)
            have hAT1 : Hid (atOf w1 bp = a1) := (show _ = _ from atOf_is HR1.out)
            go_wp2_with fail
            go_roundw
            case rel => exact ⟨g, false, n1, ⟨a1, wi1, 0⟩, rfl, rfl, hnb, HX2, HFR1⟩
            case measure => have h1 := HAT.out; rw [hAT1.out, hAT.out]; omega
        · go_wp2_with (with_reducible refine halt_dst 26 rfl ?_)
          refine wpListG_run (by rfl) (v := .bool true) (w' := w1) ?hr ?_
          case hr => go_simp; (have h1 := of_decide_eq_true hb2.out.symm); omega
          have HXe : Hid (X = (0, ⟨a1, wi1, 11⟩)) := (show _ = _ from by rw [HC.out, if_pos (.inr (of_decide_eq_true hb2.out.symm))])
          have HX1 := Lib.hid (rd_e HR1.out 11)
          have HF2 : Hid (Fr (fun k => k = bp) w (w1.setCell ⟨bp, 3, none⟩ (.int .i64 11))) := (show Fr _ w _ from HFR1.out.then (Fr.one _ _))
          go_wp2_with fail
          go_ret
          rw [HXe.out]
          exact (show CountPost _ _ _ _ _ _ _ _ _ from ⟨rfl, HX1.out, HF2.out⟩)
      · cases b1
        · go_wp2_with (with_reducible refine halt_dst 22 rfl ?_)
          refine wpListG_run (by rfl) (v := .bool false) (w' := w1) ?hr ?_
          case hr => go_simp; (have h1 := of_decide_eq_false hb1.out.symm); omega
          cases b2
          · go_wp2_with (with_reducible refine halt_dst 26 rfl ?_)
            refine wpListG_run (by rfl) (v := .bool false) (w' := w1) ?hr ?_
            case hr => go_simp; (have h1 := of_decide_eq_false hb2.out.symm); omega
            have hnb : n1 ≤ 2147483647 := by have h1 := hb2.out; have h2 := of_decide_eq_false h1.symm; omega
            have hno : Hid (¬ ((True ∧ x.toNat = 128) ∨ 2147483647 < n1)) := (show ¬ _ from by intro h; rcases h with h | h; exact of_decide_eq_false hb1.out.symm h.2; omega)
            by_cases hlo : (x.toNat : Int) < 128
            · have HXe : Hid (X = (n1, ⟨a1, wi1, 0⟩)) := (show _ = _ from by rw [HC.out, if_neg hno.out, if_pos (by omega)])
              go_wp2_with fail
              go_ret
              rw [HXe.out]
              exact (show CountPost _ _ _ _ _ _ _ _ _ from ⟨rfl, HR1.out, HFR1.out⟩)
            · have HX2 : Hid (X = cntR L g false n1 ⟨a1, wi1, 0⟩ ∧ RdIs w1 bp A N c ⟨a1, wi1, 0⟩ ∧ a1 ≤ N ∧ N + 1 ≤ g + a1) := (show _ ∧ _ from ⟨by rw [HC.out, if_neg hno.out, if_neg (by omega)], HR1.out, by have h1 := HAT.out; omega, by have h1 := HAT.out; have h2 := HX.out.2.2.2; omega⟩)
              have hAT1 : Hid (atOf w1 bp = a1) := (show _ = _ from atOf_is HR1.out)
              go_wp2_with fail
              go_roundw
              case rel => exact ⟨g, false, n1, ⟨a1, wi1, 0⟩, rfl, rfl, hnb, HX2, HFR1⟩
              case measure => have h1 := HAT.out; rw [hAT1.out, hAT.out]; omega
          · go_wp2_with (with_reducible refine halt_dst 26 rfl ?_)
            refine wpListG_run (by rfl) (v := .bool true) (w' := w1) ?hr ?_
            case hr => go_simp; (have h1 := of_decide_eq_true hb2.out.symm); omega
            have HXe : Hid (X = (0, ⟨a1, wi1, 11⟩)) := (show _ = _ from by rw [HC.out, if_pos (.inr (of_decide_eq_true hb2.out.symm))])
            have HX1 := Lib.hid (rd_e HR1.out 11)
            have HF2 : Hid (Fr (fun k => k = bp) w (w1.setCell ⟨bp, 3, none⟩ (.int .i64 11))) := (show Fr _ w _ from HFR1.out.then (Fr.one _ _))
            go_wp2_with fail
            go_ret
            rw [HXe.out]
            exact (show CountPost _ _ _ _ _ _ _ _ _ from ⟨rfl, HX1.out, HF2.out⟩)
        · go_wp2_with (with_reducible refine halt_dst 22 rfl ?_)
          refine wpListG_run (by rfl) (v := .bool true) (w' := w1) ?hr ?_
          case hr => go_simp; (have h1 := of_decide_eq_true hb1.out.symm); omega
          have HXe : Hid (X = (0, ⟨a1, wi1, 11⟩)) := (show _ = _ from by rw [HC.out, if_pos (.inl ⟨trivial, of_decide_eq_true hb1.out.symm⟩)])
          have HX1 := Lib.hid (rd_e HR1.out 11)
          have HF2 : Hid (Fr (fun k => k = bp) w (w1.setCell ⟨bp, 3, none⟩ (.int .i64 11))) := (show Fr _ w _ from HFR1.out.then (Fr.one _ _))
          go_wp2_with fail
          go_ret
          rw [HXe.out]
          exact (show CountPost _ _ _ _ _ _ _ _ _ from ⟨rfl, HX1.out, HF2.out⟩)
    · have HXe : Hid (X = (0, ⟨a1, wi1, E1⟩)) := (show _ = _ from by
        rw [HX.out.1, cntR, ← hY.out]
        simp only
        rw [if_pos hE])
      clear fz3
      go_wp2_with fail
      go_ret
      rw [HXe.out]
      exact (show CountPost _ _ _ _ _ _ _ _ _ from ⟨rfl, HR1.out, HFR1.out⟩)
end Go.Proofs.Ytbaohngnpgappaa
