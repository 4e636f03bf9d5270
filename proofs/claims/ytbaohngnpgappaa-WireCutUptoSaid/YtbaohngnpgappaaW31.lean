/- What was written is read; what was cut is short. -/
import Derived.Test.YtbaohngnpgappaaW30
set_option linter.unusedVariables false
set_option linter.unusedSimpArgs false
namespace Go.Proofs.Ytbaohngnpgappaa
open Go.RowKit
theorem get_drop {L r : List UInt8} {a : Nat} {c : UInt8} (h : L.drop a = c :: r) : L[a]? = some c ∧ L.drop (a + 1) = r ∧ a < L.length := by
  have h1 : L[a]? = some c := by
    have := List.getElem?_drop (xs := L) (i := a) (j := 0)
    rw [h] at this
    simpa using this.symm
  refine ⟨h1, ?_, (List.getElem?_eq_some_iff.1 h1).1⟩
  rw [← List.drop_drop, h]; rfl
theorem next_drop {L r : List UInt8} {a w : Nat} {c : UInt8} (h : L.drop a = c :: r) : nextR L ⟨a, w, 0⟩ = (c, ⟨a + 1, w, 0⟩) := nextR_on (s := ⟨a, w, 0⟩) rfl (get_drop h).1
theorem next_nil {L : List UInt8} {a w : Nat} (h : L.drop a = []) : nextR L ⟨a, w, 0⟩ = (0, ⟨a, w, 10⟩) := nextR_end (s := ⟨a, w, 0⟩) rfl (by simpa using h)
def cfold (n : Nat) (l : List UInt8) : Nat := l.foldl (fun a c => a * 128 + c.toNat % 128) n
theorem cfold_ge : ∀ (l : List UInt8) (n : Nat), n ≤ cfold n l := by
  intro l
  induction l with
  | nil => exact fun n => Nat.le_refl _
  | cons c r ih => intro n; exact Nat.le_trans (by omega) (ih (n * 128 + c.toNat % 128))
theorem cfold_cons (n : Nat) (c : UInt8) (r : List UInt8) : cfold n (c :: r) = cfold (n * 128 + c.toNat % 128) r := rfl
theorem cntR_ok {L : List UInt8} : ∀ (h : List UInt8) (f : Nat) (first : Bool) (n a w : Nat) (x : UInt8) (r : List UInt8), (∀ c ∈ h, 128 ≤ c.toNat) → x.toNat < 128 → (first = true → ∀ c q, h = c :: q → c.toNat ≠ 128) → cfold n (h ++ [x]) ≤ 2147483647 → h.length < f → L.drop a = h ++ x :: r →
    cntR L f first n ⟨a, w, 0⟩ = (cfold n (h ++ [x]), ⟨a + h.length + 1, w, 0⟩) := by
  intro h
  induction h with
  | nil =>
    intro f first n a w x r _ hx _ hb hf hd
    obtain ⟨g, rfl⟩ : ∃ g, f = g + 1 := ⟨f - 1, by simp at hf; omega⟩
    rw [cntR, next_drop hd]
    have h2 : n * 128 + x.toNat % 128 ≤ 2147483647 := hb
    rw [if_neg (by simp), if_neg (by simp only; omega), if_pos hx]
    rfl
  | cons c q ih =>
    intro f first n a w x r hc hx hfi hb hf hd
    obtain ⟨g, rfl⟩ : ∃ g, f = g + 1 := ⟨f - 1, by simp at hf; omega⟩
    have hc1 := hc c List.mem_cons_self
    rw [cntR, next_drop hd]
    have h2 : n * 128 + c.toNat % 128 ≤ 2147483647 := by
      rw [List.cons_append, cfold_cons] at hb
      exact Nat.le_trans (cfold_ge _ _) hb
    have h3 : ¬ (first = true ∧ c.toNat = 128) := fun h => hfi h.1 c q rfl h.2
    rw [if_neg (by simp), if_neg (by simp only; intro h; rcases h with h | h; exact h3 h; omega), if_neg (by simp only; omega)]
    simp only
    rw [ih g false _ (a + 1) w x r (fun y hy => hc y (List.mem_cons_of_mem _ hy)) hx (by simp) hb (by simp at hf; omega) (get_drop hd).2.1]
    rw [List.cons_append, cfold_cons, List.length_cons, show a + 1 + q.length + 1 = a + (q.length + 1) + 1 from by omega]
theorem cntR_cut {L : List UInt8} : ∀ (h : List UInt8) (f : Nat) (first : Bool) (n a w : Nat), (∀ c ∈ h, 128 ≤ c.toNat) → (first = true → ∀ c q, h = c :: q → c.toNat ≠ 128) → cfold n h ≤ 2147483647 → h.length < f → L.drop a = h →
    (cntR L f first n ⟨a, w, 0⟩).2.e = 10 := by
  intro h
  induction h with
  | nil =>
    intro f first n a w _ _ hb hf hd
    obtain ⟨g, rfl⟩ : ∃ g, f = g + 1 := ⟨f - 1, by simp at hf; omega⟩
    rw [cntR, next_nil hd, if_pos (show (10 : Int) ≠ 0 by decide)]
  | cons c q ih =>
    intro f first n a w hc hfi hb hf hd
    obtain ⟨g, rfl⟩ : ∃ g, f = g + 1 := ⟨f - 1, by simp at hf; omega⟩
    have hc1 := hc c List.mem_cons_self
    rw [cntR, next_drop hd]
    have h2 : n * 128 + c.toNat % 128 ≤ 2147483647 := by
      rw [cfold_cons] at hb
      exact Nat.le_trans (cfold_ge _ _) hb
    have h3 : ¬ (first = true ∧ c.toNat = 128) := fun h => hfi h.1 c q rfl h.2
    rw [if_neg (by simp), if_neg (by simp only; intro h; rcases h with h | h; exact h3 h; omega), if_neg (by simp only; omega)]
    exact ih g false _ (a + 1) w (fun y hy => hc y (List.mem_cons_of_mem _ hy)) (by simp) hb (by simp at hf; omega) (get_drop hd).2.1
theorem hiB_head : ∀ (n : Nat) (c : UInt8) (q : List UInt8), hiB n = c :: q → c.toNat ≠ 128 := by
  intro n
  induction n using Nat.strongRecOn with
  | ind n ih =>
    intro c q h
    rcases Nat.eq_zero_or_pos n with rfl | hn
    · rw [hiB_zero] at h; cases h
    · rw [hiB_pos hn] at h
      rcases Nat.eq_zero_or_pos (n / 128) with h0 | h0
      · rw [h0, hiB_zero] at h
        have h1 := (List.cons.inj h).1
        rw [← h1, UInt8.toNat_ofNat']
        omega
      · cases hh : hiB (n / 128) with
        | nil =>
          have := cval_hiB (n / 128)
          rw [hh] at this
          simp [cval] at this
          omega
        | cons c' q' =>
          rw [hh, List.cons_append] at h
          rw [← (List.cons.inj h).1]
          exact ih (n / 128) (by omega) c' q' hh
theorem countR_ok {L r : List UInt8} {a w m : Nat} (hm : m ≤ 2147483647) (hd : L.drop a = countB m ++ r) : countR L ⟨a, w, 0⟩ = (m, ⟨a + (countB m).length, w, 0⟩) := by
  have hl : (countB m ++ r).length ≤ L.length := by rw [← hd, List.length_drop]; omega
  have hv : cfold 0 (hiB (m / 128) ++ [UInt8.ofNat (m % 128)]) = m := cval_countB m
  unfold countR
  rw [cntR_ok (hiB (m / 128)) (L.length + 1) true 0 a w (UInt8.ofNat (m % 128)) r (hiB_ge _) (by rw [UInt8.toNat_ofNat']; omega) (fun _ => hiB_head _) (by rw [hv]; exact hm) (by
    rw [countB] at hl; simp at hl; omega) (by rw [hd, countB, List.append_assoc]; rfl), hv]
  rw [countB, List.length_append, List.length_singleton, Nat.add_assoc]
theorem countR_cut {L p q : List UInt8} {a w m : Nat} (hm : m ≤ 2147483647) (hd : L.drop a = p) (hp : p ++ q = countB m) (hq : q ≠ []) : (countR L ⟨a, w, 0⟩).2.e = 10 := by
  obtain ⟨q0, x, rfl⟩ : ∃ q0 x, q = q0 ++ [x] := ⟨_, _, (List.dropLast_concat_getLast hq).symm⟩
  rw [countB, ← List.append_assoc] at hp
  have hpre : p ++ q0 = hiB (m / 128) := List.append_inj_left' hp rfl
  have hv : cfold 0 (p ++ q0) = m / 128 := by rw [hpre]; exact cval_hiB _
  have hle : cfold 0 p ≤ cfold 0 (p ++ q0) := by
    unfold cfold
    rw [List.foldl_append]
    exact cfold_ge _ _
  have hl : p.length ≤ L.length := by rw [← hd, List.length_drop]; omega
  refine cntR_cut p (L.length + 1) true 0 a w (fun c hc => hiB_ge (m / 128) c (by rw [← hpre]; exact List.mem_append_left _ hc)) (fun _ c r he => hiB_head (m / 128) c (r ++ q0) (by rw [← hpre, he]; rfl)) (by omega) (by omega) hd
/-! ### eight bytes -/
theorem nextsR_ok {L : List UInt8} : ∀ (l : List UInt8) (a w : Nat) (r : List UInt8), L.drop a = l ++ r → nextsR L l.length ⟨a, w, 0⟩ = (l, ⟨a + l.length, w, 0⟩) := by
  intro l
  induction l with
  | nil => exact fun a w r _ => rfl
  | cons c q ih =>
    intro a w r hd
    rw [List.length_cons, nextsR, next_drop hd, ih (a + 1) w r (get_drop hd).2.1, show a + (q.length + 1) = a + 1 + q.length from by omega]
theorem nextsR_err (L : List UInt8) : ∀ (k : Nat) (s : RS), s.e ≠ 0 → (nextsR L k s).2 = s := fun k s h => (nextsR_kept L k s).e h
theorem nextsR_cut {L : List UInt8} : ∀ (p : List UInt8) (k a w : Nat), p.length < k → L.drop a = p → (nextsR L k ⟨a, w, 0⟩).2.e = 10 := by
  intro p
  induction p with
  | nil =>
    intro k a w hk hd
    obtain ⟨j, rfl⟩ : ∃ j, k = j + 1 := ⟨k - 1, by simp at hk; omega⟩
    rw [nextsR, next_nil hd]
    simp only
    rw [nextsR_err L j ⟨a, w, 10⟩ (show (10 : Int) ≠ 0 by decide)]
  | cons c q ih =>
    intro k a w hk hd
    obtain ⟨j, rfl⟩ : ∃ j, k = j + 1 := ⟨k - 1, by simp at hk; omega⟩
    rw [nextsR, next_drop hd]
    exact ih j (a + 1) w (by simp at hk; omega) (get_drop hd).2.1
theorem rdn_mod (l : List UInt8) (n : Int) (m : Nat) (hl : l = (List.range m).map fun j => byteOf (n / 2 ^ (8 * (m - 1 - j)))) : (rdn l : Int) = n % 2 ^ (8 * m) := by
  suffices h : ∀ k, k ≤ m → (rdn ((List.range k).map fun j => byteOf (n / 2 ^ (8 * (m - 1 - j)))) : Int) = n / 2 ^ (8 * (m - k)) % 2 ^ (8 * k) by
    have := h m (Nat.le_refl _)
    rw [hl, this, Nat.sub_self, Nat.mul_zero, Int.pow_zero, Int.ediv_one]
  intro k
  induction k with
  | zero => intro _; simp [rdn]
  | succ k ih =>
    intro hk
    have h1 := ih (by omega)
    rw [List.range_succ, List.map_append]
    unfold rdn at h1 ⊢
    rw [List.foldl_append]
    simp only [List.map_cons, List.map_nil, List.foldl_cons, List.foldl_nil]
    rw [Int.natCast_add, Int.natCast_mul, h1, enc8_is, IntKind.wrap_u8]
    have e1 : m - 1 - k = m - (k + 1) := by omega
    rw [e1, show 8 * (m - k) = 8 * (m - (k + 1)) + 8 from by omega, Int.pow_add, show 8 * (k + 1) = 8 * k + 8 from by omega, Int.pow_add, ← Int.ediv_ediv_of_nonneg (Int.le_of_lt (Int.pow_pos (by decide)))]
    generalize n / 2 ^ (8 * (m - (k + 1))) = q
    have hp : (0 : Int) < 2 ^ (8 * k) := Int.pow_pos (by decide)
    generalize (2 : Int) ^ (8 * k) = P at hp
    have h3 := Int.emod_add_mul_ediv q 256
    have h4 := Int.emod_add_mul_ediv (q / 256) P
    have h5 : q % (P * 256) = q / 256 % P * 256 + q % 256 := by
      have h6 : q = (q / 256 % P * 256 + q % 256) + (P * 256) * (q / 256 / P) := by
        have : (P * 256) * (q / 256 / P) = 256 * (P * (q / 256 / P)) := by rw [Int.mul_comm P 256, Int.mul_assoc]
        rw [this]; omega
      have h7 := Int.emod_nonneg (q / 256) (Int.ne_of_gt hp)
      have h8 := Int.emod_lt_of_pos (q / 256) hp
      have h9 := Int.emod_nonneg q (show (256 : Int) ≠ 0 by decide)
      have h10 := Int.emod_lt_of_pos q (show (0 : Int) < 256 by decide)
      rw [h6, Int.add_mul_emod_self_left, ← h6]
      refine Int.emod_eq_of_lt ?_ ?_
      · omega
      · omega
    show q / 256 % P * 256 + q % 256 = q % (P * 256)
    exact h5.symm
theorem num8_back {n : Int} (h : I64 n) : IntKind.i64.wrap (rdn (num8 n) : Int) = n := by
  have h1 := rdn_mod (num8 n) n 8 (by unfold num8; refine List.map_congr_left fun j hj => ?_; rw [show 56 - 8 * j = 8 * (8 - 1 - j) from by have := List.mem_range.1 hj; omega])
  rw [h1, IntKind.wrap_i64]
  unfold I64 at h
  omega
end Go.Proofs.Ytbaohngnpgappaa
