/- The check of bytes as a law of numbers: a burst within 32 bits is found. -/
import Derived.Test.YtbaohngnpgappaaW19
set_option linter.unusedVariables false
set_option linter.unusedSimpArgs false
namespace Go.Proofs.Ytbaohngnpgappaa
open Go.RowKit
theorem crcBit_xor (x y : Nat) : crcBit (x ^^^ y) = crcBit x ^^^ crcBit y := by
  have hd : (x ^^^ y) / 2 = x / 2 ^^^ y / 2 := by
    have := Nat.shiftRight_xor_distrib (a := x) (b := y) (i := 1)
    simpa [Nat.shiftRight_succ] using this
  have hm : (x ^^^ y) % 2 = (x + y) % 2 := by
    have h1 := Nat.testBit_xor x y 0
    simp only [Nat.testBit_zero] at h1
    rcases Nat.mod_two_eq_zero_or_one x with hx | hx <;> rcases Nat.mod_two_eq_zero_or_one y with hy | hy <;> rcases Nat.mod_two_eq_zero_or_one (x ^^^ y) with hz | hz <;> simp [hx, hy, hz] at h1 <;> omega
  unfold crcBit
  rw [hd]
  rcases Nat.mod_two_eq_zero_or_one x with hx | hx <;> rcases Nat.mod_two_eq_zero_or_one y with hy | hy
  · rw [if_neg (by omega), if_neg (by omega), if_neg (by omega)]
  · rw [if_pos (by omega), if_neg (by omega), if_pos (by omega), Nat.xor_assoc]
  · rw [if_pos (by omega), if_pos (by omega), if_neg (by omega), Nat.xor_assoc, Nat.xor_assoc, Nat.xor_comm (y / 2)]
  · rw [if_neg (by omega), if_pos (by omega), if_pos (by omega)]
    rw [Nat.xor_assoc (x / 2), ← Nat.xor_assoc 3988292384, Nat.xor_comm 3988292384 (y / 2), Nat.xor_assoc (y / 2), Nat.xor_self, Nat.xor_zero]
theorem crcBits_xor (x y : Nat) : ∀ k, crcBits k (x ^^^ y) = crcBits k x ^^^ crcBits k y := by
  intro k
  induction k with
  | zero => rfl
  | succ k ih => rw [crcBits, crcBits, crcBits, ih, crcBit_xor]
theorem crcBits_add (a b s : Nat) : crcBits (a + b) s = crcBits a (crcBits b s) := by
  induction a with
  | zero => rw [Nat.zero_add]; rfl
  | succ a ih => rw [Nat.succ_add, crcBits, crcBits, ih]
theorem crcBit_two (y : Nat) : crcBit (2 * y) = y := by
  unfold crcBit
  rw [if_neg (by omega)]; omega
theorem crcBits_pow (a y : Nat) : crcBits a (2 ^ a * y) = y := by
  induction a with
  | zero => rw [Nat.pow_zero, Nat.one_mul]; rfl
  | succ a ih => rw [crcBits_add a 1, Nat.pow_succ, Nat.mul_comm (2 ^ a) 2, Nat.mul_assoc]; show crcBits a (crcBit (2 * (2 ^ a * y))) = y; rw [crcBit_two, ih]
theorem crcBits_zero (k : Nat) : crcBits k 0 = 0 := by
  induction k with
  | zero => rfl
  | succ k ih => rw [crcBits, ih]; rfl
theorem crcBit_ne {z : Nat} (h : z < 4294967296) (h0 : crcBit z = 0) : z = 0 := by
  unfold crcBit at h0
  split at h0
  · have h1 : z / 2 = 3988292384 := Nat.eq_of_testBit_eq fun i => by
      have := congrArg (fun n => n.testBit i) h0
      simp only [Nat.testBit_xor, Nat.zero_testBit] at this
      revert this
      cases (z / 2).testBit i <;> cases (3988292384 : Nat).testBit i <;> simp
    omega
  · omega
theorem crcBits_ne {z : Nat} (h : z < 4294967296) : ∀ k, crcBits k z = 0 → z = 0 := by
  intro k
  induction k with
  | zero => exact fun h => h
  | succ k ih => exact fun h0 => ih (crcBit_ne (crcBits_lt h k) h0)
theorem xor_eq_zero {a b : Nat} (h : a ^^^ b = 0) : a = b := by
  refine Nat.eq_of_testBit_eq fun i => ?_
  have := congrArg (fun n => n.testBit i) h
  simp only [Nat.testBit_xor, Nat.zero_testBit] at this
  revert this
  cases a.testBit i <;> cases b.testBit i <;> simp
theorem crcBits_inj {x y : Nat} (hx : x < 4294967296) (hy : y < 4294967296) (k : Nat) (h : crcBits k x = crcBits k y) : x = y :=
  xor_eq_zero (crcBits_ne (xor_lt32 hx hy) k (by rw [crcBits_xor, h, Nat.xor_self]))
/-- Bytes as a number, the least first. -/
def lev : List UInt8 → Nat
  | [] => 0
  | c :: r => c.toNat + 256 * lev r
theorem xor_add (c y : Nat) (h : c < 256) : c ^^^ 256 * y = c + 256 * y := by
  have h1 := Nat.two_pow_add_eq_or_of_lt (i := 8) (b := c) h y
  refine Nat.eq_of_testBit_eq fun i => ?_
  rw [show c + 256 * y = 2 ^ 8 * y + c from by omega, h1, show (256 : Nat) * y = 2 ^ 8 * y from by omega, Nat.testBit_xor, Nat.testBit_or, Nat.testBit_two_pow_mul]
  by_cases hi : 8 ≤ i
  · have : c.testBit i = false := Nat.testBit_lt_two_pow (Nat.lt_of_lt_of_le h (Nat.pow_le_pow_right (n := 2) (by decide) hi))
    rw [this]; simp
  · simp [hi]
theorem fold_lev : ∀ (L : List UInt8) (s : Nat), L.foldl crcByte s = crcBits (8 * L.length) (s ^^^ lev L) := by
  intro L
  induction L with
  | nil => intro s; rw [lev, Nat.xor_zero]; rfl
  | cons c r ih =>
    intro s
    rw [List.foldl_cons, ih, List.length_cons, show 8 * (r.length + 1) = 8 * r.length + 8 from by omega, crcBits_add, lev, ← xor_add _ _ c.toNat_lt, ← Nat.xor_assoc, crcBits_xor (s ^^^ c.toNat)]
    congr 1
    rw [show (256 : Nat) * lev r = 2 ^ 8 * lev r from by omega, crcBits_pow]
    rfl
theorem lev_lt : ∀ L : List UInt8, lev L < 256 ^ L.length := by
  intro L
  induction L with
  | nil => exact Nat.one_pos
  | cons c r ih => rw [lev, List.length_cons, Nat.pow_succ]; have := c.toNat_lt; omega
theorem lev_le4 (a b c d : UInt8) : lev [a, b, c, d] = a.toNat + 256 * b.toNat + 65536 * c.toNat + 16777216 * d.toNat := by simp [lev]; omega
theorem le4_lev {n : Nat} (hn : n < 4294967296) {l : List UInt8} (hl : l.length = 4) : le4 n = l ↔ n = lev l := by
  obtain ⟨a, b, c, d, rfl⟩ : ∃ a b c d, l = [a, b, c, d] := by
    rcases l with _ | ⟨x0, _ | ⟨x1, _ | ⟨x2, _ | ⟨x3, _ | ⟨x4, r⟩⟩⟩⟩⟩ <;> simp at hl
    exact ⟨_, _, _, _, rfl⟩
  have ha := a.toNat_lt
  have hb := b.toNat_lt
  have hc := c.toNat_lt
  have hd := d.toNat_lt
  rw [lev_le4, le4_lit]
  have key : ∀ (z : Int) (x : UInt8), byteOf z = x ↔ z % 256 = (x.toNat : Int) := fun z x => ⟨fun h => by
    subst h
    unfold byteOf
    rw [UInt8.toNat_ofNat']
    omega, byteOf_is z x⟩
  simp only [List.cons.injEq, and_true, key]
  omega
/-- Whether a tail behind a head is told by its own check. -/
theorem check_lev (r0 n : Nat) (h0 : r0 < 4294967296) {T : List UInt8} (hT : T.length = n + 4) : (T.take n).foldl crcByte r0 ^^^ 4294967295 = lev (T.drop n) ↔ crcBits (8 * (n + 4)) (r0 ^^^ lev T) = crcBits 32 4294967295 := by
  have hr : (T.take n).foldl crcByte r0 < 4294967296 := by
    suffices h : ∀ (l : List UInt8) (s : Nat), s < 4294967296 → l.foldl crcByte s < 4294967296 from h _ _ h0
    intro l
    induction l with
    | nil => exact fun s h => h
    | cons x r ih => exact fun s h => ih _ (crcByte_lt h)
  have hl : (T.drop n).length = 4 := by rw [List.length_drop]; omega
  have hd : lev (T.drop n) < 4294967296 := by have := lev_lt (T.drop n); rw [hl] at this; exact this
  rw [← hT, ← fold_lev]
  have h1 : T.foldl crcByte r0 = crcBits 32 ((T.take n).foldl crcByte r0 ^^^ lev (T.drop n)) := by
    have := fold_lev (T.drop n) ((T.take n).foldl crcByte r0)
    rw [hl, ← List.foldl_append, List.take_append_drop] at this
    exact this
  rw [h1]
  generalize (T.take n).foldl crcByte r0 = r at hr
  constructor
  · intro h
    rw [← h, ← Nat.xor_assoc, Nat.xor_self, Nat.zero_xor]
  · intro h
    have := crcBits_inj (xor_lt32 hr hd) (by decide) 32 h
    rw [← this, ← Nat.xor_assoc, Nat.xor_self, Nat.zero_xor]
/-- A burst within 32 bits is found. -/
theorem burst_found {r0 n at_ B : Nat} (h0 : r0 < 4294967296) {T T' : List UInt8} (hT : T.length = n + 4) (hT' : T'.length = n + 4) (hB : B < 4294967296) (hat : at_ ≤ 8 * (n + 4)) (hx : lev T' = lev T ^^^ 2 ^ at_ * B)
    (hok : (T.take n).foldl crcByte r0 ^^^ 4294967295 = lev (T.drop n)) : (T'.take n).foldl crcByte r0 ^^^ 4294967295 = lev (T'.drop n) ↔ B = 0 := by
  rw [check_lev r0 n h0 hT'] 
  rw [check_lev r0 n h0 hT] at hok
  have h1 : crcBits (8 * (n + 4)) (2 ^ at_ * B) = crcBits (8 * (n + 4) - at_) B := by
    have : 8 * (n + 4) = (8 * (n + 4) - at_) + at_ := by omega
    rw [this, crcBits_add, crcBits_pow, Nat.add_sub_cancel]
  rw [hx, ← Nat.xor_assoc, crcBits_xor, hok, h1]
  constructor
  · intro h
    refine crcBits_ne hB (8 * (n + 4) - at_) ?_
    have h2 : crcBits 32 4294967295 ^^^ (crcBits 32 4294967295 ^^^ crcBits (8 * (n + 4) - at_) B) = crcBits 32 4294967295 ^^^ crcBits 32 4294967295 := by rw [h]
    rwa [← Nat.xor_assoc, Nat.xor_self, Nat.zero_xor] at h2
  · rintro rfl
    rw [crcBits_zero, Nat.xor_zero]
/-- One bit turned. -/
theorem lev_flip : ∀ (L : List UInt8) (i : Nat) (x : UInt8), L[i / 8]? = some x → lev (L.set (i / 8) (x ^^^ UInt8.ofNat (2 ^ (i % 8)))) = lev L ^^^ 2 ^ i := by
  intro L
  induction L with
  | nil => intro i x h; simp at h
  | cons c r ih =>
    intro i x h
    have hp : ∀ m : Nat, m < 8 → (UInt8.ofNat (2 ^ m)).toNat = 2 ^ m := by
      intro m hm
      rw [UInt8.toNat_ofNat']
      exact Nat.mod_eq_of_lt (Nat.pow_lt_pow_right (by decide) hm)
    rcases Nat.lt_or_ge i 8 with hi | hi
    · have h8 : i / 8 = 0 := by omega
      have hm : i % 8 = i := by omega
      rw [h8] at h ⊢
      cases h
      rw [List.set_cons_zero, lev, lev, hm, UInt8.toNat_xor, hp i hi]
      have hx : c.toNat ^^^ 2 ^ i < 256 := Nat.xor_lt_two_pow (n := 8) c.toNat_lt (Nat.pow_lt_pow_right (by decide) hi)
      rw [← xor_add _ _ hx, ← xor_add _ _ c.toNat_lt, Nat.xor_assoc, Nat.xor_comm (2 ^ i), ← Nat.xor_assoc]
    · obtain ⟨k, hk⟩ : ∃ k, i = k + 8 := ⟨i - 8, by omega⟩
      subst hk
      have h8 : (k + 8) / 8 = k / 8 + 1 := by omega
      have hm : (k + 8) % 8 = k % 8 := by omega
      rw [h8, List.getElem?_cons_succ] at h
      rw [h8, hm, List.set_cons_succ, lev, lev, ih k x h, ← xor_add _ _ c.toNat_lt, ← xor_add _ _ c.toNat_lt, Nat.xor_assoc]
      congr 1
      rw [show (256 : Nat) = 2 ^ 8 from rfl, Nat.mul_comm (2 ^ 8), Nat.mul_comm (2 ^ 8), ← Nat.shiftLeft_eq, ← Nat.shiftLeft_eq, Nat.shiftLeft_xor_distrib, Nat.shiftLeft_eq (2 ^ k), ← Nat.pow_add]
/-- The burst's bits as far as k, and no further than m. -/
def bst (u m k : Nat) : Nat := u % 2 ^ (min k m)
theorem bst_off {u m k : Nat} (h : ¬ (u / 2 ^ k % 2 = 1 ∧ k < m)) : bst u m (k + 1) = bst u m k := by
  unfold bst
  rcases Nat.lt_or_ge k m with hk | hk
  · rw [Nat.min_eq_left (by omega), Nat.min_eq_left (by omega), Nat.mod_pow_succ]
    have h1 : u / 2 ^ k % 2 = 0 := by
      have : ¬ u / 2 ^ k % 2 = 1 := fun h1 => h ⟨h1, hk⟩
      omega
    rw [h1, Nat.mul_zero, Nat.add_zero]
  · rw [Nat.min_eq_right (by omega), Nat.min_eq_right hk]
theorem bst_on {u m k : Nat} (h : u / 2 ^ k % 2 = 1) (hk : k < m) (a : Nat) : 2 ^ a * bst u m (k + 1) = 2 ^ a * bst u m k ^^^ 2 ^ (a + k) := by
  unfold bst
  rw [Nat.min_eq_left (by omega), Nat.min_eq_left (by omega), Nat.mod_pow_succ, h]
  have h1 : u % 2 ^ k < 2 ^ k := Nat.mod_lt _ (Nat.two_pow_pos k)
  have h2 : u % 2 ^ k + 2 ^ k * 1 = u % 2 ^ k ^^^ 2 ^ k := by
    have h3 := Nat.two_pow_add_eq_or_of_lt h1 1
    rw [Nat.add_comm, h3]
    refine Nat.eq_of_testBit_eq fun i => ?_
    rw [Nat.testBit_xor, Nat.testBit_or, Nat.mul_one, Nat.testBit_two_pow]
    by_cases hi : k = i
    · subst hi
      rw [Nat.testBit_lt_two_pow h1]; simp
    · simp [hi]
  rw [h2, Nat.mul_comm (2 ^ a), Nat.mul_comm (2 ^ a), ← Nat.shiftLeft_eq, ← Nat.shiftLeft_eq, Nat.shiftLeft_xor_distrib, Nat.shiftLeft_eq (2 ^ k), ← Nat.pow_add, Nat.add_comm k a]
theorem bst_on_ne {u m k : Nat} (h : u / 2 ^ k % 2 = 1) (hk : k < m) : bst u m (k + 1) ≠ 0 := by
  unfold bst
  rw [Nat.min_eq_left (by omega), Nat.mod_pow_succ, h]
  have := Nat.two_pow_pos k
  omega
theorem bst_lt (u m : Nat) : bst u m 32 < 4294967296 := by
  unfold bst
  refine Nat.lt_of_lt_of_le (Nat.mod_lt _ (Nat.two_pow_pos _)) ?_
  exact Nat.pow_le_pow_right (n := 2) (j := 32) (by decide) (Nat.min_le_left _ _)
end Go.Proofs.Ytbaohngnpgappaa
