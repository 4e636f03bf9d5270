/- What bits are kept, and that behind a crash each byte is as it was or some kept write s: plain laws. -/
import Derived.Test.YtbaohngnpgappaaD5
import Derived.Laws.BitsLemmas
import Derived.Laws.Bits64
set_option linter.unusedVariables false
set_option linter.unusedSimpArgs false
namespace Go.Proofs.Ytbaohngnpgappaa
open Go.RowKit
theorem readB_all {l : List UInt8} {size : Int} (h : l.length = clampI size) (hs : size ≤ 1048576) : readB l 0 size = l := by
  unfold clampI at h
  unfold readB
  split
  · exact (List.eq_nil_of_length_eq_zero (by omega)).symm
  · rw [List.take_of_length_le (by omega)]; rfl
theorem wraps_u64_64 (n : Int) (h₀ : 0 ≤ n) (h₁ : n < 2 ^ 64) : IntKind.u64.wrap n = n := by rw [IntKind.wrap_u64]; omega
/-- What the bits say. -/
theorem bset_test (keep k : Nat) (hk : k < 64) (hkeep : keep < 18446744073709551616) : bset keep k = keep.testBit k := by
  have h2 : 2 ^ k < 2 ^ 64 := Nat.pow_lt_pow_right (by decide) hk
  have h := (bits_nat .u64 64 (by decide) wraps_u64_64 keep (2 ^ k) (by omega) h2).1
  unfold bset
  have e : IntKind.u64.wrap (2 ^ k) = ((2 ^ k : Nat) : Int) := by rw [wraps_u64_64 _ (Int.le_of_lt (Int.pow_pos (by decide))) (by exact_mod_cast h2)]; simp
  rw [e, h]
  have hb : (keep &&& 2 ^ k).testBit k = keep.testBit k := by rw [Nat.testBit_and, Nat.testBit_two_pow_self, Bool.and_true]
  cases hk : keep.testBit k
  · have : keep &&& 2 ^ k = 0 := by
      apply Nat.eq_of_testBit_eq
      intro i
      rw [Nat.testBit_and, Nat.testBit_two_pow, Nat.zero_testBit]
      by_cases hi : k = i
      · subst hi; rw [hk]; rfl
      · simp [hi]
    rw [this]; rfl
  · have : keep &&& 2 ^ k ≠ 0 := by
      intro h0
      rw [h0, hk] at hb
      simp at hb
    have h3 : ((keep &&& 2 ^ k : Nat) : Int) ≠ 0 := by exact_mod_cast this
    simpa using this
theorem bit_shr (keep k : Nat) (hk : k < 64) (hkeep : keep < 18446744073709551616) : bits .and .u64 ((keep : Int) / 2 ^ k) 1 = ((bset keep k).toNat : Int) := by
  have hq : keep / 2 ^ k ≤ keep := Nat.div_le_self _ _
  have h := (bits_nat .u64 64 (by decide) wraps_u64_64 (keep / 2 ^ k) 1 (by omega) (by decide)).1
  have e : ((keep : Int) / 2 ^ k) = ((keep / 2 ^ k : Nat) : Int) := by simp
  rw [e, bset_test keep k hk hkeep]
  refine h.trans ?_
  rw [Nat.testBit_eq_decide_div_mod_eq, Nat.and_one_is_mod]
  rcases Nat.mod_two_eq_zero_or_one (keep / 2 ^ k) with h1 | h1 <;> rw [h1] <;> simp
theorem splice_cover {l b : List UInt8} {a : Nat} (h : a + b.length ≤ l.length) (i : Nat) (hi : i < l.length) : (splice l a b)[i]? = l[i]? ∨ (a ≤ i ∧ i - a < b.length ∧ (splice l a b)[i]? = b[i - a]?) := by
  rw [splice_get h]
  split
  · exact .inl rfl
  · split
    · exact .inr ⟨by omega, by omega, rfl⟩
    · exact .inl rfl
theorem applyW_cover {n : Nat} (ws : List (Nat × List UInt8)) : ∀ (s : List UInt8), s.length = n → (∀ x ∈ ws, x.1 + x.2.length ≤ n) → ∀ i, i < n → (applyW s ws)[i]? = s[i]? ∨ ∃ x ∈ ws, x.1 ≤ i ∧ i - x.1 < x.2.length ∧ (applyW s ws)[i]? = x.2[i - x.1]? := by
  induction ws with
  | nil => exact fun s _ _ i _ => .inl rfl
  | cons y r ih =>
    intro s hs h i hi
    have hl := length_splice s y.1 y.2 (by rw [hs]; exact h y List.mem_cons_self)
    rcases ih (splice s y.1 y.2) (by rw [hl, hs]) (fun x hx => h x (List.mem_cons_of_mem _ hx)) i hi with h1 | ⟨x, hx, h1⟩
    · rcases splice_cover (l := s) (b := y.2) (a := y.1) (by rw [hs]; exact h y List.mem_cons_self) i (by omega) with h2 | ⟨h2, h3, h4⟩
      · exact .inl (h1.trans h2)
      · exact .inr ⟨y, List.mem_cons_self, h2, h3, h1.trans h4⟩
    · exact .inr ⟨x, List.mem_cons_of_mem _ hx, h1⟩
theorem keptW_index {ws : List (Nat × List UInt8)} {keep : Nat} : ∀ {k : Nat} {x : Nat × List UInt8}, x ∈ keptW ws keep k → ∃ j, j < k ∧ ws[j]? = some x ∧ j < 64 ∧ bset keep j = true := by
  intro k
  induction k with
  | zero => intro x h; simp [keptW] at h
  | succ k ih =>
    intro x h
    rcases List.mem_append.1 h with h | h
    · obtain ⟨j, h1, h2⟩ := ih h
      exact ⟨j, by omega, h2⟩
    · split at h
      · rename_i y hy
        split at h
        · rename_i hb
          rw [List.mem_singleton.1 h]; exact ⟨k, by omega, hy, hb⟩
        · simp at h
      · simp at h
theorem tearB_get {tear : Int} {b : List UInt8} {j : Nat} (h : j < (tearB tear b).length) : j < b.length ∧ (tearB tear b)[j]? = b[j]? := by
  unfold tearB at h ⊢
  split
  · rename_i ht
    rw [if_pos ht, List.length_take] at h
    exact ⟨by omega, by rw [List.getElem?_take, if_pos (by omega)]⟩
  · rename_i ht
    rw [if_neg ht] at h
    exact ⟨h, rfl⟩
theorem tearB_len {tear : Int} {b : List UInt8} : (tearB tear b).length ≤ b.length := by
  unfold tearB
  split
  · rw [List.length_take]; omega
  · exact Nat.le_refl _
theorem crashS_length {s : List UInt8} {l : List (Nat × List UInt8)} {tear : Int} (h : ∀ x ∈ l, x.1 + x.2.length ≤ s.length) : (crashS s l tear).length = s.length := by
  unfold crashS
  split
  · rfl
  · rename_i x hx
    have hm := List.mem_of_getLast? hx
    have hl := applyW_length l.dropLast s (fun y hy => h y (List.dropLast_subset l hy))
    rw [length_splice _ _ _ (by rw [hl]; have := h x hm; have := tearB_len (tear := tear) (b := x.2); omega), hl]
/-- Behind a crash each byte is as it was, or some kept write's. -/
theorem crash_cover {s : List UInt8} {ws : List (Nat × List UInt8)} {keep : Nat} {tear : Int} (h : ∀ x ∈ ws, x.1 + x.2.length ≤ s.length) (i : Nat) (hi : i < s.length) :
    (crashS s (keptW ws keep ws.length) tear)[i]? = s[i]? ∨ ∃ j x, ws[j]? = some x ∧ j < 64 ∧ bset keep j = true ∧ x.1 ≤ i ∧ i - x.1 < x.2.length ∧ (crashS s (keptW ws keep ws.length) tear)[i]? = x.2[i - x.1]? := by
  have hk : ∀ x ∈ keptW ws keep ws.length, x.1 + x.2.length ≤ s.length := fun x hx => h x (keptW_mem hx)
  unfold crashS
  split
  · exact .inl rfl
  · rename_i x hx
    have hm := List.mem_of_getLast? hx
    have hl := applyW_length (keptW ws keep ws.length).dropLast s (fun y hy => hk y (List.dropLast_subset _ hy))
    have ht := tearB_len (tear := tear) (b := x.2)
    have hxl := hk x hm
    rcases splice_cover (l := applyW s (keptW ws keep ws.length).dropLast) (b := tearB tear x.2) (a := x.1) (by omega) i (by omega) with h2 | ⟨h2, h3, h4⟩
    · rcases applyW_cover (keptW ws keep ws.length).dropLast s rfl (fun y hy => hk y (List.dropLast_subset _ hy)) i hi with h5 | ⟨y, hy, h6, h7, h8⟩
      · exact .inl (h2.trans h5)
      · obtain ⟨j, _, hj⟩ := keptW_index (List.dropLast_subset _ hy)
        exact .inr ⟨j, y, hj.1, hj.2.1, hj.2.2, h6, h7, h2.trans h8⟩
    · obtain ⟨j, _, hj⟩ := keptW_index hm
      have h9 := tearB_get h3
      exact .inr ⟨j, x, hj.1, hj.2.1, hj.2.2, h2, h9.1, h4.trans h9.2⟩
/-- A crash that keeps all, whole. -/
theorem keptW_all {ws : List (Nat × List UInt8)} {keep : Nat} (h : ∀ j, j < 64 → bset keep j = true) : ∀ k, k ≤ ws.length → k ≤ 64 → keptW ws keep k = ws.take k := by
  intro k
  induction k with
  | zero => intro _ _; rfl
  | succ k ih =>
    intro h1 h2
    simp only [keptW]
    rw [ih (by omega) (by omega), List.take_add_one, List.getElem?_eq_getElem (by omega)]
    simp only [Option.toList]
    rw [if_pos ⟨by omega, h k (by omega)⟩]
theorem keptW_none {ws : List (Nat × List UInt8)} {keep : Nat} (h : ∀ j, j < 64 → bset keep j = false) : ∀ k, keptW ws keep k = [] := by
  intro k
  induction k with
  | zero => rfl
  | succ k ih =>
    simp only [keptW]
    rw [ih]
    split
    · rw [if_neg (by rintro ⟨h1, h2⟩; rw [h k h1] at h2; cases h2)]; rfl
    · rfl
theorem crashS_all {s : List UInt8} {l : List (Nat × List UInt8)} : crashS s l (-1) = applyW s l := by
  unfold crashS
  split
  · rename_i h
    rw [List.getLast?_eq_none_iff.1 h]; rfl
  · rename_i x hx
    obtain ⟨ys, rfl⟩ := List.getLast?_eq_some_iff.1 hx
    rw [List.dropLast_concat, applyW_append]
    congr 1
end Go.Proofs.Ytbaohngnpgappaa
