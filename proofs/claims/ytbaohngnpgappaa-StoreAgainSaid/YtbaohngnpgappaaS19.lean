/- store's Open: what its walk leans on. -/
import Derived.Test.YtbaohngnpgappaaS18
set_option linter.unusedVariables false
set_option linter.unusedSimpArgs false
namespace Go.Proofs.Ytbaohngnpgappaa
open Go.RowKit
theorem mark_rdn (n : Nat) (h : n < 4294967296) : ((byteOf ((n : Int) / 16777216)).toNat * 16777216 + (byteOf ((n : Int) / 65536)).toNat * 65536 + (byteOf ((n : Int) / 256)).toNat * 256 + (byteOf (n : Int)).toNat) = n := by
  have h1 := rdn_be4 n h
  rw [be4_lit] at h1
  generalize byteOf ((n : Int) / 16777216) = y1 at h1 ⊢
  generalize byteOf ((n : Int) / 65536) = y2 at h1 ⊢
  generalize byteOf ((n : Int) / 256) = y3 at h1 ⊢
  generalize byteOf (n : Int) = y4 at h1 ⊢
  have h2 : rdn [y1, y2, y3, y4] = (((0 * 256 + y1.toNat) * 256 + y2.toNat) * 256 + y3.toNat) * 256 + y4.toNat := rfl
  rw [h2] at h1
  generalize y1.toNat = z1 at h1 ⊢
  generalize y2.toNat = z2 at h1 ⊢
  generalize y3.toNat = z3 at h1 ⊢
  generalize y4.toNat = z4 at h1 ⊢
  clear h h2
  rw [← h1]
  simp only [Nat.zero_mul, Nat.zero_add, Nat.add_mul, Nat.mul_assoc]
/-- What a record's item shows in memory. -/
theorem rec_cells {w : World} {F : Nat → Prop} {A : Option Addr} {c6 : Nat} {a b c d : Int} {tx : List UInt8} {es : List En} (h : Row ItK w F (.slice A 6 c6) [itNum a, itNum b, itNum c, itNum d, itText tx, itEns es]) :
    ∃ (b5 o5 : Nat) (A5 : Option Addr) (n5 c5 : Nat), A = some ⟨b5, o5, none⟩ ∧ F b5 ∧ 6 ≤ c6 ∧ c6 ≤ maxLen ∧ w.cell? ⟨b5, o5 + 1, none⟩ = some (.int .i64 a) ∧ w.cell? ⟨b5, o5 + 5, none⟩ = some (.int .i64 b) ∧ w.cell? ⟨b5, o5 + 9, none⟩ = some (.int .i64 c) ∧ w.cell? ⟨b5, o5 + 13, none⟩ = some (.int .i64 d) ∧ w.cell? ⟨b5, o5 + 18, none⟩ = some (.string ⟨tx.toArray⟩) ∧
      w.cell? ⟨b5, o5 + 20, none⟩ = some (.int .i64 3) ∧ w.cell? ⟨b5, o5 + 21, none⟩ = some (.int .i64 0) ∧ w.cell? ⟨b5, o5 + 22, none⟩ = some (.string ⟨#[]⟩) ∧ w.cell? ⟨b5, o5 + 23, none⟩ = some (.slice A5 n5 c5) ∧ ItV w F (.agg #[.int .i64 3, .int .i64 0, .string ⟨#[]⟩, .slice A5 n5 c5]) (itEns es) ∧ I64 a ∧ I64 b ∧ I64 c ∧ I64 d ∧ tx.length ≤ maxLen := by
  have hsz : ItK.sz = 4 := rfl
  have get : ∀ j (hj : j < 6), ∃ b5 o5 cs, A = some ⟨b5, o5, none⟩ ∧ F b5 ∧ 6 ≤ c6 ∧ c6 ≤ maxLen ∧ ItR w F ([itNum a, itNum b, itNum c, itNum d, itText tx, itEns es][j]'hj) cs ∧ ∀ i u, cs[i]? = some u → w.cell? ⟨b5, o5 + j * 4 + i, none⟩ = some u := by
    intro j hj
    obtain ⟨b5, o5, c', cs, he, h1, h2, h3, h4, h5⟩ := h.at_ j hj
    injection he with he _ hc
    subst hc
    exact ⟨b5, o5, cs, he, h3, h1, h2, h4, h5⟩
  obtain ⟨b5, o5, cs0, hA, hF, hc1, hc2, hr0, hc0⟩ := get 0 (by decide)
  have get2 : ∀ j (hj : j < 6), ∃ cs, ItR w F ([itNum a, itNum b, itNum c, itNum d, itText tx, itEns es][j]'hj) cs ∧ ∀ i u, cs[i]? = some u → w.cell? ⟨b5, o5 + j * 4 + i, none⟩ = some u := by
    intro j hj
    obtain ⟨b', o', cs, he, _, _, _, h4, h5⟩ := get j hj
    rw [hA] at he
    injection he with he
    injection he with e1 e2
    subst e1
    subst e2
    exact ⟨cs, h4, h5⟩
  obtain ⟨v0, rfl, _, f0⟩ := itR_row (show ItR w F (.mk 1 a [] []) cs0 from hr0)
  obtain ⟨cs1, hr1, hc1'⟩ := get2 1 (by decide)
  obtain ⟨v1, rfl, _, f1⟩ := itR_row (show ItR w F (.mk 1 b [] []) cs1 from hr1)
  obtain ⟨cs2, hr2, hc2'⟩ := get2 2 (by decide)
  obtain ⟨v2, rfl, _, f2⟩ := itR_row (show ItR w F (.mk 1 c [] []) cs2 from hr2)
  obtain ⟨cs3, hr3, hc3'⟩ := get2 3 (by decide)
  obtain ⟨v3, rfl, _, f3⟩ := itR_row (show ItR w F (.mk 1 d [] []) cs3 from hr3)
  obtain ⟨cs4, hr4, hc4'⟩ := get2 4 (by decide)
  obtain ⟨v4, rfl, _, f4⟩ := itR_row (show ItR w F (.mk 2 0 tx []) cs4 from hr4)
  obtain ⟨cs5, hr5, hc5'⟩ := get2 5 (by decide)
  have hr5' : ItR w F (itEns es) cs5 := hr5
  obtain ⟨v5, rfl, hrow5, f5⟩ := itR_row (show ItR w F (.mk 3 0 [] (es.map itEn)) cs5 from hr5)
  obtain ⟨A5, c5, rfl, _, _⟩ := hrow5.shape
  exact ⟨b5, o5, A5, _, c5, hA, hF, hc1, hc2, hc0 1 _ rfl, hc1' 1 _ rfl, hc2' 1 _ rfl, hc3' 1 _ rfl, hc4' 2 _ rfl, hc5' 0 _ rfl, hc5' 1 _ rfl, hc5' 2 _ rfl, hc5' 3 _ rfl, ⟨_, rfl, hr5'⟩, f0.2.1, f1.2.1, f2.2.1, f3.2.1, f4.2.2⟩
/-- What changes make of what is saved; each is small. -/
def Goes : Sv → List Ch → Sv → Prop
  | s, [], s' => s = s'
  | s, c :: r, s' => (itCh c).fit ∧ (itCh c).bulk ≤ 1048576 ∧ c.lim ∧ ∃ s1, nextS s c = some s1 ∧ s1.ok ∧ Goes s1 r s'
def logC (cs : List Ch) : List UInt8 := (cs.map recC).flatten
theorem logC_cons (c : Ch) (r : List Ch) : logC (c :: r) = recC c ++ logC r := by simp [logC]
theorem nat_or_add (M k a b : Nat) (hM : M = 2 ^ k) (hb : b < M) : a * M ||| b = a * M + b := by
  subst hM
  have := Nat.two_pow_add_eq_or_of_lt hb a
  rw [Nat.mul_comm]
  exact this.symm
theorem or_nat2 (a b : Nat) (ha : a < 4611686018427387904) (hb : b < 4611686018427387904) : bits .or .i64 (a : Int) (b : Int) = ((a ||| b : Nat) : Int) :=
  (bits_nat .i64 62 (by decide) (fun n h0 h1 => by rw [IntKind.wrap_i64]; omega) a b ha hb).2
theorem mark_ors {y1 y2 y3 y4 n : Nat} (h1 : y1 ≤ 255) (h2 : y2 ≤ 255) (h3 : y3 ≤ 255) (h4 : y4 ≤ 255) (hn : y1 * 16777216 + y2 * 65536 + y3 * 256 + y4 = n) :
    ∃ a1 a2 a3 e1 e2 : Nat, (IntKind.i64.wrap (y1 : Int) = (y1 : Int) ∧ IntKind.i64.wrap (y2 : Int) = (y2 : Int) ∧ IntKind.i64.wrap (y3 : Int) = (y3 : Int) ∧ IntKind.i64.wrap (y4 : Int) = (y4 : Int)) ∧
      IntKind.i64.wrap ((y1 : Int) * 16777216) = (a1 : Int) ∧ IntKind.i64.wrap ((y2 : Int) * 65536) = (a2 : Int) ∧ IntKind.i64.wrap ((y3 : Int) * 256) = (a3 : Int) ∧
      bits .or .i64 (a1 : Int) (a2 : Int) = (e1 : Int) ∧ bits .or .i64 (e1 : Int) (a3 : Int) = (e2 : Int) ∧ bits .or .i64 (e2 : Int) (y4 : Int) = (n : Int) := by
  have g1 : y1 * 16777216 ||| y2 * 65536 = (y1 * 256 + y2) * 65536 := by rw [nat_or_add 16777216 24 y1 (y2 * 65536) (by decide) (by omega)]; simp only [Nat.add_mul, Nat.mul_assoc, Nat.reduceMul]
  have g2 : (y1 * 256 + y2) * 65536 ||| y3 * 256 = (y1 * 65536 + y2 * 256 + y3) * 256 := by rw [nat_or_add 65536 16 _ (y3 * 256) (by decide) (by omega)]; simp only [Nat.add_mul, Nat.mul_assoc, Nat.reduceMul]
  have g3 : (y1 * 65536 + y2 * 256 + y3) * 256 ||| y4 = n := by rw [nat_or_add 256 8 _ y4 (by decide) (by omega)]; rw [← hn]; simp only [Nat.add_mul, Nat.mul_assoc, Nat.reduceMul]
  refine ⟨y1 * 16777216, y2 * 65536, y3 * 256, (y1 * 256 + y2) * 65536, (y1 * 65536 + y2 * 256 + y3) * 256, ⟨?_, ?_, ?_, ?_⟩, ?_, ?_, ?_, ?_, ?_, ?_⟩
  · rw [IntKind.wrap_i64]; omega
  · rw [IntKind.wrap_i64]; omega
  · rw [IntKind.wrap_i64]; omega
  · rw [IntKind.wrap_i64]; omega
  · rw [IntKind.wrap_i64]; omega
  · rw [IntKind.wrap_i64]; omega
  · rw [IntKind.wrap_i64]; omega
  · rw [or_nat2 _ _ (by omega) (by omega), g1]
  · rw [or_nat2 _ _ (by omega) (by omega), g2]
  · rw [or_nat2 _ _ (by omega) (by omega), g3]
theorem read_log {l p r : List UInt8} {a n : Nat} (h : (l.drop a).take n = p ++ r) (hn : a + n ≤ l.length) (hr : 0 < r.length) : readB l ((a + p.length : Nat) : Int) ((n : Int) - (p.length : Int)) = r := by
  have hl : n = p.length + r.length := by
    have h1 := congrArg List.length h
    rw [List.length_take, List.length_drop, List.length_append] at h1
    omega
  rw [show (n : Int) - (p.length : Int) = ((r.length : Nat) : Int) from by omega, readB_nat l (a + p.length) r.length hr, List.drop_take]
  have h2 : (l.drop a).drop p.length = l.drop (a + p.length) := by rw [List.drop_drop]
  rw [← h2, Nat.add_sub_cancel_left]
  have h3 := congrArg (List.drop p.length) h
  rw [List.drop_left' rfl, List.drop_take, hl, Nat.add_sub_cancel_left] at h3
  exact h3
end Go.Proofs.Ytbaohngnpgappaa
