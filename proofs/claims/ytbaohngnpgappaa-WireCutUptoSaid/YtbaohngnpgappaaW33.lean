/- What is read is written as these very bytes. -/
import Derived.Test.YtbaohngnpgappaaW32
set_option linter.unusedVariables false
set_option linter.unusedSimpArgs false
namespace Go.Proofs.Ytbaohngnpgappaa
open Go.RowKit
theorem next_back {L : List UInt8} {s : RS} (h : (nextR L s).2.e = 0) (ha : s.at_ ≤ L.length) : L.drop s.at_ = (nextR L s).1 :: L.drop (nextR L s).2.at_ ∧ (nextR L s).2.at_ = s.at_ + 1 ∧ (nextR L s).2.win = s.win ∧ s.at_ < L.length := by
  have h0 := nextR_e h
  rcases Nat.lt_or_ge s.at_ L.length with hl | hl
  · rw [nextR_on h0 (List.getElem?_eq_getElem hl)]
    exact ⟨List.drop_eq_getElem_cons hl, rfl, rfl, hl⟩
  · rw [nextR_end h0 hl] at h
    exact absurd h (show ¬ (10 : Int) = 0 by decide)
theorem cntR_back {L : List UInt8} : ∀ (f : Nat) (first : Bool) (n : Nat) (s : RS), (cntR L f first n s).2.e = 0 → s.at_ ≤ L.length → L.length + 1 ≤ f + s.at_ →
    ∃ (h : List UInt8) (x : UInt8), L.drop s.at_ = h ++ x :: L.drop (cntR L f first n s).2.at_ ∧ (∀ c ∈ h, 128 ≤ c.toNat) ∧ x.toNat < 128 ∧ (first = true → ∀ c q, h = c :: q → c.toNat ≠ 128) ∧ (cntR L f first n s).1 = cfold n (h ++ [x]) ∧ cfold n (h ++ [x]) ≤ 2147483647 ∧ (cntR L f first n s).2.at_ = s.at_ + h.length + 1 := by
  intro f
  induction f with
  | zero => intro first n s _ ha hf; omega
  | succ f ih =>
    intro first n s he ha hf
    rw [cntR] at he ⊢
    split at he
    · rename_i h0; exact absurd he h0
    · rename_i h0
      rw [if_neg h0]
      have h0 : (nextR L s).2.e = 0 := Classical.not_not.1 h0
      obtain ⟨n1, n2, n3, n4⟩ := next_back h0 ha
      split at he
      · exact absurd he (show ¬ (11 : Int) = 0 by decide)
      · rename_i h1
        rw [if_neg h1]
        split at he
        · rename_i h2
          rw [if_pos h2]
          refine ⟨[], (nextR L s).1, n1, by simp, h2, by simp, rfl, ?_, by rw [n2]; rfl⟩
          show n * 128 + (nextR L s).1.toNat % 128 ≤ 2147483647
          omega
        · rename_i h2
          rw [if_neg h2]
          obtain ⟨h, x, e1, e2, e3, _, e5, e6, e7⟩ := ih false _ (nextR L s).2 he (by rw [n2]; omega) (by rw [n2]; omega)
          refine ⟨(nextR L s).1 :: h, x, by rw [n1, e1]; rfl, ?_, e3, ?_, by rw [e5]; rfl, e6, by rw [e7, n2, List.length_cons]; omega⟩
          · intro c hc
            rcases List.mem_cons.1 hc with rfl | hc
            · omega
            · exact e2 c hc
          · intro hf1 c q hcq
            rw [← (List.cons.inj hcq).1]
            intro h128
            exact h1 (.inl ⟨hf1, h128⟩)
theorem hiB_canon : ∀ (m : Nat) (h : List UInt8), h.length = m → (∀ c ∈ h, 128 ≤ c.toNat) → (∀ c q, h = c :: q → c.toNat ≠ 128) → hiB (cval h) = h ∧ (h ≠ [] → 0 < cval h) := by
  intro m
  induction m with
  | zero =>
    intro h hl _ _
    have := List.eq_nil_of_length_eq_zero hl
    subst this
    exact ⟨hiB_zero, fun h => absurd rfl h⟩
  | succ m ih =>
    intro h0 hl h1 h2
    have hne : h0 ≠ [] := fun h => by rw [h] at hl; simp at hl
    obtain ⟨h, c, rfl⟩ : ∃ q0 x, h0 = q0 ++ [x] := ⟨_, _, (List.dropLast_concat_getLast hne).symm⟩
    have hc := h1 c (by simp)
    have hcl := c.toNat_lt
    obtain ⟨e1, e2⟩ := ih h (by simp at hl; exact hl) (fun y hy => h1 y (List.mem_append_left _ hy)) (fun y q hy => h2 y (q ++ [c]) (by rw [hy]; rfl))
    have hv : cval (h ++ [c]) = cval h * 128 + c.toNat % 128 := by
      unfold cval
      rw [List.foldl_append]; rfl
    have hp : 0 < cval (h ++ [c]) := by
      rw [hv]
      rcases h with _ | ⟨y, q⟩
      · have := h2 c [] rfl
        omega
      · have := e2 (by simp)
        omega
    refine ⟨?_, fun _ => hp⟩
    rw [hiB_pos hp, hv, show (cval h * 128 + c.toNat % 128) / 128 = cval h from by omega, e1, show (cval h * 128 + c.toNat % 128) % 128 + 128 = c.toNat from by omega, UInt8.ofNat_toNat]
theorem countR_back {L : List UInt8} {s : RS} (he : (countR L s).2.e = 0) (ha : s.at_ ≤ L.length) : L.drop s.at_ = countB (countR L s).1 ++ L.drop (countR L s).2.at_ ∧ (countR L s).2.at_ = s.at_ + (countB (countR L s).1).length ∧ (countR L s).1 ≤ 2147483647 := by
  obtain ⟨h, x, e1, e2, e3, e4, e5, e6, e7⟩ := cntR_back (L.length + 1) true 0 s he ha (by omega)
  have hx : countB (countR L s).1 = h ++ [x] := by
    have hc := (hiB_canon h.length h rfl e2 (e4 rfl)).1
    have hv : (countR L s).1 = cval h * 128 + x.toNat % 128 := by
      show (cntR L (L.length + 1) true 0 s).1 = _
      rw [e5]
      unfold cfold cval
      rw [List.foldl_append]; rfl
    rw [hv, countB, show (cval h * 128 + x.toNat % 128) / 128 = cval h from by omega, hc, show (cval h * 128 + x.toNat % 128) % 128 = x.toNat from by omega, UInt8.ofNat_toNat]
  rw [hx]
  refine ⟨by rw [e1, List.append_assoc]; rfl, ?_, ?_⟩
  · show (cntR L (L.length + 1) true 0 s).2.at_ = _
    rw [e7, List.length_append]; simp; omega
  · show (cntR L (L.length + 1) true 0 s).1 ≤ _
    rw [e5]; exact e6
theorem nextsR_back {L : List UInt8} : ∀ (k : Nat) (s : RS), (nextsR L k s).2.e = 0 → s.at_ ≤ L.length → (nextsR L k s).1.length = k ∧ L.drop s.at_ = (nextsR L k s).1 ++ L.drop (nextsR L k s).2.at_ ∧ (nextsR L k s).2.at_ = s.at_ + k := by
  intro k
  induction k with
  | zero => intro s _ _; exact ⟨rfl, rfl, rfl⟩
  | succ k ih =>
    intro s he ha
    rw [nextsR] at he ⊢
    simp only at he ⊢
    have h0 : (nextR L s).2.e = 0 := by
      by_cases h : (nextR L s).2.e = 0
      · exact h
      · rw [nextsR_err L k _ h] at he; exact he
    obtain ⟨n1, n2, n3, n4⟩ := next_back h0 ha
    obtain ⟨e1, e2, e3⟩ := ih (nextR L s).2 he (by rw [n2]; omega)
    exact ⟨by rw [List.length_cons, e1], by rw [n1, e2]; rfl, by rw [e3, n2]; omega⟩
theorem textR_back {L : List UInt8} {n : Nat} {s : RS} (he : (textR L n s).2.e = 0) : (textR L n s).1.length = n ∧ L.drop s.at_ = (textR L n s).1 ++ L.drop (textR L n s).2.at_ ∧ (textR L n s).2.at_ = s.at_ + n := by
  unfold textR at he ⊢
  by_cases h0 : s.e = 0
  · rw [if_pos h0] at he ⊢
    by_cases h1 : L.length < n + s.at_
    · rw [if_pos h1] at he
      exact absurd he (show ¬ (10 : Int) = 0 by decide)
    · rw [if_neg h1]
      simp only
      refine ⟨by rw [List.length_take, List.length_drop]; omega, ?_, trivial⟩
      rw [← List.drop_drop, List.take_append_drop]
  · rw [if_neg h0] at he
    exact absurd he h0
theorem num8_of {l : List UInt8} (hl : l.length = 8) : num8 (IntKind.i64.wrap (rdn l : Int)) = l := by
  rcases l with _ | ⟨b0, _ | ⟨b1, _ | ⟨b2, _ | ⟨b3, _ | ⟨b4, _ | ⟨b5, _ | ⟨b6, _ | ⟨b7, _ | ⟨b8, r⟩⟩⟩⟩⟩⟩⟩⟩⟩ <;> simp at hl
  have h0 := b0.toNat_lt
  have h1 := b1.toNat_lt
  have h2 := b2.toNat_lt
  have h3 := b3.toNat_lt
  have h4 := b4.toNat_lt
  have h5 := b5.toNat_lt
  have h6 := b6.toNat_lt
  have h7 := b7.toNat_lt
  have hv : (rdn [b0, b1, b2, b3, b4, b5, b6, b7] : Int) = (((((((b0.toNat : Int) * 256 + b1.toNat) * 256 + b2.toNat) * 256 + b3.toNat) * 256 + b4.toNat) * 256 + b5.toNat) * 256 + b6.toNat) * 256 + b7.toNat := by simp [rdn]
  have hn : ∃ n : Int, n = IntKind.i64.wrap (rdn [b0, b1, b2, b3, b4, b5, b6, b7] : Int) := ⟨_, rfl⟩
  obtain ⟨n, hn⟩ := hn
  rw [← hn]
  rw [hv, IntKind.wrap_i64] at hn
  show [byteOf (n / 2 ^ (56 - 8 * 0)), byteOf (n / 2 ^ (56 - 8 * 1)), byteOf (n / 2 ^ (56 - 8 * 2)), byteOf (n / 2 ^ (56 - 8 * 3)), byteOf (n / 2 ^ (56 - 8 * 4)), byteOf (n / 2 ^ (56 - 8 * 5)), byteOf (n / 2 ^ (56 - 8 * 6)), byteOf (n / 2 ^ (56 - 8 * 7))] = _
  simp only [Nat.mul_zero, Nat.sub_zero, Nat.reduceMul, Nat.reduceSub, Int.reducePow]
  rw [byteOf_is _ b0 (by omega), byteOf_is _ b1 (by omega), byteOf_is _ b2 (by omega), byteOf_is _ b3 (by omega), byteOf_is _ b4 (by omega), byteOf_is _ b5 (by omega), byteOf_is _ b6 (by omega), byteOf_is _ b7 (by omega)]
theorem i64_wrap (z : Int) : I64 (IntKind.i64.wrap z) := by
  rw [IntKind.wrap_i64]
  unfold I64
  omega
theorem items_back {L : List UInt8} {f : RS → It × RS} {w : Nat} {D : Nat} (hk : ∀ s, Kept L s (f s).2)
    (hf : ∀ s : RS, (f s).2.e = 0 → s.e = 0 → s.at_ ≤ L.length → s.win = w → (f s).1.ok = true ∧ (f s).1.fit ∧ (f s).1.deep ≤ D ∧ L.drop s.at_ = (f s).1.enc ++ L.drop (f s).2.at_ ∧ (f s).2.at_ = s.at_ + (f s).1.enc.length) :
    ∀ (n : Nat) (s : RS), (itemsR f n s).2.e = 0 → s.e = 0 → s.at_ ≤ L.length → s.win = w → (itemsR f n s).1.length = n ∧ It.oks (itemsR f n s).1 = true ∧ It.fits (itemsR f n s).1 ∧ It.deeps (itemsR f n s).1 ≤ D ∧ L.drop s.at_ = It.encs (itemsR f n s).1 ++ L.drop (itemsR f n s).2.at_ ∧ (itemsR f n s).2.at_ = s.at_ + (It.encs (itemsR f n s).1).length := by
  intro n
  induction n with
  | zero => intro s _ _ _ _; exact ⟨rfl, rfl, trivial, Nat.zero_le _, rfl, rfl⟩
  | succ n ih =>
    intro s he h0 ha hw
    rw [itemsR, if_pos h0] at he ⊢
    simp only at he ⊢
    have hfe : (f s).2.e = 0 := by
      by_cases h : (f s).2.e = 0
      · exact h
      · rw [items_err h] at he; exact he
    obtain ⟨e1, e2, e3, e4, e5⟩ := hf s hfe h0 ha hw
    obtain ⟨g1, g2, g3, g4, g5, g6⟩ := ih (f s).2 he hfe ((hk s).at2 ha) ((hk s).win.trans hw)
    refine ⟨by rw [List.length_cons, g1], by rw [It.oks, e1, g2]; rfl, ⟨e2, g3⟩, by rw [It.deeps]; omega, ?_, ?_⟩
    · rw [It.encs, List.append_assoc, ← g5, ← e4]
    · rw [It.encs, List.length_append, g6, e5, Nat.add_assoc]
/-- What is read is written as these very bytes. -/
theorem item_back {L : List UInt8} : ∀ (d : Nat) (s : RS), (itemR L d s).2.e = 0 → s.e = 0 → s.at_ ≤ L.length → s.win ≤ 40 → 41 ≤ d + s.win →
    (itemR L d s).1.ok = true ∧ (itemR L d s).1.fit ∧ (itemR L d s).1.deep ≤ 40 - s.win ∧ L.drop s.at_ = (itemR L d s).1.enc ++ L.drop (itemR L d s).2.at_ ∧ (itemR L d s).2.at_ = s.at_ + (itemR L d s).1.enc.length ∧ s.win < 40 := by
  intro d
  induction d with
  | zero => intro s _ _ _ hw hd; omega
  | succ d ih =>
    intro s he h0 ha hw hd
    obtain ⟨at_, win, e⟩ := s
    simp only at h0 ha hw hd
    subst h0
    have hne : (itemR L (d + 1) ⟨at_, win, 0⟩).2.e = 0 := he
    have hs : startR L ⟨at_, win, 0⟩ = ⟨at_, win, 0⟩ ∧ at_ < L.length := by
      unfold startR
      rcases Nat.lt_or_ge at_ L.length with hl | hl
      · refine ⟨?_, hl⟩
        by_cases h40 : win = 40
        · exfalso
          rw [itemR] at hne
          have h3 : startR L ⟨at_, win, 0⟩ = ⟨at_, win, 3⟩ := by unfold startR; rw [if_pos ⟨hl, h40, rfl⟩]
          rw [h3, nextR_off (show (3 : Int) ≠ 0 by decide)] at hne
          simp only at hne
          rw [if_pos (show (3 : Int) ≠ 0 by decide)] at hne
          exact absurd hne (show ¬ (3 : Int) = 0 by decide)
        · rw [if_neg (fun h => h40 h.2.1)]
      · exfalso
        rw [itemR] at hne
        have h3 : startR L ⟨at_, win, 0⟩ = ⟨at_, win, 0⟩ := by unfold startR; rw [if_neg (fun h => by have := h.1; simp only at this; omega)]
        rw [h3, nextR_end (s := ⟨at_, win, 0⟩) rfl hl] at hne
        simp only at hne
        rw [if_pos (show (10 : Int) ≠ 0 by decide)] at hne
        exact absurd hne (show ¬ (10 : Int) = 0 by decide)
    have hl := hs.2
    have h40 : win ≠ 40 := by
      intro h40
      rw [itemR] at hne
      have h3 : startR L ⟨at_, win, 0⟩ = ⟨at_, win, 3⟩ := by unfold startR; rw [if_pos ⟨hl, h40, rfl⟩]
      rw [h3] at hs
      have := congrArg RS.e hs.1
      exact absurd this (show ¬ (3 : Int) = 0 by decide)
    have hdc := List.drop_eq_getElem_cons hl
    obtain ⟨c, hc⟩ : ∃ c, c = L[at_] := ⟨_, rfl⟩
    rw [← hc] at hdc
    have hI := itemR_at (d := d) h40 hdc
    have hcl := c.toNat_lt
    have hbk : ∀ k : Nat, c.toNat = k → c = byteOf (k : Int) := fun k hk => (byteOf_is _ _ (by omega)).symm
    by_cases h1 : c.toNat = 1
    · rw [if_pos h1] at hI
      rw [hI] at he ⊢
      simp only at he ⊢
      obtain ⟨e1, e2, e3⟩ := nextsR_back 8 ⟨at_ + 1, win, 0⟩ he (by show at_ + 1 ≤ L.length; omega)
      generalize nextsR L 8 ⟨at_ + 1, win, 0⟩ = z at *
      have henc : (It.mk 1 (IntKind.i64.wrap (rdn z.1 : Int)) [] []).enc = c :: z.1 := by rw [It.enc, if_pos rfl, num8_of e1, hbk 1 h1]; rfl
      refine ⟨by simp [It.ok, It.oks, headOk], ⟨by unfold I64; omega, i64_wrap _, trivial⟩, by rw [It.deep, It.deeps]; omega, ?_, ?_, by omega⟩
      · rw [henc, hdc, List.cons_append]; exact congrArg _ e2
      · rw [henc, List.length_cons, e1, e3]
    · rw [if_neg h1] at hI
      by_cases h2 : c.toNat = 2
      · rw [if_pos h2] at hI
        rw [hI] at he ⊢
        simp only at he ⊢
        have hce : (countR L ⟨at_ + 1, win, 0⟩).2.e = 0 := by
          by_cases h : (countR L ⟨at_ + 1, win, 0⟩).2.e = 0
          · exact h
          · rw [text_err h] at he; exact he
        obtain ⟨e1, e2, e3⟩ := countR_back hce (by show at_ + 1 ≤ L.length; omega)
        generalize countR L ⟨at_ + 1, win, 0⟩ = y at *
        obtain ⟨f1, f2, f3⟩ := textR_back he
        generalize textR L y.1 y.2 = z at *
        have henc : (It.mk 2 0 z.1 []).enc = c :: (countB y.1 ++ z.1) := by rw [It.enc, if_neg (by decide), if_pos rfl, f1, hbk 2 h2]; rfl
        refine ⟨by simp [It.ok, It.oks, headOk], ⟨by unfold I64; omega, by unfold I64; omega, trivial⟩, by rw [It.deep, It.deeps]; omega, ?_, ?_, by omega⟩
        · rw [henc, hdc, List.cons_append, List.append_assoc, ← f2]; exact congrArg _ e1
        · rw [henc, List.length_cons, List.length_append, f1, f3, e2]; show at_ + 1 + _ + _ = _; omega
      · rw [if_neg h2] at hI
        by_cases h3 : c.toNat = 3
        · rw [if_pos h3] at hI
          rw [hI] at he ⊢
          simp only at he ⊢
          have hce : (countR L ⟨at_ + 1, win + 1, 0⟩).2.e = 0 := by
            by_cases h : (countR L ⟨at_ + 1, win + 1, 0⟩).2.e = 0
            · exact h
            · rw [items_err h] at he; exact he
          obtain ⟨e1, e2, e3⟩ := countR_back hce (by show at_ + 1 ≤ L.length; omega)
          have hkc := countR_kept L ⟨at_ + 1, win + 1, 0⟩
          generalize countR L ⟨at_ + 1, win + 1, 0⟩ = y at *
          obtain ⟨f1, f2, f3, f4, f5, f6⟩ := items_back (f := itemR L d) (w := win + 1) (D := 40 - (win + 1)) (itemR_kept L d) (fun s a1 a2 a3 a4 => by
            obtain ⟨b1, b2, b3, b4, b5, b6⟩ := ih s a1 a2 a3 (by omega) (by omega)
            exact ⟨b1, b2, by rw [a4] at b3; exact b3, b4, b5⟩) y.1 y.2 he hce (hkc.at2 (by show at_ + 1 ≤ L.length; omega)) hkc.win
          generalize itemsR (itemR L d) y.1 y.2 = z at *
          have henc : (It.mk 3 0 [] z.1).enc = c :: (countB y.1 ++ It.encs z.1) := by rw [It.enc, if_neg (by decide), if_neg (by decide), f1, hbk 3 h3]; rfl
          refine ⟨by rw [It.ok, f2]; simp [headOk], ⟨by unfold I64; omega, by unfold I64; omega, f3⟩, by rw [It.deep]; omega, ?_, ?_, by omega⟩
          · rw [henc, hdc, List.cons_append, List.append_assoc, ← f5]; exact congrArg _ e1
          · rw [henc, List.length_cons, List.length_append, f6, e2]; show at_ + 1 + _ + _ = _; omega
        · rw [if_neg h3] at hI
          rw [hI] at he
          exact absurd he (show ¬ (11 : Int) = 0 by decide)
theorem It.size_enc : ∀ x : It, x.ok = true → x.size ≤ x.enc.length := by
  refine It.ind fun k n s l ih hok => ?_
  have hok2 := hok
  rw [It.ok, Bool.and_eq_true] at hok2
  have h1 : It.sizes l ≤ (It.encs l).length := by
    have hol := hok2.2
    clear hok hok2
    induction l with
    | nil => exact Nat.le_refl _
    | cons x r ih2 =>
      rw [It.oks, Bool.and_eq_true] at hol
      rw [It.sizes, It.encs, List.length_append]
      have h3 := ih x List.mem_cons_self hol.1
      have h4 := ih2 (fun y hy => ih y (List.mem_cons_of_mem _ hy)) hol.2
      omega
  rw [It.size, It.enc, List.length_cons]
  rcases kind_of hok with ⟨rfl, rfl, rfl⟩ | ⟨rfl, rfl, rfl⟩ | ⟨rfl, rfl, rfl⟩
  · simp only [It.sizes]; omega
  · simp only [It.sizes]; omega
  · rw [if_neg (by decide), if_neg (by decide), List.length_append]; omega
theorem It.texts_enc : ∀ x : It, x.ok = true → x.enc.length < 34359738368 → x.texts := by
  refine It.ind fun k n s l ih hok hlen => ?_
  have hok2 := hok
  rw [It.ok, Bool.and_eq_true] at hok2
  rw [It.enc, List.length_cons] at hlen
  rw [It.texts]
  have key : (It.encs l).length < 34359738368 → It.textss l := by
    have hol := hok2.2
    clear hok hok2 hlen
    induction l with
    | nil => intro _; trivial
    | cons x r ih2 =>
      intro h
      rw [It.oks, Bool.and_eq_true] at hol
      rw [It.encs, List.length_append] at h
      exact ⟨ih x List.mem_cons_self hol.1 (by omega), ih2 (fun y hy => ih y (List.mem_cons_of_mem _ hy)) hol.2 (by omega)⟩
  rcases kind_of hok with ⟨rfl, rfl, rfl⟩ | ⟨rfl, rfl, rfl⟩ | ⟨rfl, rfl, rfl⟩
  · exact ⟨by simp, trivial⟩
  · rw [if_neg (by decide), if_pos rfl, List.length_append] at hlen
    exact ⟨by omega, trivial⟩
  · rw [if_neg (by decide), if_neg (by decide), List.length_append] at hlen
    exact ⟨by simp, key (by omega)⟩
end Go.Proofs.Ytbaohngnpgappaa
