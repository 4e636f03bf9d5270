/- Joined texts: D5, D6, E0, R0, R1, W0, W1, W2, W3. -/
import Derived.Test.YtbaohngnpgappaaM1
import Derived.Test.YtbaohngnpgappaaM0
import Derived.Laws.BitsLemmas
import Derived.Laws.Bits64
import Derived.Laws.OwnMore
import Derived.Test.YtbaohngnpgappaaRows
import Derived.ProofKit
import Derived.OpenShut
import Derived.ShutString
import Derived.ChangeOld
import Derived.SizedLaws
import Derived.Deep.Slices
import Derived.Deep.Cut
import Derived.Deep.CutRange
set_option linter.unusedVariables false
set_option linter.unusedSimpArgs false
namespace Go.Proofs.Ytbaohngnpgappaa
open Go.RowKit
def I64 (n : Int) : Prop := -9223372036854775808 ≤ n ∧ n ≤ 9223372036854775807
structure OpD where
  act : Int
  at_ : Int
  n : Int
  b : List UInt8
  keep : Nat
  tear : Int
def OpK : Kind OpD where
  sz := 6
  R := fun w F x cs => ∃ vb, cs = [.int .i64 x.act, .int .i64 x.at_, .int .i64 x.n, vb, .int .u64 (x.keep : Int), .int .i64 x.tear] ∧ Rb w F vb x.b ∧ I64 x.at_ ∧ I64 x.n ∧ x.keep < 18446744073709551616
  len := by rintro w F x cs ⟨vb, rfl, _⟩; rfl
  one := by
    rintro w F x cs ⟨vb, rfl, hb, _⟩ u hu
    obtain ⟨A, c, rfl, _⟩ := hb.shape
    simp at hu
    rcases hu with rfl | rfl | rfl | rfl | rfl | rfl <;> rfl
  mono := by rintro w F F' x cs h ⟨vb, rfl, hb, r⟩; exact ⟨vb, rfl, hb.mono h, r⟩
  bound := by rintro w F x cs ⟨vb, rfl, hb, r⟩; exact ⟨vb, rfl, hb.bound, r⟩
  move := by rintro w w' F x cs h ⟨vb, rfl, hb, r⟩; exact ⟨vb, rfl, hb.move h, r⟩
def fewB (l : List OpD) : Bool := decide (l.length ≤ 120) && l.all (fun o => decide (o.b.length ≤ 300))
set_option maxHeartbeats 1000000 in
theorem few_any {w : World} {F : Nat → Prop} {v : Value} {l : List OpD} (h : Row OpK w F v l) : Calls Try.prog 26 #[v] w (Told (.bool (fewB l)) w) := by
  obtain ⟨A, c, rfl, hc1, hc2⟩ := h.shape
  have hl63 : (l.length : Int) ≤ 9223372036854775807 := by simp only [maxLen] at hc2; omega
  have H := Lib.hid h
  clear h hc2
  by_cases hbig : (120 : Int) < l.length
  · have hf : Hid (fewB l = false) := (show fewB l = false from by unfold fewB; simp; omega)
    go_enter Try.func26, Try.ntmps26
    go_wp2_with fail
    go_ret
    exact (show Told _ _ _ _ from ⟨by rw [hf.out]; rfl, Fr.refl _ _⟩)
  · have hbig' : (l.length : Int) ≤ 120 := by omega
    clear hbig
    go_enter Try.func26, Try.ntmps26
    go_wp2_with fail
    go_loopw [10] (fun i wr => ∃ k : Nat, k ≤ l.length ∧ i = .int .i64 k ∧ Hid ((l.take k).all (fun o => decide (o.b.length ≤ 300)) = true ∧ Fr No w wr)) (fun i _ => l.length - (intOf i).toNat)
    case atStart => exact ⟨0, Nat.zero_le _, rfl, (show _ ∧ _ from ⟨rfl, Fr.refl _ _⟩)⟩
    case round =>
      obtain ⟨k, hk, rfl, HR⟩ := hrel
      by_cases hlt : k < l.length
      · obtain ⟨b, o, c', cs, he, _, _, hF, ⟨vb, hcs, hrb, _⟩, hcell⟩ := (H.out.fr (by decide) HR.out.2 (fun _ _ _ h => h)).at_ k hlt
        cases he
        obtain ⟨Ab, cb, hvb, hb1, hb2⟩ := hrb.shape
        subst hvb
        have hbl : (l[k].b.length : Int) ≤ 9223372036854775807 := by simp only [maxLen] at hb2; omega
        have c0 := hcell 0 _ (by rw [hcs]; rfl)
        have c1 := hcell 1 _ (by rw [hcs]; rfl)
        have c2 := hcell 2 _ (by rw [hcs]; rfl)
        have c3 := hcell 3 _ (by rw [hcs]; rfl)
        have c4 := hcell 4 _ (by rw [hcs]; rfl)
        have c5 := hcell 5 _ (by rw [hcs]; rfl)
        simp only [show OpK.sz = 6 from rfl, Nat.add_zero] at c0 c1 c2 c3 c4 c5
        clear hcell hcs hrb hb2
        by_cases hbl2 : (300 : Int) < l[k].b.length
        · have hf : Hid (fewB l = false) := (show fewB l = false from by
            unfold fewB
            rw [Bool.and_eq_false_iff]
            right
            rw [List.all_eq_false]
            exact ⟨l[k], List.getElem_mem hlt, by simp; omega⟩)
          go_wp2_with fail
          go_ret
          exact (show Told _ _ _ _ from ⟨by rw [hf.out]; rfl, HR.out.2.alloc _⟩)
        · have hbl3 : (l[k].b.length : Int) ≤ 300 := by omega
          clear hbl2
          have HR4 : Hid ((l.take (k + 1)).all (fun o => decide (o.b.length ≤ 300)) = true) := (show _ = true from by
            rw [List.take_add_one, List.all_append, HR.out.1, List.getElem?_eq_getElem hlt]; simp; omega)
          go_wp2_with fail
          go_roundw
          case rel => exact ⟨k + 1, by omega, by go_num, (show _ ∧ _ from ⟨HR4.out, HR.out.2.alloc _⟩)⟩
          case measure => simp [intOf]; omega
      · have hkl : k = l.length := by omega
        subst hkl
        have hf : Hid (fewB l = true) := (show fewB l = true from by
          have h1 := HR.out.1
          rw [List.take_of_length_le (Nat.le_refl _)] at h1
          unfold fewB
          rw [h1]; simp; omega)
        go_wp2_with fail
        go_ret
        exact (show Told _ _ _ _ from ⟨by rw [hf.out]; rfl, HR.out.2⟩)
end Go.Proofs.Ytbaohngnpgappaa
namespace Go.Proofs.Ytbaohngnpgappaa
open Go.RowKit
theorem readB_all {l : List UInt8} {size : Int} (h : l.length = clampI size) (hs : size ≤ 1048576) : readB l 0 size = l := by
  unfold clampI at h
  unfold readB
  split
  · exact (List.eq_nil_of_length_eq_zero (by omega)).symm
  · rw [List.take_of_length_le (by omega)]; rfl
theorem wraps_u64_64 (n : Int) (h₀ : 0 ≤ n) (h₁ : n < 2 ^ 64) : IntKind.u64.wrap n = n := by rw [IntKind.wrap_u64]; omega
/-- What the bits say. -/
theorem bset_test (keep k : Nat) (hk : k < 64) (hkeep : keep < 18446744073709551616) : bset keep k = keep.testBit k := by
  have h2 : 2 ^ k < 2 ^ 64 := Nat.pow_lt_pow_right (by decide) hk
  have h := (bits_nat .u64 64 (by decide) wraps_u64_64 keep (2 ^ k) (by omega) h2).1
  unfold bset
  have e : IntKind.u64.wrap (2 ^ k) = ((2 ^ k : Nat) : Int) := by rw [wraps_u64_64 _ (Int.le_of_lt (Int.pow_pos (by decide))) (by exact_mod_cast h2)]; simp
  rw [e, h]
  have hb : (keep &&& 2 ^ k).testBit k = keep.testBit k := by rw [Nat.testBit_and, Nat.testBit_two_pow_self, Bool.and_true]
  cases hk : keep.testBit k
  · have : keep &&& 2 ^ k = 0 := by
      apply Nat.eq_of_testBit_eq
      intro i
      rw [Nat.testBit_and, Nat.testBit_two_pow, Nat.zero_testBit]
      by_cases hi : k = i
      · subst hi; rw [hk]; rfl
      · simp [hi]
    rw [this]; rfl
  · have : keep &&& 2 ^ k ≠ 0 := by
      intro h0
      rw [h0, hk] at hb
      simp at hb
    have h3 : ((keep &&& 2 ^ k : Nat) : Int) ≠ 0 := by exact_mod_cast this
    simpa using this
theorem bit_shr (keep k : Nat) (hk : k < 64) (hkeep : keep < 18446744073709551616) : bits .and .u64 ((keep : Int) / 2 ^ k) 1 = ((bset keep k).toNat : Int) := by
  have hq : keep / 2 ^ k ≤ keep := Nat.div_le_self _ _
  have h := (bits_nat .u64 64 (by decide) wraps_u64_64 (keep / 2 ^ k) 1 (by omega) (by decide)).1
  have e : ((keep : Int) / 2 ^ k) = ((keep / 2 ^ k : Nat) : Int) := by simp
  rw [e, bset_test keep k hk hkeep]
  refine h.trans ?_
  rw [Nat.testBit_eq_decide_div_mod_eq, Nat.and_one_is_mod]
  rcases Nat.mod_two_eq_zero_or_one (keep / 2 ^ k) with h1 | h1 <;> rw [h1] <;> simp
theorem splice_cover {l b : List UInt8} {a : Nat} (h : a + b.length ≤ l.length) (i : Nat) (hi : i < l.length) : (splice l a b)[i]? = l[i]? ∨ (a ≤ i ∧ i - a < b.length ∧ (splice l a b)[i]? = b[i - a]?) := by
  rw [splice_get h]
  split
  · exact .inl rfl
  · split
    · exact .inr ⟨by omega, by omega, rfl⟩
    · exact .inl rfl
theorem applyW_cover {n : Nat} (ws : List (Nat × List UInt8)) : ∀ (s : List UInt8), s.length = n → (∀ x ∈ ws, x.1 + x.2.length ≤ n) → ∀ i, i < n → (applyW s ws)[i]? = s[i]? ∨ ∃ x ∈ ws, x.1 ≤ i ∧ i - x.1 < x.2.length ∧ (applyW s ws)[i]? = x.2[i - x.1]? := by
  induction ws with
  | nil => exact fun s _ _ i _ => .inl rfl
  | cons y r ih =>
    intro s hs h i hi
    have hl := length_splice s y.1 y.2 (by rw [hs]; exact h y List.mem_cons_self)
    rcases ih (splice s y.1 y.2) (by rw [hl, hs]) (fun x hx => h x (List.mem_cons_of_mem _ hx)) i hi with h1 | ⟨x, hx, h1⟩
    · rcases splice_cover (l := s) (b := y.2) (a := y.1) (by rw [hs]; exact h y List.mem_cons_self) i (by omega) with h2 | ⟨h2, h3, h4⟩
      · exact .inl (h1.trans h2)
      · exact .inr ⟨y, List.mem_cons_self, h2, h3, h1.trans h4⟩
    · exact .inr ⟨x, List.mem_cons_of_mem _ hx, h1⟩
theorem keptW_index {ws : List (Nat × List UInt8)} {keep : Nat} : ∀ {k : Nat} {x : Nat × List UInt8}, x ∈ keptW ws keep k → ∃ j, j < k ∧ ws[j]? = some x ∧ j < 64 ∧ bset keep j = true := by
  intro k
  induction k with
  | zero => intro x h; simp [keptW] at h
  | succ k ih =>
    intro x h
    rcases List.mem_append.1 h with h | h
    · obtain ⟨j, h1, h2⟩ := ih h
      exact ⟨j, by omega, h2⟩
    · split at h
      · rename_i y hy
        split at h
        · rename_i hb
          rw [List.mem_singleton.1 h]; exact ⟨k, by omega, hy, hb⟩
        · simp at h
      · simp at h
theorem tearB_get {tear : Int} {b : List UInt8} {j : Nat} (h : j < (tearB tear b).length) : j < b.length ∧ (tearB tear b)[j]? = b[j]? := by
  unfold tearB at h ⊢
  split
  · rename_i ht
    rw [if_pos ht, List.length_take] at h
    exact ⟨by omega, by rw [List.getElem?_take, if_pos (by omega)]⟩
  · rename_i ht
    rw [if_neg ht] at h
    exact ⟨h, rfl⟩
theorem tearB_len {tear : Int} {b : List UInt8} : (tearB tear b).length ≤ b.length := by
  unfold tearB
  split
  · rw [List.length_take]; omega
  · exact Nat.le_refl _
theorem crashS_length {s : List UInt8} {l : List (Nat × List UInt8)} {tear : Int} (h : ∀ x ∈ l, x.1 + x.2.length ≤ s.length) : (crashS s l tear).length = s.length := by
  unfold crashS
  split
  · rfl
  · rename_i x hx
    have hm := List.mem_of_getLast? hx
    have hl := applyW_length l.dropLast s (fun y hy => h y (List.dropLast_subset l hy))
    rw [length_splice _ _ _ (by rw [hl]; have := h x hm; have := tearB_len (tear := tear) (b := x.2); omega), hl]
/-- Behind a crash each byte is as it was, or some kept write's. -/
theorem crash_cover {s : List UInt8} {ws : List (Nat × List UInt8)} {keep : Nat} {tear : Int} (h : ∀ x ∈ ws, x.1 + x.2.length ≤ s.length) (i : Nat) (hi : i < s.length) :
    (crashS s (keptW ws keep ws.length) tear)[i]? = s[i]? ∨ ∃ j x, ws[j]? = some x ∧ j < 64 ∧ bset keep j = true ∧ x.1 ≤ i ∧ i - x.1 < x.2.length ∧ (crashS s (keptW ws keep ws.length) tear)[i]? = x.2[i - x.1]? := by
  have hk : ∀ x ∈ keptW ws keep ws.length, x.1 + x.2.length ≤ s.length := fun x hx => h x (keptW_mem hx)
  unfold crashS
  split
  · exact .inl rfl
  · rename_i x hx
    have hm := List.mem_of_getLast? hx
    have hl := applyW_length (keptW ws keep ws.length).dropLast s (fun y hy => hk y (List.dropLast_subset _ hy))
    have ht := tearB_len (tear := tear) (b := x.2)
    have hxl := hk x hm
    rcases splice_cover (l := applyW s (keptW ws keep ws.length).dropLast) (b := tearB tear x.2) (a := x.1) (by omega) i (by omega) with h2 | ⟨h2, h3, h4⟩
    · rcases applyW_cover (keptW ws keep ws.length).dropLast s rfl (fun y hy => hk y (List.dropLast_subset _ hy)) i hi with h5 | ⟨y, hy, h6, h7, h8⟩
      · exact .inl (h2.trans h5)
      · obtain ⟨j, _, hj⟩ := keptW_index (List.dropLast_subset _ hy)
        exact .inr ⟨j, y, hj.1, hj.2.1, hj.2.2, h6, h7, h2.trans h8⟩
    · obtain ⟨j, _, hj⟩ := keptW_index hm
      have h9 := tearB_get h3
      exact .inr ⟨j, x, hj.1, hj.2.1, hj.2.2, h2, h9.1, h4.trans h9.2⟩
/-- A crash that keeps all, whole. -/
theorem keptW_all {ws : List (Nat × List UInt8)} {keep : Nat} (h : ∀ j, j < 64 → bset keep j = true) : ∀ k, k ≤ ws.length → k ≤ 64 → keptW ws keep k = ws.take k := by
  intro k
  induction k with
  | zero => intro _ _; rfl
  | succ k ih =>
    intro h1 h2
    simp only [keptW]
    rw [ih (by omega) (by omega), List.take_add_one, List.getElem?_eq_getElem (by omega)]
    simp only [Option.toList]
    rw [if_pos ⟨by omega, h k (by omega)⟩]
theorem keptW_none {ws : List (Nat × List UInt8)} {keep : Nat} (h : ∀ j, j < 64 → bset keep j = false) : ∀ k, keptW ws keep k = [] := by
  intro k
  induction k with
  | zero => rfl
  | succ k ih =>
    simp only [keptW]
    rw [ih]
    split
    · rw [if_neg (by rintro ⟨h1, h2⟩; rw [h k h1] at h2; cases h2)]; rfl
    · rfl
theorem crashS_all {s : List UInt8} {l : List (Nat × List UInt8)} : crashS s l (-1) = applyW s l := by
  unfold crashS
  split
  · rename_i h
    rw [List.getLast?_eq_none_iff.1 h]; rfl
  · rename_i x hx
    obtain ⟨ys, rfl⟩ := List.getLast?_eq_some_iff.1 hx
    rw [List.dropLast_concat, applyW_append]
    congr 1
end Go.Proofs.Ytbaohngnpgappaa
namespace Go.Proofs.Ytbaohngnpgappaa
open Go.RowKit
/-- A write that waits: where, what. -/
def WaitK : Kind (Nat × List UInt8) where
  sz := 2
  R := fun w F x cs => ∃ vb, cs = [.int .i64 (x.1 : Int), vb] ∧ Rb w F vb x.2
  len := by rintro w F x cs ⟨vb, rfl, _⟩; rfl
  one := by
    rintro w F x cs ⟨vb, rfl, hb⟩ u hu
    obtain ⟨A, c, rfl, _⟩ := hb.shape
    simp at hu
    rcases hu with rfl | rfl <;> rfl
  mono := by rintro w F F' x cs h ⟨vb, rfl, hb⟩; exact ⟨vb, rfl, hb.mono h⟩
  bound := by rintro w F x cs ⟨vb, rfl, hb⟩; exact ⟨vb, rfl, hb.bound⟩
  move := by rintro w w' F x cs h ⟨vb, rfl, hb⟩; exact ⟨vb, rfl, hb.move h⟩
theorem Ow.set {w : World} {O : Nat → Prop} {e : TypeId} {sz n g c : Nat} {xs : List Value} (h : Ow w O e sz (.slice (some ⟨g, 0, none⟩) n c) n xs) (j : Nat) (u : Value) : Ow (w.setCell ⟨g, j, none⟩ u) O e sz (.slice (some ⟨g, 0, none⟩) n c) n (xs.set j u) :=
  ⟨(h.1.stored j u).1, h.2⟩
theorem byte_at {w : World} {F : Nat → Prop} {A : Option Addr} {m c : Nat} {l : List UInt8} {k : Nat} {x : UInt8} (h : Rb w F (.slice A m c) l) (hk : l[k]? = some x) : ∃ b o, A = some ⟨b, o, none⟩ ∧ m = l.length ∧ F b ∧ w.cell? ⟨b, o + k, none⟩ = some (.int .u8 (x.toNat : Int)) := by
  obtain ⟨hl, hx⟩ := List.getElem?_eq_some_iff.1 hk
  obtain ⟨b, o, c', he, _, _, hF, hc⟩ := h.at_ k hl
  cases he
  subst hx
  exact ⟨b, o, rfl, rfl, hF, hc⟩
theorem splice_step {L b : List UInt8} {a j : Nat} (h : a + b.length ≤ L.length) (hj : j < b.length) : (splice L a (b.take j)).set (a + j) (b[j]) = splice L a (b.take (j + 1)) := by
  apply List.ext_getElem?
  intro i
  have h1 : a + (b.take j).length ≤ L.length := by rw [List.length_take]; omega
  have h2 : a + (b.take (j + 1)).length ≤ L.length := by rw [List.length_take]; omega
  have hl := length_splice L a (b.take j) h1
  rw [splice_get h2, List.getElem?_set, splice_get h1]
  simp only [List.length_take, hl]
  by_cases e : a + j = i
  · subst e
    rw [if_pos rfl, if_pos (by omega), if_neg (by omega), if_pos (by omega), Nat.add_sub_cancel_left, List.getElem?_take, if_pos (by omega), List.getElem?_eq_getElem hj]
  · rw [if_neg e]
    by_cases c1 : i < a
    · rw [if_pos c1, if_pos c1]
    · rw [if_neg c1, if_neg c1]
      by_cases c2 : i < a + min j b.length
      · rw [if_pos c2, if_pos (by omega), List.getElem?_take, List.getElem?_take, if_pos (by omega), if_pos (by omega)]
      · rw [if_neg c2, if_neg (by omega)]
set_option maxHeartbeats 2000000 in
theorem done_any {w : World} {F1 F2 : Nat → Prop} {vb vl : Value} {s : List UInt8} {l : List (Nat × List UInt8)} (hb : Rb w F1 vb s) (hl : Row WaitK w F2 vl l) (hfit : ∀ x ∈ l, x.1 + x.2.length ≤ s.length) (hs : s.length ≤ 1048576) :
    Calls Try.prog 97 #[vb, vl] w (TellsB w (applyW s l)) := by
  obtain ⟨Ab, cb, rfl, hb1, hb2⟩ := hb.shape
  obtain ⟨Al, cl, rfl, hl1, hl2⟩ := hl.shape
  have hl63 : (l.length : Int) ≤ 9223372036854775807 := by simp only [maxLen] at hl2; omega
  obtain ⟨_, _, he, _, _, hnews⟩ := hb.news
  cases he
  have HL := Lib.hid (hl.bound (by decide))
  have HN := Lib.hid hnews
  have HF := Lib.hid hfit
  clear hb hl hfit hl2 hb2 hnews
  go_enter Try.func97, Try.ntmps97
  go_wp2_with (with_reducible refine halt_dst 11 rfl ?_)
  refine wpList_app (O := No) rfl (.const (.slice none 0 0)) (.tmp 10) 22 5 rfl _ 1 1 Try.underlying22 info5 rfl (by omega) (by omega) (.slice none 0 0) 0 [] rfl _ s.length _ rfl (Ow.nil _ _ _ _) (s.map enc8) (by simp) HN.out (one8 _) (by omega) ?_
  intro v6 w6 hown6 hfr6
  rw [List.nil_append, Nat.zero_add] at hown6
  have hf6 : Fr No w w6 := hfr6.mono (fun k _ h => by simp [Value.ownBlock] at h)
  have hown6 : Ow w6 (fun k => k = w.heap.size) 5 1 v6 s.length (s.map enc8) := hown6.mono fun k hk => by rcases hk with hk | hk; (simp [Value.ownBlock] at hk); exact hk
  obtain ⟨A6, c6, rfl, hc61, hc62⟩ := hown6.shape
  have HR0 : Hid (Ow w6 (fun k => k = w.heap.size) 5 1 (.slice A6 s.length c6) s.length ((applyW s (l.take 0)).map enc8) ∧ Fr No w w6) := (show _ ∧ _ from ⟨hown6, hf6⟩)
  clear hown6 hf6 hfr6 hc62
  go_wp2_with fail
  go_loopw [14] (fun i wr => ∃ k : Nat, k ≤ l.length ∧ i = .int .i64 k ∧ Hid (Ow wr (fun k => k = w.heap.size) 5 1 (.slice A6 s.length c6) s.length ((applyW s (l.take k)).map enc8) ∧ Fr No w wr)) (fun i _ => l.length - (intOf i).toNat)
  case atStart => exact ⟨0, Nat.zero_le _, rfl, HR0⟩
  case round =>
    obtain ⟨k, hk, rfl, HR⟩ := hrel
    by_cases hlt : k < l.length
    · obtain ⟨b, o, _, cs, he, _, _, _, ⟨vb, hcs, hrb⟩, hcell⟩ := (HL.out.fr (by decide) HR.out.2 (fun _ _ _ h => h)).at_ k hlt
      cases he
      obtain ⟨A1, c1, rfl, hb1', hb2'⟩ := hrb.shape
      have e0 := hcell 0 _ (by rw [hcs]; rfl)
      have e1 := hcell 1 _ (by rw [hcs]; rfl)
      simp only [show WaitK.sz = 2 from rfl, Nat.add_zero] at e0 e1
      have hfx := HF.out _ (List.getElem_mem hlt)
      obtain ⟨⟨xa, xb⟩, hx⟩ : ∃ x, x = l[k] := ⟨_, rfl⟩
      rw [← hx] at e0 e1 hcs hrb hb1' hfx
      dsimp only at e0 e1 hcs hrb hb1' hfx
      have HXK : Hid (l[k]? = some (xa, xb)) := (show _ = _ from by rw [hx]; exact List.getElem?_eq_getElem hlt)
      have hb63 : (xb.length : Int) ≤ 1048576 := by omega
      have hxa : (xa : Int) ≤ 1048576 := by omega
      have HRB := Lib.hid hrb
      clear hcell hcs hrb hb2' hx
      go_wp2_with fail
      have HI0 : Hid (Ow (wr.alloc (.cells #[.int .i64 (xa : Int), .slice A1 xb.length c1] 131 (0, 0))) (fun k => k = w.heap.size) 5 1 (.slice A6 s.length c6) s.length ((splice (applyW s (l.take k)) xa (xb.take 0)).map enc8) ∧ Fr (fun k => k = w.heap.size) (wr.alloc (.cells #[.int .i64 (xa : Int), .slice A1 xb.length c1] 131 (0, 0))) (wr.alloc (.cells #[.int .i64 (xa : Int), .slice A1 xb.length c1] 131 (0, 0)))) := (show _ ∧ _ from ⟨by rw [List.take_zero, splice_nil]; exact HR.out.1.fr ((Fr.refl No _).alloc _) (fun _ _ _ h => h), Fr.refl _ _⟩)
      obtain ⟨wA, hwA⟩ : ∃ wA, Hid (wA = wr.alloc (.cells #[.int .i64 (xa : Int), .slice A1 xb.length c1] 131 (0, 0))) := ⟨_, rfl⟩
      have f0 : wA.cell? ⟨wr.heap.size, 0, none⟩ = some (.int .i64 (xa : Int)) := by rw [hwA.out]; exact blk_cell (blk_new wr _) 0
      have hgt : Hid (0 < s.length → wr.heap.size ≠ w.heap.size) := (show 0 < s.length → wr.heap.size ≠ w.heap.size from fun h0 => by
        obtain ⟨g, _, _, _, hg, hblk, _⟩ := HR.out.1.form h0
        have := heap_lt hblk
        omega)
      have HRB2 : Hid (Rb wA (fun k => F2 k ∧ k < w.heap.size) (.slice A1 xb.length c1) xb) := (show Rb _ _ _ _ from by rw [hwA.out]; exact HRB.out.fr ((Fr.refl No _).alloc _) (fun _ _ _ h => h))
      have HFA : Hid (Fr No w wA) := (show Fr No w wA from by rw [hwA.out]; exact HR.out.2.alloc _)
      obtain ⟨S, hS⟩ : ∃ S, Hid (S = applyW s (l.take k)) := ⟨_, rfl⟩
      have hSl : Hid (S.length = s.length) := (show _ = _ from by rw [hS.out]; exact applyW_length _ _ (fun x hx => HF.out x (List.mem_of_mem_take hx)))
      rw [← hwA.out, ← hS.out] at HI0
      rw [← hwA.out]
      go_loopw [21] (fun i wx => ∃ j : Nat, j ≤ xb.length ∧ i = .int .i64 j ∧ Hid (Ow wx (fun k => k = w.heap.size) 5 1 (.slice A6 s.length c6) s.length ((splice S xa (xb.take j)).map enc8) ∧ Fr (fun k => k = w.heap.size) wA wx)) (fun i _ => xb.length - (intOf i).toNat)
      case atStart => exact ⟨0, Nat.zero_le _, rfl, HI0⟩
      case round =>
        obtain ⟨j, hj, rfl, HJ⟩ := hrel
        by_cases hjt : j < xb.length
        · obtain ⟨y, hy⟩ : ∃ y, Hid (xb[j]? = some y) := ⟨_, List.getElem?_eq_getElem hjt⟩
          obtain ⟨b2, o2, he2, _, hF2, hyc⟩ := byte_at (HRB2.out.fr HJ.out.2 (fun k _ h1 h2 => by omega)) hy.out
          subst he2
          obtain ⟨g, c7, cur, he3, hg, hblk, _, _, hcs7, _⟩ := HJ.out.1.form (by omega)
          cases he3
          subst hg
          have f1 := HJ.out.2.cell f0 (hgt.out (by omega))
          have hcur : xa + j < cur.size := by omega
          obtain ⟨old, g1⟩ : ∃ old, wr.cell? ⟨w.heap.size, xa + j, none⟩ = some old := ⟨cur[xa + j], by rw [blk_cell hblk, Array.getElem?_eq_getElem hcur]⟩
          have g2 : wr.frozen? ⟨w.heap.size, xa + j, none⟩ = false := blk_free hblk _
          have HJ2 : Hid (Ow (wr.setCell ⟨w.heap.size, xa + j, none⟩ (.int .u8 (y.toNat : Int))) (fun k => k = w.heap.size) 5 1 (.slice (some ⟨w.heap.size, 0, none⟩) s.length c6) s.length ((splice S xa (xb.take (j + 1))).map enc8) ∧ Fr (fun k => k = w.heap.size) wA (wr.setCell ⟨w.heap.size, xa + j, none⟩ (.int .u8 (y.toNat : Int)))) := by
            refine (show _ ∧ _ from ⟨?_, HJ.out.2.setCell _ _ (fun _ => rfl)⟩)
            have h1 := HJ.out.1.set (xa + j) (enc8 y)
            rw [← List.map_set] at h1
            have h2 := splice_step (L := S) (b := xb) (a := xa) (j := j) (by rw [hSl.out]; exact hfx) hjt
            have h3 : xb[j] = y := by have := hy.out; rw [List.getElem?_eq_getElem hjt] at this; exact Option.some.inj this
            rw [h3] at h2
            rw [← h2]
            exact h1
          have g3 := y.toNat_lt
          clear hblk hcs7 hcur
          go_wp2_with fail
          go_roundw
          case rel => exact ⟨j + 1, by omega, by go_num, HJ2⟩
          case measure => simp [intOf]; omega
        · have hjl : j = xb.length := by omega
          subst hjl
          clear hjt
          have HR2 : Hid (Ow wr (fun k => k = w.heap.size) 5 1 (.slice A6 s.length c6) s.length ((applyW s (l.take (k + 1))).map enc8) ∧ Fr No w wr) := by
            refine (show _ ∧ _ from ⟨?_, HFA.out.news HJ.out.2 (fun k hk => by omega)⟩)
            rw [applyW_snoc _ _ _ _ HXK.out, ← hS.out]
            have h1 := HJ.out.1
            rw [List.take_of_length_le (Nat.le_refl _)] at h1
            exact h1
          go_wp2_with fail
          go_roundw
          case rel => exact ⟨k + 1, by omega, by go_num, HR2⟩
          case measure => simp [intOf]; omega
    · have hkl : k = l.length := by omega
      subst hkl
      clear hlt
      go_wp2_with fail
      go_ret
      have h1 := HR.out.1
      rw [List.take_of_length_le (Nat.le_refl _)] at h1
      have hlen := applyW_length l s HF.out
      refine (show TellsB _ _ _ _ from ⟨_, rfl, ?_, HR.out.2⟩)
      rw [hlen]
      exact h1.mono fun k hk => Nat.le_of_eq hk.symm
end Go.Proofs.Ytbaohngnpgappaa
namespace Go.Proofs.Ytbaohngnpgappaa
open Go.ChangeShapes Go.WideShapes Go.ChangeAt Go.RowKit
theorem laidOut : laidOutB Try.prog = true := by kernel_rfl
theorem ownKnobNone : ownKnob Try.prog.godebug = none := by kernel_rfl
/-- What the kit's reading of a slice of integers says. -/
def ArgRow (k : IntKind) (w : World) (a : Option Addr) (len cap : Nat) (zs : List Int) : Prop :=
  (a = none ∧ len = 0 ∧ cap = 0 ∧ zs = []) ∨
  ∃ x, a = some x ∧ len ≤ cap ∧ cap ≤ maxLen ∧ zs.length = cap ∧ (∀ i, i < zs.length → w.cell? (x.add i) = some (.int k (zs.getD i 0))) ∧ ∀ n ∈ zs, (Lit.int k n).wf = true
theorem addr_plain {w : World} {x : Addr} {v : Value} (h : w.cell? (x.add 0) = some v) : ∃ b o, x = ⟨b, o, none⟩ := by
  obtain ⟨b, o, s⟩ := x
  cases s with
  | none => exact ⟨b, o, rfl⟩
  | some s =>
    simp [Addr.add, World.cell?] at h
    split at h
    · simp at h
    · cases h
theorem rb_arg {w : World} {a : Option Addr} {len cap : Nat} {zs : List Int} (h : ArgRow .u8 w a len cap zs) : ∃ l : List UInt8, l.length = len ∧ Rb w (fun k => k < w.heap.size) (.slice a len cap) l := by
  rcases h with ⟨rfl, rfl, rfl, rfl⟩ | ⟨x, rfl, h1, h2, h3, h4, h5⟩
  · exact ⟨[], rfl, Rds.nil _ _ _ _ _ (Nat.zero_le _)⟩
  · have hl : ((zs.take len).map fun n => UInt8.ofNat n.toNat).length = len := by rw [List.length_map, List.length_take]; omega
    refine ⟨(zs.take len).map fun n => UInt8.ofNat n.toNat, hl, some x, cap, by rw [hl], by omega, h2, fun j u hj => ?_⟩
    rw [List.getElem?_map, List.getElem?_take] at hj
    split at hj
    · rename_i hjl
      have hjz : j < zs.length := by omega
      rw [List.getElem?_eq_getElem hjz] at hj
      have hu : u = UInt8.ofNat zs[j].toNat := (Option.some.inj hj).symm
      obtain ⟨b, o, rfl⟩ := addr_plain (h4 0 (by omega))
      have hc := h4 j hjz
      rw [add_none] at hc
      refine ⟨b, o, rfl, World.block_lt_of_cell? w _ hc, ?_⟩
      rw [hc, hu]
      have hw := h5 zs[j] (List.getElem_mem hjz)
      have hr := bounds_u8 hw
      have e : zs.getD j 0 = zs[j] := by simp [List.getD_eq_getElem?_getD, List.getElem?_eq_getElem hjz]
      rw [e]
      unfold enc8
      congr 2
      rw [UInt8.toNat_ofNat']
      omega
    · cases hj
end Go.Proofs.Ytbaohngnpgappaa
namespace Go.Proofs.Ytbaohngnpgappaa
open Go.ChangeShapes Go.WideShapes Go.ChangeAt Go.RowKit
section
variable {H : Type} {enc : TypeId × Value → H} {W : World} {spare : Nat → Bool} {held : Bool}
/-- What of type e is read as data is told by the kind. -/
def Opens {α : Type} (enc : TypeId × Value → H) (W : World) (spare : Nat → Bool) (held : Bool) (K : Kind α) (e : TypeId) : Prop :=
  ∀ (fuel : Nat) (cs : List Value) (x : DataW H × List MemPlace), DataW.trod enc Try.prog W 0 spare held fuel e cs = some x → ∃ a, K.R W (fun k => k < W.heap.size) a cs
theorem cells_at {w : World} {b : Nat} {a : Addr} {n : Nat} {cs : List Value} (h : w.cells? b a n = some cs) : cs.length = n ∧ ∀ i u, cs[i]? = some u → w.cell? (a.add i) = some u := by
  unfold World.cells? at h
  split at h
  · have h1 := mapM_some_length h
    have hl : cs.length = n := by simpa using h1
    refine ⟨hl, fun i u hu => ?_⟩
    have hi : i < n := by rw [← hl]; exact (List.getElem?_eq_some_iff.1 hu).1
    have h2 := mapM_some_get h i i (by simp [hi])
    rw [h2, hu]
  · cases h
theorem plain_at {w : World} {x : Addr} {i : Nat} {v : Value} (h : w.cell? (x.add i) = some v) (h0 : i = 0) : ∃ b o, x = ⟨b, o, none⟩ := by subst h0; exact addr_plain h
theorem row_arg {α : Type} {K : Kind α} {t e : TypeId} {fuel : Nat} {cs : List Value} {x : DataW H × List MemPlace} (ht : Try.prog.underlying t = some (.slice e)) (hsz : Try.prog.cellsOf e = K.sz) (hK : 0 < K.sz) (ho : Opens enc W spare held K e)
    (h : DataW.trod enc Try.prog W 0 spare held fuel t cs = some x) : ∃ v l, cs = [v] ∧ Row K W (fun k => k < W.heap.size) v l := by
  rcases Deep.open_slice ht h with ⟨rfl, _⟩ | ⟨a, len, cap, m, n, D, Pl, rfl, _, h1, h2, hm, _, hel⟩
  · exact ⟨_, [], rfl, Row.nil _ _ _ _ _ (Nat.zero_le _)⟩
  · have hle : len ≤ m := by rw [hm]; split <;> omega
    have key : ∀ j, j < len → ∃ x cs', K.R W (fun k => k < W.heap.size) x cs' ∧ ∀ i u, cs'[i]? = some u → W.cell? ((a.add (j * K.sz)).add i) = some u := by
      intro j hj
      obtain ⟨cs', h3, h4⟩ := hel j (by omega)
      obtain ⟨y, hy⟩ := ho _ _ _ h4
      rw [hsz] at h3
      exact ⟨y, cs', hy, (cells_at h3).2⟩
    suffices hs : ∀ k, k ≤ len → ∃ l : List α, l.length = k ∧ ∀ j x, l[j]? = some x → ∃ cs', K.R W (fun k => k < W.heap.size) x cs' ∧ ∀ i u, cs'[i]? = some u → W.cell? ((a.add (j * K.sz)).add i) = some u by
      obtain ⟨l, hl, hx⟩ := hs len (Nat.le_refl _)
      refine ⟨_, l, rfl, some a, cap, by rw [hl], by omega, h2, fun j y hj => ?_⟩
      have hj2 := (List.getElem?_eq_some_iff.1 hj).1
      obtain ⟨y0, hy0⟩ : ∃ y0, l[0]? = some y0 := ⟨_, List.getElem?_eq_getElem (by omega)⟩
      obtain ⟨cs0, hr0, hc0⟩ := hx 0 y0 hy0
      have hl0 := K.len hr0
      have hc00 := hc0 0 _ (List.getElem?_eq_getElem (by omega))
      rw [Nat.zero_mul, Deep.add_add, Nat.zero_add] at hc00
      obtain ⟨b, o, rfl⟩ := addr_plain hc00
      obtain ⟨cs', hr, hc⟩ := hx j y hj
      refine ⟨b, o, cs', rfl, ?_, hr, fun i u hu => ?_⟩
      · rw [add_none] at hc00
        exact World.block_lt_of_cell? W _ hc00
      · have := hc i u hu
        rw [Deep.add_add, add_none] at this
        rw [Nat.add_assoc]
        exact this
    intro k
    induction k with
    | zero => intro _; exact ⟨[], rfl, fun j x h => by simp at h⟩
    | succ k ih =>
      intro hk
      obtain ⟨l, hl, hx⟩ := ih (by omega)
      obtain ⟨y, cs', hr, hc⟩ := key k (by omega)
      refine ⟨l ++ [y], by rw [List.length_append, hl]; rfl, fun j z hj => ?_⟩
      rcases Nat.lt_or_ge j k with h3 | h3
      · rw [List.getElem?_append_left (by omega)] at hj
        exact hx j z hj
      · have : j = k := by have := (List.getElem?_eq_some_iff.1 hj).1; simp at this; omega
        subst this
        rw [List.getElem?_append_right (by omega), hl, Nat.sub_self] at hj
        cases hj
        exact ⟨cs', hr, hc⟩
theorem bytes_arg {t e : TypeId} {fuel : Nat} {cs : List Value} {x : DataW H × List MemPlace} (ht : Try.prog.underlying t = some (.slice e)) (he : Try.prog.underlying e = some (.int .u8)) (hc : Try.prog.cellsOf e = 1)
    (h : DataW.trod enc Try.prog W 0 spare held fuel t cs = some x) (hspare : spare = fun _ => true) : ∃ v l, cs = [v] ∧ Rb W (fun k => k < W.heap.size) v l := by
  subst hspare
  rcases open_ints ht he hc h with ⟨rfl, _⟩ | ⟨a, l, c, zs, rfl, _, hl, hm, hz, _, hcell, hwz⟩
  · exact ⟨_, [], rfl, Rds.nil _ _ _ _ _ (Nat.zero_le _)⟩
  · obtain ⟨l', _, hr⟩ := rb_arg (w := W) (a := some a) (len := l) (cap := c) (zs := zs) (.inr ⟨_, rfl, hl, hm, by simpa using hz, hcell, hwz⟩)
    exact ⟨_, l', rfl, hr⟩
theorem six {cs : List Value} (h : cs.length = 6) : ∃ u0 u1 u2 u3 u4 u5, cs = [u0, u1, u2, u3, u4, u5] := by
  rcases cs with _ | ⟨a, _ | ⟨b, _ | ⟨c, _ | ⟨d, _ | ⟨e, _ | ⟨f, _ | ⟨g, r⟩⟩⟩⟩⟩⟩⟩ <;> simp at h
  exact ⟨_, _, _, _, _, _, rfl⟩
theorem opens_op : Opens enc W (fun _ => true) held OpK 38 := by
  intro fuel cs x h
  obtain ⟨xs, n, _, _, hl, hxl, hf⟩ := DataW.trod_struct Try.underlying38 h
  rw [show Try.prog.cellsOf 38 = 6 from by kernel_rfl] at hl
  replace hxl : xs.length = 6 := hxl
  have c3 : Try.prog.cellsOf 3 = 1 := by kernel_rfl
  have c22 : Try.prog.cellsOf 22 = 1 := by kernel_rfl
  have c36 : Try.prog.cellsOf 36 = 1 := by kernel_rfl
  obtain ⟨u0, u1, u2, u3, u4, u5, rfl⟩ := six hl
  have f0 : DataW.trod enc Try.prog W 0 (fun _ => true) held n 3 (([u0, u1, u2, u3, u4, u5].drop 0).take (Try.prog.cellsOf 3)) = xs[0]? := hf 0 _ rfl
  have f1 : DataW.trod enc Try.prog W 0 (fun _ => true) held n 3 (([u0, u1, u2, u3, u4, u5].drop 1).take (Try.prog.cellsOf 3)) = xs[1]? := hf 1 _ rfl
  have f2 : DataW.trod enc Try.prog W 0 (fun _ => true) held n 3 (([u0, u1, u2, u3, u4, u5].drop 2).take (Try.prog.cellsOf 3)) = xs[2]? := hf 2 _ rfl
  have f3 : DataW.trod enc Try.prog W 0 (fun _ => true) held n 22 (([u0, u1, u2, u3, u4, u5].drop 3).take (Try.prog.cellsOf 22)) = xs[3]? := hf 3 _ rfl
  have f4 : DataW.trod enc Try.prog W 0 (fun _ => true) held n 36 (([u0, u1, u2, u3, u4, u5].drop 4).take (Try.prog.cellsOf 36)) = xs[4]? := hf 4 _ rfl
  have f5 : DataW.trod enc Try.prog W 0 (fun _ => true) held n 3 (([u0, u1, u2, u3, u4, u5].drop 5).take (Try.prog.cellsOf 3)) = xs[5]? := hf 5 _ rfl
  simp only [c3, c22, c36, List.drop, List.take] at f0 f1 f2 f3 f4 f5
  rw [List.getElem?_eq_getElem (by omega)] at f0 f1 f2 f3 f4 f5
  obtain ⟨n0, e0, _, w0⟩ := DataW.trod_int Try.underlying3 f0
  obtain ⟨n1, e1, _, w1⟩ := DataW.trod_int Try.underlying3 f1
  obtain ⟨n2, e2, _, w2⟩ := DataW.trod_int Try.underlying3 f2
  obtain ⟨v, l, e3, hb⟩ := bytes_arg Try.underlying22 Try.underlying5 (by kernel_rfl) f3 rfl
  obtain ⟨n4, e4, _, w4⟩ := DataW.trod_int Try.underlying36 f4
  obtain ⟨n5, e5, _, w5⟩ := DataW.trod_int Try.underlying3 f5
  cases e0; cases e1; cases e2; cases e3; cases e4; cases e5
  have b4 := bounds_u64 w4
  refine ⟨⟨n0, n1, n2, l, n4.toNat, n5⟩, u3, ?_, hb, bounds_i64 w1, bounds_i64 w2, by simp only; omega⟩
  simp only
  rw [show ((n4.toNat : Nat) : Int) = n4 from by omega]
end
end Go.Proofs.Ytbaohngnpgappaa
namespace Go.Proofs.Ytbaohngnpgappaa
open Go.RowKit
inductive It where
  | mk (k n : Int) (s : List UInt8) (l : List It)
namespace It
def k : It → Int | mk a _ _ _ => a
def n : It → Int | mk _ a _ _ => a
def s : It → List UInt8 | mk _ _ a _ => a
def l : It → List It | mk _ _ _ a => a
end It
/-- What is said of each item of a tree is shown from what is said of its lists' items. -/
theorem It.ind {p : It → Prop} (h : ∀ k n s l, (∀ x ∈ l, p x) → p (.mk k n s l)) : ∀ v, p v := by
  intro v
  exact It.rec (motive_1 := p) (motive_2 := fun l => ∀ x ∈ l, p x) (fun k n s l ih => h k n s l ih) (fun x hx => by cases hx) (fun a r ha hr x hx => by
    rcases List.mem_cons.1 hx with rfl | hx
    · exact ha
    · exact hr x hx) v
/-- What any value is in a Go int64 and a Go string. -/
def Fits (k n : Int) (s : List UInt8) : Prop := I64 k ∧ I64 n ∧ s.length ≤ maxLen
def str (s : List UInt8) : Value := .string ⟨s.toArray⟩
mutual
def ItR (w : World) (F : Nat → Prop) : It → List Value → Prop
  | .mk k n s l, cs => ∃ A c, cs = [.int .i64 k, .int .i64 n, str s, .slice A l.length c] ∧ l.length ≤ c ∧ c ≤ maxLen ∧ Fits k n s ∧ ItsR w F A l 0
def ItsR (w : World) (F : Nat → Prop) (A : Option Addr) : List It → Nat → Prop
  | [], _ => True
  | x :: r, j => (∃ b o cs, A = some ⟨b, o, none⟩ ∧ F b ∧ ItR w F x cs ∧ ∀ i u, cs[i]? = some u → w.cell? ⟨b, o + j * 4 + i, none⟩ = some u) ∧ ItsR w F A r (j + 1)
end
theorem itsR_iff {w : World} {F : Nat → Prop} {A : Option Addr} : ∀ {l : List It} {m : Nat}, ItsR w F A l m ↔ ∀ j x, l[j]? = some x → ∃ b o cs, A = some ⟨b, o, none⟩ ∧ F b ∧ ItR w F x cs ∧ ∀ i u, cs[i]? = some u → w.cell? ⟨b, o + (m + j) * 4 + i, none⟩ = some u := by
  intro l
  induction l with
  | nil => intro m; simp [ItsR]
  | cons x r ih =>
    intro m
    rw [ItsR, ih]
    constructor
    · rintro ⟨h1, h2⟩ j y hj
      rcases j with _ | j
      · cases hj; exact h1
      · rw [show m + (j + 1) = m + 1 + j from by omega]
        exact h2 j y hj
    · intro h
      refine ⟨h 0 x rfl, fun j y hj => ?_⟩
      rw [show m + 1 + j = m + (j + 1) from by omega]
      exact h (j + 1) y hj
theorem itR_iff {w : World} {F : Nat → Prop} {k n : Int} {s : List UInt8} {l : List It} {cs : List Value} : ItR w F (.mk k n s l) cs ↔ ∃ A c, cs = [.int .i64 k, .int .i64 n, str s, .slice A l.length c] ∧ l.length ≤ c ∧ c ≤ maxLen ∧ Fits k n s ∧
    ∀ j x, l[j]? = some x → ∃ b o cs, A = some ⟨b, o, none⟩ ∧ F b ∧ ItR w F x cs ∧ ∀ i u, cs[i]? = some u → w.cell? ⟨b, o + j * 4 + i, none⟩ = some u := by
  rw [ItR]
  simp only [itsR_iff, Nat.zero_add]
theorem itR_len {w : World} {F : Nat → Prop} {v : It} {cs : List Value} (h : ItR w F v cs) : cs.length = 4 := by
  obtain ⟨k, n, s, l⟩ := v
  obtain ⟨A, c, rfl, _⟩ := itR_iff.1 h
  rfl
theorem itR_one {w : World} {F : Nat → Prop} {v : It} {cs : List Value} (h : ItR w F v cs) : ∀ u ∈ cs, u.oneCell' = true := by
  obtain ⟨k, n, s, l⟩ := v
  obtain ⟨A, c, rfl, _⟩ := itR_iff.1 h
  intro u hu
  simp [str] at hu
  rcases hu with rfl | rfl | rfl | rfl <;> rfl
theorem itR_mono {w : World} {F F' : Nat → Prop} (hf : ∀ k, F k → F' k) : ∀ (v : It) (cs : List Value), ItR w F v cs → ItR w F' v cs := by
  refine It.ind fun k n s l ih cs h => ?_
  obtain ⟨A, c, rfl, h1, h2, hf2, h3⟩ := itR_iff.1 h
  refine itR_iff.2 ⟨A, c, rfl, h1, h2, hf2, fun j x hj => ?_⟩
  obtain ⟨b, o, cs, hA, hb, hr, hc⟩ := h3 j x hj
  exact ⟨b, o, cs, hA, hf b hb, ih x (List.mem_of_getElem? hj) cs hr, hc⟩
theorem itR_bound {w : World} {F : Nat → Prop} : ∀ (v : It) (cs : List Value), ItR w F v cs → ItR w (fun k => F k ∧ k < w.heap.size) v cs := by
  refine It.ind fun k n s l ih cs h => ?_
  obtain ⟨A, c, rfl, h1, h2, hf2, h3⟩ := itR_iff.1 h
  refine itR_iff.2 ⟨A, c, rfl, h1, h2, hf2, fun j x hj => ?_⟩
  obtain ⟨b, o, cs, hA, hb, hr, hc⟩ := h3 j x hj
  have hl := itR_len hr
  exact ⟨b, o, cs, hA, ⟨hb, World.block_lt_of_cell? w _ (hc 0 _ (List.getElem?_eq_getElem (by omega)))⟩, ih x (List.mem_of_getElem? hj) cs hr, hc⟩
theorem cell_move {w w' : World} {b : Nat} (h : w'.heap[b]? = w.heap[b]?) (i : Nat) : w'.cell? ⟨b, i, none⟩ = w.cell? ⟨b, i, none⟩ := by simp [World.cell?, h]
theorem itR_move {w w' : World} {F : Nat → Prop} (hm : ∀ k, F k → k < w.heap.size → w'.heap[k]? = w.heap[k]?) : ∀ (v : It) (cs : List Value), ItR w F v cs → ItR w' F v cs := by
  refine It.ind fun k n s l ih cs h => ?_
  obtain ⟨A, c, rfl, h1, h2, hf2, h3⟩ := itR_iff.1 h
  refine itR_iff.2 ⟨A, c, rfl, h1, h2, hf2, fun j x hj => ?_⟩
  obtain ⟨b, o, cs, hA, hb, hr, hc⟩ := h3 j x hj
  have hl := itR_len hr
  have hlt := World.block_lt_of_cell? w _ (hc 0 _ (List.getElem?_eq_getElem (by omega)))
  exact ⟨b, o, cs, hA, hb, ih x (List.mem_of_getElem? hj) cs hr, fun i u hu => by rw [cell_move (hm b hb hlt)]; exact hc i u hu⟩
def ItK : Kind It where
  sz := 4
  R := ItR
  len := itR_len
  one := itR_one
  mono := fun hf h => itR_mono hf _ _ h
  bound := fun h => itR_bound _ _ h
  move := fun hm h => itR_move hm _ _ h
theorem itR_row {w : World} {F : Nat → Prop} {k n : Int} {s : List UInt8} {l : List It} {cs : List Value} (h : ItR w F (.mk k n s l) cs) : ∃ vl, cs = [.int .i64 k, .int .i64 n, str s, vl] ∧ Row ItK w F vl l ∧ Fits k n s := by
  obtain ⟨A, c, rfl, h1, h2, hf2, h3⟩ := itR_iff.1 h
  exact ⟨_, rfl, ⟨A, c, rfl, h1, h2, h3⟩, hf2⟩
theorem itR_of_row {w : World} {F : Nat → Prop} {k n : Int} {s : List UInt8} {l : List It} {vl : Value} (h : Row ItK w F vl l) (hf2 : Fits k n s) : ItR w F (.mk k n s l) [.int .i64 k, .int .i64 n, str s, vl] := by
  obtain ⟨A, c, rfl, h1, h2, h3⟩ := h
  exact itR_iff.2 ⟨A, c, rfl, h1, h2, hf2, h3⟩
/-! ### what an item is -/
mutual
def It.size : It → Nat
  | .mk _ _ _ l => 1 + It.sizes l
def It.sizes : List It → Nat
  | [] => 0
  | x :: r => It.size x + It.sizes r
end
mutual
def It.deep : It → Nat
  | .mk _ _ _ l => It.deeps l + 1
def It.deeps : List It → Nat
  | [] => 0
  | x :: r => max (It.deep x) (It.deeps r)
end
def headOk (k n : Int) (s : List UInt8) (l : List It) : Bool := decide (1 ≤ k ∧ k ≤ 3 ∧ (k = 1 ∨ n = 0) ∧ (k = 2 ∨ s = []) ∧ (k = 3 ∨ l = []))
mutual
def It.ok : It → Bool
  | .mk k n s l => headOk k n s l && It.oks l
def It.oks : List It → Bool
  | [] => true
  | x :: r => It.ok x && It.oks r
end
theorem It.sizes_mem {x : It} : ∀ {l : List It}, x ∈ l → x.size ≤ It.sizes l := by
  intro l
  induction l with
  | nil => intro h; cases h
  | cons y r ih =>
    intro h
    rw [It.sizes]
    rcases List.mem_cons.1 h with rfl | h
    · omega
    · have := ih h; omega
theorem It.size_pos (v : It) : 1 ≤ v.size := by cases v; rw [It.size]; omega
theorem It.sizes_app (a b : List It) : It.sizes (a ++ b) = It.sizes a + It.sizes b := by
  induction a with
  | nil => simp [It.sizes]
  | cons x r ih => simp only [List.cons_append, It.sizes, ih]; omega
theorem It.deeps_app (a b : List It) : It.deeps (a ++ b) = max (It.deeps a) (It.deeps b) := by
  induction a with
  | nil => simp [It.deeps]
  | cons x r ih => simp only [List.cons_append, It.deeps, ih]; omega
theorem It.oks_app (a b : List It) : It.oks (a ++ b) = (It.oks a && It.oks b) := by
  induction a with
  | nil => simp [It.oks]
  | cons x r ih => simp only [List.cons_append, It.oks, ih, Bool.and_assoc]
theorem It.deep_size : ∀ v : It, v.deep ≤ v.size := by
  refine It.ind fun k n s l ih => ?_
  rw [It.deep, It.size]
  suffices h : It.deeps l ≤ It.sizes l by omega
  clear k n s
  induction l with
  | nil => exact Nat.le_refl _
  | cons x r ih2 =>
    rw [It.deeps, It.sizes]
    have h1 := ih x List.mem_cons_self
    have h2 := ih2 (fun y hy => ih y (List.mem_cons_of_mem _ hy))
    omega
theorem It.sizes_len : ∀ l : List It, l.length ≤ It.sizes l := by
  intro l
  induction l with
  | nil => exact Nat.le_refl _
  | cons x r ih => rw [It.sizes, List.length_cons]; have := It.size_pos x; omega
/-- An item as one value. -/
def ItV (w : World) (F : Nat → Prop) (v : Value) (x : It) : Prop := ∃ cs, v = .agg cs.toArray ∧ ItR w F x cs
end Go.Proofs.Ytbaohngnpgappaa
namespace Go.Proofs.Ytbaohngnpgappaa
open Go.RowKit
set_option maxHeartbeats 2000000 in
theorem look_any : ∀ (v : It) (w : World) (F : Nat → Prop) (vv : Value), ItV w F vv v → v.size ≤ 1048576 → Calls Try.prog 86 #[vv] w (Told (.tuple #[.int .i64 (v.deep : Int), .bool v.ok]) w) := by
  refine It.ind fun k n s l ih w F vv hv hsz => ?_
  obtain ⟨cs, rfl, hr⟩ := hv
  obtain ⟨vl, rfl, hrow, hfit⟩ := itR_row hr
  obtain ⟨A, c, rfl, hc1, hc2⟩ := hrow.shape
  rw [It.size] at hsz
  have hll := It.sizes_len l
  have hl2 : (l.length : Int) ≤ 1048576 := by omega
  have HSZ : Hid (It.sizes l ≤ 1048575) := (show It.sizes l ≤ 1048575 from by omega)
  have HR := Lib.hid hrow
  have IH := Lib.hid ih
  have hk1 := hfit.1.1
  have hk2 := hfit.1.2
  clear hr hrow hc2 hsz hll ih hfit
  unfold str
  go_enter Try.func86, Try.ntmps86
  go_upto_region 1 with fail
  go_cut [3] from 8 to 46 (fun o wx => o = .bool (headOk k n s l) ∧ wx = w.alloc (.cells #[.int .i64 k, .int .i64 n, .string ⟨s.toArray⟩, .slice A l.length c] 48 (0, 0)))
  case first =>
    have hll : (0 : Int) ≤ l.length := by omega
    by_cases k1 : k < 1
    · have k1' : ¬ (1 ≤ k) := by omega
      go_wp2_with fail
      go_meet
      exact ⟨congrArg Value.bool (by unfold headOk; simp; try omega), rfl⟩
    · have k1' : 1 ≤ k := by omega
      clear k1
      by_cases k3 : 3 < k
      · have k3' : ¬ (k ≤ 3) := by omega
        go_wp2_with fail
        go_meet
        exact ⟨congrArg Value.bool (by unfold headOk; simp; try omega), rfl⟩
      · have k3' : k ≤ 3 := by omega
        clear k3
        rcases (show k = 1 ∨ k = 2 ∨ k = 3 by omega) with rfl | rfl | rfl
        · clear k1' k3'
          rcases s with _ | ⟨a, s⟩
          · rcases l with _ | ⟨b, l⟩
            · go_wp2_with fail
              go_meet
              exact ⟨congrArg Value.bool (by unfold headOk; simp; try omega), rfl⟩
            · go_wp2_with fail
              go_meet
              exact ⟨congrArg Value.bool (by unfold headOk; simp; try omega), rfl⟩
          · go_wp2_with fail
            go_meet
            exact ⟨congrArg Value.bool (by unfold headOk; simp; try omega), rfl⟩
        · clear k1' k3'
          by_cases hn : n = 0
          · subst hn
            rcases l with _ | ⟨b, l⟩
            · go_wp2_with fail
              go_meet
              exact ⟨congrArg Value.bool (by unfold headOk; simp; try omega), rfl⟩
            · go_wp2_with fail
              go_meet
              exact ⟨congrArg Value.bool (by unfold headOk; simp; try omega), rfl⟩
          · go_wp2_with fail
            go_meet
            exact ⟨congrArg Value.bool (by unfold headOk; simp; try omega), rfl⟩
        · clear k1' k3'
          by_cases hn : n = 0
          · subst hn
            rcases s with _ | ⟨a, s⟩
            · go_wp2_with fail
              go_meet
              exact ⟨congrArg Value.bool (by unfold headOk; simp; try omega), rfl⟩
            · go_wp2_with fail
              go_meet
              exact ⟨congrArg Value.bool (by unfold headOk; simp; try omega), rfl⟩
          · go_wp2_with fail
            go_meet
            exact ⟨congrArg Value.bool (by unfold headOk; simp; try omega), rfl⟩
  case rest =>
    obtain ⟨rfl, rfl⟩ := hcut
    go_wp2_with fail
    go_loopw [2, 3, 50] (fun dd oo i wr => ∃ j : Nat, j ≤ l.length ∧ i = .int .i64 j ∧ dd = .int .i64 (It.deeps (l.take j) : Int) ∧ oo = .bool (headOk k n s l && It.oks (l.take j)) ∧ Hid (Fr No w wr)) (fun _ _ i _ => l.length - (intOf i).toNat)
    case atStart => exact ⟨0, Nat.zero_le _, rfl, rfl, by simp [It.oks], (show Fr No w _ from (Fr.refl _ _).alloc _)⟩
    case round =>
      obtain ⟨j, hj, rfl, rfl, rfl, HX⟩ := hrel
      by_cases hlt : j < l.length
      · obtain ⟨b, o, _, cs, he, _, _, _, hrx, hcell⟩ := (HR.out.fr (by decide) HX.out (fun _ _ _ h => h)).at_ j hlt
        cases he
        obtain ⟨x, hx⟩ : ∃ x, x = l[j] := ⟨_, rfl⟩
        have HXJ : Hid (l[j]? = some x) := (show _ = _ from by rw [hx]; exact List.getElem?_eq_getElem hlt)
        have hmem : Hid (x ∈ l) := (show x ∈ l from by rw [hx]; exact List.getElem_mem hlt)
        rw [← hx] at hrx
        have hsx := It.sizes_mem hmem.out
        have hd1 := It.deep_size x
        have hd2 : It.deeps (l.take j) ≤ 1048576 := by
          have h1 := It.sizes_app (l.take j) (l.drop j)
          rw [List.take_append_drop] at h1
          have h2 := It.deep_size (.mk 0 0 [] (l.take j))
          rw [It.deep, It.size] at h2
          have := HSZ.out
          omega
        have hxs : Hid (x.size ≤ 1048576) := (show x.size ≤ 1048576 from by have := HSZ.out; omega)
        have hxd : (x.deep : Int) ≤ 1048576 := by have := hxs.out; omega
        obtain ⟨xk, xn, xs, xl⟩ := x
        obtain ⟨vl, rfl, hrow, hfit⟩ := itR_row hrx
        obtain ⟨A2, c2, rfl, _, _⟩ := hrow.shape
        have c0 := hcell 0 _ rfl
        have c1 := hcell 1 _ rfl
        have c2' := hcell 2 _ rfl
        have c3 := hcell 3 _ rfl
        simp only [show ItK.sz = 4 from rfl, Nat.add_zero, str] at c0 c1 c2' c3
        have HRX := Lib.hid hrx
        obtain ⟨D, hD⟩ : ∃ D, Hid (D = (It.mk xk xn xs xl).deep) := ⟨_, rfl⟩
        obtain ⟨K, hK⟩ : ∃ K, Hid (K = (It.mk xk xn xs xl).ok) := ⟨_, rfl⟩
        obtain ⟨E, hE⟩ : ∃ E, Hid (E = It.deeps (l.take j)) := ⟨_, rfl⟩
        obtain ⟨G, hG⟩ : ∃ G, Hid (G = (headOk k n s l && It.oks (l.take j))) := ⟨_, rfl⟩
        have hD2 : (D : Int) ≤ 1048576 := by rw [hD.out]; exact hxd
        have hE2 : (E : Int) ≤ 1048576 := by rw [hE.out]; omega
        rw [← hE.out, ← hG.out]
        have hdeep : Hid (It.deeps (l.take (j + 1)) = max E D) := (show _ = _ from by rw [List.take_add_one, HXJ.out, It.deeps_app, ← hE.out]; simp [It.deeps, hD.out])
        have hoks : Hid ((headOk k n s l && It.oks (l.take (j + 1))) = (G && K)) := (show _ = _ from by rw [List.take_add_one, HXJ.out, It.oks_app, hG.out, hK.out, Bool.and_assoc]; simp [It.oks])
        clear hcell hrow hfit hrx hsx hd1 hd2 hxd hx
        go_wp2_with fail
        refine (IH.out _ hmem.out _ _ _ ⟨[.int .i64 xk, .int .i64 xn, .string ⟨xs.toArray⟩, .slice A2 xl.length c2], rfl, itR_move (fun k _ hl => Below.heap_alloc _ _ _ hl) _ _ HRX.out⟩ hxs.out).mono ?_
        rw [← hD.out, ← hK.out]
        rintro e w5 ⟨rfl, hf5⟩
        have HX2 : Hid (Fr No w w5) := (show Fr No w w5 from (HX.out.alloc _).then hf5)
        clear hf5 c0 c1 c2' c3
        cases G
        · go_wp2_with ((with_reducible refine at_dst 61 rfl ?_); refine wpList_max rfl (.tmp 59) (.tmp 60) _ rfl _ _ rfl rfl ?_)
          go_roundw
          case rel => exact ⟨j + 1, by omega, by go_num, by rw [hdeep.out]; congr 1; omega, by rw [hoks.out]; rfl, HX2⟩
          case measure => simp [intOf]; omega
        · go_wp2_with ((with_reducible refine at_dst 61 rfl ?_); refine wpList_max rfl (.tmp 59) (.tmp 60) _ rfl _ _ rfl rfl ?_)
          go_roundw
          case rel => exact ⟨j + 1, by omega, by go_num, by rw [hdeep.out]; congr 1; omega, by rw [hoks.out]; rfl, HX2⟩
          case measure => simp [intOf]; omega
      · have hjl : j = l.length := by omega
        subst hjl
        clear hlt
        simp only [List.take_length]
        have hd2 : (It.deeps l : Int) ≤ 1048576 := by
          have h2 := It.deep_size (.mk 0 0 [] l)
          rw [It.deep, It.size] at h2
          have := HSZ.out
          omega
        go_wp2_with fail
        go_ret2
        refine (show Told _ _ _ _ from ⟨?_, HX.out⟩)
        rw [It.deep, It.ok]
        simp
end Go.Proofs.Ytbaohngnpgappaa
namespace Go.Proofs.Ytbaohngnpgappaa
open Go.RowKit
set_option maxHeartbeats 1000000 in
theorem size_item : ∀ (v : It) (w : World) (F : Nat → Prop) (vv : Value), ItV w F vv v → v.size ≤ 1048576 → Calls Try.prog 51 #[vv] w (Told (.int .i64 (v.size : Int)) w) := by
  refine It.ind fun k n s l ih w F vv hv hsz => ?_
  obtain ⟨cs, rfl, hr⟩ := hv
  obtain ⟨vl, rfl, hrow, hfit⟩ := itR_row hr
  obtain ⟨A, c, rfl, hc1, hc2⟩ := hrow.shape
  rw [It.size] at hsz
  have hll := It.sizes_len l
  have hl2 : (l.length : Int) ≤ 1048576 := by omega
  have HSZ : Hid (It.sizes l ≤ 1048575) := (show It.sizes l ≤ 1048575 from by omega)
  have HR := Lib.hid hrow
  have IH := Lib.hid ih
  clear hr hrow hc2 hsz hll ih hfit
  unfold str
  go_enter Try.func51, Try.ntmps51
  go_wp2_with fail
  go_loopw [3, 9] (fun dd i wr => ∃ j : Nat, j ≤ l.length ∧ i = .int .i64 j ∧ dd = .int .i64 ((1 + It.sizes (l.take j) : Nat) : Int) ∧ Hid (Fr No w wr)) (fun _ i _ => l.length - (intOf i).toNat)
  case atStart => exact ⟨0, Nat.zero_le _, rfl, rfl, (show Fr No w _ from (Fr.refl _ _).alloc _)⟩
  case round =>
    obtain ⟨j, hj, rfl, rfl, HX⟩ := hrel
    by_cases hlt : j < l.length
    · have hd2 : It.sizes (l.take j) ≤ It.sizes l := by
        have h1 := It.sizes_app (l.take j) (l.drop j)
        rw [List.take_append_drop] at h1
        omega
      obtain ⟨b, o, _, cs, he, _, _, _, hrx, hcell⟩ := (HR.out.fr (by decide) HX.out (fun _ _ _ h => h)).at_ j hlt
      cases he
      obtain ⟨x, hx⟩ : ∃ x, x = l[j] := ⟨_, rfl⟩
      have HXJ : Hid (l[j]? = some x) := (show _ = _ from by rw [hx]; exact List.getElem?_eq_getElem hlt)
      have hmem : Hid (x ∈ l) := (show x ∈ l from by rw [hx]; exact List.getElem_mem hlt)
      rw [← hx] at hrx
      have hsx := It.sizes_mem hmem.out
      obtain ⟨xk, xn, xs, xl⟩ := x
      obtain ⟨vl, rfl, hrow, hfit⟩ := itR_row hrx
      obtain ⟨A2, c2, rfl, _, _⟩ := hrow.shape
      have c0 := hcell 0 _ rfl
      have c1 := hcell 1 _ rfl
      have c2' := hcell 2 _ rfl
      have c3 := hcell 3 _ rfl
      simp only [show ItK.sz = 4 from rfl, Nat.add_zero, str] at c0 c1 c2' c3
      have HRX := Lib.hid hrx
      clear hcell hrow hfit hrx hx
      have hxs : Hid ((It.mk xk xn xs xl).size ≤ 1048575) := (show _ ≤ _ from by have := HSZ.out; omega)
      obtain ⟨D, hD⟩ : ∃ D, Hid (D = (It.mk xk xn xs xl).size) := ⟨_, rfl⟩
      obtain ⟨E, hE⟩ : ∃ E, Hid (E = 1 + It.sizes (l.take j)) := ⟨_, rfl⟩
      have hD2 : (D : Int) ≤ 1048576 := by rw [hD.out]; have := hxs.out; omega
      have hE2 : (E : Int) ≤ 1048576 := by rw [hE.out]; have := HSZ.out; omega
      have hsum : Hid (1 + It.sizes (l.take (j + 1)) = E + D) := (show _ = _ from by rw [List.take_add_one, HXJ.out, It.sizes_app, hE.out, hD.out]; simp [It.sizes]; omega)
      rw [← hE.out]
      clear hsx hd2
      go_wp2_with fail
      refine (IH.out _ hmem.out _ _ _ ⟨[.int .i64 xk, .int .i64 xn, .string ⟨xs.toArray⟩, .slice A2 xl.length c2], rfl, itR_move (fun k _ hl => Below.heap_alloc _ _ _ hl) _ _ HRX.out⟩ (by have := hxs.out; omega)).mono ?_
      rw [← hD.out]
      rintro e w5 ⟨rfl, hf5⟩
      have HX2 : Hid (Fr No w w5) := (show Fr No w w5 from (HX.out.alloc _).then hf5)
      clear hf5 c0 c1 c2' c3
      go_wp2_with fail
      go_roundw
      case rel => exact ⟨j + 1, by omega, by go_num, by rw [hsum.out]; go_num, HX2⟩
      case measure => simp [intOf]; omega
    · have hjl : j = l.length := by omega
      subst hjl
      clear hlt
      go_wp2_with fail
      go_ret
      refine (show Told _ _ _ _ from ⟨?_, HX.out⟩)
      rw [It.size]
      simp
set_option maxHeartbeats 1000000 in
theorem refsize_item : ∀ (v : It) (w : World) (F : Nat → Prop) (vv : Value), ItV w F vv v → v.size ≤ 1048576 → Calls Try.prog 52 #[vv] w (Told (.int .i64 (v.size : Int)) w) := by
  refine It.ind fun k n s l ih w F vv hv hsz => ?_
  obtain ⟨cs, rfl, hr⟩ := hv
  obtain ⟨vl, rfl, hrow, hfit⟩ := itR_row hr
  obtain ⟨A, c, rfl, hc1, hc2⟩ := hrow.shape
  rw [It.size] at hsz
  have hll := It.sizes_len l
  have hl2 : (l.length : Int) ≤ 1048576 := by omega
  have HSZ : Hid (It.sizes l ≤ 1048575) := (show It.sizes l ≤ 1048575 from by omega)
  have HR := Lib.hid hrow
  have IH := Lib.hid ih
  clear hr hrow hc2 hsz hll ih hfit
  unfold str
  go_enter Try.func52, Try.ntmps52
  go_wp2_with fail
  go_loopw [3, 9] (fun dd i wr => ∃ j : Nat, j ≤ l.length ∧ i = .int .i64 j ∧ dd = .int .i64 ((1 + It.sizes (l.take j) : Nat) : Int) ∧ Hid (Fr No w wr)) (fun _ i _ => l.length - (intOf i).toNat)
  case atStart => exact ⟨0, Nat.zero_le _, rfl, rfl, (show Fr No w _ from (Fr.refl _ _).alloc _)⟩
  case round =>
    obtain ⟨j, hj, rfl, rfl, HX⟩ := hrel
    by_cases hlt : j < l.length
    · have hd2 : It.sizes (l.take j) ≤ It.sizes l := by
        have h1 := It.sizes_app (l.take j) (l.drop j)
        rw [List.take_append_drop] at h1
        omega
      obtain ⟨b, o, _, cs, he, _, _, _, hrx, hcell⟩ := (HR.out.fr (by decide) HX.out (fun _ _ _ h => h)).at_ j hlt
      cases he
      obtain ⟨x, hx⟩ : ∃ x, x = l[j] := ⟨_, rfl⟩
      have HXJ : Hid (l[j]? = some x) := (show _ = _ from by rw [hx]; exact List.getElem?_eq_getElem hlt)
      have hmem : Hid (x ∈ l) := (show x ∈ l from by rw [hx]; exact List.getElem_mem hlt)
      rw [← hx] at hrx
      have hsx := It.sizes_mem hmem.out
      obtain ⟨xk, xn, xs, xl⟩ := x
      obtain ⟨vl, rfl, hrow, hfit⟩ := itR_row hrx
      obtain ⟨A2, c2, rfl, _, _⟩ := hrow.shape
      have c0 := hcell 0 _ rfl
      have c1 := hcell 1 _ rfl
      have c2' := hcell 2 _ rfl
      have c3 := hcell 3 _ rfl
      simp only [show ItK.sz = 4 from rfl, Nat.add_zero, str] at c0 c1 c2' c3
      have HRX := Lib.hid hrx
      clear hcell hrow hfit hrx hx
      have hxs : Hid ((It.mk xk xn xs xl).size ≤ 1048575) := (show _ ≤ _ from by have := HSZ.out; omega)
      obtain ⟨D, hD⟩ : ∃ D, Hid (D = (It.mk xk xn xs xl).size) := ⟨_, rfl⟩
      obtain ⟨E, hE⟩ : ∃ E, Hid (E = 1 + It.sizes (l.take j)) := ⟨_, rfl⟩
      have hD2 : (D : Int) ≤ 1048576 := by rw [hD.out]; have := hxs.out; omega
      have hE2 : (E : Int) ≤ 1048576 := by rw [hE.out]; have := HSZ.out; omega
      have hsum : Hid (1 + It.sizes (l.take (j + 1)) = E + D) := (show _ = _ from by rw [List.take_add_one, HXJ.out, It.sizes_app, hE.out, hD.out]; simp [It.sizes]; omega)
      rw [← hE.out]
      clear hsx hd2
      go_wp2_with fail
      refine (IH.out _ hmem.out _ _ _ ⟨[.int .i64 xk, .int .i64 xn, .string ⟨xs.toArray⟩, .slice A2 xl.length c2], rfl, itR_move (fun k _ hl => Below.heap_alloc _ _ _ hl) _ _ HRX.out⟩ (by have := hxs.out; omega)).mono ?_
      rw [← hD.out]
      rintro e w5 ⟨rfl, hf5⟩
      have HX2 : Hid (Fr No w w5) := (show Fr No w w5 from (HX.out.alloc _).then hf5)
      clear hf5 c0 c1 c2' c3
      go_wp2_with fail
      go_roundw
      case rel => exact ⟨j + 1, by omega, by go_num, by rw [hsum.out]; go_num, HX2⟩
      case measure => simp [intOf]; omega
    · have hjl : j = l.length := by omega
      subst hjl
      clear hlt
      go_wp2_with fail
      go_ret
      refine (show Told _ _ _ _ from ⟨?_, HX.out⟩)
      rw [It.size]
      simp
set_option maxHeartbeats 1000000 in
theorem refdeep_any : ∀ (v : It) (w : World) (F : Nat → Prop) (vv : Value), ItV w F vv v → v.size ≤ 1048576 → Calls Try.prog 88 #[vv] w (Told (.int .i64 (v.deep : Int)) w) := by
  refine It.ind fun k n s l ih w F vv hv hsz => ?_
  obtain ⟨cs, rfl, hr⟩ := hv
  obtain ⟨vl, rfl, hrow, hfit⟩ := itR_row hr
  obtain ⟨A, c, rfl, hc1, hc2⟩ := hrow.shape
  rw [It.size] at hsz
  have hll := It.sizes_len l
  have hl2 : (l.length : Int) ≤ 1048576 := by omega
  have HSZ : Hid (It.sizes l ≤ 1048575) := (show It.sizes l ≤ 1048575 from by omega)
  have HR := Lib.hid hrow
  have IH := Lib.hid ih
  clear hr hrow hc2 hsz hll ih hfit
  unfold str
  go_enter Try.func88, Try.ntmps88
  go_wp2_with fail
  go_loopw [3, 9] (fun dd i wr => ∃ j : Nat, j ≤ l.length ∧ i = .int .i64 j ∧ dd = .int .i64 (It.deeps (l.take j) : Int) ∧ Hid (Fr No w wr)) (fun _ i _ => l.length - (intOf i).toNat)
  case atStart => exact ⟨0, Nat.zero_le _, rfl, rfl, (show Fr No w _ from (Fr.refl _ _).alloc _)⟩
  case round =>
    obtain ⟨j, hj, rfl, rfl, HX⟩ := hrel
    by_cases hlt : j < l.length
    · have hd2 : It.deeps (l.take j) ≤ 1048576 := by
        have h1 := It.sizes_app (l.take j) (l.drop j)
        rw [List.take_append_drop] at h1
        have h2 := It.deep_size (.mk 0 0 [] (l.take j))
        rw [It.deep, It.size] at h2
        have := HSZ.out
        omega
      obtain ⟨b, o, _, cs, he, _, _, _, hrx, hcell⟩ := (HR.out.fr (by decide) HX.out (fun _ _ _ h => h)).at_ j hlt
      cases he
      obtain ⟨x, hx⟩ : ∃ x, x = l[j] := ⟨_, rfl⟩
      have HXJ : Hid (l[j]? = some x) := (show _ = _ from by rw [hx]; exact List.getElem?_eq_getElem hlt)
      have hmem : Hid (x ∈ l) := (show x ∈ l from by rw [hx]; exact List.getElem_mem hlt)
      rw [← hx] at hrx
      have hsx := It.sizes_mem hmem.out
      obtain ⟨xk, xn, xs, xl⟩ := x
      obtain ⟨vl, rfl, hrow, hfit⟩ := itR_row hrx
      obtain ⟨A2, c2, rfl, _, _⟩ := hrow.shape
      have c0 := hcell 0 _ rfl
      have c1 := hcell 1 _ rfl
      have c2' := hcell 2 _ rfl
      have c3 := hcell 3 _ rfl
      simp only [show ItK.sz = 4 from rfl, Nat.add_zero, str] at c0 c1 c2' c3
      have HRX := Lib.hid hrx
      clear hcell hrow hfit hrx hx
      have hd1 := It.deep_size (.mk xk xn xs xl)
      have hxs : Hid ((It.mk xk xn xs xl).size ≤ 1048576) := (show _ ≤ _ from by have := HSZ.out; omega)
      obtain ⟨D, hD⟩ : ∃ D, Hid (D = (It.mk xk xn xs xl).deep) := ⟨_, rfl⟩
      obtain ⟨E, hE⟩ : ∃ E, Hid (E = It.deeps (l.take j)) := ⟨_, rfl⟩
      have hD2 : (D : Int) ≤ 1048576 := by rw [hD.out]; have := hxs.out; omega
      have hE2 : (E : Int) ≤ 1048576 := by rw [hE.out]; omega
      have hdeep : Hid (It.deeps (l.take (j + 1)) = max E D) := (show _ = _ from by rw [List.take_add_one, HXJ.out, It.deeps_app, ← hE.out]; simp [It.deeps, hD.out])
      rw [← hE.out]
      clear hsx hd2 hd1
      go_wp2_with fail
      refine (IH.out _ hmem.out _ _ _ ⟨[.int .i64 xk, .int .i64 xn, .string ⟨xs.toArray⟩, .slice A2 xl.length c2], rfl, itR_move (fun k _ hl => Below.heap_alloc _ _ _ hl) _ _ HRX.out⟩ hxs.out).mono ?_
      rw [← hD.out]
      rintro e w5 ⟨rfl, hf5⟩
      have HX2 : Hid (Fr No w w5) := (show Fr No w w5 from (HX.out.alloc _).then hf5)
      clear hf5 c0 c1 c2' c3
      go_wp2_with ((with_reducible refine at_dst 16 rfl ?_); refine wpList_max rfl (.tmp 13) (.tmp 15) _ rfl _ _ rfl rfl ?_)
      go_roundw
      case rel => exact ⟨j + 1, by omega, by go_num, by rw [hdeep.out]; congr 1; omega, HX2⟩
      case measure => simp [intOf]; omega
    · have hjl : j = l.length := by omega
      subst hjl
      clear hlt
      simp only [List.take_length]
      have hd2 : (It.deeps l : Int) ≤ 1048576 := by
        have h2 := It.deep_size (.mk 0 0 [] l)
        rw [It.deep, It.size] at h2
        have := HSZ.out
        omega
      go_wp2_with fail
      go_ret
      refine (show Told _ _ _ _ from ⟨?_, HX.out⟩)
      rw [It.deep]
      simp
def checkI (v : It) : Int := if v.ok then (if 40 < v.deep then 3 else 0) else 1
theorem check_any {v : It} {w : World} {F : Nat → Prop} {vv : Value} (hv : ItV w F vv v) (hsz : v.size ≤ 1048576) : Calls Try.prog 49 #[vv] w (Told (.int .i64 (checkI v)) w) := by
  obtain ⟨cs, rfl, hr⟩ := hv
  obtain ⟨k, n, s, l⟩ := v
  obtain ⟨vl, rfl, hrow, hfit⟩ := itR_row hr
  obtain ⟨A, c, rfl, hc1, hc2⟩ := hrow.shape
  have HR := Lib.hid hr
  clear hr hrow hc2 hfit
  have HS := Lib.hid hsz
  obtain ⟨D, hD⟩ : ∃ D, Hid (D = (It.mk k n s l).deep) := ⟨_, rfl⟩
  obtain ⟨K, hK⟩ : ∃ K, Hid (K = (It.mk k n s l).ok) := ⟨_, rfl⟩
  have hchk : Hid (checkI (.mk k n s l) = if K then (if 40 < D then 3 else 0) else 1) := (show _ = _ from by unfold checkI; rw [hD.out, hK.out])
  obtain ⟨C, hC⟩ : ∃ C, Hid (C = checkI (.mk k n s l)) := ⟨_, rfl⟩
  rw [← hC.out]
  clear hsz
  unfold str at *
  go_enter Try.func49, Try.ntmps49
  go_wp2_with fail
  refine (look_any (.mk k n s l) _ F _ ⟨[.int .i64 k, .int .i64 n, .string ⟨s.toArray⟩, .slice A l.length c], rfl, itR_move (fun k _ hl => Below.heap_alloc _ _ _ hl) _ _ HR.out⟩ HS.out).mono ?_
  rw [← hD.out, ← hK.out]
  rintro e w5 ⟨rfl, hf5⟩
  have HX2 : Hid (Fr No w w5) := (show Fr No w w5 from ((Fr.refl _ _).alloc _).then hf5)
  clear hf5
  cases K
  · go_wp2_with fail
    go_ret
    exact (show Told _ _ _ _ from ⟨by rw [hC.out, hchk.out]; rfl, HX2.out⟩)
  · by_cases h40 : (40 : Int) < D
    · have h40' : 40 < D := by omega
      go_wp2_with fail
      go_ret
      exact (show Told _ _ _ _ from ⟨by rw [hC.out, hchk.out]; simp [h40'], HX2.out⟩)
    · have h40' : ¬ 40 < D := by omega
      have h40'' : (D : Int) ≤ 40 := by omega
      clear h40
      go_wp2_with fail
      go_ret
      exact (show Told _ _ _ _ from ⟨by rw [hC.out, hchk.out]; simp [h40'], HX2.out⟩)
set_option maxHeartbeats 2000000 in
theorem may_any : ∀ (v : It) (w : World) (F : Nat → Prop) (vv : Value), ItV w F vv v → v.size ≤ 1048576 → Calls Try.prog 87 #[vv] w (Told (.bool v.ok) w) := by
  refine It.ind fun k n s l ih w F vv hv hsz => ?_
  obtain ⟨cs, rfl, hr⟩ := hv
  obtain ⟨vl, rfl, hrow, hfit⟩ := itR_row hr
  obtain ⟨A, c, rfl, hc1, hc2⟩ := hrow.shape
  rw [It.size] at hsz
  have hll := It.sizes_len l
  have hl2 : (l.length : Int) ≤ 1048576 := by omega
  have HSZ : Hid (It.sizes l ≤ 1048575) := (show It.sizes l ≤ 1048575 from by omega)
  have HR := Lib.hid hrow
  have IH := Lib.hid ih
  obtain ⟨C, hC⟩ : ∃ C, Hid (C = (It.mk k n s l).ok) := ⟨_, rfl⟩
  rw [← hC.out]
  clear hr hrow hc2 hsz hll ih hfit
  unfold str
  by_cases k1 : k = 1
  · subst k1
    have hoks : Hid (l = [] → It.oks l = true) := (show l = [] → It.oks l = true from fun h => by rw [h]; rfl)
    rcases s with _ | ⟨a, s⟩
    · rcases l with _ | ⟨b, l⟩
      · go_enter Try.func87, Try.ntmps87
        go_wp2_with fail
        go_ret
        exact (show Told _ _ _ _ from ⟨by rw [hC.out, It.ok]; unfold headOk; simp [It.oks]; try omega, ((Fr.refl _ w).alloc _)⟩)
      · go_enter Try.func87, Try.ntmps87
        have hl0 : (0 : Int) ≤ l.length := by omega
        go_wp2_with fail
        go_ret
        exact (show Told _ _ _ _ from ⟨by rw [hC.out, It.ok]; unfold headOk; simp [It.oks]; try omega, ((Fr.refl _ w).alloc _)⟩)
    · go_enter Try.func87, Try.ntmps87
      go_wp2_with fail
      go_ret
      exact (show Told _ _ _ _ from ⟨by rw [hC.out, It.ok]; unfold headOk; simp [It.oks]; try omega, ((Fr.refl _ w).alloc _)⟩)
  · by_cases k2 : k = 2
    · subst k2
      clear k1
      by_cases hn : n = 0
      · subst hn
        rcases l with _ | ⟨b, l⟩
        · go_enter Try.func87, Try.ntmps87
          go_wp2_with fail
          go_ret
          exact (show Told _ _ _ _ from ⟨by rw [hC.out, It.ok]; unfold headOk; simp [It.oks]; try omega, ((Fr.refl _ w).alloc _)⟩)
        · go_enter Try.func87, Try.ntmps87
          have hl0 : (0 : Int) ≤ l.length := by omega
          go_wp2_with fail
          go_ret
          exact (show Told _ _ _ _ from ⟨by rw [hC.out, It.ok]; unfold headOk; simp [It.oks]; try omega, ((Fr.refl _ w).alloc _)⟩)
      · go_enter Try.func87, Try.ntmps87
        go_wp2_with fail
        go_ret
        exact (show Told _ _ _ _ from ⟨by rw [hC.out, It.ok]; unfold headOk; simp [It.oks]; try omega, ((Fr.refl _ w).alloc _)⟩)
    · by_cases k3 : k = 3
      · subst k3
        clear k1 k2
        go_enter Try.func87, Try.ntmps87
        go_wp2_with fail
        go_loopw [34] (fun i wr => ∃ j : Nat, j ≤ l.length ∧ i = .int .i64 j ∧ Hid (It.oks (l.take j) = true ∧ Fr No w wr ∧ wr.heap[w.heap.size]? = some (.cells #[.int .i64 3, .int .i64 n, .string ⟨s.toArray⟩, .slice A l.length c] 48 (0, 0)))) (fun i _ => l.length - (intOf i).toNat)
        case atStart => exact ⟨0, Nat.zero_le _, rfl, (show _ ∧ _ from ⟨rfl, (Fr.refl _ _).alloc _, blk_new _ _⟩)⟩
        case round =>
          obtain ⟨j, hj, rfl, HX⟩ := hrel
          by_cases hlt : j < l.length
          · skip
            obtain ⟨b, o, _, cs, he, _, _, _, hrx, hcell⟩ := (HR.out.fr (by decide) HX.out.2.1 (fun _ _ _ h => h)).at_ j hlt
            cases he
            obtain ⟨x, hx⟩ : ∃ x, x = l[j] := ⟨_, rfl⟩
            have HXJ : Hid (l[j]? = some x) := (show _ = _ from by rw [hx]; exact List.getElem?_eq_getElem hlt)
            have hmem : Hid (x ∈ l) := (show x ∈ l from by rw [hx]; exact List.getElem_mem hlt)
            rw [← hx] at hrx
            have hsx := It.sizes_mem hmem.out
            obtain ⟨xk, xn, xs, xl⟩ := x
            obtain ⟨vl, rfl, hrow, hfit⟩ := itR_row hrx
            obtain ⟨A2, c2, rfl, _, _⟩ := hrow.shape
            have c0 := hcell 0 _ rfl
            have c1 := hcell 1 _ rfl
            have c2' := hcell 2 _ rfl
            have c3 := hcell 3 _ rfl
            simp only [show ItK.sz = 4 from rfl, Nat.add_zero, str] at c0 c1 c2' c3
            have HRX := Lib.hid hrx
            clear hcell hrow hfit hrx hx
            have hxs : Hid ((It.mk xk xn xs xl).size ≤ 1048576) := (show _ ≤ _ from by have := HSZ.out; omega)
            obtain ⟨K, hK⟩ : ∃ K, Hid (K = (It.mk xk xn xs xl).ok) := ⟨_, rfl⟩
            clear hsx
            go_wp2_with fail
            refine (IH.out _ hmem.out _ _ _ ⟨[.int .i64 xk, .int .i64 xn, .string ⟨xs.toArray⟩, .slice A2 xl.length c2], rfl, itR_move (fun k _ hl => Below.heap_alloc _ _ _ hl) _ _ HRX.out⟩ hxs.out).mono ?_
            rw [← hK.out]
            rintro e w5 ⟨rfl, hf5⟩
            have HX2 : Hid (Fr No w w5) := (show Fr No w w5 from (HX.out.2.1.alloc _).then hf5)
            have hb5 := hf5.heap (blk_alloc HX.out.2.2 (.cells #[.int .i64 xk, .int .i64 xn, .string ⟨xs.toArray⟩, .slice A2 xl.length c2] 48 (0, 0))) (fun h => h)
            have HB5 := Lib.hid hb5
            clear hf5 c0 c1 c2' c3 hb5
            cases K
            · go_wp2_with fail
              go_ret
              refine (show Told _ _ _ _ from ⟨?_, HX2.out⟩)
              have h1 : It.oks l = false := by
                have h2 := It.oks_app (l.take j) (l.drop j)
                rw [List.take_append_drop, List.drop_eq_getElem_cons hlt, It.oks] at h2
                have h3 : l[j] = .mk xk xn xs xl := by have := HXJ.out; rw [List.getElem?_eq_getElem hlt] at this; exact Option.some.inj this
                rw [h2, h3, ← hK.out]; simp
              rw [hC.out, It.ok, h1]; simp
            · have hoks : Hid (It.oks (l.take (j + 1)) = true) := (show _ = _ from by rw [List.take_add_one, HXJ.out, It.oks_app, HX.out.1]; simp [It.oks, ← hK.out])
              go_wp2_with fail
              go_roundw
              case rel => exact ⟨j + 1, by omega, by go_num, (show _ ∧ _ from ⟨hoks.out, HX2.out, HB5.out⟩)⟩
              case measure => simp [intOf]; omega
          · have hjl : j = l.length := by omega
            subst hjl
            clear hlt
            have hok : Hid (It.oks l = true) := (show _ = _ from by have := HX.out.1; rw [List.take_length] at this; exact this)
            have c1 := blk_cell HX.out.2.2 1
            have c2 := blk_cell HX.out.2.2 2
            simp only [List.getElem?_toArray, List.getElem?_cons_zero, List.getElem?_cons_succ] at c1 c2
            by_cases hn : n = 0
            · subst hn
              rcases s with _ | ⟨a, s⟩
              · go_wp2_with fail
                go_ret
                exact (show Told _ _ _ _ from ⟨by rw [hC.out, It.ok, hok.out]; unfold headOk; simp, HX.out.2.1⟩)
              · go_wp2_with fail
                go_ret
                exact (show Told _ _ _ _ from ⟨by rw [hC.out, It.ok, hok.out]; unfold headOk; simp, HX.out.2.1⟩)
            · go_wp2_with fail
              go_ret
              exact (show Told _ _ _ _ from ⟨by rw [hC.out, It.ok, hok.out]; unfold headOk; simp [hn], HX.out.2.1⟩)
      · have hb : headOk k n s l = false := by unfold headOk; simp; omega
        have HB := Lib.hid hb
        clear hb
        go_enter Try.func87, Try.ntmps87
        go_wp2_with fail
        go_ret
        exact (show Told _ _ _ _ from ⟨by rw [hC.out, It.ok, HB.out]; rfl, (Fr.refl _ w).alloc _⟩)
theorem refcheck_any {v : It} {w : World} {F : Nat → Prop} {vv : Value} (hv : ItV w F vv v) (hsz : v.size ≤ 1048576) : Calls Try.prog 50 #[vv] w (Told (.int .i64 (checkI v)) w) := by
  obtain ⟨cs, rfl, hr⟩ := hv
  obtain ⟨k, n, s, l⟩ := v
  obtain ⟨vl, rfl, hrow, hfit⟩ := itR_row hr
  obtain ⟨A, c, rfl, hc1, hc2⟩ := hrow.shape
  have HR := Lib.hid hr
  clear hr hrow hc2 hfit
  have HS := Lib.hid hsz
  obtain ⟨D, hD⟩ : ∃ D, Hid (D = (It.mk k n s l).deep) := ⟨_, rfl⟩
  obtain ⟨K, hK⟩ : ∃ K, Hid (K = (It.mk k n s l).ok) := ⟨_, rfl⟩
  have hchk : Hid (checkI (.mk k n s l) = if K then (if 40 < D then 3 else 0) else 1) := (show _ = _ from by unfold checkI; rw [hD.out, hK.out])
  obtain ⟨C, hC⟩ : ∃ C, Hid (C = checkI (.mk k n s l)) := ⟨_, rfl⟩
  rw [← hC.out]
  clear hsz
  unfold str at *
  obtain ⟨w1, hw1⟩ : ∃ w1, Hid (w1 = w.alloc (.cells #[.int .i64 k, .int .i64 n, .string ⟨s.toArray⟩, .slice A l.length c] 48 (0, 0))) := ⟨_, rfl⟩
  have hf1 : Fr No w w1 := by rw [hw1.out]; exact (Fr.refl _ _).alloc _
  have hblk : w1.heap[w.heap.size]? = some (.cells #[.int .i64 k, .int .i64 n, .string ⟨s.toArray⟩, .slice A l.length c] 48 (0, 0)) := by rw [hw1.out]; exact blk_new _ _
  have HBLK := Lib.hid hblk
  have HF1 := Lib.hid hf1
  clear hblk hf1
  go_enter Try.func50, Try.ntmps50
  go_wp2_with fail
  rw [← hw1.out]
  refine (may_any (.mk k n s l) _ F _ ⟨[.int .i64 k, .int .i64 n, .string ⟨s.toArray⟩, .slice A l.length c], rfl, itR_move (fun k hk hl => HF1.out.block k hl (fun h => h)) _ _ HR.out⟩ HS.out).mono ?_
  rw [← hK.out]
  rintro e w5 ⟨rfl, hf5⟩
  have HX2 : Hid (Fr No w w5) := (show Fr No w w5 from HF1.out.then hf5)
  have hb5 := hf5.heap HBLK.out (fun h => h)
  have c0 := blk_cell hb5 0
  have c1 := blk_cell hb5 1
  have c2 := blk_cell hb5 2
  have c3 := blk_cell hb5 3
  simp only [List.getElem?_toArray, List.getElem?_cons_zero, List.getElem?_cons_succ] at c0 c1 c2 c3
  clear hf5 hb5
  cases K
  · go_wp2_with fail
    go_ret
    exact (show Told _ _ _ _ from ⟨by rw [hC.out, hchk.out]; rfl, HX2.out⟩)
  · go_wp2_with fail
    refine (refdeep_any (.mk k n s l) _ F _ ⟨[.int .i64 k, .int .i64 n, .string ⟨s.toArray⟩, .slice A l.length c], rfl, itR_move (fun k hk hl => HX2.out.block k hl (fun h => h)) _ _ HR.out⟩ HS.out).mono ?_
    rw [← hD.out]
    rintro e w6 ⟨rfl, hf6⟩
    have HX3 : Hid (Fr No w w6) := (show Fr No w w6 from HX2.out.then hf6)
    clear hf6 c0 c1 c2 c3
    by_cases h40 : (40 : Int) < D
    · have h40' : 40 < D := by omega
      go_wp2_with fail
      go_ret
      exact (show Told _ _ _ _ from ⟨by rw [hC.out, hchk.out]; simp [h40'], HX3.out⟩)
    · have h40' : ¬ 40 < D := by omega
      have h40'' : (D : Int) ≤ 40 := by omega
      clear h40
      go_wp2_with fail
      go_ret
      exact (show Told _ _ _ _ from ⟨by rw [hC.out, hchk.out]; simp [h40'], HX3.out⟩)
end Go.Proofs.Ytbaohngnpgappaa
namespace Go.Proofs.Ytbaohngnpgappaa
open Go.RowKit
mutual
def It.left : It → Int → Int
  | .mk _ _ _ l, m => It.lefts l (m - 1)
def It.lefts : List It → Int → Int
  | [], m => m
  | x :: r, m => if m < 0 then m else It.lefts r (It.left x m)
end
theorem It.lefts_neg {l : List It} {m : Int} (h : m < 0) : It.lefts l m = m := by
  cases l with
  | nil => rfl
  | cons x r => rw [It.lefts, if_pos h]
theorem It.left_is : ∀ (v : It) (m : Int), 0 ≤ m → ((v.size : Int) ≤ m → v.left m = m - v.size) ∧ (m < v.size → v.left m = -1) := by
  refine It.ind fun k n s l ih m hm => ?_
  rw [It.left, It.size]
  suffices h : ∀ (l : List It), (∀ x ∈ l, ∀ m : Int, 0 ≤ m → ((x.size : Int) ≤ m → x.left m = m - x.size) ∧ (m < x.size → x.left m = -1)) → ∀ m : Int, -1 ≤ m → ((It.sizes l : Int) ≤ m → It.lefts l m = m - It.sizes l) ∧ (m < It.sizes l → It.lefts l m = -1) by
    have h1 := h l ih (m - 1) (by omega)
    refine ⟨fun h2 => ?_, fun h2 => ?_⟩
    · have := h1.1 (by omega); omega
    · exact h1.2 (by omega)
  clear ih hm m k n s l
  intro l
  induction l with
  | nil => intro _ m hm; refine ⟨fun h => by simp [It.lefts, It.sizes], fun h => ?_⟩; simp [It.sizes] at h; rw [It.lefts]; omega
  | cons x r ih2 =>
    intro ih m hm
    rw [It.lefts, It.sizes]
    have hp := It.size_pos x
    by_cases h0 : m < 0
    · rw [if_pos h0]; exact ⟨fun h => by omega, fun h => by omega⟩
    · rw [if_neg h0]
      have h1 := ih x List.mem_cons_self m (by omega)
      have h2 := ih2 (fun y hy => ih y (List.mem_cons_of_mem _ hy))
      by_cases h3 : (x.size : Int) ≤ m
      · rw [h1.1 h3]
        have h4 := h2 (m - x.size) (by omega)
        exact ⟨fun h => by have := h4.1 (by omega); omega, fun h => h4.2 (by omega)⟩
      · rw [h1.2 (by omega), It.lefts_neg (by omega)]
        exact ⟨fun h => by omega, fun h => by omega⟩
theorem It.left_lo (v : It) (m : Int) (hm : 0 ≤ m) : -1 ≤ v.left m ∧ v.left m ≤ m := by
  have h := It.left_is v m hm
  by_cases h1 : (v.size : Int) ≤ m
  · rw [h.1 h1]; omega
  · rw [h.2 (by omega)]; omega
set_option maxHeartbeats 1000000 in
theorem left_any : ∀ (v : It) (w : World) (F : Nat → Prop) (vv : Value) (m : Int), ItV w F vv v → 0 ≤ m → m ≤ 2000 → Calls Try.prog 98 #[vv, .int .i64 m] w (Told (.int .i64 (v.left m)) w) := by
  refine It.ind fun k n s l ih w F vv m hv hm hm2 => ?_
  obtain ⟨cs, rfl, hr⟩ := hv
  obtain ⟨vl, rfl, hrow, hfit⟩ := itR_row hr
  obtain ⟨A, c, rfl, hc1, hc2⟩ := hrow.shape
  have hl2 : (l.length : Int) ≤ 9223372036854775807 := by simp only [maxLen] at hc2; omega
  have HR := Lib.hid hrow
  have IH := Lib.hid ih
  obtain ⟨C, hC⟩ : ∃ C, Hid (C = (It.mk k n s l).left m) := ⟨_, rfl⟩
  rw [← hC.out]
  have hC2 : Hid (C = It.lefts l (m - 1)) := (show _ = _ from by rw [hC.out, It.left])
  clear hr hrow hc2 ih hfit
  unfold str
  go_enter Try.func98, Try.ntmps98
  go_wp2_with fail
  go_loopw [1, 12] (fun dd i wr => ∃ (j : Nat) (M : Int), j ≤ l.length ∧ i = .int .i64 j ∧ dd = .int .i64 M ∧ -1 ≤ M ∧ M ≤ 2000 ∧ Hid (Fr No w wr ∧ C = It.lefts (l.drop j) M)) (fun _ i _ => l.length - (intOf i).toNat)
  case atStart => exact ⟨0, m - 1, Nat.zero_le _, rfl, by go_num, by omega, by omega, (show _ ∧ _ from ⟨(Fr.refl _ _).alloc _, hC2.out⟩)⟩
  case round =>
    obtain ⟨j, M, hj, rfl, rfl, hM1, hM2, HX⟩ := hrel
    by_cases hlt : j < l.length
    · have hdrop : Hid (l.drop j = l[j] :: l.drop (j + 1)) := (show _ = _ from List.drop_eq_getElem_cons hlt)
      obtain ⟨b, o, _, cs, he, _, _, _, hrx, hcell⟩ := (HR.out.fr (by decide) HX.out.1 (fun _ _ _ h => h)).at_ j hlt
      cases he
      obtain ⟨x, hx⟩ : ∃ x, x = l[j] := ⟨_, rfl⟩
      have HXJ : Hid (l[j]? = some x) := (show _ = _ from by rw [hx]; exact List.getElem?_eq_getElem hlt)
      have hmem : Hid (x ∈ l) := (show x ∈ l from by rw [hx]; exact List.getElem_mem hlt)
      rw [← hx] at hrx
      have hsx := It.sizes_mem hmem.out
      obtain ⟨xk, xn, xs, xl⟩ := x
      obtain ⟨vl, rfl, hrow, hfit⟩ := itR_row hrx
      obtain ⟨A2, c2, rfl, _, _⟩ := hrow.shape
      have c0 := hcell 0 _ rfl
      have c1 := hcell 1 _ rfl
      have c2' := hcell 2 _ rfl
      have c3 := hcell 3 _ rfl
      simp only [show ItK.sz = 4 from rfl, Nat.add_zero, str] at c0 c1 c2' c3
      have HRX := Lib.hid hrx
      clear hcell hrow hfit hrx hx
      have hdr : Hid (l.drop j = .mk xk xn xs xl :: l.drop (j + 1)) := (show _ = _ from by
        have := HXJ.out
        rw [List.getElem?_eq_getElem hlt] at this
        rw [hdrop.out, Option.some.inj this])
      clear hsx hdrop
      by_cases hneg : M < 0
      · go_wp2_with fail
        go_ret
        exact (show Told _ _ _ _ from ⟨by rw [HX.out.2, It.lefts_neg hneg]; rfl, HX.out.1.alloc _⟩)
      · have hneg' : 0 ≤ M := by omega
        clear hneg
        obtain ⟨D, hD⟩ : ∃ D, Hid (D = (It.mk xk xn xs xl).left M) := ⟨_, rfl⟩
        have hD2 := It.left_lo (.mk xk xn xs xl) M hneg'
        rw [← hD.out] at hD2
        obtain ⟨hD3, hD4⟩ := hD2
        go_wp2_with fail
        refine (IH.out _ hmem.out _ _ _ _ ⟨[.int .i64 xk, .int .i64 xn, .string ⟨xs.toArray⟩, .slice A2 xl.length c2], rfl, itR_move (fun k _ hl => Below.heap_alloc _ _ _ hl) _ _ HRX.out⟩ hneg' hM2).mono ?_
        rw [← hD.out]
        rintro e w5 ⟨rfl, hf5⟩
        have HX2 : Hid (Fr No w w5 ∧ C = It.lefts (l.drop (j + 1)) D) := (show _ ∧ _ from ⟨(HX.out.1.alloc _).then hf5, by rw [HX.out.2, hdr.out, It.lefts, if_neg (by omega), hD.out]⟩)
        clear hf5 c0 c1 c2' c3
        go_wp2_with fail
        go_roundw
        case rel => exact ⟨j + 1, D, by omega, by go_num, rfl, hD3, by omega, HX2⟩
        case measure => simp [intOf]; omega
    · have hjl : j = l.length := by omega
      subst hjl
      clear hlt
      go_wp2_with fail
      go_ret
      exact (show Told _ _ _ _ from ⟨by rw [HX.out.2, List.drop_length, It.lefts]; rfl, HX.out.1⟩)
theorem few_item {v : It} {w : World} {F : Nat → Prop} {vv : Value} {m : Int} (hv : ItV w F vv v) (hm : 0 ≤ m) (hm2 : m ≤ 2000) : Calls Try.prog 74 #[vv, .int .i64 m] w (Told (.bool (decide ((v.size : Int) ≤ m))) w) := by
  obtain ⟨cs, rfl, hr⟩ := hv
  obtain ⟨k, n, s, l⟩ := v
  obtain ⟨vl, rfl, hrow, hfit⟩ := itR_row hr
  obtain ⟨A, c, rfl, hc1, hc2⟩ := hrow.shape
  have HR := Lib.hid hr
  clear hr hrow hc2 hfit
  obtain ⟨D, hD⟩ : ∃ D, Hid (D = (It.mk k n s l).left m) := ⟨_, rfl⟩
  obtain ⟨C, hC⟩ : ∃ C, Hid (C = decide (((It.mk k n s l).size : Int) ≤ m)) := ⟨_, rfl⟩
  have hDC : Hid (C = decide (0 ≤ D)) := (show _ = _ from by
    have h := It.left_is (.mk k n s l) m hm
    rw [← hD.out] at h
    rw [hC.out]
    by_cases h1 : ((It.mk k n s l).size : Int) ≤ m
    · have := h.1 h1
      rw [decide_eq_true h1, decide_eq_true (by omega)]
    · have := h.2 (by omega)
      rw [decide_eq_false h1, decide_eq_false (by omega)])
  rw [← hC.out]
  unfold str at *
  go_enter Try.func74, Try.ntmps74
  go_wp2_with fail
  refine (left_any (.mk k n s l) _ F _ m ⟨[.int .i64 k, .int .i64 n, .string ⟨s.toArray⟩, .slice A l.length c], rfl, itR_move (fun k _ hl => Below.heap_alloc _ _ _ hl) _ _ HR.out⟩ hm hm2).mono ?_
  rw [← hD.out]
  rintro e w5 ⟨rfl, hf5⟩
  have HX2 : Hid (Fr No w w5) := (show Fr No w w5 from ((Fr.refl _ _).alloc _).then hf5)
  clear hf5
  go_wp2_with fail
  go_ret
  exact (show Told _ _ _ _ from ⟨by rw [hDC.out]; rfl, HX2.out⟩)
def bigB (l : List It) : Bool := l.any fun v => decide (2000 < v.size)
theorem bigB_mem {l : List It} (h : bigB l = false) : ∀ x ∈ l, x.size ≤ 2000 := by
  intro x hx
  unfold bigB at h
  rw [List.any_eq_false] at h
  have := h x hx
  simpa using this
set_option maxHeartbeats 1000000 in
theorem big_any {w : World} {F : Nat → Prop} {v : Value} {l : List It} (h : Row ItK w F v l) : Calls Try.prog 34 #[v] w (Told (.bool (bigB l)) w) := by
  obtain ⟨A, c, rfl, hc1, hc2⟩ := h.shape
  have hl2 : (l.length : Int) ≤ 9223372036854775807 := by simp only [maxLen] at hc2; omega
  have HR := Lib.hid h
  obtain ⟨C, hC⟩ : ∃ C, Hid (C = bigB l) := ⟨_, rfl⟩
  rw [← hC.out]
  clear h hc2
  go_enter Try.func34, Try.ntmps34
  go_wp2_with fail
  go_loopw [7] (fun i wr => ∃ (j : Nat), j ≤ l.length ∧ i = .int .i64 j ∧ Hid (Fr No w wr ∧ bigB (l.take j) = false)) (fun i _ => l.length - (intOf i).toNat)
  case atStart => exact ⟨0, Nat.zero_le _, rfl, (show _ ∧ _ from ⟨Fr.refl _ _, rfl⟩)⟩
  case round =>
    obtain ⟨j, hj, rfl, HX⟩ := hrel
    by_cases hlt : j < l.length
    · skip
      obtain ⟨b, o, _, cs, he, _, _, _, hrx, hcell⟩ := (HR.out.fr (by decide) HX.out.1 (fun _ _ _ h => h)).at_ j hlt
      cases he
      obtain ⟨x, hx⟩ : ∃ x, x = l[j] := ⟨_, rfl⟩
      have HXJ : Hid (l[j]? = some x) := (show _ = _ from by rw [hx]; exact List.getElem?_eq_getElem hlt)
      have hmem : Hid (x ∈ l) := (show x ∈ l from by rw [hx]; exact List.getElem_mem hlt)
      rw [← hx] at hrx
      have hsx := It.sizes_mem hmem.out
      obtain ⟨xk, xn, xs, xl⟩ := x
      obtain ⟨vl, rfl, hrow, hfit⟩ := itR_row hrx
      obtain ⟨A2, c2, rfl, _, _⟩ := hrow.shape
      have c0 := hcell 0 _ rfl
      have c1 := hcell 1 _ rfl
      have c2' := hcell 2 _ rfl
      have c3 := hcell 3 _ rfl
      simp only [show ItK.sz = 4 from rfl, Nat.add_zero, str] at c0 c1 c2' c3
      have HRX := Lib.hid hrx
      clear hcell hrow hfit hrx hx
      clear hsx
      by_cases hb : ((It.mk xk xn xs xl).size : Int) ≤ 2000
      · have hbig : Hid (bigB (l.take (j + 1)) = false) := (show _ = _ from by
          have h1 := HX.out.2
          unfold bigB at h1 ⊢
          rw [List.take_add_one, List.any_append, h1, HXJ.out]
          simp; omega)
        have hbd : Hid (decide (((It.mk xk xn xs xl).size : Int) ≤ 2000) = true) := (show _ = _ from decide_eq_true hb)
        clear hb
        go_wp2_with fail
        refine (few_item ⟨[.int .i64 xk, .int .i64 xn, .string ⟨xs.toArray⟩, .slice A2 xl.length c2], rfl, itR_move (fun k _ hl => Below.heap_alloc _ _ _ hl) _ _ HRX.out⟩ (by omega) (by omega)).mono ?_
        rw [hbd.out]
        rintro e w5 ⟨rfl, hf5⟩
        have HX2 : Hid (Fr No w w5) := (show Fr No w w5 from (HX.out.1.alloc _).then hf5)
        clear hf5 c0 c1 c2' c3
        go_wp2_with fail
        go_roundw
        case rel => exact ⟨j + 1, by omega, by go_num, (show _ ∧ _ from ⟨HX2.out, hbig.out⟩)⟩
        case measure => simp [intOf]; omega
      · have hbig : Hid (C = true) := (show _ = _ from by
          rw [hC.out]
          unfold bigB
          rw [List.any_eq_true]
          exact ⟨_, hmem.out, by simp; omega⟩)
        have hbd : Hid (decide (((It.mk xk xn xs xl).size : Int) ≤ 2000) = false) := (show _ = _ from decide_eq_false hb)
        clear hb
        go_wp2_with fail
        refine (few_item ⟨[.int .i64 xk, .int .i64 xn, .string ⟨xs.toArray⟩, .slice A2 xl.length c2], rfl, itR_move (fun k _ hl => Below.heap_alloc _ _ _ hl) _ _ HRX.out⟩ (by omega) (by omega)).mono ?_
        rw [hbd.out]
        rintro e w5 ⟨rfl, hf5⟩
        have HX2 : Hid (Fr No w w5) := (show Fr No w w5 from (HX.out.1.alloc _).then hf5)
        clear hf5 c0 c1 c2' c3
        go_wp2_with fail
        go_ret
        exact (show Told _ _ _ _ from ⟨by rw [hbig.out]; rfl, HX2.out⟩)
    · have hjl : j = l.length := by omega
      subst hjl
      clear hlt
      go_wp2_with fail
      go_ret
      exact (show Told _ _ _ _ from ⟨by rw [hC.out]; have := HX.out.2; rw [List.take_length] at this; rw [this]; rfl, HX.out.1⟩)
end Go.Proofs.Ytbaohngnpgappaa
