/- What was written is read, what was cut is short, and what is read is written as these very bytes. -/
import Derived.Test.YtbaohngnpgappaaW31
set_option linter.unusedVariables false
set_option linter.unusedSimpArgs false
namespace Go.Proofs.Ytbaohngnpgappaa
open Go.RowKit
theorem kb1 : (byteOf 1).toNat = 1 := by decide
theorem kb2 : (byteOf 2).toNat = 2 := by decide
theorem kb3 : (byteOf 3).toNat = 3 := by decide
theorem kb21 : ¬ (byteOf 2).toNat = 1 := by decide
theorem kb31 : ¬ (byteOf 3).toNat = 1 := by decide
theorem kb32 : ¬ (byteOf 3).toNat = 2 := by decide
theorem It.deeps_mem {x : It} : ∀ {l : List It}, x ∈ l → x.deep ≤ It.deeps l := by
  intro l
  induction l with
  | nil => intro h; cases h
  | cons y r ih =>
    intro h
    rw [It.deeps]
    rcases List.mem_cons.1 h with rfl | h
    · omega
    · have := ih h; omega
theorem It.len_bulks : ∀ l : List It, l.length ≤ It.bulks l := by
  intro l
  induction l with
  | nil => exact Nat.le_refl _
  | cons x r ih =>
    rw [It.bulks, List.length_cons]
    have : 1 ≤ x.bulk := by cases x; rw [It.bulk]; omega
    omega
theorem It.bulk_mem {x : It} : ∀ {l : List It}, x ∈ l → x.bulk ≤ It.bulks l := by
  intro l
  induction l with
  | nil => intro h; cases h
  | cons y r ih =>
    intro h
    rw [It.bulks]
    rcases List.mem_cons.1 h with rfl | h
    · omega
    · have := ih h; omega
theorem start_id {L : List UInt8} {a w : Nat} (h : w ≠ 40) : startR L ⟨a, w, 0⟩ = ⟨a, w, 0⟩ := by
  unfold startR
  rw [if_neg (fun h2 => h h2.2.1)]
theorem itemR_at {L : List UInt8} {d a w : Nat} {c : UInt8} {r : List UInt8} (hw : w ≠ 40) (hd : L.drop a = c :: r) : itemR L (d + 1) ⟨a, w, 0⟩ =
    if c.toNat = 1 then (.mk 1 (IntKind.i64.wrap (rdn (nextsR L 8 ⟨a + 1, w, 0⟩).1 : Int)) [] [], (nextsR L 8 ⟨a + 1, w, 0⟩).2)
    else if c.toNat = 2 then (.mk 2 0 (textR L (countR L ⟨a + 1, w, 0⟩).1 (countR L ⟨a + 1, w, 0⟩).2).1 [], (textR L (countR L ⟨a + 1, w, 0⟩).1 (countR L ⟨a + 1, w, 0⟩).2).2)
    else if c.toNat = 3 then (.mk 3 0 [] (itemsR (itemR L d) (countR L ⟨a + 1, w + 1, 0⟩).1 (countR L ⟨a + 1, w + 1, 0⟩).2).1, { (itemsR (itemR L d) (countR L ⟨a + 1, w + 1, 0⟩).1 (countR L ⟨a + 1, w + 1, 0⟩).2).2 with win := (itemsR (itemR L d) (countR L ⟨a + 1, w + 1, 0⟩).1 (countR L ⟨a + 1, w + 1, 0⟩).2).2.win - 1 })
    else (.mk c.toNat 0 [] [], ⟨a + 1, w, 11⟩) := by
  rw [itemR, start_id hw, next_drop hd]
  simp only
  rw [if_neg (by simp)]
theorem items_ok {L : List UInt8} {f : RS → It × RS} {w : Nat} : ∀ (l : List It) (a : Nat) (r : List UInt8), (∀ x ∈ l, ∀ (a : Nat) (r : List UInt8), L.drop a = x.enc ++ r → f ⟨a, w, 0⟩ = (x, ⟨a + x.enc.length, w, 0⟩)) → L.drop a = It.encs l ++ r →
    itemsR f l.length ⟨a, w, 0⟩ = (l, ⟨a + (It.encs l).length, w, 0⟩) := by
  intro l
  induction l with
  | nil => exact fun a r _ _ => rfl
  | cons x q ih =>
    intro a r hf hd
    rw [It.encs, List.append_assoc] at hd
    have h1 := hf x List.mem_cons_self a _ hd
    have h2 : L.drop (a + x.enc.length) = It.encs q ++ r := by rw [← List.drop_drop, hd, List.drop_left]
    rw [List.length_cons, itemsR, if_pos rfl, h1]
    simp only
    rw [ih _ r (fun y hy => hf y (List.mem_cons_of_mem _ hy)) h2, It.encs, List.length_append, Nat.add_assoc]
theorem items_err {f : RS → It × RS} {s : RS} (h : s.e ≠ 0) : ∀ n, itemsR f n s = ([], s) := by
  intro n
  cases n with
  | zero => rfl
  | succ n => rw [itemsR, if_neg h]
theorem text_ok {L s r : List UInt8} {a w : Nat} (ha : a ≤ L.length) (hd : L.drop a = s ++ r) : textR L s.length ⟨a, w, 0⟩ = (s, ⟨a + s.length, w, 0⟩) := by
  have hl : (s ++ r).length = L.length - a := by rw [← hd, List.length_drop]
  rw [List.length_append] at hl
  unfold textR
  rw [if_pos rfl]
  simp only
  rw [if_neg (by omega), hd, List.take_left]
/-- What was written is read. -/
theorem item_ok : ∀ (x : It), x.ok = true → x.fit → x.bulk ≤ 2147483647 → ∀ (d : Nat) (L : List UInt8) (a w : Nat) (r : List UInt8), x.deep + w ≤ 40 → 41 ≤ d + w → L.drop a = x.enc ++ r → itemR L d ⟨a, w, 0⟩ = (x, ⟨a + x.enc.length, w, 0⟩) := by
  refine It.ind fun k n s l ih hok hfit hbk d L a w r hdp hdw hd => ?_
  rw [It.deep] at hdp
  rw [It.bulk] at hbk
  rw [It.fit] at hfit
  obtain ⟨g, rfl⟩ : ∃ g, d = g + 1 := ⟨d - 1, by omega⟩
  have hlb := It.len_bulks l
  have hok2 := hok
  rw [It.ok, Bool.and_eq_true] at hok2
  rcases kind_of hok with ⟨rfl, rfl, rfl⟩ | ⟨rfl, rfl, rfl⟩ | ⟨rfl, rfl, rfl⟩
  · have he : (It.mk 1 n [] []).enc = byteOf 1 :: num8 n := by rw [It.enc, if_pos rfl]
    rw [he] at hd ⊢
    rw [itemR_at (by omega) hd, if_pos kb1]
    have h1 := nextsR_ok (num8 n) (a + 1) w r (get_drop hd).2.1
    rw [num8_len] at h1
    rw [h1]
    simp only
    rw [num8_back hfit.2.1, List.length_cons, num8_len]
  · have he : (It.mk 2 0 s []).enc = byteOf 2 :: (countB s.length ++ s) := by rw [It.enc, if_neg (by decide), if_pos rfl]
    rw [he] at hd ⊢
    rw [itemR_at (by omega) hd, if_neg kb21, if_pos kb2]
    have h0 := (get_drop hd).2.1
    rw [List.append_eq, List.append_assoc] at h0
    have h1 := countR_ok (w := w) (show s.length ≤ 2147483647 by omega) h0
    have h2 : L.drop (a + 1 + (countB s.length).length) = s ++ r := by rw [← List.drop_drop, h0, List.drop_left]
    rw [h1]
    simp only
    rw [text_ok (by have h5 := congrArg List.length h0; rw [List.length_drop, List.length_append, List.length_append] at h5; have h6 := (get_drop hd).2.2; omega) h2, List.length_cons, List.length_append, show a + 1 + (countB s.length).length + s.length = a + ((countB s.length).length + s.length + 1) from by omega]
  · have he : (It.mk 3 0 [] l).enc = byteOf 3 :: (countB l.length ++ It.encs l) := by rw [It.enc, if_neg (by decide), if_neg (by decide)]
    rw [he] at hd ⊢
    rw [itemR_at (by omega) hd, if_neg kb31, if_neg kb32, if_pos kb3]
    have h0 := (get_drop hd).2.1
    rw [List.append_eq, List.append_assoc] at h0
    have h1 := countR_ok (w := w + 1) (show l.length ≤ 2147483647 by omega) h0
    have h2 : L.drop (a + 1 + (countB l.length).length) = It.encs l ++ r := by rw [← List.drop_drop, h0, List.drop_left]
    rw [h1]
    simp only
    rw [items_ok (f := itemR L g) (w := w + 1) l _ r (fun x hx a r hd => ih x hx (It.oks_mem hok2.2 hx) (It.fits_iff.1 hfit.2.2 x hx) (by have := It.bulk_mem hx; omega) g L a (w + 1) r (by have := It.deeps_mem hx; omega) (by omega) hd) h2]
    simp only
    rw [List.length_cons, List.length_append, show a + 1 + (countB l.length).length + (It.encs l).length = a + ((countB l.length).length + (It.encs l).length + 1) from by omega, Nat.add_sub_cancel]
theorem text_err {L : List UInt8} {n : Nat} {s : RS} (h : s.e ≠ 0) : (textR L n s).2 = s := (textR_kept L n s).e h
theorem split_app {p q u v : List UInt8} (h : p ++ q = u ++ v) : (∃ q', p ++ q' = u ∧ q' ≠ []) ∨ ∃ p', p = u ++ p' ∧ p' ++ q = v := by
  rcases List.append_eq_append_iff.1 h with ⟨c, h1, h2⟩ | ⟨c, h1, h2⟩
  · rcases c with _ | ⟨x, r⟩
    · right; exact ⟨[], by simpa using h1.symm, by simpa using h2⟩
    · left; exact ⟨x :: r, h1.symm, by simp⟩
  · right; exact ⟨c, h1, h2.symm⟩
theorem items_cut {L : List UInt8} {f : RS → It × RS} {w : Nat} : ∀ (l : List It) (a : Nat) (p q : List UInt8), (∀ x ∈ l, ∀ (a : Nat) (r : List UInt8), L.drop a = x.enc ++ r → f ⟨a, w, 0⟩ = (x, ⟨a + x.enc.length, w, 0⟩)) →
    (∀ x ∈ l, ∀ (a : Nat) (p q : List UInt8), L.drop a = p → p ++ q = x.enc → q ≠ [] → (f ⟨a, w, 0⟩).2.e = 10) → L.drop a = p → p ++ q = It.encs l → q ≠ [] → (itemsR f l.length ⟨a, w, 0⟩).2.e = 10 := by
  intro l
  induction l with
  | nil => intro a p q _ _ _ hp hq; simp [It.encs] at hp; exact absurd hp.2 hq
  | cons x t ih =>
    intro a p q hf hc hd hp hq
    rw [It.encs] at hp
    rw [List.length_cons, itemsR, if_pos rfl]
    simp only
    rcases split_app hp with ⟨q', h1, h2⟩ | ⟨p', h1, h2⟩
    · have h3 := hc x List.mem_cons_self a p q' hd h1 h2
      have h4 : (f ⟨a, w, 0⟩).2.e ≠ 0 := by rw [h3]; exact (show (10 : Int) ≠ 0 by decide)
      rw [items_err h4]
      exact h3
    · subst h1
      have h3 := hf x List.mem_cons_self a p' hd
      rw [h3]
      simp only
      refine ih _ p' q (fun y hy => hf y (List.mem_cons_of_mem _ hy)) (fun y hy => hc y (List.mem_cons_of_mem _ hy)) ?_ h2 hq
      rw [← List.drop_drop, hd, List.drop_left]
/-- What was cut is short. -/
theorem item_cut : ∀ (x : It), x.ok = true → x.fit → x.bulk ≤ 2147483647 → ∀ (d : Nat) (L : List UInt8) (a w : Nat) (p q : List UInt8), x.deep + w ≤ 40 → 41 ≤ d + w → L.drop a = p → p ++ q = x.enc → q ≠ [] → (itemR L d ⟨a, w, 0⟩).2.e = 10 := by
  refine It.ind fun k n s l ih hok hfit hbk d L a w p q hdp hdw hd hp hq => ?_
  rw [It.deep] at hdp
  rw [It.bulk] at hbk
  rw [It.fit] at hfit
  obtain ⟨g, rfl⟩ : ∃ g, d = g + 1 := ⟨d - 1, by omega⟩
  have hlb := It.len_bulks l
  have hok2 := hok
  rw [It.ok, Bool.and_eq_true] at hok2
  rcases p with _ | ⟨c, p⟩
  · rw [itemR, start_id (by omega), next_nil hd]
    simp only
    rw [if_pos (by simp)]
  rw [It.enc] at hp
  have hc := (List.cons.inj hp).1
  have hp2 := (List.cons.inj hp).2
  have hd2 := (get_drop hd).2.1
  have hI := itemR_at (d := g) (show w ≠ 40 by omega) hd
  subst hc
  simp only [List.append_eq] at hp2
  rcases kind_of hok with ⟨rfl, rfl, rfl⟩ | ⟨rfl, rfl, rfl⟩ | ⟨rfl, rfl, rfl⟩
  · rw [if_pos rfl] at hp2
    rw [if_pos kb1] at hI
    rw [hI]
    have hpl : p.length < 8 := by
     have := congrArg List.length hp2
     rw [List.length_append, num8_len] at this
     have hq1 : 0 < q.length := List.length_pos_iff.2 hq
     omega
    have h9 := nextsR_cut (L := L) p 8 (a + 1) w hpl hd2
    generalize nextsR L 8 ⟨a + 1, w, 0⟩ = z at h9 ⊢
    exact h9
  · rw [if_neg (by decide), if_pos rfl] at hp2
    rw [if_neg kb21, if_pos kb2] at hI
    rw [hI]
    simp only
    rcases split_app hp2 with ⟨q', h1, h2⟩ | ⟨p', h1, h2⟩
    · have h3 := countR_cut (w := w) (show s.length ≤ 2147483647 by omega) hd2 h1 h2
      have h4 : (countR L ⟨a + 1, w, 0⟩).2.e ≠ 0 := by rw [h3]; exact (show (10 : Int) ≠ 0 by decide)
      rw [text_err h4]
      exact h3
    · subst h1
      have h3 := countR_ok (w := w) (show s.length ≤ 2147483647 by omega) hd2
      rw [h3]
      have hl : (countB s.length ++ p').length = L.length - (a + 1) := by rw [← hd2, List.length_drop]
      have hl2 := congrArg List.length h2
      rw [List.length_append] at hl hl2
      have hq1 : 0 < q.length := List.length_pos_iff.2 hq
      have hal := (get_drop hd).2.2
      unfold textR
      rw [if_pos rfl]
      simp only
      rw [if_pos (by omega)]
  · rw [if_neg (by decide), if_neg (by decide)] at hp2
    rw [if_neg kb31, if_neg kb32, if_pos kb3] at hI
    rw [hI]
    simp only
    rcases split_app hp2 with ⟨q', h1, h2⟩ | ⟨p', h1, h2⟩
    · have h3 := countR_cut (w := w + 1) (show l.length ≤ 2147483647 by omega) hd2 h1 h2
      have h4 : (countR L ⟨a + 1, w + 1, 0⟩).2.e ≠ 0 := by rw [h3]; exact (show (10 : Int) ≠ 0 by decide)
      rw [items_err h4]
      exact h3
    · subst h1
      have h3 := countR_ok (w := w + 1) (show l.length ≤ 2147483647 by omega) hd2
      rw [h3]
      simp only
      exact items_cut (f := itemR L g) (w := w + 1) l _ p' q (fun x hx a r hd => item_ok x (It.oks_mem hok2.2 hx) (It.fits_iff.1 hfit.2.2 x hx) (by have := It.bulk_mem hx; omega) g L a (w + 1) r (by have := It.deeps_mem hx; omega) (by omega) hd)
        (fun x hx a p q hd hp hq => ih x hx (It.oks_mem hok2.2 hx) (It.fits_iff.1 hfit.2.2 x hx) (by have := It.bulk_mem hx; omega) g L a (w + 1) p q (by have := It.deeps_mem hx; omega) (by omega) hd hp hq) (by rw [← List.drop_drop, hd2, List.drop_left]) h2 hq
end Go.Proofs.Ytbaohngnpgappaa
