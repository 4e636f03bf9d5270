/- DiskLast's walk: of two writes at one place the last one is read; it holds of all inputs. -/
import Derived.Test.YtbaohngnpgappaaD3
set_option linter.unusedVariables false
set_option linter.unusedSimpArgs false
namespace Go.Proofs.Ytbaohngnpgappaa
open Go.RowKit
theorem readB_nat (l : List UInt8) (a m : Nat) (hm : 1 ≤ m) : readB l (a : Int) (m : Int) = (l.take (a + m)).drop a := by
  unfold readB
  rw [if_neg (by omega), Int.toNat_natCast, show ((a : Int) + (m : Int)).toNat = a + m from by omega]
theorem readB_zero (l : List UInt8) (a : Int) : readB l a 0 = [] := by unfold readB; rw [if_pos (by omega)]
theorem splice_get {l b : List UInt8} {a : Nat} (h : a + b.length ≤ l.length) (j : Nat) : (splice l a b)[j]? = if j < a then l[j]? else if j < a + b.length then b[j - a]? else l[j]? := by
  unfold splice
  have e1 : (l.take a).length = a := by rw [List.length_take]; omega
  rw [List.getElem?_append, e1]
  split
  · rw [List.getElem?_take, if_pos (by omega)]
  · rw [List.getElem?_append]
    split
    · rw [if_pos (by omega)]
    · rw [if_neg (by omega), List.getElem?_drop]; congr 1; omega
theorem readB_get (l : List UInt8) (a m j : Nat) (hm : 1 ≤ m) : (readB l (a : Int) (m : Int))[j]? = if j < m then l[a + j]? else none := by
  rw [readB_nat _ _ _ hm, List.getElem?_drop, List.getElem?_take]
  split
  · rw [if_pos (by omega)]
  · rw [if_neg (by omega)]
/-- What was written last is read first. -/
theorem read_head {l b : List UInt8} {a m : Nat} (h : a + b.length ≤ l.length) (hm : b.length ≤ m) : b.length ≤ (readB (splice l a b) (a : Int) (m : Int)).length ∧ (readB (splice l a b) (a : Int) (m : Int)).take b.length = b := by
  rcases Nat.eq_zero_or_pos m with rfl | hp
  · have hb : b = [] := List.eq_nil_of_length_eq_zero (by omega)
    subst hb
    simp
  · constructor
    · rw [readB_nat _ _ _ hp, List.length_drop, List.length_take, length_splice _ _ _ h]; omega
    · apply List.ext_getElem?
      intro j
      rw [List.getElem?_take, readB_get _ _ _ _ hp, splice_get h]
      rcases Nat.lt_or_ge j b.length with hj | hj
      · rw [if_pos hj, if_pos (by omega), if_neg (by omega), if_pos (by omega), Nat.add_sub_cancel_left]
      · rw [if_neg (by omega), List.getElem?_eq_none hj]
theorem read_two {l p b : List UInt8} {a : Nat} (h1 : a + p.length ≤ l.length) (h2 : a + b.length ≤ l.length) : readB (splice (splice l a p) a b) (a : Int) (max (p.length : Int) (b.length : Int)) = b ++ p.drop b.length := by
  rw [show (max (p.length : Int) (b.length : Int)) = ((max p.length b.length : Nat) : Int) from by omega]
  have hl := length_splice l a p h1
  rcases Nat.eq_zero_or_pos (max p.length b.length) with h0 | hp
  · have hb : b = [] := List.eq_nil_of_length_eq_zero (by omega)
    have hpp : p = [] := List.eq_nil_of_length_eq_zero (by omega)
    subst hb hpp
    rw [h0]; exact readB_zero _ _
  · apply List.ext_getElem?
    intro j
    rw [readB_get _ _ _ _ hp, splice_get (by rw [hl]; exact h2), splice_get h1, List.getElem?_append, List.getElem?_drop]
    rcases Nat.lt_or_ge j b.length with hj | hj
    · rw [if_pos (by omega), if_neg (by omega), if_pos (by omega), if_pos hj, Nat.add_sub_cancel_left]
    · rw [if_neg (by omega : ¬ j < b.length)]
      rcases Nat.lt_or_ge j p.length with hj2 | hj2
      · rw [if_pos (by omega), if_neg (by omega), if_neg (by omega), if_neg (by omega), if_pos (by omega), Nat.add_sub_cancel_left]; congr 1; omega
      · rw [if_neg (by omega), List.getElem?_eq_none (by omega)]
theorem news_cut {w : World} {F : Nat → Prop} {A A' : Option Addr} {c m : Nat} {l : List UInt8} (hA : A' = if c = m then A else Option.map (fun x => x.add m) A) (h : Rb w F (.slice A l.length c) l) (hm : m ≤ l.length) :
    ∀ j u, ((l.drop m).map enc8)[j]? = some u → ∃ ad, A' = some ad ∧ w.cell? (ad.add j) = some u := by
  obtain ⟨A1, c1, he, _, _, hd⟩ := h.drop_ m hm
  cases he
  obtain ⟨A2, c2, he2, _, _, hn⟩ := hd.news
  have e : A2 = if c = m then A else Option.map (fun x => x.add m) A := by injection he2 with e1 e2 e3; exact e1.symm
  rw [hA, ← e]
  exact hn
set_option maxHeartbeats 4000000 in
theorem disklast {w : World} {size at_ : Int} {va vb : Value} {a b : List UInt8} (ha : Rb w (fun k => k < w.heap.size) va a) (hb : Rb w (fun k => k < w.heap.size) vb b) (h0 : -9223372036854775808 ≤ at_) (h1 : at_ ≤ 9223372036854775807) :
    Calls Try.prog 3 #[.int .i64 size, .int .i64 at_, va, vb] w (Told (.bool true) w) := by
  obtain ⟨Aa, ca, rfl, hca, hca2⟩ := ha.shape
  obtain ⟨Ab, cb, rfl, hcb, hcb2⟩ := hb.shape
  have HA := Lib.hid ha
  have HB := Lib.hid hb
  clear ha hb hca2 hcb2
  by_cases hbig : size > 400 ∨ a.length > 300 ∨ b.length > 300
  · have up : ∀ W, Fr No w W → Told (.bool true) w (.returned (.bool true)) W := fun W h => ⟨rfl, h⟩
    have UP := Lib.hid up
    clear up
    by_cases c1 : 400 < size
    · clear hbig
      go_enter Try.func3, Try.ntmps3
      go_wp2_with fail
      refine (live_any _).mono ?_
      rintro e w1 ⟨rfl, hF1⟩
      have HF1 := Lib.hid hF1
      clear hF1
      go_wp2_with fail
      go_ret
      exact UP.out _ HF1.out
    · have c1' : size ≤ 400 := by omega
      by_cases c2 : (300 : Int) < a.length
      · clear hbig c1
        go_enter Try.func3, Try.ntmps3
        go_wp2_with fail
        refine (live_any _).mono ?_
        rintro e w1 ⟨rfl, hF1⟩
        have HF1 := Lib.hid hF1
        clear hF1
        go_wp2_with fail
        go_ret
        exact UP.out _ HF1.out
      · have c2' : (a.length : Int) ≤ 300 := by omega
        have c3 : (300 : Int) < b.length := by omega
        clear hbig c1 c2
        go_enter Try.func3, Try.ntmps3
        go_wp2_with fail
        refine (live_any _).mono ?_
        rintro e w1 ⟨rfl, hF1⟩
        have HF1 := Lib.hid hF1
        clear hF1
        go_wp2_with fail
        go_ret
        exact UP.out _ HF1.out
  · have hs : size ≤ 400 := by omega
    have hla : a.length ≤ 300 := by omega
    have hlb : b.length ≤ 300 := by omega
    clear hbig
    obtain ⟨n, hn⟩ : ∃ n, n = clampI size := ⟨_, rfl⟩
    have hn4 : n ≤ 400 := by rw [hn]; unfold clampI; omega
    have HN := Lib.hid hn
    clear hn
    go_enter Try.func3, Try.ntmps3
    go_wp2_with fail
    refine (live_any _).mono ?_
    rintro e w1 ⟨rfl, hF1⟩
    have HF1 := Lib.hid hF1
    clear hF1
    go_wp2_with fail
    refine (new_any size _).mono ?_
    rintro e w2 ⟨p, O, rfl, hD, hO, hF⟩
    obtain ⟨bp, rfl⟩ := hD.ptr
    rw [← HN.out] at hD
    have HD := Lib.hid hD
    have HF2 : Hid (Fr No w w2) := (show Fr No w w2 from HF1.out.then hF)
    have HO : Hid (∀ k, O k → w.heap.size ≤ k) := (show ∀ k, O k → w.heap.size ≤ k from fun k hk => Nat.le_trans HF1.out.size (hO k hk))
    clear hD hO hF
    go_wp2_with fail
    have hA2 : Rb w2 (fun k => k < w.heap.size) (.slice Aa a.length ca) a := HA.out.fr HF2.out (fun _ _ _ h => h)
    have hB2 : Rb w2 (fun k => k < w.heap.size) (.slice Ab b.length cb) b := HB.out.fr HF2.out (fun _ _ _ h => h)
    have hz : (List.replicate n (0 : UInt8)).length = n := List.length_replicate
    by_cases hea : 0 ≤ at_ ∧ at_ + a.length ≤ n
    · obtain ⟨t, rfl⟩ : ∃ t : Nat, at_ = t := ⟨at_.toNat, by omega⟩
      refine (write_yes HD.out hA2 (fun k hk hk2 => by have := HO.out k hk2; omega) (by simp only [List.length_replicate]; omega) (by simp)).mono ?_
      rintro e w3 ⟨O3, R3, rfl, hD3, hO3, hR3, hF3⟩
      have HD3 := Lib.hid hD3
      have HF3 : Hid (Fr No w w3) := (show Fr No w w3 from HF2.out.news hF3 HO.out)
      have HO3 : Hid (∀ k, O3 k → w.heap.size ≤ k) := (show ∀ k, O3 k → w.heap.size ≤ k from fun k hk => by
        rcases hO3 k hk with h | h
        · exact HO.out k h
        · exact Nat.le_trans HF2.out.size h)
      have hls := length_splice (List.replicate n (0 : UInt8)) t a (by omega)
      have HLS := Lib.hid hls
      clear hD3 hO3 hR3 hF3 hA2 hB2 hls
      go_wp2_with fail
      have hB3 : Rb w3 (fun k => k < w.heap.size) (.slice Ab b.length cb) b := HB.out.fr HF3.out (fun _ _ _ h => h)
      by_cases heb : 0 ≤ (t : Int) ∧ (t : Int) + b.length ≤ n
      · refine (write_yes HD3.out hB3 (fun k hk hk2 => by have := HO3.out k hk2; omega) (by simp only [HLS.out, hz]; omega) (by simp)).mono ?_
        rintro e w4 ⟨O4, R4, rfl, hD4, hO4, hR4, hF4⟩
        have HD4 := Lib.hid hD4
        have HF4 : Hid (Fr No w w4) := (show Fr No w w4 from HF3.out.news hF4 HO3.out)
        obtain ⟨L, HL⟩ : ∃ L, Hid (L = b ++ a.drop b.length) := ⟨_, rfl⟩
        have HRD : Hid (readB (splice (splice (List.replicate n (0 : UInt8)) t a) t b) (t : Int) (max (a.length : Int) (b.length : Int)) = L) := (show _ = _ from (read_two (by omega) (by omega)).trans HL.out.symm)
        clear hD4 hO4 hR4 hF4 hB3
        go_wp2_with ((with_reducible refine at_dst 57 rfl ?_); refine wpList_max rfl (.tmp 54) (.tmp 56) _ rfl _ _ rfl rfl ?_)
        refine (read_any HD4.out (by omega) (by omega) (by omega)).mono ?_
        rintro e w5 ⟨v5, rfl, hv5, hF5⟩
        simp only [HRD.out] at hv5
        obtain ⟨A5, c5, rfl, hc5, hc52⟩ := hv5.shape
        have HV5 := Lib.hid hv5
        have HF5 : Hid (Fr No w w5) := (show Fr No w w5 from HF4.out.then hF5)
        clear hv5 hF5 hc52
        have hB5 : Rb w5 (fun k => k < w.heap.size) (.slice Ab b.length cb) b := HB.out.fr HF5.out (fun _ _ _ h => h)
        have hA5 : Rb w5 (fun k => k < w.heap.size) (.slice Aa a.length ca) a := HA.out.fr HF5.out (fun _ _ _ h => h)
        obtain ⟨_, _, he, _, _, hnb⟩ := hB5.news
        cases he
        have HNB := Lib.hid hnb
        have HB5 := Lib.hid hB5
        have HA5 := Lib.hid hA5
        clear hnb hB5 hA5
        have happ : (L.length : Int) = max (a.length : Int) (b.length : Int) := by rw [HL.out, List.length_append, List.length_drop]; omega
        have hap2 : (b.length : Int) ≤ (L.length : Int) := by omega
        have hcut := cut0_run (P := Try.prog) 22 5 Try.underlying22 sz5 A5 L.length c5 (b.length : Int) (by omega) (by omega)
        have HAP := Lib.hid happ
        clear happ
        by_cases hlt : (b.length : Int) < a.length
        · obtain ⟨A6, hcut6, hA6⟩ := cut_run (P := Try.prog) 22 5 Try.underlying22 sz5 Aa a.length ca b.length (by omega)
          have HA6 := Lib.hid hA6
          clear hA6
          go_wp2_with (with_reducible refine halt_dst 60 rfl ?_)
          refine wpList_app (O := No) rfl (.const (.slice none 0 0)) (.tmp 59) 22 5 rfl _ 1 1 Try.underlying22 info5 rfl (by omega) (by omega) (.slice none 0 0) 0 [] rfl _ b.length _ rfl (Ow.nil _ _ _ _) (b.map enc8) (by simp) HNB.out (by simp [enc8, Value.oneCell']) (by omega) ?_
          intro v6 w6 hown6 hfr6
          rw [List.nil_append, Nat.zero_add] at hown6
          have hf6 : Fr No w5 w6 := hfr6.mono (fun k _ h => by simp [Value.ownBlock] at h)
          obtain ⟨A7, c7, rfl, _, hc72⟩ := hown6.shape
          have HO6 := Lib.hid hown6
          have HF6 := Lib.hid hf6
          clear hown6 hfr6 hc72 hf6
          have HNA := Lib.hid (news_cut HA6.out (HA5.out.fr HF6.out (fun k _ _ h => h)) (by omega))
          go_wp2_with (with_reducible refine halt_dst 75 rfl ?_)
          refine wpList_app (O := fun k => k = w5.heap.size) rfl (.tmp 70) (.tmp 74) 22 5 rfl _ 1 1 Try.underlying22 info5 rfl (by omega) (by omega) (.slice A7 b.length c7) b.length (b.map enc8) rfl A6 (a.length - b.length) (ca - b.length) rfl (HO6.out.mono fun k hk => by rcases hk with hk | hk; (simp [Value.ownBlock] at hk); exact hk) ((a.drop b.length).map enc8) (by simp) HNA.out (one8 _) (by omega) ?_
          intro v8 w7 hown7 hfr7
          rw [← List.map_append, ← HL.out, show b.length + (a.length - b.length) = L.length from by have := HAP.out; omega] at hown7
          have hf7 : Fr No w5 w7 := HF6.out.trans hfr7 (fun _ _ h => h) (fun k hk h => by have h2 := HO6.out.2 k h; rcases h2 with h2 | h2; (simp [Value.ownBlock] at h2); omega)
          obtain ⟨A8, c8, rfl, _, hc82⟩ := hown7.shape
          have HO7 := Lib.hid hown7
          have HF7 := Lib.hid hf7
          clear hown7 hfr7 hc82 hf7
          have hgot : Rb w7 (New w4) (.slice A5 L.length c5) (L) := HV5.out.reads.fr HF7.out (fun _ _ _ h => h)
          obtain ⟨_, _, he9, _, _, htk⟩ := hgot.take_ b.length (by omega)
          cases he9
          go_wp2_with fail
          refine (samebytes_yes htk (HB5.out.fr HF7.out (fun _ _ _ h => h)) (by rw [HL.out]; simp)).mono ?_
          rintro e w' ⟨rfl, rfl⟩
          go_wp2_with fail
          refine (samebytes_yes hgot HO7.out.reads rfl).mono ?_
          rintro e w' ⟨rfl, rfl⟩
          go_wp2_with fail
          go_ret
          exact ⟨rfl, HF5.out.then HF7.out⟩
        · have hge : (a.length : Int) ≤ b.length := by omega
          have hLb : Hid (L = b) := by
            have h1 : a.drop b.length = [] := List.drop_eq_nil_of_le (by omega)
            exact (show L = b from by rw [HL.out, h1, List.append_nil])
          clear hlt
          go_wp2_with (with_reducible refine halt_dst 60 rfl ?_)
          refine wpList_app (O := No) rfl (.const (.slice none 0 0)) (.tmp 59) 22 5 rfl _ 1 1 Try.underlying22 info5 rfl (by omega) (by omega) (.slice none 0 0) 0 [] rfl _ b.length _ rfl (Ow.nil _ _ _ _) (b.map enc8) (by simp) HNB.out (by simp [enc8, Value.oneCell']) (by omega) ?_
          intro v6 w6 hown6 hfr6
          rw [List.nil_append, Nat.zero_add] at hown6
          have hf6 : Fr No w5 w6 := hfr6.mono (fun k _ h => by simp [Value.ownBlock] at h)
          obtain ⟨A7, c7, rfl, _, hc72⟩ := hown6.shape
          have HO6 := Lib.hid hown6
          have HF6 := Lib.hid hf6
          clear hown6 hfr6 hc72 hf6
          have hgot : Rb w6 (New w4) (.slice A5 L.length c5) (L) := HV5.out.reads.fr HF6.out (fun _ _ _ h => h)
          obtain ⟨_, _, he9, _, _, htk⟩ := hgot.take_ b.length (by omega)
          cases he9
          go_wp2_with fail
          refine (samebytes_yes htk (HB5.out.fr HF6.out (fun _ _ _ h => h)) (by rw [HL.out]; simp)).mono ?_
          rintro e w' ⟨rfl, rfl⟩
          go_wp2_with fail
          refine (samebytes_yes hgot HO6.out.reads (by rw [hLb.out])).mono ?_
          rintro e w' ⟨rfl, rfl⟩
          go_wp2_with fail
          go_ret
          exact ⟨rfl, HF5.out.then HF6.out⟩
      · refine (write_no HD3.out hB3 (by simp only [HLS.out, hz]; omega)).mono ?_
        rintro e w' ⟨rfl, rfl⟩
        go_wp2_with fail
        refine (waiting_any HD3.out).mono ?_
        rintro e w' ⟨rfl, rfl⟩
        rw [show (((⟨List.replicate n 0, splice (List.replicate n 0) t a, [] ++ [(t, a)]⟩ : Dk).waits.length : Nat) : Int) = 1 from rfl]
        go_wp2_with fail
        go_ret
        exact ⟨rfl, HF3.out⟩
    · refine (write_no HD.out hA2 (by simp only [hz]; omega)).mono ?_
      rintro e w' ⟨rfl, rfl⟩
      go_wp2_with fail
      by_cases heb : 0 ≤ at_ ∧ at_ + b.length ≤ n
      · obtain ⟨t, rfl⟩ : ∃ t : Nat, at_ = t := ⟨at_.toNat, by omega⟩
        refine (write_yes HD.out hB2 (fun k hk hk2 => by have := HO.out k hk2; omega) (by simp only [hz]; omega) (by simp)).mono ?_
        rintro e w4 ⟨O4, R4, rfl, hD4, hO4, hR4, hF4⟩
        have HD4 := Lib.hid hD4
        have HF4 : Hid (Fr No w w4) := (show Fr No w w4 from HF2.out.news hF4 HO.out)
        obtain ⟨L, HL⟩ : ∃ L, Hid (L = readB (splice (List.replicate n (0 : UInt8)) t b) (t : Int) (max (a.length : Int) (b.length : Int))) := ⟨_, rfl⟩
        have hrh := read_head (l := List.replicate n (0 : UInt8)) (b := b) (a := t) (m := max a.length b.length) (by omega) (by omega)
        rw [show (((max a.length b.length : Nat) : Int)) = max (a.length : Int) (b.length : Int) from by omega, ← HL.out] at hrh
        have hap2 : (b.length : Int) ≤ (L.length : Int) := by omega
        have HT := Lib.hid hrh.2
        clear hD4 hO4 hR4 hF4 hA2 hB2 hrh hz
        go_wp2_with ((with_reducible refine at_dst 57 rfl ?_); refine wpList_max rfl (.tmp 54) (.tmp 56) _ rfl _ _ rfl rfl ?_)
        refine (read_any HD4.out (by omega) (by omega) (by omega)).mono ?_
        rintro e w5 ⟨v5, rfl, hv5, hF5⟩
        simp only [← HL.out] at hv5
        obtain ⟨A5, c5, rfl, hc5, hc52⟩ := hv5.shape
        have HV5 := Lib.hid hv5
        have HF5 : Hid (Fr No w w5) := (show Fr No w w5 from HF4.out.then hF5)
        clear hv5 hF5 hc52
        have hB5 : Rb w5 (fun k => k < w.heap.size) (.slice Ab b.length cb) b := HB.out.fr HF5.out (fun _ _ _ h => h)
        obtain ⟨_, _, he, _, _, hnb⟩ := hB5.news
        cases he
        have HNB := Lib.hid hnb
        have HB5 := Lib.hid hB5
        clear hnb hB5
        have hcut := cut0_run (P := Try.prog) 22 5 Try.underlying22 sz5 A5 L.length c5 (b.length : Int) (by omega) (by omega)
        go_wp2_with (with_reducible refine halt_dst 60 rfl ?_)
        refine wpList_app (O := No) rfl (.const (.slice none 0 0)) (.tmp 59) 22 5 rfl _ 1 1 Try.underlying22 info5 rfl (by omega) (by omega) (.slice none 0 0) 0 [] rfl _ b.length _ rfl (Ow.nil _ _ _ _) (b.map enc8) (by simp) HNB.out (by simp [enc8, Value.oneCell']) (by omega) ?_
        intro v6 w6 hown6 hfr6
        rw [List.nil_append, Nat.zero_add] at hown6
        have hf6 : Fr No w5 w6 := hfr6.mono (fun k _ h => by simp [Value.ownBlock] at h)
        obtain ⟨A7, c7, rfl, _, hc72⟩ := hown6.shape
        have HO6 := Lib.hid hown6
        have HF6 := Lib.hid hf6
        clear hown6 hfr6 hc72 hf6
        have hgot : Rb w6 (New w4) (.slice A5 L.length c5) L := HV5.out.reads.fr HF6.out (fun _ _ _ h => h)
        obtain ⟨_, _, he9, _, _, htk⟩ := hgot.take_ b.length (by omega)
        cases he9
        go_wp2_with fail
        refine (samebytes_yes htk (HB5.out.fr HF6.out (fun _ _ _ h => h)) HT.out).mono ?_
        rintro e w' ⟨rfl, rfl⟩
        go_wp2_with fail
        go_ret
        exact ⟨rfl, HF5.out.then HF6.out⟩
      · refine (write_no HD.out hB2 (by simp only [hz]; omega)).mono ?_
        rintro e w' ⟨rfl, rfl⟩
        go_wp2_with fail
        refine (waiting_any HD.out).mono ?_
        rintro e w' ⟨rfl, rfl⟩
        rw [show (((⟨List.replicate n 0, List.replicate n 0, []⟩ : Dk).waits.length : Nat) : Int) = 0 from rfl]
        go_wp2_with fail
        go_ret
        exact ⟨rfl, HF2.out⟩
end Go.Proofs.Ytbaohngnpgappaa
