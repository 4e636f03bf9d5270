/- WireLists: its walk. -/
import Derived.Test.YtbaohngnpgappaaW28
set_option linter.unusedVariables false
set_option linter.unusedSimpArgs false
namespace Go.Proofs.Ytbaohngnpgappaa
open Go.RowKit
theorem It.bulks_app' (a b : List It) : It.bulks (a ++ b) = It.bulks a + It.bulks b := by
  induction a with
  | nil => simp [It.bulks]
  | cons x r ih => simp only [List.cons_append, It.bulks, ih]; omega
theorem It.bulks_mem {x : It} : ∀ {l : List It}, x ∈ l → x.bulk ≤ It.bulks l := by
  intro l
  induction l with
  | nil => intro h; cases h
  | cons y r ih =>
    intro h
    rw [It.bulks]
    rcases List.mem_cons.1 h with rfl | h
    · omega
    · have := ih h; omega
theorem sizes_le {l : List It} (h : bigB l = false) : It.sizes l ≤ 2000 * l.length := by
  have hm := bigB_mem h
  clear h
  induction l with
  | nil => exact Nat.le_refl _
  | cons x r ih =>
    have h1 := hm x List.mem_cons_self
    have h2 := ih (fun y hy => hm y (List.mem_cons_of_mem _ hy))
    rw [It.sizes, List.length_cons]
    omega
theorem oks_of : ∀ {l : List It}, (∀ x ∈ l, x.ok = true) → It.oks l = true := by
  intro l
  induction l with
  | nil => intro _; rfl
  | cons x r ih => intro h; rw [It.oks, h x List.mem_cons_self, ih (fun y hy => h y (List.mem_cons_of_mem _ hy))]; rfl
theorem check_list {l : List It} (h : ∀ x ∈ l, checkI x = 0) : checkI (.mk 3 0 [] l) = 0 ∨ checkI (.mk 3 0 [] l) = 3 := by
  have hok : (It.mk 3 0 [] l).ok = true := by
    rw [It.ok, oks_of (fun x hx => check_ok (h x hx))]
    unfold headOk
    simp
  unfold checkI
  rw [if_pos hok]
  split
  · exact .inr rfl
  · exact .inl rfl
theorem countB_small {n : Nat} (h : n < 128) : countB n = [UInt8.ofNat n] := by
  unfold countB
  rw [show n / 128 = 0 from by omega, hiB_zero, show n % 128 = n from by omega]; rfl
set_option maxRecDepth 100000 in
set_option maxHeartbeats 4000000 in
theorem wlists_any {w : World} {F : Nat → Prop} {v : Value} {l : List It} (h : Row ItK w F v l) (hbk : It.bulks l + 1 ≤ 1048576) : Calls Try.prog 7 #[v] w (Told (.bool true) w) := by
  obtain ⟨A, c, rfl, hc1, hc2⟩ := h.shape
  have hl2 : (l.length : Int) ≤ 9223372036854775807 := by simp only [maxLen] at hc2; omega
  have H : Hid (Row ItK w (fun k => F k ∧ k < w.heap.size) (.slice A l.length c) l) := (show Row _ _ _ _ _ from h.bound (by decide))
  have HBK := Lib.hid hbk
  obtain ⟨n, hn⟩ : ∃ n, n = l.length := ⟨_, rfl⟩
  have HN := Lib.hid hn
  rw [← hn] at hc1 hl2 H ⊢
  clear h hc2 hbk hn
  go_enter Try.func7, Try.ntmps7
  go_wp2_with fail
  refine (wlive_any w).mono ?_
  rintro e w1 ⟨rfl, hf1⟩
  have HF1 := Lib.hid hf1
  clear hf1
  by_cases hbig : (100 : Int) < (n : Int)
  · have hd1 : Hid (decide ((100 : Int) < (n : Int)) = true) := (show _ = _ from decide_eq_true hbig)
    go_wp2_with (with_reducible refine halt_dst 14 rfl ?_)
    refine wpListG_run (by rfl) (v := .bool true) (w' := w1) ?hr ?_
    case hr => go_simp; (try rw [hd1.out])
    go_wp2_with fail
    go_ret
    exact (show Told _ _ _ _ from ⟨rfl, HF1.out⟩)
  · have hd1 : Hid (decide ((100 : Int) < (n : Int)) = false) := (show _ = _ from decide_eq_false hbig)
    have hn100 : n ≤ 100 := by omega
    go_wp2_with (with_reducible refine halt_dst 14 rfl ?_)
    refine wpListG_run (by rfl) (v := .bool false) (w' := w1) ?hr ?_
    case hr => go_simp; (try rw [hd1.out])
    go_wp2_with fail
    obtain ⟨B, hB⟩ : ∃ B, Hid (B = bigB l) := ⟨_, show _ = _ from rfl⟩
    refine (big_any (H.out.fr (by decide) HF1.out (fun _ _ _ h => h))).mono ?_
    rw [← hB.out]
    rintro e w2 ⟨rfl, hf2⟩
    have HF2 : Hid (Fr No w w2) := (show Fr No w w2 from HF1.out.then hf2)
    clear hf2 hd1
    cases B
    · have HZ : Hid (∀ x ∈ l, x.size ≤ 2000) := (show ∀ x ∈ l, x.size ≤ 2000 from bigB_mem hB.out.symm)
      have HZS : Hid (It.size (.mk 3 0 [] l) ≤ 1048576) := (show _ ≤ _ from by
        have h1 := sizes_le hB.out.symm
        rw [← HN.out] at h1
        rw [It.size]; omega)
      have H2 : Hid (Row ItK w2 (fun k => F k ∧ k < w.heap.size) (.slice A n c) l) := (show Row _ _ _ _ _ from H.out.fr (by decide) HF2.out (fun _ _ _ h => h))
      go_wp2_with fail
      go_loopw [4, 22] (fun o i wr => ∃ (j : Nat) (A : Option Addr) (m c : Nat), j ≤ n ∧ i = .int .i64 j ∧ o = .slice A m c ∧ Hid (m = (It.encs (l.take j)).length) ∧ Hid (Grow w2 (.slice none 0 0) (.slice A m c) (It.encs (l.take j)) wr) ∧ Hid (∀ x ∈ l.take j, checkI x = 0)) (fun _ i _ => n - (intOf i).toNat)
      case atStart => exact ⟨0, none, 0, 0, Nat.zero_le _, rfl, rfl, (show _ = _ from rfl), (show Grow _ _ _ _ _ from Grow.start (Ow.nil _ No _ _) (Fr.refl _ _)), (show ∀ x ∈ l.take 0, checkI x = 0 from by simp)⟩
      case round =>
        obtain ⟨j, Ao, mo, co, hj, rfl, rfl, hmo, HJ, HCK⟩ := hrel
        by_cases hlt : j < n
        · have hlt' : j < l.length := by rw [← HN.out]; exact hlt
          obtain ⟨b1, o1, _, cs, he, _, _, _, hrx, hcell⟩ := (show Row ItK wr (fun k => F k ∧ k < w.heap.size) (.slice A l.length c) l from by rw [← HN.out]; exact H2.out.fr (by decide) HJ.out.fr (fun k _ hk h => by simp [Value.ownBlock] at h)).at_ j hlt'
          cases he
          obtain ⟨x, hx⟩ : ∃ x, x = l[j] := ⟨_, rfl⟩
          have HXJ : Hid (l[j]? = some x) := (show _ = _ from by rw [hx]; exact List.getElem?_eq_getElem hlt')
          have hmem : Hid (x ∈ l) := (show x ∈ l from by rw [hx]; exact List.getElem_mem hlt')
          have HXB : Hid (x.bulk ≤ 1048576) := (show _ ≤ _ from by have h1 := It.bulks_mem hmem.out; have h2 := HBK.out; omega)
          have hsplit : Hid (It.encs (l.take (j + 1)) = It.encs (l.take j) ++ x.enc) := (show _ = _ from by
            rw [List.take_add_one, HXJ.out, It.encs_app]
            simp only [Option.toList, It.encs, List.append_nil])
          have hlen : Hid ((It.encs (l.take j)).length + x.enc.length ≤ 11 * 1048576) := (show _ ≤ _ from by
            have h1 : It.bulks (l.take (j + 1)) ≤ It.bulks l := by
              have h2 := It.bulks_app' (l.take (j + 1)) (l.drop (j + 1))
              rw [List.take_append_drop] at h2
              omega
            have h3 := It.enc_bulk (.mk 3 0 [] (l.take (j + 1)))
            rw [It.enc, if_neg (by decide), if_neg (by decide), It.bulk, List.length_cons, List.length_append, hsplit.out, List.length_append] at h3
            have h4 := HBK.out
            simp only [List.length_nil] at h3
            omega)
          rw [← hx] at hrx
          obtain ⟨xk, xn, xs, xl⟩ := x
          obtain ⟨vl, rfl, hrow, hfit⟩ := itR_row hrx
          obtain ⟨A2, c2, rfl, _, _⟩ := hrow.shape
          have c0 := hcell 0 _ rfl
          have c1 := hcell 1 _ rfl
          have c2' := hcell 2 _ rfl
          have c3' := hcell 3 _ rfl
          simp only [show ItK.sz = 4 from rfl, Nat.add_zero, str] at c0 c1 c2' c3'
          have HRX := Lib.hid hrx
          have hxs : Hid ((It.mk xk xn xs xl).size ≤ 1048576) := (show _ ≤ _ from by have := HZ.out _ hmem.out; omega)
          obtain ⟨X, hX⟩ : ∃ X, Hid (X = encodeI (It.mk xk xn xs xl)) := ⟨_, show _ = _ from rfl⟩
          obtain ⟨C, hC⟩ : ∃ C, Hid (C = checkI (It.mk xk xn xs xl)) := ⟨_, show _ = _ from rfl⟩
          clear hcell hrow hfit hrx hx
          go_wp2_with fail
          obtain ⟨wB, hwB⟩ : ∃ wB, Hid (wB = wr.alloc (.cells #[.int .i64 xk, .int .i64 xn, .string ⟨xs.toArray⟩, .slice A2 xl.length c2] 48 (0, 0))) := ⟨_, show _ = _ from rfl⟩
          rw [← hwB.out]
          have hfB : Fr No wr wB := by rw [hwB.out]; exact (Fr.refl _ _).alloc _
          refine (encode_any (v := .mk xk xn xs xl) ⟨[.int .i64 xk, .int .i64 xn, .string ⟨xs.toArray⟩, .slice A2 xl.length c2], rfl, itR_move (w := wr) (w' := wB) (fun k _ hl => hfB.block k hl (fun h => h)) _ _ HRX.out⟩ hxs.out (fun _ => ⟨It.bulk_texts _ HXB.out, It.bulk_enc HXB.out⟩)).mono ?_
          rw [← hX.out, ← hC.out]
          rintro e w5 ⟨v5, rfl, hown5, hf5⟩
          have hg5 : Grow w2 (.slice none 0 0) (.slice Ao mo co) (It.encs (l.take j)) w5 := HJ.out.quiet (hfB.then hf5)
          have HG5 := Lib.hid hg5
          obtain ⟨A5, c5, rfl, _, _⟩ := hown5.shape
          obtain ⟨_, _, he, _, _, hnews⟩ := hown5.reads.news
          cases he
          have HN5 := Lib.hid hnews
          clear hg5 hnews hown5 hf5 hfB c0 c1 c2' c3'
          by_cases hC0 : C = 0
          · have HXE : Hid (X = (It.mk xk xn xs xl).enc ∧ checkI (It.mk xk xn xs xl) = 0) := (show _ ∧ _ from by
              have e1 := hC.out
              rw [hC0] at e1
              exact ⟨by rw [hX.out, encodeI, if_pos e1.symm], e1.symm⟩)
            have hxl : Hid (mo + X.length ≤ 11 * 1048576) := (show _ ≤ _ from by rw [hmo.out, HXE.out.1]; exact hlen.out)
            subst hC0
            go_wp2_with (with_reducible refine halt_dst 36 rfl ?_)
            refine wpList_app rfl (.tmp 34) (.tmp 35) 22 5 rfl _ 1 1 Try.underlying22 info5 rfl (by omega) (by omega) (.slice Ao mo co) (It.encs (l.take j)).length ((It.encs (l.take j)).map enc8) rfl A5 X.length c5 rfl HG5.out.own (X.map enc8) (by rw [List.length_map, Nat.mul_one]) HN5.out (one8 _) (by have h1 := hxl.out; rw [← hmo.out]; omega) ?_
            intro v6 w6 hown6 hfr6
            have hg6 := HG5.out.app hown6 hfr6 rfl
            have HJ2 : Hid (Grow w2 (.slice none 0 0) v6 (It.encs (l.take (j + 1))) w6) := (show Grow _ _ _ _ _ from by
              rw [hsplit.out, ← HXE.out.1]
              exact hg6)
            have HCK2 : Hid (∀ x ∈ l.take (j + 1), checkI x = 0) := (show ∀ x ∈ l.take (j + 1), checkI x = 0 from by
              intro y hy
              rw [List.take_add_one, HXJ.out] at hy
              rcases List.mem_append.1 hy with h1 | h1
              · exact HCK.out y h1
              · simp only [Option.toList, List.mem_singleton] at h1
                rw [h1]; exact HXE.out.2)
            obtain ⟨m6, hm6⟩ : ∃ m6, Hid (m6 = (It.encs (l.take (j + 1))).length) := ⟨_, show _ = _ from rfl⟩
            obtain ⟨A6, c6, he6, _, _⟩ := HJ2.out.own.shape
            rw [← hm6.out] at he6
            subst he6
            clear hown6 hfr6 hg6
            go_wp2_with fail
            go_roundw
            case rel => exact ⟨j + 1, A6, m6, c6, by omega, by go_num, rfl, hm6, HJ2, HCK2⟩
            case measure => simp [intOf]; omega
          · have HF5 : Hid (Fr No w w5) := (show Fr No w w5 from HF2.out.trans HG5.out.fr (fun _ _ h => h) (fun k _ h => by simp [Value.ownBlock] at h))
            go_wp2_with fail
            go_ret
            exact (show Told _ _ _ _ from ⟨rfl, HF5.out⟩)
        · have hjl : j = n := by omega
          subst hjl
          clear hlt hj
          rw [List.take_of_length_le (by rw [← HN.out]; exact Nat.le_refl _)] at hmo HJ HCK
          have HFr : Hid (Fr No w wr) := (show Fr No w wr from HF2.out.trans HJ.out.fr (fun _ _ h => h) (fun k _ h => by simp [Value.ownBlock] at h))
          obtain ⟨E, hE⟩ : ∃ E, Hid (E = It.encs l) := ⟨_, show _ = _ from rfl⟩
          rw [← hE.out] at hmo HJ
          go_wp2_with fail
          refine (list1_any A j c wr).mono ?_
          rintro e w3 ⟨rfl, hf3⟩
          have HF3 : Hid (Fr No w w3) := (show Fr No w w3 from HFr.out.then hf3)
          have HJ3 : Hid (Grow w2 (.slice none 0 0) (.slice Ao mo co) E w3) := (show Grow _ _ _ _ _ from HJ.out.quiet hf3)
          have hrow3 : Row ItK w3 (fun k => F k ∧ k < w.heap.size) (.slice A j c) l := H.out.fr (by decide) HF3.out (fun _ _ _ h => h)
          have HV : Hid (ItV w3 (fun k => F k ∧ k < w.heap.size) (.agg #[.int .i64 3, .int .i64 0, .string ⟨#[]⟩, .slice A j c]) (.mk 3 0 [] l)) := (show ItV _ _ _ _ from ⟨_, rfl, itR_of_row (s := []) hrow3 ⟨by unfold I64; omega, by unfold I64; omega, Nat.zero_le _⟩⟩)
          have HBL : Hid ((It.mk 3 0 [] l).bulk ≤ 1048576) := (show _ ≤ _ from by rw [It.bulk]; have := HBK.out; simp only [List.length_nil]; omega)
          obtain ⟨C, hC⟩ : ∃ C, Hid (C = checkI (.mk 3 0 [] l)) := ⟨_, show _ = _ from rfl⟩
          obtain ⟨X, hX⟩ : ∃ X, Hid (X = encodeI (.mk 3 0 [] l)) := ⟨_, show _ = _ from rfl⟩
          clear hf3 hrow3
          go_wp2_with fail
          refine (encode_any HV.out HZS.out (fun _ => ⟨It.bulk_texts _ HBL.out, It.bulk_enc HBL.out⟩)).mono ?_
          rw [← hC.out, ← hX.out]
          rintro e w4 ⟨v4, rfl, hown4, hf4⟩
          have HF4 : Hid (Fr No w w4) := (show Fr No w w4 from HF3.out.then hf4)
          have HJ4 : Hid (Grow w2 (.slice none 0 0) (.slice Ao mo co) E w4) := (show Grow _ _ _ _ _ from HJ3.out.quiet hf4)
          have hck := check_list HCK.out
          rw [← hC.out] at hck
          have HR4 : Hid (Rb w4 (New w3) v4 X) := (show Rb _ _ _ _ from hown4.reads)
          obtain ⟨A4, c4, rfl, hc41, hc42⟩ := hown4.shape
          clear hown4 hf4
          rcases hck with hC0 | hC3
          · have HXE : Hid (X = byteOf 3 :: UInt8.ofNat j :: E) := (show _ = _ from by
              have e1 := hC.out
              rw [hC0] at e1
              rw [hX.out, encodeI, if_pos e1.symm, It.enc, if_neg (by decide), if_neg (by decide), ← HN.out, countB_small (by omega), hE.out]; rfl)
            have hXl : Hid (X.length = mo + 2) := (show _ = _ from by rw [HXE.out, hmo.out]; rfl)
            obtain ⟨m, hm⟩ : ∃ m, m = X.length := ⟨_, rfl⟩
            have hm2 : m = mo + 2 := by rw [hm, hXl.out]
            have HM := Lib.hid hm
            rw [← hm] at HR4 hc41 ⊢
            obtain ⟨bk, o, he, q0, _, e0⟩ := byte_at HR4.out (k := 0) (x := byteOf 3) (by rw [HXE.out]; rfl)
            obtain ⟨_, _, he1, q1, _, e1⟩ := byte_at HR4.out (k := 1) (x := UInt8.ofNat j) (by rw [HXE.out]; rfl)
            rw [he] at he1; cases he1
            subst he
            have e0' : w4.cell? ⟨bk, o, none⟩ = some (.int .u8 3) := e0
            have e1' : w4.cell? ⟨bk, o + 1, none⟩ = some (.int .u8 (j : Int)) := by
              rw [e1]
              congr 2
              rw [UInt8.toNat_ofNat']
              omega
            obtain ⟨A7, hcut, hA7⟩ := cut_run (P := Try.prog) 22 5 Try.underlying22 sz5 (some ⟨bk, o, none⟩) m c4 2 (by omega)
            rw [show m - 2 = mo from by omega, show ((2 : Nat) : Int) = 2 from rfl] at hcut
            have HRT : Hid (Rb w4 (New w3) (.slice A7 mo (c4 - 2)) E) := (show Rb _ _ _ _ from by
              have h1 := HR4.out
              rw [HM.out] at h1
              have h2 := h1.cut 2 X.length (by rw [hXl.out]; omega) (Nat.le_refl _)
              rw [← hA7, List.take_length, hXl.out, show mo + 2 - 2 = mo from by omega, HXE.out] at h2
              exact h2)
            have hm0 : 0 < m := by omega
            have hm1 : (1 : Int) < (m : Int) := by omega
            have hmm : Hid ((2 : Int) + (mo : Int) = (m : Int)) := (show _ = _ from by omega)
            have hmob : mo ≤ 11534336 := by rw [hmo.out]; have h1 := It.enc_bulk (.mk 3 0 [] l); rw [It.enc, if_neg (by decide), if_neg (by decide), List.length_cons, List.length_append, ← hE.out] at h1; have := HBL.out; omega
            have hmb : m ≤ 11534338 := by omega
            have hRE : Hid (Rb w4 (fun k => (Value.slice none 0 0).ownBlock = some k ∨ w2.heap.size ≤ k) (.slice Ao mo co) E) := (show Rb _ _ _ _ from by
              have h1 := HJ4.out.own.reads
              exact h1)
            subst hC0
            clear hA7 e0 e1 q0 q1 hm hm2
            go_wp2_with (with_reducible refine halt_dst 57 rfl ?_)
            refine wpListG_run (by rfl) (v := .int .i64 (m : Int)) (w' := w4) ?hr ?_
            case hr => go_simp; rw [hmm.out, IntKind.wrap_i64]; omega
            go_wp2_with fail
            refine (samebytes_yes HRT.out hRE.out rfl).mono ?_
            rintro e w' ⟨rfl, rfl⟩
            go_wp2_with fail
            go_ret
            exact (show Told _ _ _ _ from ⟨rfl, HF4.out⟩)
          · subst hC3
            go_wp2_with fail
            go_ret
            exact (show Told _ _ _ _ from ⟨rfl, HF4.out⟩)
    · go_wp2_with fail
      go_ret
      exact (show Told _ _ _ _ from ⟨rfl, HF2.out⟩)
end Go.Proofs.Ytbaohngnpgappaa
