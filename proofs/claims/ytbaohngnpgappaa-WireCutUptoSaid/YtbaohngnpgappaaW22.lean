/- WireBursts: its walk. -/
import Derived.Test.YtbaohngnpgappaaW21
import Derived.Test.YtbaohngnpgappaaW14
set_option linter.unusedVariables false
set_option linter.unusedSimpArgs false
namespace Go.Proofs.Ytbaohngnpgappaa
open Go.RowKit
/-- What stands behind each round: the tail with the burst's bits turned. -/
def Turned (w : World) (n a u : Nat) (T0 : List UInt8) (g : Nat) (v : Value) (k : Nat) (wr : World) : Prop :=
  ∃ T : List UInt8, T.length = n + 4 ∧ lev T = lev T0 ^^^ 2 ^ a * bst u (8 * (n + 4) - a) k ∧ Ow wr (fun q => q = g) 5 1 v (n + 8) ((be4 n ++ T).map enc8) ∧ Fr No w wr
theorem xor8 (a b : UInt8) : bits .xor .u8 (a.toNat : Int) (b.toNat : Int) = ((a ^^^ b).toNat : Int) := by
  have ha := a.toNat_lt
  have hb := b.toNat_lt
  have h1 : (BitVec.ofInt 8 (a.toNat : Int)).toNat = a.toNat := by
    rw [BitVec.ofInt_natCast, BitVec.toNat_ofNat]; exact Nat.mod_eq_of_lt (by omega)
  have h2 : (BitVec.ofInt 8 (b.toNat : Int)).toNat = b.toNat := by
    rw [BitVec.ofInt_natCast, BitVec.toNat_ofNat]; exact Nat.mod_eq_of_lt (by omega)
  show IntKind.u8.wrap ((BitVec.ofInt 8 (a.toNat : Int) ^^^ BitVec.ofInt 8 (b.toNat : Int)).toNat : Int) = _
  rw [BitVec.toNat_xor, h1, h2, IntKind.wrap_u8, UInt8.toNat_xor]
  have := Nat.xor_lt_two_pow (n := 8) ha hb
  omega
theorem rdn_be4 (n : Nat) (h : n < 4294967296) : rdn (be4 n) = n := by
  rw [be4_lit, rdn4]
  have e : ∀ z : Int, 0 ≤ z → ((byteOf z).toNat : Int) = z % 256 := fun z hz => by rw [enc8_is, IntKind.wrap_u8]
  have e0 := e ((n : Int) / 16777216) (by omega)
  have e1 := e ((n : Int) / 65536) (by omega)
  have e2 := e ((n : Int) / 256) (by omega)
  have e3 := e (n : Int) (by omega)
  omega
/-- What is told of a head and a tail. -/
theorem open_tail {n : Nat} {T : List UInt8} (hn : n ≤ 2147483647) (hT : T.length = n + 4) : (openB (be4 n ++ T)).2.2 = if le4 (crc (be4 n ++ T.take n)) = T.drop n then 0 else 12 := by
  have hl : (be4 n ++ T).length = n + 8 := by rw [List.length_append, be4_len]; omega
  have h4 : (be4 n ++ T).take 4 = be4 n := by rw [List.take_append_of_le_length (by rw [be4_len]; omega), List.take_of_length_le (by rw [be4_len]; omega)]
  have hr : rdn ((be4 n ++ T).take 4) = n := by rw [h4, rdn_be4 n (by omega)]
  have h1 := seal_iff (b := be4 n ++ T) (S := n) (by omega) hr.symm (by omega)
  have h5 : (be4 n ++ T).take (4 + n) = be4 n ++ T.take n := by
    rw [List.take_append, be4_len, List.take_of_length_le (by rw [be4_len]; omega), show 4 + n - 4 = n from by omega]
  have h6 : ((be4 n ++ T).drop (4 + n)).take 4 = T.drop n := by
    rw [List.drop_append, be4_len, List.drop_eq_nil_of_le (by rw [be4_len]; omega), List.nil_append, show 4 + n - 4 = n from by omega, List.take_of_length_le (by rw [List.length_drop]; omega)]
  rw [h5, h6] at h1
  unfold openB
  rw [if_neg (by omega), hr, if_neg (by omega), if_neg (by omega), h5]
  by_cases h2 : le4 (crc (be4 n ++ T.take n)) = T.drop n
  · rw [if_pos h2, if_pos (h1.2 h2)]
  · rw [if_neg h2, if_neg (fun h => h2 (h1.1 h))]
theorem tail_ok {n : Nat} {b T0 : List UInt8} (h : T0 = b ++ le4 (crc (be4 n ++ b)) ∧ n = b.length) : (T0.take n).foldl crcByte (crcAll (be4 n)) ^^^ 4294967295 = lev (T0.drop n) := by
  obtain ⟨rfl, rfl⟩ := h
  rw [List.take_left, List.drop_left]
  have h1 := (le4_lev (n := crc (be4 b.length ++ b)) (crc_lt _) (l := le4 (crc (be4 b.length ++ b))) (le4_len _)).1 rfl
  rw [← h1]
  unfold crc crcAll
  rw [List.foldl_append]
theorem shr32 (u k : Nat) : ((u : Int) / 2 ^ k) = ((u / 2 ^ k : Nat) : Int) := by simp
theorem bit_tmod {a d : Int} (hd : 0 < d) : ∃ A : Nat, ((a.tmod d + d).tmod d) = (A : Int) ∧ (A : Int) < d ∧ -d < a.tmod d ∧ a.tmod d < d := by
  have h1 := Int.tmod_lt_of_pos a hd
  have h2 : -d < a.tmod d := by
    have h3 := Int.tmod_lt_of_pos (-a) hd
    rw [Int.neg_tmod] at h3
    omega
  refine ⟨((a.tmod d + d).tmod d).toNat, ?_, ?_, h2, h1⟩
  · rw [Int.toNat_of_nonneg (Int.tmod_nonneg _ (by omega))]
  · rw [Int.toNat_of_nonneg (Int.tmod_nonneg _ (by omega))]
    exact Int.tmod_lt_of_pos _ hd
set_option maxRecDepth 100000 in
set_option maxHeartbeats 2000000 in
theorem wbursts_any {w : World} {F : Nat → Prop} {v : Value} {b : List UInt8} {at_ : Int} {u : Nat} (h : Rb w F v b) (hat : I64 at_) (hu : u < 4294967296) : Calls Try.prog 13 #[v, .int .i64 at_, .int .u32 (u : Int)] w (Told (.bool true) w) := by
  obtain ⟨A, c, rfl, hc1, hc2⟩ := h.shape
  have hl2 : (b.length : Int) ≤ 9223372036854775807 := by simp only [maxLen] at hc2; omega
  have H := Lib.hid h
  obtain ⟨n, hn⟩ : ∃ n, n = b.length := ⟨_, rfl⟩
  have HN := Lib.hid hn
  rw [← hn] at hc1 hl2 H ⊢
  unfold I64 at hat
  clear h hc2 hn
  go_enter Try.func13, Try.ntmps13
  go_wp2_with fail
  refine (wlive_any w).mono ?_
  rintro e w1 ⟨rfl, hf1⟩
  have HF1 := Lib.hid hf1
  clear hf1
  by_cases hbig : (100000 : Int) < (n : Int)
  · go_wp2_with fail
    go_ret
    exact (show Told _ _ _ _ from ⟨rfl, HF1.out⟩)
  · by_cases hu0 : u = 0
    · subst hu0
      go_wp2_with fail
      go_ret
      exact (show Told _ _ _ _ from ⟨rfl, HF1.out⟩)
    · have hnb : n ≤ 100000 := by omega
      have hd1 : Hid (decide ((100000 : Int) < (n : Int)) = false) := (show _ = _ from decide_eq_false hbig)
      have hd2 : Hid (¬ u = 0) := (show ¬ _ from hu0)
      clear hu0
      go_wp2_with (with_reducible refine halt_dst 18 rfl ?_)
      refine wpListG_run (by rfl) (v := .bool false) (w' := w1) ?hr ?_
      case hr => go_simp; (try rw [hd1.out])
      go_wp2_with (with_reducible refine halt_dst 21 rfl ?_)
      refine wpListG_run (by rfl) (v := .bool false) (w' := w1) ?hr ?_
      case hr => go_simp; exact hd2.out
      go_wp2_with fail
      refine (seal_any (H.out.fr HF1.out (fun _ _ _ h => h)) (by rw [← HN.out]; omega)).mono ?_
      rintro e w2 ⟨v2, rfl, hown2, hf2⟩
      rw [sealB_len, ← HN.out] at hown2
      obtain ⟨g, c2, cur, rfl, hg, hblk, _, hc22, _, _⟩ := hown2.form (by omega)
      obtain ⟨T0, hT0⟩ : ∃ T0, Hid (T0 = b ++ le4 (crc (be4 n ++ b))) := ⟨_, show _ = _ from rfl⟩
      have hs : Hid (sealB b = be4 n ++ T0) := (show _ = _ from by rw [sealB, hT0.out, HN.out, List.append_assoc])
      have HR0 : Hid (Turned w n 0 u T0 g (.slice (some ⟨g, 0, none⟩) (n + 8) c2) 0 w2) := (show Turned _ _ _ _ _ _ _ _ _ from by
        refine ⟨T0, by rw [hT0.out, List.length_append, le4_len, HN.out], by simp [bst, Nat.mod_one], ?_, HF1.out.then hf2⟩
        rw [← hs.out]
        exact ⟨hown2.1, fun k hk => by simpa [Value.ownBlock] using hk.symm⟩)
      clear hown2 hf2 hblk
      obtain ⟨m, hm⟩ : ∃ m, m = n + 8 := ⟨_, rfl⟩
      rw [← hm]
      obtain ⟨d, hdd⟩ : ∃ d, d = 8 * (n + 4) := ⟨_, rfl⟩
      have hd29 : Hid (8 * (m : Int) - 32 = (d : Int)) := (show _ = _ from by omega)
      have hd0 : (32 : Int) ≤ (d : Int) := by omega
      have hdb : d ≤ 800032 := by omega
      have HM := Lib.hid hm
      have HD := Lib.hid hdd
      obtain ⟨q, hq⟩ : ∃ q, q = at_.tmod (d : Int) := ⟨_, rfl⟩
      obtain ⟨a, ha1, ha2, ha3, ha4⟩ := bit_tmod (a := at_) (d := (d : Int)) (by omega)
      rw [← hq] at ha1 ha3 ha4
      have HQ := Lib.hid hq
      have HA := Lib.hid ha1
      have had : a < d := by omega
      clear hm hdd hq ha1 ha2
      have hmb : m ≤ 100008 := by have := HM.out; omega
      go_wp2_with (with_reducible refine halt_dst 29 rfl ?_)
      refine wpListG_run (by rfl) (v := .int .i64 (d : Int)) (w' := w2) ?hr ?_
      case hr => go_simp; rw [hd29.out, IntKind.wrap_i64]; omega
      go_wp2_with (with_reducible refine halt_dst 34 rfl ?_)
      refine wpListG_run (by rfl) (v := .int .i64 q) (w' := w2) ?hr ?_
      case hr =>
        go_simp
        rw [if_neg (by omega), HQ.out]
      go_wp2_with (with_reducible refine halt_dst 36 rfl ?_)
      refine wpListG_run (by rfl) (v := .int .i64 (q + (d : Int))) (w' := w2) ?hr ?_
      case hr =>
        go_simp
        rw [IntKind.wrap_i64]; omega
      go_wp2_with (with_reducible refine halt_dst 38 rfl ?_)
      refine wpListG_run (by rfl) (v := .int .i64 (a : Int)) (w' := w2) ?hr ?_
      case hr =>
        go_simp
        rw [if_neg (by omega), HA.out]
      have HR1 : Hid (Turned w n a u T0 g (.slice (some ⟨g, 0, none⟩) m c2) 0 w2) := (show Turned _ _ _ _ _ _ _ _ _ from by
        obtain ⟨T, h1, h2, h3, h4⟩ := HR0.out
        refine ⟨T, h1, ?_, by rw [HM.out]; exact h3, h4⟩
        rw [h2]; simp [bst, Nat.mod_one])
      go_wp2_with fail
      go_loopw [10, 39] (fun t k wr => ∃ (j : Nat) (tb : Bool), j ≤ 32 ∧ k = .int .i64 j ∧ t = .bool tb ∧ Hid (tb = decide (bst u (8 * (n + 4) - a) j ≠ 0) ∧ Turned w n a u T0 g (.slice (some ⟨g, 0, none⟩) m c2) j wr)) (fun _ k _ => 32 - (intOf k).toNat)
      case atStart => exact ⟨0, false, Nat.zero_le _, rfl, rfl, (show _ ∧ _ from ⟨by simp [bst, Nat.mod_one], HR1.out⟩)⟩
      case round =>
        obtain ⟨j, tb, hj, rfl, rfl, HX⟩ := hrel
        by_cases hlt : (j : Int) < 32
        · obtain ⟨P, hP⟩ : ∃ P, Hid (P = u / 2 ^ j) := ⟨_, show _ = _ from rfl⟩
          have hPu : P < 4294967296 := by rw [hP.out]; exact Nat.lt_of_le_of_lt (Nat.div_le_self _ _) hu
          have hsh : Hid ((u : Int) / 2 ^ j = (P : Int)) := (show _ = _ from by rw [hP.out]; exact shr32 u j)
          rcases Nat.mod_two_eq_zero_or_one P with hodd | hodd
          · have hbit : Hid (bits .and .u32 (P : Int) 1 = 0) := (show _ = _ from by rw [and1_32 P hPu, hodd]; rfl)
            have HX2 : Hid (tb = decide (bst u (8 * (n + 4) - a) (j + 1) ≠ 0) ∧ Turned w n a u T0 g (.slice (some ⟨g, 0, none⟩) m c2) (j + 1) wr) := (show _ ∧ _ from by
              obtain ⟨h0, T, h1, h2, h3⟩ := HX.out
              have h4 : bst u (8 * (n + 4) - a) (j + 1) = bst u (8 * (n + 4) - a) j := bst_off (by rw [← hP.out, hodd]; simp)
              rw [h4]
              exact ⟨h0, T, h1, by rw [h4]; exact h2, h3⟩)
            clear hodd
            go_wp2_with (with_reducible refine halt_dst 45 rfl ?_)
            refine wpListG_run (by rfl) (v := .int .u32 (P : Int)) (w' := wr) ?hr ?_
            case hr =>
              go_simp
              rw [hsh.out]
            go_wp2_with (with_reducible refine halt_dst 46 rfl ?_)
            refine wpListG_run (by rfl) (v := .int .u32 0) (w' := wr) ?hr ?_
            case hr => go_simp; (try rw [hbit.out])
            go_wp2_with fail
            go_roundw
            case rel => exact ⟨j + 1, tb, by omega, by go_num, rfl, HX2⟩
            case measure => simp [intOf]; omega
          · have hbit : Hid (bits .and .u32 (P : Int) 1 = 1) := (show _ = _ from by rw [and1_32 P hPu, hodd]; rfl)
            obtain ⟨i, hi⟩ : ∃ i, i = a + j := ⟨_, rfl⟩
            have HI := Lib.hid hi
            have hib : i < 900000 := by omega
            by_cases hin : i < d
            · have hon : Hid (u / 2 ^ j % 2 = 1 ∧ j < 8 * (n + 4) - a) := (show _ ∧ _ from ⟨by rw [← hP.out]; exact hodd, by have := HD.out; omega⟩)
              clear hodd hi
              have hin' : (i : Int) < (d : Int) := by omega
              obtain ⟨T, hT1, hT2, hT3, hT4⟩ := HX.out.2
              have hi8 : i / 8 < T.length := by have := HD.out; omega
              obtain ⟨x, hx⟩ : ∃ x, T[i / 8]? = some x := ⟨_, List.getElem?_eq_getElem hi8⟩
              obtain ⟨J, hJ⟩ : ∃ J, J = 4 + i / 8 := ⟨_, rfl⟩
              obtain ⟨r, hr⟩ : ∃ r, r = i % 8 := ⟨_, rfl⟩
              have hr8 : r < 8 := by omega
              obtain ⟨y, hy⟩ : ∃ y : UInt8, y = x ^^^ UInt8.ofNat (2 ^ r) := ⟨_, rfl⟩
              have hJm : J < m := by have := HM.out; have := HD.out; omega
              obtain ⟨g', c7, cur7, he3, hg', hblk7, _, _, hcs7, hcur7⟩ := (show Ow wr (fun q => q = g) 5 1 (.slice (some ⟨g, 0, none⟩) m c2) m ((be4 n ++ T).map enc8) from by rw [HM.out] at hT3 ⊢; exact hT3).form (by omega)
              cases he3
              have hxc : wr.cell? ⟨g, J, none⟩ = some (.int .u8 (x.toNat : Int)) := by
                rw [blk_cell hblk7, ← Array.getElem?_toList]
                have h1 : (cur7.toList.take (m * 1))[J]? = some (.int .u8 (x.toNat : Int)) := by
                  rw [hcur7, List.getElem?_map, List.getElem?_append_right (by rw [be4_len]; omega), be4_len, show J - 4 = i / 8 from by omega, hx]; rfl
                rw [List.getElem?_take] at h1
                split at h1
                · exact h1
                · cases h1
              have hfz : wr.frozen? ⟨g, J, none⟩ = false := blk_free hblk7 _
              have HX2 : Hid (true = decide (bst u (8 * (n + 4) - a) (j + 1) ≠ 0) ∧ Turned w n a u T0 g (.slice (some ⟨g, 0, none⟩) m c2) (j + 1) (wr.setCell ⟨g, J, none⟩ (.int .u8 (y.toNat : Int)))) := (show _ ∧ _ from by
                refine ⟨(decide_eq_true (bst_on_ne hon.out.1 hon.out.2)).symm, T.set (i / 8) y, by rw [List.length_set]; exact hT1, ?_, ?_, hT4.setCell _ _ (fun h => by have h9 : w.heap.size ≤ g := Nat.le_trans HF1.out.size hg; have h8 : g < w.heap.size := h; omega)⟩
                · rw [hy, hr, lev_flip T i x hx, hT2, bst_on hon.out.1 hon.out.2, ← HI.out, Nat.xor_assoc]
                · have h1 := (show Ow wr (fun q => q = g) 5 1 (.slice (some ⟨g, 0, none⟩) m c2) m ((be4 n ++ T).map enc8) from by rw [HM.out] at hT3 ⊢; exact hT3).set J (.int .u8 (y.toNat : Int))
                  rw [show (.int .u8 (y.toNat : Int) : Value) = enc8 y from rfl, ← List.map_set, List.set_append_right _ _ (by rw [be4_len]; omega), be4_len, show J - 4 = i / 8 from by omega] at h1
                  rw [HM.out] at h1 ⊢
                  exact h1)
              have hshl : Hid (IntKind.u8.wrap (2 ^ r) = ((UInt8.ofNat (2 ^ r)).toNat : Int)) := (show _ = _ from by
                have h2 : 2 ^ r < 2 ^ 8 := Nat.pow_lt_pow_right (by decide) hr8
                rw [UInt8.toNat_ofNat', IntKind.wrap_u8]
                push_cast
                rfl)
              obtain ⟨z, hz⟩ : ∃ z : UInt8, z = UInt8.ofNat (2 ^ r) := ⟨_, rfl⟩
              have hzx : Hid (bits .xor .u8 (x.toNat : Int) (z.toNat : Int) = (y.toNat : Int)) := (show _ = _ from by
                rw [hy, hz]; exact xor8 _ _)
              rw [← hz] at hshl
              have gx := x.toNat_lt
              have gz := z.toNat_lt
              have gy := y.toNat_lt
              have hij : Hid ((a : Int) + (j : Int) = (i : Int)) := (show _ = _ from by have := HI.out; omega)
              have hq8 : Hid ((i : Int).tdiv 8 = ((i / 8 : Nat) : Int)) := (show _ = _ from by rw [Int.tdiv_eq_ediv_of_nonneg (by omega)]; omega)
              have hr8' : Hid ((i : Int).tmod 8 = (r : Int)) := (show _ = _ from by rw [Int.tmod_eq_emod_of_nonneg (by omega)]; omega)
              have hJ' : Hid ((4 : Int) + ((i / 8 : Nat) : Int) = (J : Int)) := (show _ = _ from by omega)
              have hJm' : (J : Int) < (m : Int) := by omega
              clear hblk7 hcs7 hcur7 hT1 hT2 hT3 hT4 hx hy hz hJ hr hi8
              go_wp2_with (with_reducible refine halt_dst 45 rfl ?_)
              refine wpListG_run (by rfl) (v := .int .u32 (P : Int)) (w' := wr) ?hr ?_
              case hr =>
                go_simp
                rw [hsh.out]
              go_wp2_with (with_reducible refine halt_dst 46 rfl ?_)
              refine wpListG_run (by rfl) (v := .int .u32 1) (w' := wr) ?hr ?_
              case hr => go_simp; (try rw [hbit.out])
              go_wp2_with (with_reducible refine halt_dst 51 rfl ?_)
              refine wpListG_run (by rfl) (v := .int .i64 (i : Int)) (w' := wr) ?hr ?_
              case hr => go_simp; rw [hij.out, IntKind.wrap_i64]; omega
              go_wp2_with (with_reducible refine halt_dst 58 rfl ?_)
              refine wpListG_run (by rfl) (v := .int .i64 (i : Int)) (w' := wr) ?hr ?_
              case hr => go_simp; rw [hij.out, IntKind.wrap_i64]; omega
              go_wp2_with (with_reducible refine halt_dst 59 rfl ?_)
              refine wpListG_run (by rfl) (v := .int .i64 ((i / 8 : Nat) : Int)) (w' := wr) ?hr ?_
              case hr => go_simp; (try rw [hq8.out]); (try (rw [IntKind.wrap_i64]; omega))
              go_wp2_with (with_reducible refine halt_dst 60 rfl ?_)
              refine wpListG_run (by rfl) (v := .int .i64 (J : Int)) (w' := wr) ?hr ?_
              case hr => go_simp; (have h9 := hJ'.out); rw [IntKind.wrap_i64]; omega
              go_wp2_with (with_reducible refine halt_dst 65 rfl ?_)
              refine wpListG_run (by rfl) (v := .int .i64 (i : Int)) (w' := wr) ?hr ?_
              case hr => go_simp; rw [hij.out, IntKind.wrap_i64]; omega
              go_wp2_with (with_reducible refine halt_dst 66 rfl ?_)
              refine wpListG_run (by rfl) (v := .int .i64 (r : Int)) (w' := wr) ?hr ?_
              case hr => go_simp; (try rw [hr8'.out])
              go_wp2_with (with_reducible refine halt_dst 68 rfl ?_)
              refine wpListG_run (by rfl) (v := .int .u8 (z.toNat : Int)) (w' := wr) ?hr ?_
              case hr => go_simp; exact hshl.out
              go_wp2_with (with_reducible refine halt_dst 69 rfl ?_)
              refine wpListG_run (by rfl) (v := .int .u8 (y.toNat : Int)) (w' := wr) ?hr ?_
              case hr => go_simp; (try rw [hzx.out])
              go_wp2_with fail
              go_roundw
              case rel => exact ⟨j + 1, true, by omega, by go_num, rfl, HX2⟩
              case measure => simp [intOf]; omega
            · have HX2 : Hid (tb = decide (bst u (8 * (n + 4) - a) (j + 1) ≠ 0) ∧ Turned w n a u T0 g (.slice (some ⟨g, 0, none⟩) m c2) (j + 1) wr) := (show _ ∧ _ from by
                obtain ⟨h0, T, h1, h2, h3⟩ := HX.out
                have h4 : bst u (8 * (n + 4) - a) (j + 1) = bst u (8 * (n + 4) - a) j := bst_off (fun h => by have := HD.out; omega)
                rw [h4]
                exact ⟨h0, T, h1, by rw [h4]; exact h2, h3⟩)
              have hin' : ¬ (i : Int) < (d : Int) := by omega
              have hij : Hid ((a : Int) + (j : Int) = (i : Int)) := (show _ = _ from by omega)
              clear hodd hi hin
              go_wp2_with (with_reducible refine halt_dst 45 rfl ?_)
              refine wpListG_run (by rfl) (v := .int .u32 (P : Int)) (w' := wr) ?hr ?_
              case hr =>
                go_simp
                rw [hsh.out]
              go_wp2_with (with_reducible refine halt_dst 46 rfl ?_)
              refine wpListG_run (by rfl) (v := .int .u32 1) (w' := wr) ?hr ?_
              case hr => go_simp; (try rw [hbit.out])
              go_wp2_with (with_reducible refine halt_dst 51 rfl ?_)
              refine wpListG_run (by rfl) (v := .int .i64 (i : Int)) (w' := wr) ?hr ?_
              case hr => go_simp; rw [hij.out, IntKind.wrap_i64]; omega
              go_wp2_with fail
              go_roundw
              case rel => exact ⟨j + 1, tb, by omega, by go_num, rfl, HX2⟩
              case measure => simp [intOf]; omega
        · have hj32 : j = 32 := by omega
          subst hj32
          clear hlt hj
          obtain ⟨T, hT1, hT2, hT3, hT4⟩ := HX.out.2
          have hrd : Rb wr (fun q => q = g) (.slice (some ⟨g, 0, none⟩) m c2) (be4 n ++ T) := by
            have hl : (be4 n ++ T).length = n + 8 := by rw [List.length_append, be4_len]; omega
            have h3 := Ow.reads (l := be4 n ++ T) (w := wr) (O := fun q => q = g) (e := 5) (v := .slice (some ⟨g, 0, none⟩) m c2) (by rw [hl]; exact hT3)
            exact h3
          have hfound : Hid ((openB (be4 n ++ T)).2.2 = if tb then 12 else 0) := (show _ = _ from by
            rw [open_tail (by omega) hT1]
            have h1 := burst_found (r0 := crcAll (be4 n)) (crcAll_lt _) (T := T0) (T' := T) (n := n) (by rw [hT0.out, List.length_append, le4_len, HN.out]) hT1 (bst_lt u (8 * (n + 4) - a)) (by have := HD.out; omega) hT2 (tail_ok ⟨hT0.out, HN.out⟩)
            rw [HX.out.1]
            have h2 : le4 (crc (be4 n ++ T.take n)) = T.drop n ↔ bst u (8 * (n + 4) - a) 32 = 0 := by
              rw [le4_lev (crc_lt _) (by rw [List.length_drop]; omega), ← h1]
              unfold crc crcAll
              rw [List.foldl_append]
            by_cases h3 : bst u (8 * (n + 4) - a) 32 = 0
            · rw [if_pos (h2.2 h3), h3]; rfl
            · rw [if_neg (fun h => h3 (h2.1 h)), if_pos (decide_eq_true h3)])
          obtain ⟨x, N, E, hR⟩ : ∃ (x : List UInt8) (N : Nat) (E : Int), openB (be4 n ++ T) = (x, N, E) := ⟨_, _, _, rfl⟩
          have HFW : Hid (Fr No w wr) := (show Fr No w wr from hT4)
          have hE : E = if tb then 12 else 0 := by have := hfound.out; rw [hR] at this; exact this
          clear hT1 hT2 hT3 hT4
          cases tb
          · simp only [Bool.false_eq_true, if_false] at hE
            subst hE
            go_wp2_with fail
            refine (open_any hrd).mono ?_
            rw [hR]
            rintro e w3 ⟨v3, rfl, hown3, hf3⟩
            obtain ⟨A3, c3, rfl, _, _⟩ := hown3.shape
            have HF3 : Hid (Fr No w w3) := (show Fr No w w3 from HFW.out.then hf3)
            clear hown3 hf3 hrd hR
            simp only [] at *
            go_wp2_with fail
            go_ret
            exact (show Told _ _ _ _ from ⟨rfl, HF3.out⟩)
          · simp only [if_true] at hE
            subst hE
            go_wp2_with fail
            refine (open_any hrd).mono ?_
            rw [hR]
            rintro e w3 ⟨v3, rfl, hown3, hf3⟩
            obtain ⟨A3, c3, rfl, _, _⟩ := hown3.shape
            have HF3 : Hid (Fr No w w3) := (show Fr No w w3 from HFW.out.then hf3)
            clear hown3 hf3 hrd hR
            simp only [] at *
            go_wp2_with fail
            go_ret
            exact (show Told _ _ _ _ from ⟨rfl, HF3.out⟩)
end Go.Proofs.Ytbaohngnpgappaa
