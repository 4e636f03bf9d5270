/- store's kinds: items of the kinds that are wanted are told so. -/
import Derived.Test.YtbaohngnpgappaaS7
set_option linter.unusedVariables false
set_option linter.unusedSimpArgs false
namespace Go.Proofs.Ytbaohngnpgappaa
open Go.RowKit
def encI (n : Int) : Value := .int .i64 n
theorem kind1_any {k n : Int} {s : List UInt8} {l : List It} {w : World} {F : Nat → Prop} {vv : Value} (h : ItV w F vv (.mk k n s l)) : Calls Try.prog 109 #[vv, .int .i64 k] w (Told (.bool true) w) := by
  obtain ⟨cs0, rfl, hr0⟩ := h
  obtain ⟨vl0, rfl, hrow0, hft⟩ := itR_row hr0
  obtain ⟨A, c, rfl, _, _⟩ := hrow0.shape
  unfold str
  obtain ⟨m, hm⟩ : ∃ m, Hid (m = l.length) := ⟨_, show _ = _ from rfl⟩
  rw [← hm.out]
  obtain ⟨bs, hbs⟩ : ∃ m : ByteArray, Hid (m = ⟨s.toArray⟩) := ⟨_, show _ = _ from rfl⟩
  rw [← hbs.out]
  clear hr0 hrow0 hft
  obtain ⟨w1, hw1⟩ : ∃ w1, Hid (w1 = w.alloc (.cells #[.int .i64 k, .int .i64 n, .string bs, .slice A m c] 48 (0, 0))) := ⟨_, show _ = _ from rfl⟩
  have HF1 : Hid (Fr No w w1) := (show Fr No w w1 from by rw [hw1.out]; exact (Fr.refl _ _).alloc _)
  go_enter Try.func109, Try.ntmps109
  go_wp2_with fail
  try rw [← hw1.out]
  go_returns
  exact (show Told _ _ _ _ from ⟨by first | rfl | simp, HF1.out⟩)
set_option maxHeartbeats 1000000 in
theorem eqkinds_any {l : List It} {ks : List Int} {w : World} {F1 F2 : Nat → Prop} {v1 v2 : Value} (h1 : Row ItK w F1 v1 l) (h2 : Rds encI w F2 v2 ks) (hk : l.map It.k = ks) : Calls Try.prog 108 #[v1, v2, .func (.func 109) #[] #[]] w (Told (.bool true) w) := by
  obtain ⟨A, c, rfl, hc1, hc2⟩ := h1.shape
  obtain ⟨A', c', rfl, hc1', hc2'⟩ := h2.shape
  have hlk : ks.length = l.length := by rw [← hk, List.length_map]
  have HK := Lib.hid hk
  rw [hlk] at h2 hc1' ⊢
  obtain ⟨n, hn⟩ : ∃ n, n = l.length := ⟨_, rfl⟩
  have HN := Lib.hid hn
  rw [← hn] at h1 h2 hc1 hc1' ⊢
  have hl2 : (n : Int) ≤ 9223372036854775807 := by simp only [maxLen] at hc2; omega
  have HR := Lib.hid h1
  have HR' := Lib.hid h2
  have HLK := Lib.hid hlk
  clear h1 h2 hk hlk hn hc2 hc2'
  go_enter Try.func108, Try.ntmps108
  go_wp2_with fail
  go_loopw [17] (fun i wr => ∃ (j : Nat), j ≤ n ∧ i = .int .i64 j ∧ Hid (Fr No w wr)) (fun i _ => n - (intOf i).toNat)
  case atStart => exact ⟨0, Nat.zero_le _, rfl, (show Fr No w w from Fr.refl _ w)⟩
  case round =>
    obtain ⟨j, hj, rfl, HX⟩ := hrel
    by_cases hlt : j < n
    · have hlt1 : j < l.length := by rw [← HN.out]; exact hlt
      have hlt2 : j < ks.length := by rw [HLK.out]; exact hlt1
      obtain ⟨b1, o1, _, cs, he, _, _, _, hrx, hcell⟩ := (HR.out.fr (by decide) HX.out (fun _ _ _ h => h)).at_ j hlt1
      rw [← HN.out] at he
      cases he
      obtain ⟨b2, o2, _, he2, _, _, _, hcell2⟩ := (HR'.out.fr HX.out (fun _ _ _ h => h)).at_ j hlt2
      rw [HLK.out, ← HN.out] at he2
      cases he2
      have hkj : ks[j] = (l[j]).k := by
        have h3 : ks[j]? = some (l[j]).k := by rw [← HK.out, List.getElem?_map, List.getElem?_eq_getElem hlt1]; rfl
        rw [List.getElem?_eq_getElem hlt2] at h3
        exact Option.some.inj h3
      rw [hkj] at hcell2
      obtain ⟨x, hx⟩ : ∃ x, x = l[j] := ⟨_, rfl⟩
      rw [← hx] at hrx hcell2
      obtain ⟨xk, xn, xs, xl⟩ := x
      obtain ⟨vl, rfl, hrow, hfit⟩ := itR_row hrx
      obtain ⟨A1, c1, rfl, _, _⟩ := hrow.shape
      obtain ⟨m, hm⟩ : ∃ m, m = xl.length := ⟨_, rfl⟩
      have HM := Lib.hid hm
      rw [← hm] at hcell hrx
      have e10 := hcell 0 _ rfl
      have e11 := hcell 1 _ rfl
      have e12 := hcell 2 _ rfl
      have e13 := hcell 3 _ rfl
      simp only [show ItK.sz = 4 from rfl, Nat.add_zero, str] at e10 e11 e12 e13
      have e2 : wr.cell? ⟨b2, o2 + j, none⟩ = some (.int .i64 xk) := hcell2
      have HRX := Lib.hid hrx
      have HX' : Hid (Fr No w wr) := (show Fr No w wr from HX.out)
      clear hcell hcell2 hrow hfit hrx hx hkj hlt1 hlt2 hm
      have g2 := cell_alloc e2 (.cells #[.int .i64 xk, .int .i64 xn, .string ⟨xs.toArray⟩, .slice A1 m c1] 48 (0, 0))
      go_wp2_with fail
      obtain ⟨w4, hw4⟩ : ∃ w4, Hid (w4 = wr.alloc (.cells #[.int .i64 xk, .int .i64 xn, .string ⟨xs.toArray⟩, .slice A1 m c1] 48 (0, 0))) := ⟨_, show _ = _ from rfl⟩
      rw [← hw4.out]
      have hf4 : Fr No wr w4 := by rw [hw4.out]; exact (Fr.refl _ _).alloc _
      refine (kind1_any (k := xk) (n := xn) (s := xs) (l := xl) (w := w4) (F := fun _ => True) ⟨[.int .i64 xk, .int .i64 xn, .string ⟨xs.toArray⟩, .slice A1 m c1], rfl, itR_mono (fun _ _ => trivial) _ _ (itR_move (w := wr) (w' := w4) (fun k _ hl => hf4.block k hl (fun h => h)) _ _ HRX.out)⟩).mono ?_
      rintro e w5 ⟨rfl, hf5⟩
      have HF5 : Hid (Fr No w w5) := (show Fr No w w5 from (HX.out.then hf4).then hf5)
      clear hf4 hf5 e10 e11 e12 e13 e2 g2
      go_wp2_with fail
      go_roundw
      case rel => exact ⟨j + 1, by omega, by go_num, HF5⟩
      case measure => simp [intOf]; omega
    · have hjl : j = n := by omega
      subst hjl
      clear hlt hj
      go_wp2_with fail
      go_returns
      exact (show Told _ _ _ _ from ⟨rfl, HX.out⟩)
set_option maxHeartbeats 1000000 in
theorem kinds_any {n : Int} {s : List UInt8} {l : List It} {ks : List Int} {w : World} {F1 F2 : Nat → Prop} {v1 v2 : Value} (h1 : ItV w F1 v1 (.mk 3 n s l)) (h2 : Rds encI w F2 v2 ks) (hk : l.map It.k = ks) : Calls Try.prog 103 #[v1, v2] w (Told (.bool true) w) := by
  obtain ⟨cs0, rfl, hr0⟩ := h1
  obtain ⟨vl0, rfl, hrow0, hft⟩ := itR_row hr0
  obtain ⟨A, c, rfl, _, _⟩ := hrow0.shape
  obtain ⟨A', c', rfl, _, _⟩ := h2.shape
  unfold str
  obtain ⟨m, hm⟩ : ∃ m, m = l.length := ⟨_, rfl⟩
  obtain ⟨m', hm'⟩ : ∃ m, m = ks.length := ⟨_, rfl⟩
  rw [← hm] at hrow0 ⊢
  rw [← hm'] at h2 ⊢
  obtain ⟨bs, hbs⟩ : ∃ m : ByteArray, Hid (m = ⟨s.toArray⟩) := ⟨_, show _ = _ from rfl⟩
  rw [← hbs.out]
  have HR := Lib.hid hrow0
  have HR2 := Lib.hid h2
  have HK := Lib.hid hk
  clear hr0 hrow0 hft h2 hk hm hm'
  obtain ⟨w1, hw1⟩ : ∃ w1, Hid (w1 = w.alloc (.cells #[.int .i64 3, .int .i64 n, .string bs, .slice A m c] 48 (0, 0))) := ⟨_, show _ = _ from rfl⟩
  have HF1 : Hid (Fr No w w1) := (show Fr No w w1 from by rw [hw1.out]; exact (Fr.refl _ _).alloc _)
  go_enter Try.func103, Try.ntmps103
  go_wp2_with fail
  rw [← hw1.out]
  refine (eqkinds_any (HR.out.fr (by decide) HF1.out (fun _ _ _ h => h)) (HR2.out.fr HF1.out (fun _ _ _ h => h)) HK.out).mono ?_
  rintro e w2 ⟨rfl, hf2⟩
  have HF2 : Hid (Fr No w w2) := (show Fr No w w2 from HF1.out.then hf2)
  clear hf2
  go_wp2_with fail
  go_returns
  exact (show Told _ _ _ _ from ⟨rfl, HF2.out⟩)
/-- An item that is a number and a text in a list. -/
def It.pairs (x : It) : Prop := ∃ n s a b, x = .mk 3 n s [a, b] ∧ a.k = 1 ∧ b.k = 2
set_option maxHeartbeats 1000000 in
theorem good1_any {x : It} {w : World} {F : Nat → Prop} {vv : Value} (h : ItV w F vv x) (hp : x.pairs) : Calls Try.prog 105 #[vv] w (Told (.bool false) w) := by
  obtain ⟨n, s, a, b, rfl, ha, hb⟩ := hp
  obtain ⟨cs0, rfl, hr0⟩ := h
  obtain ⟨vl0, rfl, hrow0, hft⟩ := itR_row hr0
  obtain ⟨A, c, rfl, _, _⟩ := hrow0.shape
  have HR := Lib.hid hr0
  have HAB : Hid (a.k = 1 ∧ b.k = 2) := (show _ ∧ _ from ⟨ha, hb⟩)
  have hl2 : ([a, b] : List It).length = 2 := rfl
  rw [hl2] at HR ⊢
  unfold str at *
  obtain ⟨bs, hbs⟩ : ∃ m : ByteArray, m = ⟨s.toArray⟩ := ⟨_, rfl⟩
  rw [← hbs] at HR ⊢
  clear hr0 hrow0 hft ha hb hl2 hbs
  obtain ⟨w1, hw1⟩ : ∃ w1, Hid (w1 = w.alloc (.cells #[.int .i64 3, .int .i64 n, .string bs, .slice A 2 c] 48 (0, 0))) := ⟨_, show _ = _ from rfl⟩
  have HF1 : Hid (Fr No w w1) := (show Fr No w w1 from by rw [hw1.out]; exact (Fr.refl _ _).alloc _)
  go_enter Try.func105, Try.ntmps105
  go_wp2_with fail
  rw [← hw1.out]
  obtain ⟨w2, hw2⟩ : ∃ w2, Hid (w2 = w1.alloc (.cells #[.int .i64 1, .int .i64 2] 3 (0, 0))) := ⟨_, show _ = _ from rfl⟩
  rw [← hw2.out]
  have HF2 : Hid (Fr No w w2) := (show Fr No w w2 from by rw [hw2.out]; exact HF1.out.alloc _)
  have HKS : Hid (Rds encI w2 (fun _ => True) (.slice (some ⟨w.heap.size + 1, 0, none⟩) 2 2) [1, 2]) := (show Rds _ _ _ _ _ from by
    have hb2 : w2.heap[w.heap.size + 1]? = some (.cells #[.int .i64 1, .int .i64 2] 3 (0, 0)) := by rw [hw2.out]; exact blk_new' (by rw [hw1.out]; simp)
    refine ⟨_, _, rfl, Nat.le_refl _, by simp only [maxLen]; omega, fun j x hj => ⟨_, _, rfl, trivial, ?_⟩⟩
    rw [blk_cell hb2]
    rcases j with _ | _ | j
    · cases hj; rfl
    · cases hj; rfl
    · simp at hj)
  refine (kinds_any (n := n) (s := s) (l := [a, b]) (F1 := F) ⟨[.int .i64 3, .int .i64 n, .string bs, .slice A 2 c], rfl, itR_mono (fun _ h => h.1) _ _ (itR_move (w := w) (w' := w2) (fun k _ hl => HF2.out.block k hl (fun h => h)) _ _ (itR_bound _ _ HR.out))⟩ HKS.out (by simp [HAB.out.1, HAB.out.2])).mono ?_
  rintro e w3 ⟨rfl, hf3⟩
  have HF3 : Hid (Fr No w w3) := (show Fr No w w3 from HF2.out.then hf3)
  clear hf3
  go_wp2_with fail
  go_returns
  exact (show Told _ _ _ _ from ⟨rfl, HF3.out⟩)
set_option maxHeartbeats 1000000 in
theorem findbad_any {l : List It} {w : World} {F : Nat → Prop} {v : Value} (h : Row ItK w F v l) (hp : ∀ x ∈ l, x.pairs) : Calls Try.prog 110 #[v, .func (.func 105) #[] #[]] w (Told (.int .i64 (-1)) w) := by
  obtain ⟨A, c, rfl, hc1, hc2⟩ := h.shape
  obtain ⟨n, hn⟩ : ∃ n, n = l.length := ⟨_, rfl⟩
  have HN := Lib.hid hn
  rw [← hn] at h hc1 ⊢
  have hl2 : (n : Int) ≤ 9223372036854775807 := by simp only [maxLen] at hc2; omega
  have HR := Lib.hid h
  have HP := Lib.hid hp
  clear h hp hn hc2
  go_enter Try.func110, Try.ntmps110
  go_wp2_with fail
  go_loopw [8] (fun i wr => ∃ (j : Nat), j ≤ n ∧ i = .int .i64 j ∧ Hid (Fr No w wr)) (fun i _ => n - (intOf i).toNat)
  case atStart => exact ⟨0, Nat.zero_le _, rfl, (show Fr No w w from Fr.refl _ w)⟩
  case round =>
    obtain ⟨j, hj, rfl, HX⟩ := hrel
    by_cases hlt : j < n
    · have hlt1 : j < l.length := by rw [← HN.out]; exact hlt
      obtain ⟨b1, o1, _, cs, he, _, _, _, hrx, hcell⟩ := (HR.out.fr (by decide) HX.out (fun _ _ _ h => h)).at_ j hlt1
      rw [← HN.out] at he
      cases he
      obtain ⟨x, hx⟩ : ∃ x, x = l[j] := ⟨_, rfl⟩
      have HPX : Hid x.pairs := (show x.pairs from HP.out x (by rw [hx]; exact List.getElem_mem hlt1))
      rw [← hx] at hrx
      obtain ⟨xk, xn, xs, xl⟩ := x
      obtain ⟨vl, rfl, hrow, hfit⟩ := itR_row hrx
      obtain ⟨A1, c1, rfl, _, _⟩ := hrow.shape
      obtain ⟨m, hm⟩ : ∃ m, m = xl.length := ⟨_, rfl⟩
      rw [← hm] at hcell hrx
      have e10 := hcell 0 _ rfl
      have e11 := hcell 1 _ rfl
      have e12 := hcell 2 _ rfl
      have e13 := hcell 3 _ rfl
      simp only [show ItK.sz = 4 from rfl, Nat.add_zero, str] at e10 e11 e12 e13
      have HRX := Lib.hid hrx
      clear hcell hrow hfit hrx hx hlt1 hm
      go_wp2_with fail
      refine (good1_any (x := .mk xk xn xs xl) (F := F) ⟨[.int .i64 xk, .int .i64 xn, .string ⟨xs.toArray⟩, .slice A1 m c1], rfl, HRX.out⟩ HPX.out).mono ?_
      rintro e w5 ⟨rfl, hf5⟩
      have HF5 : Hid (Fr No w w5) := (show Fr No w w5 from HX.out.then hf5)
      clear hf5 e10 e11 e12 e13
      go_wp2_with fail
      go_roundw
      case rel => exact ⟨j + 1, by omega, by go_num, HF5⟩
      case measure => simp [intOf]; omega
    · have hjl : j = n := by omega
      subst hjl
      clear hlt hj
      go_wp2_with fail
      go_returns
      exact (show Told _ _ _ _ from ⟨rfl, HX.out⟩)
theorem nobad_any {l : List It} {w : World} {F : Nat → Prop} {v : Value} (h : Row ItK w F v l) (hp : ∀ x ∈ l, x.pairs) : Calls Try.prog 104 #[v, .func (.func 105) #[] #[]] w (Told (.bool false) w) := by
  obtain ⟨A, c, rfl, hc1, hc2⟩ := h.shape
  obtain ⟨n, hn⟩ : ∃ n, n = l.length := ⟨_, rfl⟩
  rw [← hn] at h hc1 ⊢
  have HR := Lib.hid h
  have HP := Lib.hid hp
  clear h hp hn hc2 hc1
  go_enter Try.func104, Try.ntmps104
  go_wp2_with fail
  refine (findbad_any HR.out HP.out).mono ?_
  rintro e w5 ⟨rfl, hf5⟩
  have HF5 : Hid (Fr No w w5) := (show Fr No w w5 from hf5)
  clear hf5
  go_wp2_with fail
  go_returns
  exact (show Told _ _ _ _ from ⟨rfl, HF5.out⟩)
theorem itEn_pairs (l : List En) : ∀ x ∈ l.map itEn, x.pairs := by
  intro x hx
  obtain ⟨e, _, rfl⟩ := List.mem_map.1 hx
  exact ⟨_, _, _, _, rfl, rfl, rfl⟩
end Go.Proofs.Ytbaohngnpgappaa
