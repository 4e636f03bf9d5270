/- The document's answer for the disk: Crash. -/
import Derived.Test.YtbaohngnpgappaaE2
import Derived.Test.YtbaohngnpgappaaD6
set_option linter.unusedVariables false
set_option linter.unusedSimpArgs false
namespace Go.Proofs.Ytbaohngnpgappaa
open Go.RowKit
theorem OwK.last {w : World} {O R : Nat → Prop} {g n c xa : Nat} {xb xb' : List UInt8} {vb' : Value} {L0 : List (Nat × List UInt8)} (h : OwK WaitK 131 w O R (.slice (some ⟨g, 0, none⟩) n c) (L0 ++ [(xa, xb)])) (hb : Rb w R vb' xb') (hg : ¬ R g) :
    OwK WaitK 131 (w.setCell ⟨g, L0.length * 2 + 1, none⟩ vb') O R (.slice (some ⟨g, 0, none⟩) n c) (L0 ++ [(xa, xb')]) := by
  obtain ⟨cells, hown, hce⟩ := h
  have hn : n = (L0 ++ [(xa, xb)]).length := by obtain ⟨_, _, he, _⟩ := hown.shape; injection he
  have hl : (L0 ++ [(xa, xb')]).length = (L0 ++ [(xa, xb)]).length := by simp
  have hcl := hown.len
  rw [show WaitK.sz = 2 from rfl] at hcl
  have hll : (L0 ++ [(xa, xb)]).length = L0.length + 1 := by simp
  subst hn
  have hset := hown.set (L0.length * 2 + 1) vb'
  have hmv : ∀ k, R k → k < w.heap.size → (w.setCell ⟨g, L0.length * 2 + 1, none⟩ vb').heap[k]? = w.heap[k]? := fun k hk hl => ((Fr.refl (fun k => k = g) w).setCell ⟨g, L0.length * 2 + 1, none⟩ vb' (fun _ => rfl)).block k hl (fun e => hg (e ▸ hk))
  refine ⟨cells.set (L0.length * 2 + 1) vb', by rw [hl]; exact hset, fun j x hj => ?_⟩
  rcases Nat.lt_or_ge j L0.length with h1 | h1
  · rw [List.getElem?_append_left h1] at hj
    obtain ⟨cs, hr, hc⟩ := hce j x (by rw [List.getElem?_append_left h1]; exact hj)
    refine ⟨cs, WaitK.move hmv hr, fun i u hu => ?_⟩
    have hi : i < 2 := by
      have := WaitK.len hr
      have h3 := (List.getElem?_eq_some_iff.1 hu).1
      rw [this] at h3; exact h3
    rw [show WaitK.sz = 2 from rfl, List.getElem?_set_ne (by omega)]
    exact hc i u hu
  · have hj0 : j = L0.length := by
      have := (List.getElem?_eq_some_iff.1 hj).1
      simp at this; omega
    subst hj0
    rw [List.getElem?_append_right (Nat.le_refl _), Nat.sub_self] at hj
    cases hj
    obtain ⟨cs, ⟨vb, hcs, hr⟩, hc⟩ := hce L0.length (xa, xb) (by rw [List.getElem?_append_right (Nat.le_refl _), Nat.sub_self]; rfl)
    refine ⟨[.int .i64 (xa : Int), vb'], ⟨vb', rfl, hb.move hmv⟩, fun i u hu => ?_⟩
    have h0 := hc 0 _ (by rw [hcs]; rfl)
    rw [show WaitK.sz = 2 from rfl] at h0 ⊢
    rcases i with _ | _ | i
    · rw [List.getElem?_set_ne (by omega), h0]
      exact hu
    · rw [List.getElem?_set_self (by omega)]
      exact hu
    · simp at hu
theorem kept_skip {ws : List (Nat × List UInt8)} {keep k : Nat} {x : Nat × List UInt8} (hx : ws[k]? = some x) (h : ¬ (k < 64 ∧ bset keep k = true)) : keptW ws keep (k + 1) = keptW ws keep k := by
  simp only [keptW, hx]
  rw [if_neg h, List.append_nil]
theorem kept_le (ws : List (Nat × List UInt8)) (keep : Nat) : ∀ k, k ≤ ws.length → (keptW ws keep k).length ≤ k := by
  intro k
  induction k with
  | zero => intro _; exact Nat.le_refl _
  | succ k ih =>
    intro h
    have := ih (by omega)
    simp only [keptW, List.length_append]
    split
    · split <;> simp <;> omega
    · simp; omega
theorem OwK.elem {α : Type} {K : Kind α} {e : TypeId} {w : World} {O F : Nat → Prop} {v : Value} {xs : List α} (h : OwK K e w O F v xs) {j : Nat} {x : α} (hj : xs[j]? = some x) (hK : 0 < K.sz) :
    ∃ g c cs, v = .slice (some ⟨g, 0, none⟩) xs.length c ∧ xs.length ≤ c ∧ c ≤ maxLen ∧ O g ∧ K.R w F x cs ∧ ∀ i u, cs[i]? = some u → w.cell? ⟨g, j * K.sz + i, none⟩ = some u ∧ w.frozen? ⟨g, j * K.sz + i, none⟩ = false := by
  obtain ⟨cells, hown, hce⟩ := h
  obtain ⟨cs, hr, hc⟩ := hce j x hj
  obtain ⟨A, c, hv, h1, h2, hcell⟩ := hown.cells
  have hl := K.len hr
  obtain ⟨g, hA, hO, _, _⟩ := hcell _ _ (hc 0 _ (List.getElem?_eq_getElem (by omega)))
  subst hA
  refine ⟨g, c, cs, hv, h1, h2, hO, hr, fun i u hu => ?_⟩
  obtain ⟨g', he, _, h3, h4⟩ := hcell _ _ (hc i u hu)
  cases he
  exact ⟨h3, h4⟩
set_option maxHeartbeats 2000000 in
theorem refcrash_any {w : World} {O R : Nat → Prop} {p : Value} {s : List UInt8} {ws : List (Nat × List UInt8)} (h : RefIs w O R p s ws) (hws : ws.length ≤ 1000000) (keep : Nat) (tear : Int) (hkeep : keep < 18446744073709551616) :
    Calls Try.prog 67 #[p, .int .u64 (keep : Int), .int .i64 tear] w (RefPost w O R p (.tuple #[]) (crashS s (keptW ws keep ws.length) tear) []) := by
  obtain ⟨bp, vb, vl, rfl, h⟩ := h
  obtain ⟨A, c, rfl, _, _⟩ := h.hs.shape
  obtain ⟨Aw, cw, rfl, _, _⟩ := h.hw.shape
  have h0 := blk_cell h.hp 0
  have h1 := blk_cell h.hp 1
  simp only [List.getElem?_toArray, List.getElem?_cons_succ, List.getElem?_cons_zero] at h0 h1
  have H := Lib.hid h
  clear h
  go_enter Try.func67, Try.ntmps67
  go_wp2_with fail
  go_loopw [6, 15] (fun o i wr => ∃ (k : Nat), k ≤ ws.length ∧ i = .int .i64 k ∧ Hid (OwK WaitK 131 wr (fun j => w.heap.size ≤ j ∧ j < wr.heap.size) R o (keptW ws keep k) ∧ Fr No w wr)) (fun _ i _ => ws.length - (intOf i).toNat)
  case atStart => exact ⟨0, Nat.zero_le _, rfl, (show _ ∧ _ from ⟨OwK.nil _ _ _ _ _, Fr.refl _ _⟩)⟩
  case round =>
    obtain ⟨k, hk, rfl, HR⟩ := hrel
    by_cases hlt : k < ws.length
    · obtain ⟨⟨xa, xb⟩, hx⟩ : ∃ x, x = ws[k] := ⟨_, rfl⟩
      have HXK : Hid (ws[k]? = some (xa, xb)) := (show _ = _ from by rw [hx]; exact List.getElem?_eq_getElem hlt)
      obtain ⟨g, _, cs, he, _, _, _, ⟨vb, hcs, hrb⟩, hcell⟩ := (H.out.hw.fr HR.out.2 (fun _ _ _ h => h)).elem HXK.out (by decide)
      cases he
      obtain ⟨A1, c1, rfl, hb1', hb2'⟩ := hrb.shape
      have e0 := (hcell 0 _ (by rw [hcs]; rfl)).1
      have e1 := (hcell 1 _ (by rw [hcs]; rfl)).1
      simp only [show WaitK.sz = 2 from rfl, Nat.add_zero] at e0 e1
      have HRB := Lib.hid hrb
      clear hcell hcs hrb hb1' hb2' hx
      have hws2 : ws.length ≤ 1000000 := hws
      by_cases h64 : 64 ≤ (k : Int)
      · have HR2 : Hid (OwK WaitK 131 (wr.alloc (.cells #[.int .i64 (xa : Int), .slice A1 xb.length c1] 131 (0, 0))) (fun j => w.heap.size ≤ j ∧ j < (wr.alloc (.cells #[.int .i64 (xa : Int), .slice A1 xb.length c1] 131 (0, 0))).heap.size) R u6 (keptW ws keep (k + 1)) ∧ Fr No w (wr.alloc (.cells #[.int .i64 (xa : Int), .slice A1 xb.length c1] 131 (0, 0)))) := (show _ ∧ _ from by
          rw [kept_skip HXK.out (by omega)]
          exact ⟨(HR.out.1.fr ((Fr.refl No wr).alloc _) (fun _ _ _ h => h)).mono (fun j hj => ⟨hj.1, by simp; omega⟩) (fun _ h => h), HR.out.2.alloc _⟩)
        go_wp2_with fail
        go_roundw
        case rel => exact ⟨k + 1, by omega, by go_num, HR2⟩
        case measure => simp [intOf]; omega
      · have h64' : (k : Int) < 64 := by omega
        have hbit : Hid (bits .and .u64 ((keep : Int) / 2 ^ k) 1 = ((bset keep k).toNat : Int)) := (show _ = _ from bit_shr keep k (by omega) hkeep)
        have hwm : Hid (min (IntKind.u64.wrap (k : Int)).toNat 64 = k) := (show _ = _ from by rw [wraps_u64_64 _ (by omega) (by omega)]; omega)
        clear h64
        go_wp2_with (with_reducible refine halt_dst 26 rfl ?_)
        refine wpListG_run (by rfl) (v := .int .u64 ((keep : Int) / 2 ^ k)) (w' := wr.alloc (.cells #[.int .i64 (xa : Int), .slice A1 xb.length c1] 131 (0, 0))) ?hr ?_
        case hr => go_simp; (try rw [hwm.out])
        refine wpListG_run (by rfl) (v := .int .u64 ((bset keep k).toNat : Int)) (w' := wr.alloc (.cells #[.int .i64 (xa : Int), .slice A1 xb.length c1] 131 (0, 0))) ?hr2 ?_
        case hr2 => go_simp; (try rw [hbit.out])
        cases hset : bset keep k
        · have HR2 : Hid (OwK WaitK 131 (wr.alloc (.cells #[.int .i64 (xa : Int), .slice A1 xb.length c1] 131 (0, 0))) (fun j => w.heap.size ≤ j ∧ j < (wr.alloc (.cells #[.int .i64 (xa : Int), .slice A1 xb.length c1] 131 (0, 0))).heap.size) R u6 (keptW ws keep (k + 1)) ∧ Fr No w (wr.alloc (.cells #[.int .i64 (xa : Int), .slice A1 xb.length c1] 131 (0, 0)))) := (show _ ∧ _ from by
            rw [kept_skip HXK.out (by rw [hset]; simp)]
            exact ⟨(HR.out.1.fr ((Fr.refl No wr).alloc _) (fun _ _ _ h => h)).mono (fun j hj => ⟨hj.1, by simp; omega⟩) (fun _ h => h), HR.out.2.alloc _⟩)
          rw [show ((false.toNat : Nat) : Int) = 0 from rfl]
          go_wp2_with fail
          go_roundw
          case rel => exact ⟨k + 1, by omega, by go_num, HR2⟩
          case measure => simp [intOf]; omega
        · rw [show ((true.toNat : Nat) : Int) = 1 from rfl]
          obtain ⟨L, hL⟩ : ∃ L, Hid (L = keptW ws keep k) := ⟨_, rfl⟩
          have hLl : Hid (L.length ≤ ws.length) := (show L.length ≤ ws.length from by rw [hL.out]; exact Nat.le_trans (kept_le ws keep k (by omega)) (by omega))
          rw [← hL.out] at HR
          obtain ⟨A6, c6, rfl, _, _⟩ := HR.out.1.shape
          go_wp2_with (with_reducible refine halt_dst 33 rfl ?_)
          obtain ⟨w1, hw1⟩ : ∃ w1, Hid (w1 = (wr.alloc (.cells #[.int .i64 (xa : Int), .slice A1 xb.length c1] 131 (0, 0))).alloc (.cells #[.int .i64 (xa : Int), .slice A1 xb.length c1] 131 (0, 0))) := ⟨_, rfl⟩
          rw [← hw1.out]
          have hf1 : Fr No wr w1 := by rw [hw1.out]; exact ((Fr.refl No wr).alloc _).alloc _
          have hs1 : w1.heap.size = wr.heap.size + 2 := by rw [hw1.out]; simp
          have hnb : w1.heap[wr.heap.size + 1]? = some (.cells #[.int .i64 (xa : Int), .slice A1 xb.length c1] 131 (0, 0)) := by rw [hw1.out]; exact blk_new' (by simp)
          obtain ⟨cells, hown, hce⟩ := HR.out.1.fr hf1 (fun _ _ _ h => h)
          refine wpList_app rfl (.tmp 30) (.tmp 32) 101 131 rfl _ 2 32 Try.underlying101 info131 rfl (by omega) (by omega) (.slice A6 L.length c6) L.length cells rfl (some ⟨wr.heap.size + 1, 0, none⟩) 1 1 rfl hown [.int .i64 (xa : Int), .slice A1 xb.length c1] rfl ?hnews ?h1 (by have := hLl.out; omega) ?_
          case hnews =>
            intro j u hj
            refine ⟨_, rfl, ?_⟩
            rw [add_none, Nat.zero_add, blk_cell hnb, List.getElem?_toArray]
            exact hj
          case h1 => intro u hu; simp at hu; rcases hu with rfl | rfl <;> rfl
          intro v6 w6 hown6 hfr6
          have hlow : ∀ j, R j → ¬ (Value.slice A6 L.length c6).ownBlock = some j := fun j hj e => by
            have h3 := (hown.2 j e).1
            have h4 := H.out.hb j (.inr hj)
            omega
          have hf06 : Fr No w w6 := (HR.out.2.then hf1).news hfr6 (fun j hj => (hown.2 j hj).1)
          have HR2 : Hid (OwK WaitK 131 w6 (fun j => w.heap.size ≤ j ∧ j < w6.heap.size) R v6 (keptW ws keep (k + 1)) ∧ Fr No w w6) := by
            refine (show _ ∧ _ from ⟨?_, hf06⟩)
            rw [keptW_take HXK.out ⟨by omega, hset⟩, ← hL.out]
            refine OwK.snoc (K := WaitK) (cells := cells) (cs := [.int .i64 (xa : Int), .slice A1 xb.length c1]) hown.len ?_ ?_ ?_
            · intro j x hj
              obtain ⟨cs, hr, hc⟩ := hce j x hj
              exact ⟨cs, WaitK.move (fun i hi hl => hfr6.block i hl (hlow i hi)) hr, hc⟩
            · refine hown6.bound.mono (fun j hj => ⟨?_, hj.2⟩)
              rcases hj.1 with h5 | h5
              · exact (hown.2 j h5).1
              · have := HR.out.2.size; omega
            · exact ⟨_, rfl, (HRB.out.fr hf1 (fun _ _ _ h => h)).fr hfr6 (fun j _ hj h => hlow j hj h)⟩
          clear hown6 hfr6 hown hce hnb hf1 hlow hf06
          go_wp2_with fail
          go_roundw
          case rel => exact ⟨k + 1, by omega, by go_num, HR2⟩
          case measure => simp [intOf]; omega
    · have hkl : k = ws.length := by omega
      subst hkl
      clear hlt
      obtain ⟨L, hL⟩ : ∃ L, Hid (L = keptW ws keep ws.length) := ⟨_, rfl⟩
      have hLl : Hid (L.length ≤ ws.length) := (show L.length ≤ ws.length from by rw [hL.out]; exact kept_le ws keep _ (Nat.le_refl _))
      rw [← hL.out] at HR
      obtain ⟨A6, c6, rfl, _, _⟩ := HR.out.1.shape
      have hL6 : L.length ≤ 1000000 := Nat.le_trans hLl.out hws
      by_cases hcond : 0 < L.length ∧ 0 ≤ tear
      · obtain ⟨hp, ht⟩ := hcond
        obtain ⟨L0, ⟨xa, xb⟩, hLe⟩ : ∃ L0 x, L = L0 ++ [x] := by
          rcases List.eq_nil_or_concat L with h | ⟨L0, x, h⟩
          · rw [h] at hp; simp at hp
          · exact ⟨L0, x, by simpa using h⟩
        obtain ⟨m, hm⟩ : ∃ m, m = L0.length := ⟨_, rfl⟩
        have hLN : L.length = m + 1 := by rw [hLe, hm]; simp
        have hlast : L[m]? = some (xa, xb) := by rw [hLe, hm]; simp
        obtain ⟨g, _, cs, he, hc61, _, hOg, ⟨vb, hcs, hrb⟩, hcell⟩ := HR.out.1.elem hlast (by decide)
        cases he
        dsimp only at hrb
        obtain ⟨Ax, cx, rfl, hx1, hx2⟩ := hrb.shape
        have e1 := hcell 1 _ (by rw [hcs]; rfl)
        rw [show WaitK.sz = 2 from rfl] at e1
        obtain ⟨e1, z1⟩ := e1
        have hxc : xb.length ≤ cx := hx1
        have hmin0 : (0 : Int) ≤ min tear (xb.length : Int) := by omega
        have hcut := cut0_run (P := Try.prog) 22 5 Try.underlying22 sz5 Ax xb.length cx (min tear (xb.length : Int)) (by omega) (by omega)
        have hrcut : Hid (Rb wr R (.slice Ax (min tear (xb.length : Int)).toNat cx) (xb.take (min tear (xb.length : Int)).toNat)) := (show Rb _ _ _ _ from by
          obtain ⟨_, _, he, _, _, h⟩ := hrb.take_ (min tear (xb.length : Int)).toNat (by omega)
          cases he
          exact h)
        have hgR : Hid (¬ R g) := (show ¬ R g from fun h => by have := H.out.hb g (.inr h); omega)
        have hLE := Lib.hid hLe
        have hM := Lib.hid hm
        have hm6 : (m : Int) ≤ 1000000 := by omega
        have hOG := Lib.hid hOg
        have hLNH := Lib.hid hLN
        clear hcell hcs hrb hx1 hx2 hLe hlast hm hL6 hp hOg
        rw [hLN]
        clear hLN
        have HW : Hid (IntKind.i64.wrap (m : Int) = (m : Int)) := (show _ = _ from by rw [IntKind.wrap_i64]; omega)
        go_wp2_with fail
        refine wp_seq_region (fun W => W.cell? ⟨g, m * 2 + 1, none⟩ = some (Value.slice Ax xb.length cx)) [21] [8, 15] [21] [0, 1, 2, 3, 4, 5, 6, 7, 8, 9, 10, 11, 12, 13, 14, 15, 16, 17, 18, 19, 20, 21] (by kernel_rfl) (by kernel_rfl) rfl (by kernel_rfl) (fun _ _ _ _ _ h => h) ?_
        have hb1 : (m : Int) < (m : Int) + 1 := by omega
        have hb2 : (m : Int) < ((m + 1 : Nat) : Int) := by omega
        have hb3 : (0 : Int) ≤ (m : Int) := by omega
        have HS : Hid (wr.drew.cell? ⟨g, m * 2 + 1, none⟩ = some (Value.slice Ax xb.length cx)) := (show _ = _ from e1)
        repeat (first
          | (refine sq_off (a' := ?_) rfl rfl (by rfl) (fun _ => (HS).out) ?ha ?_; (case ha => simp only [Act.put, List.setIfInBounds_toArray, List.set_cons_zero, List.set_cons_succ]; rfl))
          | (refine sq_any (v := ?_) (a' := ?_) rfl rfl rfl (by rfl) (fun W => ?hr) ?ha ?_; (case hr => go_simp; first | done | (simp only [(HW).out]; done) | (simp only [(HW).out]; rfl) | rfl); (case ha => simp only [Act.put, List.setIfInBounds_toArray, List.set_cons_zero, List.set_cons_succ]; rfl))
          | (refine sq_load (v := ?_) (a' := ?_) rfl rfl rfl (by rfl) (fun W hSW => ?hr) (HS).out ?ha ?_; (case hr => (try dsimp only at hSW); go_simp; first | done | rfl); (case ha => simp only [Act.put, List.setIfInBounds_toArray, List.set_cons_zero, List.set_cons_succ]; rfl)))
        refine sq_any (v := .slice Ax (min tear (xb.length : Int)).toNat cx) (a' := ?_) rfl rfl rfl (by rfl) (fun W => ?hr) ?ha ?_
        case hr =>
          unfold execOp
          simp [Act.eval]
          have he : (if (xb.length : Int) < tear then (xb.length : Int) else tear) = min tear (xb.length : Int) := by split <;> omega
          rw [run_sliceAt_slice W 22 _ _ _ _ (by kernel_rfl), he, hcut]
          rfl
        case ha => simp only [Act.put, List.setIfInBounds_toArray, List.set_cons_zero, List.set_cons_succ]; rfl
        repeat (first
          | (refine sq_off (a' := ?_) rfl rfl (by rfl) (fun _ => (HS).out) ?ha ?_; (case ha => simp only [Act.put, List.setIfInBounds_toArray, List.set_cons_zero, List.set_cons_succ]; rfl))
          | (refine sq_any (v := ?_) (a' := ?_) rfl rfl rfl (by rfl) (fun W => ?hr) ?ha ?_; (case hr => go_simp; first | done | (simp only [(HW).out]; done) | (simp only [(HW).out]; rfl) | rfl); (case ha => simp only [Act.put, List.setIfInBounds_toArray, List.set_cons_zero, List.set_cons_succ]; rfl))
          | (refine sq_load (v := ?_) (a' := ?_) rfl rfl rfl (by rfl) (fun W hSW => ?hr) (HS).out ?ha ?_; (case hr => (try dsimp only at hSW); go_simp; first | done | rfl); (case ha => simp only [Act.put, List.setIfInBounds_toArray, List.set_cons_zero, List.set_cons_succ]; rfl)))
        refine sq_store (w1 := ?_) rfl rfl (by rfl) rfl ?hr (fun h => absurd (by decide) h) ?_
        case hr => go_simp; first | done | rfl | (constructor <;> rfl)
        refine sq_done ?_
        have hcm : ((min tear (xb.length : Int)).toNat : Int) = min tear (xb.length : Int) := by omega
        obtain ⟨wz, hwz⟩ : ∃ wz, Hid (wz = (wr.setCell ⟨g, m * 2 + 1, none⟩ (.slice Ax (min tear (xb.length : Int)).toNat cx)).drew) := ⟨_, rfl⟩
        rw [← hwz.out]
        have hfz : Fr (fun k => k = g) wr wz := by rw [hwz.out]; exact Fr.drew (Fr.setCell (S := fun k => k = g) (Fr.refl _ wr) ⟨g, m * 2 + 1, none⟩ _ (fun _ => rfl))
        have HFZ : Hid (Fr No w wz) := (show Fr No w wz from HR.out.2.news hfz (fun k hk => by have := hOG.out; omega))
        obtain ⟨xb', hxb'⟩ : ∃ xb', Hid (xb' = xb.take (min tear (xb.length : Int)).toNat) := ⟨_, rfl⟩
        have hrow : OwK WaitK 131 wz (fun j => w.heap.size ≤ j ∧ j < wr.heap.size) R (.slice (some ⟨g, 0, none⟩) L.length c6) (L0 ++ [(xa, xb')]) := by
          rw [hwz.out, hM.out]
          have h1 := HR.out.1
          rw [hLE.out] at h1 ⊢
          exact (h1.last (by rw [hxb'.out]; exact hrcut.out) hgR.out).fr ((Fr.refl No _).drew) (fun _ _ _ h => h)
        have HROW := Lib.hid hrow.reads
        have HBZ : Hid (Rb wz R (.slice A s.length c) s) := (show Rb _ _ _ _ from H.out.hs.fr HFZ.out (fun _ _ _ h => h))
        have hinL : ∀ x ∈ L, x ∈ ws := fun x hx => keptW_mem (by rw [← hL.out]; exact hx)
        have hxl : xb'.length ≤ xb.length := by rw [hxb'.out, List.length_take]; omega
        have HFIT : Hid (∀ x ∈ L0 ++ [(xa, xb')], x.1 + x.2.length ≤ s.length) := (show ∀ x ∈ L0 ++ [(xa, xb')], x.1 + x.2.length ≤ s.length from fun x hx => by
          rcases List.mem_append.1 hx with hx | hx
          · exact H.out.hv x (hinL x (by rw [hLE.out]; exact List.mem_append_left _ hx))
          · rw [List.mem_singleton.1 hx]
            have := H.out.hv (xa, xb) (hinL _ (by rw [hLE.out]; simp))
            simp only at this ⊢
            omega)
        have HDONE : Hid (applyW s (L0 ++ [(xa, xb')]) = crashS s (keptW ws keep ws.length) tear) := (show _ = _ from by
          rw [← hL.out, hLE.out, applyW_append]
          unfold crashS
          rw [List.getLast?_concat, List.dropLast_concat]
          simp only
          congr 1
          rw [hxb'.out]
          unfold tearB
          split
          · rw [show (min tear (xb.length : Int)).toNat = tear.toNat from by omega]
          · rw [List.take_of_length_le (by omega)])
        have f0 := HFZ.out.cell h0 (fun h => h)
        have hLs : (L0 ++ [(xa, xb')]).length = m + 1 := by rw [List.length_append, hM.out]; rfl
        rw [hLNH.out] at HROW
        clear hfz hrow hinL hxl hLs hcut hcm hmin0 e1 z1 hb1 hb2 hb3 HS
        go_wp2_with fail
        all_goals
          refine (done_any HBZ.out HROW.out HFIT.out H.out.hm).mono ?_
          rintro e w1 ⟨v1, rfl, hown1, hfr1⟩
          rw [HDONE.out] at hown1
          obtain ⟨C, hC⟩ : ∃ C, Hid (C = crashS s (keptW ws keep ws.length) tear) := ⟨_, rfl⟩
          rw [← hC.out] at hown1
          have hCl : Hid (C.length = s.length) := (show _ = _ from by rw [hC.out, ← HDONE.out]; exact applyW_length _ _ HFIT.out)
          obtain ⟨A1, c1, rfl, _, _⟩ := hown1.shape
          have hf1 : Fr No w w1 := HFZ.out.then hfr1
          have hn1 : w1.heap[bp]? = some (.cells #[.slice A s.length c, .slice Aw ws.length cw] 103 (0, 0)) := hf1.heap H.out.hp (fun h => h)
          have d0 := blk_cell hn1 0
          have d1 := blk_cell hn1 1
          simp only [List.getElem?_toArray, List.getElem?_cons_succ, List.getElem?_cons_zero] at d0 d1
          have z0 := blk_free hn1 0
          have z1 := blk_free hn1 1
          have hszz := HFZ.out.size
          have HO1 := Lib.hid hown1
          have HF1 := Lib.hid hf1
          have HN1 := Lib.hid hn1
          clear hown1 hfr1 hf1 hn1 h0 h1
          go_wp2_with fail
          go_end0
          have hD := H.out
          have hf2 : Fr (fun k => k = bp) w1 (w1.setCell ⟨bp, 0, none⟩ (.slice A1 C.length c1)) := (Fr.refl _ _).setCell _ _ (fun _ => rfl)
          have hn2 : (w1.setCell ⟨bp, 0, none⟩ (.slice A1 C.length c1)).heap[bp]? = some (.cells #[.slice A1 C.length c1, .slice Aw ws.length cw] 103 (0, 0)) := by rw [blk_set HN1.out]; rfl
          have hf3 : Fr (fun k => k = bp) (w1.setCell ⟨bp, 0, none⟩ (.slice A1 C.length c1)) ((w1.setCell ⟨bp, 0, none⟩ (.slice A1 C.length c1)).setCell ⟨bp, 1, none⟩ (.slice none 0 0)) := (Fr.refl _ _).setCell _ _ (fun _ => rfl)
          have hf13 := hf2.then hf3
          have hbp := hD.hb bp (.inl hD.top)
          have hsz := HF1.out.size
          rw [← hC.out]
          refine (show RefPost _ _ _ _ _ _ _ _ _ from ⟨O, fun k => w.heap.size ≤ k ∧ k < w1.heap.size, rfl, ⟨bp, .slice A1 C.length c1, .slice none 0 0, rfl, hD.top, by rw [blk_set hn2]; rfl, ?_, OwK.nil _ _ _ _ _, ?_, ?_, by rw [hCl.out]; exact hD.hm, by simp⟩, fun k h => .inl h, fun k h => .inr h.1, HF1.out.trans hf13 (fun _ _ h => h.elim) (fun k _ h => h ▸ hD.top)⟩)
          · exact (HO1.out.bound.reads.mono (fun k hk => (show w.heap.size ≤ k ∧ k < w1.heap.size from ⟨Nat.le_trans hszz hk.1, hk.2⟩))).fr hf13 (fun k _ h1 h2 => by omega)
          · intro k h1 h2
            have := hD.hb k (.inl h1); omega
          · have := hf13.size
            rintro k (h | h)
            · have := hD.hb k (.inl h); omega
            · omega
      · have hcond2 : Hid (L.length = 0 ∨ tear < 0) := (show L.length = 0 ∨ tear < 0 from by omega)
        have HBZ : Hid (Rb wr R (.slice A s.length c) s) := (show Rb _ _ _ _ from H.out.hs.fr HR.out.2 (fun _ _ _ h => h))
        have HROW := Lib.hid HR.out.1.reads
        have HFIT : Hid (∀ x ∈ L, x.1 + x.2.length ≤ s.length) := (show ∀ x ∈ L, x.1 + x.2.length ≤ s.length from fun x hx => H.out.hv x (keptW_mem (by rw [← hL.out]; exact hx)))
        have HFZ : Hid (Fr No w wr) := (show Fr No w wr from HR.out.2)
        have HDONE : Hid (applyW s L = crashS s (keptW ws keep ws.length) tear) := (show _ = _ from by
          rw [← hL.out]
          unfold crashS
          split
          · rename_i h; rw [List.getLast?_eq_none_iff.1 h]; rfl
          · rename_i x hx
            obtain ⟨ys, hys⟩ := List.getLast?_eq_some_iff.1 hx
            have : tearB tear x.2 = x.2 := by
              unfold tearB
              rw [if_neg]
              intro h
              rcases hcond2.out with h1 | h1
              · rw [hys] at h1; simp at h1
              · omega
            rw [this, hys, List.dropLast_concat, applyW_append])
        by_cases hp : 0 < L.length
        · have ht : tear < 0 := by rcases hcond2.out with h | h <;> omega
          clear hcond
          have f0 := HFZ.out.cell h0 (fun h => h)
          go_wp2_with fail
          refine (done_any HBZ.out HROW.out HFIT.out H.out.hm).mono ?_
          rintro e w1 ⟨v1, rfl, hown1, hfr1⟩
          rw [HDONE.out] at hown1
          obtain ⟨C, hC⟩ : ∃ C, Hid (C = crashS s (keptW ws keep ws.length) tear) := ⟨_, rfl⟩
          rw [← hC.out] at hown1
          have hCl : Hid (C.length = s.length) := (show _ = _ from by rw [hC.out, ← HDONE.out]; exact applyW_length _ _ HFIT.out)
          obtain ⟨A1, c1, rfl, _, _⟩ := hown1.shape
          have hf1 : Fr No w w1 := HFZ.out.then hfr1
          have hn1 : w1.heap[bp]? = some (.cells #[.slice A s.length c, .slice Aw ws.length cw] 103 (0, 0)) := hf1.heap H.out.hp (fun h => h)
          have d0 := blk_cell hn1 0
          have d1 := blk_cell hn1 1
          simp only [List.getElem?_toArray, List.getElem?_cons_succ, List.getElem?_cons_zero] at d0 d1
          have z0 := blk_free hn1 0
          have z1 := blk_free hn1 1
          have hszz := HFZ.out.size
          have HO1 := Lib.hid hown1
          have HF1 := Lib.hid hf1
          have HN1 := Lib.hid hn1
          clear hown1 hfr1 hf1 hn1 h0 h1
          go_wp2_with fail
          go_end0
          have hD := H.out
          have hf2 : Fr (fun k => k = bp) w1 (w1.setCell ⟨bp, 0, none⟩ (.slice A1 C.length c1)) := (Fr.refl _ _).setCell _ _ (fun _ => rfl)
          have hn2 : (w1.setCell ⟨bp, 0, none⟩ (.slice A1 C.length c1)).heap[bp]? = some (.cells #[.slice A1 C.length c1, .slice Aw ws.length cw] 103 (0, 0)) := by rw [blk_set HN1.out]; rfl
          have hf3 : Fr (fun k => k = bp) (w1.setCell ⟨bp, 0, none⟩ (.slice A1 C.length c1)) ((w1.setCell ⟨bp, 0, none⟩ (.slice A1 C.length c1)).setCell ⟨bp, 1, none⟩ (.slice none 0 0)) := (Fr.refl _ _).setCell _ _ (fun _ => rfl)
          have hf13 := hf2.then hf3
          have hbp := hD.hb bp (.inl hD.top)
          have hsz := HF1.out.size
          rw [← hC.out]
          refine (show RefPost _ _ _ _ _ _ _ _ _ from ⟨O, fun k => w.heap.size ≤ k ∧ k < w1.heap.size, rfl, ⟨bp, .slice A1 C.length c1, .slice none 0 0, rfl, hD.top, by rw [blk_set hn2]; rfl, ?_, OwK.nil _ _ _ _ _, ?_, ?_, by rw [hCl.out]; exact hD.hm, by simp⟩, fun k h => .inl h, fun k h => .inr h.1, HF1.out.trans hf13 (fun _ _ h => h.elim) (fun k _ h => h ▸ hD.top)⟩)
          · exact (HO1.out.bound.reads.mono (fun k hk => (show w.heap.size ≤ k ∧ k < w1.heap.size from ⟨Nat.le_trans hszz hk.1, hk.2⟩))).fr hf13 (fun k _ h1 h2 => by omega)
          · intro k h1 h2
            have := hD.hb k (.inl h1); omega
          · have := hf13.size
            rintro k (h | h)
            · have := hD.hb k (.inl h); omega
            · omega
        · have hp0 : (L.length : Int) = 0 := by omega
          clear hcond
          have f0 := HFZ.out.cell h0 (fun h => h)
          go_wp2_with fail
          refine (done_any HBZ.out HROW.out HFIT.out H.out.hm).mono ?_
          rintro e w1 ⟨v1, rfl, hown1, hfr1⟩
          rw [HDONE.out] at hown1
          obtain ⟨C, hC⟩ : ∃ C, Hid (C = crashS s (keptW ws keep ws.length) tear) := ⟨_, rfl⟩
          rw [← hC.out] at hown1
          have hCl : Hid (C.length = s.length) := (show _ = _ from by rw [hC.out, ← HDONE.out]; exact applyW_length _ _ HFIT.out)
          obtain ⟨A1, c1, rfl, _, _⟩ := hown1.shape
          have hf1 : Fr No w w1 := HFZ.out.then hfr1
          have hn1 : w1.heap[bp]? = some (.cells #[.slice A s.length c, .slice Aw ws.length cw] 103 (0, 0)) := hf1.heap H.out.hp (fun h => h)
          have d0 := blk_cell hn1 0
          have d1 := blk_cell hn1 1
          simp only [List.getElem?_toArray, List.getElem?_cons_succ, List.getElem?_cons_zero] at d0 d1
          have z0 := blk_free hn1 0
          have z1 := blk_free hn1 1
          have hszz := HFZ.out.size
          have HO1 := Lib.hid hown1
          have HF1 := Lib.hid hf1
          have HN1 := Lib.hid hn1
          clear hown1 hfr1 hf1 hn1 h0 h1
          go_wp2_with fail
          go_end0
          have hD := H.out
          have hf2 : Fr (fun k => k = bp) w1 (w1.setCell ⟨bp, 0, none⟩ (.slice A1 C.length c1)) := (Fr.refl _ _).setCell _ _ (fun _ => rfl)
          have hn2 : (w1.setCell ⟨bp, 0, none⟩ (.slice A1 C.length c1)).heap[bp]? = some (.cells #[.slice A1 C.length c1, .slice Aw ws.length cw] 103 (0, 0)) := by rw [blk_set HN1.out]; rfl
          have hf3 : Fr (fun k => k = bp) (w1.setCell ⟨bp, 0, none⟩ (.slice A1 C.length c1)) ((w1.setCell ⟨bp, 0, none⟩ (.slice A1 C.length c1)).setCell ⟨bp, 1, none⟩ (.slice none 0 0)) := (Fr.refl _ _).setCell _ _ (fun _ => rfl)
          have hf13 := hf2.then hf3
          have hbp := hD.hb bp (.inl hD.top)
          have hsz := HF1.out.size
          rw [← hC.out]
          refine (show RefPost _ _ _ _ _ _ _ _ _ from ⟨O, fun k => w.heap.size ≤ k ∧ k < w1.heap.size, rfl, ⟨bp, .slice A1 C.length c1, .slice none 0 0, rfl, hD.top, by rw [blk_set hn2]; rfl, ?_, OwK.nil _ _ _ _ _, ?_, ?_, by rw [hCl.out]; exact hD.hm, by simp⟩, fun k h => .inl h, fun k h => .inr h.1, HF1.out.trans hf13 (fun _ _ h => h.elim) (fun k _ h => h ▸ hD.top)⟩)
          · exact (HO1.out.bound.reads.mono (fun k hk => (show w.heap.size ≤ k ∧ k < w1.heap.size from ⟨Nat.le_trans hszz hk.1, hk.2⟩))).fr hf13 (fun k _ h1 h2 => by omega)
          · intro k h1 h2
            have := hD.hb k (.inl h1); omega
          · have := hf13.size
            rintro k (h | h)
            · have := hD.hb k (.inl h); omega
            · omega
end Go.Proofs.Ytbaohngnpgappaa
