/- few: whether changes are few and small enough to be played. -/
import Derived.Test.YtbaohngnpgappaaS22
set_option linter.unusedVariables false
set_option linter.unusedSimpArgs false
namespace Go.Proofs.Ytbaohngnpgappaa
open Go.RowKit
def okC (c : Ch) : Bool := decide (c.b.length ≤ 1500) && decide (c.l.length ≤ 20) && c.l.all (fun e => decide (e.2.length ≤ 500))
def fewCB (l : List Ch) : Bool := decide (l.length ≤ 60) && l.all okC
theorem fewCB_no {l : List Ch} {k : Nat} {c : Ch} (h : l[k]? = some c) (hc : okC c = false) : fewCB l = false := by
  unfold fewCB
  rw [Bool.and_eq_false_iff]
  right
  rw [List.all_eq_false]
  exact ⟨c, List.mem_of_getElem? h, by rw [hc]; decide⟩
theorem fewCB_yes {l : List Ch} (h : l.length ≤ 60) (hc : ∀ (j : Nat) (c : Ch), l[j]? = some c → okC c = true) : fewCB l = true := by
  unfold fewCB
  rw [Bool.and_eq_true, decide_eq_true_eq, List.all_eq_true]
  refine ⟨h, fun c hm => ?_⟩
  obtain ⟨j, hj⟩ := List.mem_iff_getElem?.1 hm
  exact hc j c hj
set_option maxRecDepth 100000 in
set_option maxHeartbeats 4000000 in
theorem fewc_any {w : World} {F : Nat → Prop} {v : Value} {l : List Ch} (h : Row ChK w F v l) : Calls Try.prog 39 #[v] w (Told (.bool (fewCB l)) w) := by
  obtain ⟨A, c, rfl, hc1, hc2⟩ := h.shape
  have H : Hid (Row ChK w (fun k => F k ∧ k < w.heap.size) (.slice A l.length c) l) := (show Row _ _ _ _ _ from h.bound (by decide))
  obtain ⟨n, hnn⟩ : ∃ n, n = l.length := ⟨_, rfl⟩
  have HN := Lib.hid hnn
  rw [← hnn] at hc1 ⊢
  have hn9 : (n : Int) ≤ 9223372036854775807 := by simp only [maxLen] at hc2; omega
  obtain ⟨B, hB⟩ : ∃ B, B = fewCB l := ⟨_, rfl⟩
  have HB := Lib.hid hB
  rw [← hB]
  clear h hnn hB
  by_cases hn : n ≤ 60
  · have hg : decide (60 < n) = false := by simp; omega
    have hg2 : decide ((n : Int) > 60) = false := by simp; omega
    clear hc1 hc2
    go_enter Try.func39, Try.ntmps39
    go_wp2_with fail
    go_loopw [12] (fun i wr => ∃ k : Nat, k ≤ n ∧ i = .int .i64 k ∧ Hid ((∀ j x, j < k → l[j]? = some x → okC x = true) ∧ Fr No w wr)) (fun i _ => n - (intOf i).toNat)
    case atStart => exact ⟨0, Nat.zero_le _, rfl, Lib.hid ⟨fun j x hj => absurd hj (Nat.not_lt_zero _), Fr.refl _ _⟩⟩
    case round =>
      obtain ⟨k, hk, rfl, HR⟩ := hrel
      obtain ⟨wo, hwo⟩ : ∃ wo, wo = wr := ⟨_, rfl⟩
      subst hwo
      by_cases hlt : k < n
      · have hlt' : k < l.length := by rw [← HN.out]; exact hlt
        obtain ⟨x, hx⟩ : ∃ x, x = l[k] := ⟨_, rfl⟩
        have HX : Hid (l[k]? = some x) := (show _ = _ from by rw [hx]; exact List.getElem?_eq_getElem hlt')
        obtain ⟨b1, o1, _, cs, he, _, _, _, hr, hcell⟩ := (H.out.fr (by decide) HR.out.2 (fun _ _ _ h => h)).at_ k hlt'
        rw [← hx] at hr
        rw [← HN.out] at he
        cases he
        obtain ⟨vl, vb, rfl, hrow, hrb, _⟩ := hr
        obtain ⟨Al, cl, rfl, hm1, hm2⟩ := hrow.shape
        obtain ⟨Ab, cb, rfl, _, hb2⟩ := hrb.shape
        obtain ⟨nb, hnb⟩ : ∃ q, q = x.b.length := ⟨_, rfl⟩
        obtain ⟨ml, hml⟩ : ∃ q, q = x.l.length := ⟨_, rfl⟩
        rw [← hnb] at hcell
        rw [← hml] at hcell hm1
        have hnb9 : nb ≤ maxLen := by rw [hnb]; have := hrb.shape; obtain ⟨_, _, _, h1, h2⟩ := this; omega
        have c0 := hcell 0 _ rfl
        have c1 := hcell 1 _ rfl
        have c2 := hcell 2 _ rfl
        have c3 := hcell 3 _ rfl
        have c4 := hcell 4 _ rfl
        have c5 := hcell 5 _ rfl
        simp only [show ChK.sz = 6 from rfl, Nat.add_zero] at c0 c1 c2 c3 c4 c5
        have HROW := Lib.hid hrow
        rw [← hml] at HROW
        have HNB := Lib.hid hnb
        have HML := Lib.hid hml
        have hga : decide (k < n) = true := by simp; exact hlt
        have hm9 : ml ≤ maxLen := by omega
        simp only [maxLen] at hnb9 hm9
        clear hcell hrow hrb hnb hml hx hm1 hm2 hb2
        obtain ⟨w4, hw4⟩ : ∃ w4, Hid (w4 = wo.alloc (.cells #[.int .i64 x.kind, .int .i64 x.term, .int .i64 x.vote, .int .i64 x.at_, .slice Al ml cl, .slice Ab nb cb] 62 (0, 0))) := ⟨_, show _ = _ from rfl⟩
        have HF4 : Hid (Fr No wo w4) := (show Fr No wo w4 from by rw [hw4.out]; exact (Fr.refl _ _).alloc _)
        by_cases hb : nb ≤ 1500
        · have hg3 : decide (1500 < nb) = false := by simp; omega
          have hg4 : decide ((nb : Int) > 1500) = false := by simp; omega
          by_cases hm : ml ≤ 20
          · have hg5 : decide (20 < ml) = false := by simp; omega
            have hg6 : decide ((ml : Int) > 20) = false := by simp; omega
            go_wp2_with fail
            rw [← hw4.out]
            clear c0 c1 c2 c3 c4 c5
            go_loopw [29] (fun i wx => ∃ q : Nat, q ≤ ml ∧ i = .int .i64 q ∧ Hid ((∀ j e, j < q → x.l[j]? = some e → e.2.length ≤ 500) ∧ Fr No wo wx)) (fun i _ => ml - (intOf i).toNat)
            case atStart => exact ⟨0, Nat.zero_le _, rfl, Lib.hid ⟨fun j x hj => absurd hj (Nat.not_lt_zero _), HF4.out⟩⟩
            case round =>
              obtain ⟨q, hq, rfl, HQ⟩ := hrel
              by_cases hlq : q < ml
              · have hlq' : q < x.l.length := by rw [← HML.out]; exact hlq
                obtain ⟨y, hy⟩ : ∃ y, y = x.l[q] := ⟨_, rfl⟩
                have HY : Hid (x.l[q]? = some y) := (show _ = _ from by rw [hy]; exact List.getElem?_eq_getElem hlq')
                obtain ⟨b2, o2, _, cs2, he2, _, _, _, hr2, hcell2⟩ := (HROW.out.fr (by decide) HQ.out.2 (fun _ _ _ h => h)).at_ q hlq'
                rw [← hy] at hr2
                rw [← HML.out] at he2
                cases he2
                obtain ⟨yt, yb⟩ := y
                obtain ⟨vy, rfl, hry, _⟩ := hr2
                obtain ⟨Ay, cy, rfl, hy1, hy2⟩ := hry.shape
                obtain ⟨ny, hny⟩ : ∃ q, q = yb.length := ⟨_, rfl⟩
                have e0 := hcell2 0 _ rfl
                have e1 := hcell2 1 _ rfl
                simp only [show EnK.sz = 2 from rfl, Nat.add_zero] at e0 e1 hy1
                rw [← hny] at e1 hy1
                have HNY := Lib.hid hny
                have hny9 : ny ≤ 9223372036854775807 := by simp only [maxLen] at hy2; omega
                have hgq : decide (q < ml) = true := by simp; exact hlq
                obtain ⟨w5, hw5⟩ : ∃ w5, Hid (w5 = wr.alloc (.cells #[.int .i64 yt, .slice Ay ny cy] 64 (0, 0))) := ⟨_, show _ = _ from rfl⟩
                have HF5 : Hid (Fr No wr w5) := (show Fr No wr w5 from by rw [hw5.out]; exact (Fr.refl _ _).alloc _)
                clear hcell2 hry hy1 hy2 hny hy
                by_cases hyb : ny ≤ 500
                · have hg7 : decide (500 < ny) = false := by simp; omega
                  have hg8 : decide ((ny : Int) > 500) = false := by simp; omega
                  go_wp2_with fail
                  rw [← hw5.out]
                  go_roundw
                  case rel => exact ⟨q + 1, by omega, by go_num, Lib.hid ⟨fun j z hj hz => by
                    rcases Nat.lt_or_ge j q with h1 | h1
                    · exact HQ.out.1 j z h1 hz
                    · have h2 : j = q := by omega
                      subst h2
                      rw [HY.out] at hz
                      cases hz
                      show yb.length ≤ 500
                      rw [← HNY.out]
                      exact hyb, HQ.out.2.then HF5.out⟩⟩
                  case measure => simp [intOf]; omega
                · have hg7 : decide (500 < ny) = true := by simp; omega
                  have hg8 : decide ((ny : Int) > 500) = true := by simp; omega
                  have HNO : Hid (B = false) := (show _ = _ from by rw [HB.out]; exact fewCB_no HX.out (by
                    unfold okC
                    rw [Bool.and_eq_false_iff]
                    right
                    rw [List.all_eq_false]
                    exact ⟨_, List.mem_of_getElem? HY.out, by rw [decide_eq_true_eq]; show ¬ yb.length ≤ 500; rw [← HNY.out]; exact hyb⟩))
                  go_wp2_with fail
                  rw [← hw5.out]
                  go_ret
                  rw [HNO.out]
                  exact (show Told _ _ _ _ from ⟨rfl, (HR.out.2.then HQ.out.2).then HF5.out⟩)
              · have hqm : q = ml := by omega
                subst hqm
                have HOKC : Hid (okC x = true) := (show _ = _ from by
                  unfold okC
                  rw [Bool.and_eq_true, Bool.and_eq_true, decide_eq_true_eq, decide_eq_true_eq, List.all_eq_true]
                  refine ⟨⟨by rw [← HNB.out]; exact hb, by rw [← HML.out]; exact hm⟩, fun e he => ?_⟩
                  obtain ⟨j, hj⟩ := List.mem_iff_getElem?.1 he
                  simpa using HQ.out.1 j e (by have := (List.getElem?_eq_some_iff.1 hj).1; rw [HML.out]; exact this) hj)
                clear hlq hq
                go_wp2_with fail
                go_roundw
                case rel => exact ⟨k + 1, by omega, by go_num, Lib.hid ⟨fun j z hj hz => by
                  rcases Nat.lt_or_ge j k with h1 | h1
                  · exact HR.out.1 j z h1 hz
                  · have h2 : j = k := by omega
                    subst h2
                    rw [HX.out] at hz
                    cases hz
                    exact HOKC.out, HR.out.2.then HQ.out.2⟩⟩
                case measure => simp [intOf]; omega
          · have hg5 : decide (20 < ml) = true := by simp; omega
            have hg6 : decide ((ml : Int) > 20) = true := by simp; omega
            have HNO : Hid (B = false) := (show _ = _ from by rw [HB.out]; exact fewCB_no HX.out (by unfold okC; rw [← HML.out, Bool.and_eq_false_iff]; left; rw [Bool.and_eq_false_iff]; right; simpa using hm))
            go_wp2_with fail
            go_ret
            rw [HNO.out]
            exact (show Told _ _ _ _ from ⟨rfl, HR.out.2.then ((Fr.refl No _).alloc _)⟩)
        · have hg3 : decide (1500 < nb) = true := by simp; omega
          have hg4 : decide ((nb : Int) > 1500) = true := by simp; omega
          have HNO : Hid (B = false) := (show _ = _ from by rw [HB.out]; exact fewCB_no HX.out (by unfold okC; rw [← HNB.out, Bool.and_eq_false_iff]; left; rw [Bool.and_eq_false_iff]; left; simpa using hb))
          go_wp2_with fail
          go_ret
          rw [HNO.out]
          exact (show Told _ _ _ _ from ⟨rfl, HR.out.2.then ((Fr.refl No _).alloc _)⟩)
      · have hkn : k = n := by omega
        subst hkn
        have HYES : Hid (B = true) := (show _ = _ from by rw [HB.out]; exact fewCB_yes (by rw [← HN.out]; exact hn) (fun j c hj => HR.out.1 j c (by have := (List.getElem?_eq_some_iff.1 hj).1; rw [HN.out]; exact this) hj))
        clear hlt hk
        go_wp2_with fail
        go_ret
        rw [HYES.out]
        exact (show Told _ _ _ _ from ⟨rfl, HR.out.2⟩)
  · have hg : decide (60 < n) = true := by simp; omega
    have hg2 : decide ((n : Int) > 60) = true := by simp; omega
    have HNO : Hid (B = false) := (show _ = _ from by rw [HB.out]; unfold fewCB; rw [← HN.out, Bool.and_eq_false_iff]; left; simpa using hn)
    go_enter Try.func39, Try.ntmps39
    go_wp2_with fail
    go_ret
    rw [HNO.out]
    exact (show Told _ _ _ _ from ⟨rfl, Fr.refl _ _⟩)
end Go.Proofs.Ytbaohngnpgappaa
