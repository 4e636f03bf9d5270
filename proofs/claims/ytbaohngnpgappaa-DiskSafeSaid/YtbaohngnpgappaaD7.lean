/- DiskSafe: the walk. -/
import Derived.Test.YtbaohngnpgappaaD6
import Derived.BigQuiet
set_option linter.unusedVariables false
set_option linter.unusedSimpArgs false
namespace Go.Proofs.Ytbaohngnpgappaa
open Go.RowKit
/-- What stands at the head of the rounds over what is done. -/
def SafeRel (w : World) (n : Nat) (p vw vs : Value) (ops : List OpD) (d : Dk) (wr : World) : Prop :=
  ∃ O R Oa Ob : Nat → Prop, DiskIs wr O R p d ∧ d.now.length = n ∧ applyW d.safe d.waits = d.now ∧ OwK OpK 38 wr Oa (fun k => k < w.heap.size) vw ops ∧ ops.map (fun o => (o.at_.toNat, o.b)) = d.waits ∧
    (∀ o ∈ ops, 0 ≤ o.at_) ∧ Ow wr Ob 5 1 vs n (d.safe.map enc8) ∧ (∀ k, O k ∨ R k → w.heap.size ≤ k ∧ ¬ Oa k ∧ ¬ Ob k) ∧ (∀ k, Oa k → w.heap.size ≤ k ∧ k < wr.heap.size ∧ ¬ Ob k) ∧ (∀ k, Ob k → w.heap.size ≤ k ∧ k < wr.heap.size) ∧ Fr No w wr
/-- What a call that turns the disk alone leaves. -/
structure SafeMid (w : World) (n : Nat) (p vw vs : Value) (ops : List OpD) (d : Dk) (s : List UInt8) (ws : List (Nat × List UInt8)) (O R Oa Ob : Nat → Prop) (wr : World) : Prop where
  disk : DiskIs wr O R p d
  len : d.now.length = n
  rows : OwK OpK 38 wr Oa (fun k => k < w.heap.size) vw ops
  eq : ops.map (fun o => (o.at_.toNat, o.b)) = ws
  pos : ∀ o ∈ ops, 0 ≤ o.at_
  safe : Ow wr Ob 5 1 vs n (s.map enc8)
  ho : ∀ k, O k ∨ R k → w.heap.size ≤ k ∧ ¬ Oa k ∧ ¬ Ob k
  ha : ∀ k, Oa k → w.heap.size ≤ k ∧ k < wr.heap.size ∧ ¬ Ob k
  hb : ∀ k, Ob k → w.heap.size ≤ k ∧ k < wr.heap.size
  fr : Fr No w wr
theorem SafeRel.mid {w wr : World} {n : Nat} {p vw vs : Value} {ops : List OpD} {d : Dk} (h : SafeRel w n p vw vs ops d wr) : ∃ O R Oa Ob, SafeMid w n p vw vs ops d d.safe d.waits O R Oa Ob wr ∧ applyW d.safe d.waits = d.now := by
  obtain ⟨O, R, Oa, Ob, h1, h2, h3, h4, h5, h6, h7, h8, h9, h10, h11⟩ := h
  exact ⟨O, R, Oa, Ob, ⟨h1, h2, h4, h5, h6, h7, h8, h9, h10, h11⟩, h3⟩
theorem SafeMid.rel {w wr : World} {n : Nat} {p vw vs : Value} {ops : List OpD} {d : Dk} {O R Oa Ob : Nat → Prop} (h : SafeMid w n p vw vs ops d d.safe d.waits O R Oa Ob wr) (ha : applyW d.safe d.waits = d.now) : SafeRel w n p vw vs ops d wr :=
  ⟨O, R, Oa, Ob, h.disk, h.len, ha, h.rows, h.eq, h.pos, h.safe, h.ho, h.ha, h.hb, h.fr⟩
theorem SafeMid.quiet {w wr w' : World} {n : Nat} {p vw vs : Value} {ops : List OpD} {d : Dk} {s : List UInt8} {ws : List (Nat × List UInt8)} {O R Oa Ob : Nat → Prop} (h : SafeMid w n p vw vs ops d s ws O R Oa Ob wr) (hf : Fr No wr w') : SafeMid w n p vw vs ops d s ws O R Oa Ob w' :=
  ⟨h.disk.no hf, h.len, h.rows.fr hf (fun _ _ _ h => h), h.eq, h.pos, h.safe.fr hf (fun _ _ _ h => h), h.ho, fun k hk => ⟨(h.ha k hk).1, Nat.lt_of_lt_of_le (h.ha k hk).2.1 hf.size, (h.ha k hk).2.2⟩, fun k hk => ⟨(h.hb k hk).1, Nat.lt_of_lt_of_le (h.hb k hk).2 hf.size⟩, h.fr.then hf⟩
theorem SafeMid.turn {w wr w' : World} {n : Nat} {p vw vs : Value} {ops : List OpD} {d d' : Dk} {s : List UInt8} {ws : List (Nat × List UInt8)} {O R Oa Ob : Nat → Prop} {v : Value} {e : Ending}
    (h : SafeMid w n p vw vs ops d s ws O R Oa Ob wr) (hp : DiskPost wr O R p v d' e w') (hl : d'.now.length = n) : e = .returned v ∧ Fr O wr w' ∧ ∃ O' R', SafeMid w n p vw vs ops d' s ws O' R' Oa Ob w' := by
  obtain ⟨O', R', he, hD, hO, hR, hf⟩ := hp
  refine ⟨he, hf, O', R', hD, hl, h.rows.fr hf ?_, h.eq, h.pos, h.safe.fr hf (fun k _ hb ho => (h.ho k (.inl ho)).2.2 hb), ?_, fun k hk => ⟨(h.ha k hk).1, Nat.lt_of_lt_of_le (h.ha k hk).2.1 hf.size, (h.ha k hk).2.2⟩, fun k hk => ⟨(h.hb k hk).1, Nat.lt_of_lt_of_le (h.hb k hk).2 hf.size⟩, h.fr.news hf (fun k hk => (h.ho k (.inl hk)).1)⟩
  · intro k _ hk ho
    have h1 := h.ho k (.inl ho)
    rcases hk with hk | hk
    · exact h1.2.1 hk
    · omega
  · intro k hk
    have hx : (O k ∨ R k) ∨ wr.heap.size ≤ k := by
      rcases hk with hk | hk
      · rcases hO k hk with h | h
        · exact .inl (.inl h)
        · exact .inr h
      · rcases hR k hk with h | h
        · exact .inl (.inr h)
        · exact .inr h
    rcases hx with hx | hx
    · exact h.ho k hx
    · refine ⟨Nat.le_trans h.fr.size hx, fun h1 => ?_, fun h1 => ?_⟩
      · have := (h.ha k h1).2.1; omega
      · have := (h.hb k h1).2; omega
theorem SafeMid.far {w wr w' : World} {n : Nat} {p vw vs : Value} {ops : List OpD} {d : Dk} {s : List UInt8} {ws : List (Nat × List UInt8)} {O R Oa Ob S : Nat → Prop} (h : SafeMid w n p vw vs ops d s ws O R Oa Ob wr) (N : Nat) (hN : ∀ k, (O k ∨ R k) ∨ Oa k ∨ Ob k → k < N) (hwN : w.heap.size ≤ N)
    (hf : Fr S wr w') (hs : ∀ k, S k → N ≤ k) : SafeMid w n p vw vs ops d s ws O R Oa Ob w' := by
  have hlow : ∀ k, k < N → ¬ S k := fun k hk h1 => by have := hs k h1; omega
  exact ⟨h.disk.fr hf (fun k _ hk => hlow k (hN k (.inl hk))), h.len, h.rows.fr hf (fun k _ hk => by
    rcases hk with hk | hk
    · exact hlow k (hN k (.inr (.inl hk)))
    · exact hlow k (by omega)), h.eq, h.pos, h.safe.fr hf (fun k _ hk => hlow k (hN k (.inr (.inr hk)))), h.ho, fun k hk => ⟨(h.ha k hk).1, Nat.lt_of_lt_of_le (h.ha k hk).2.1 hf.size, (h.ha k hk).2.2⟩, fun k hk => ⟨(h.hb k hk).1, Nat.lt_of_lt_of_le (h.hb k hk).2 hf.size⟩, h.fr.news hf (fun k hk => by have := hs k hk; omega)⟩
theorem SafeMid.top {w wr : World} {n : Nat} {p vw vs : Value} {ops : List OpD} {d : Dk} {s : List UInt8} {ws : List (Nat × List UInt8)} {O R Oa Ob : Nat → Prop} (h : SafeMid w n p vw vs ops d s ws O R Oa Ob wr) : ∀ k, (O k ∨ R k) ∨ Oa k ∨ Ob k → k < wr.heap.size := by
  intro k hk
  rcases hk with hk | hk | hk
  · exact h.disk.lt k hk
  · exact (h.ha k hk).2.1
  · exact (h.hb k hk).2
theorem SafeMid.more {w W w1 : World} {n : Nat} {p vw vs v1 : Value} {ops : List OpD} {d : Dk} {s : List UInt8} {ws : List (Nat × List UInt8)} {O R Oa Ob : Nat → Prop} {x : OpD} {cells cs : List Value} (h : SafeMid w n p vw vs ops d s ws O R Oa Ob W)
    (hl : cells.length = ops.length * OpK.sz) (h2 : ∀ j x, ops[j]? = some x → ∃ cs, OpK.R W (fun k => k < w.heap.size) x cs ∧ ∀ i u, cs[i]? = some u → cells[j * OpK.sz + i]? = some u)
    (hown : Ow w1 (fun k => vw.ownBlock = some k ∨ k = W.heap.size) 38 6 v1 (ops.length + 1) (cells ++ cs)) (hfr : Fr (fun k => vw.ownBlock = some k) W w1) (hr : OpK.R W (fun k => k < w.heap.size) x cs) (hx : 0 ≤ x.at_) (hv : ∀ k, vw.ownBlock = some k → Oa k) :
    ∃ Oa', SafeMid w n p v1 vs (ops ++ [x]) d s (ws ++ [(x.at_.toNat, x.b)]) O R Oa' Ob w1 := by
  have hlow : ∀ k, k < w.heap.size → ¬ vw.ownBlock = some k := fun k hk hv2 => by have := (h.ha k (hv k hv2)).1; omega
  refine ⟨fun k => (Oa k ∨ k = W.heap.size) ∧ k < w1.heap.size, h.disk.fr hfr (fun k _ hk hv2 => (h.ho k hk).2.1 (hv k hv2)), h.len, ?_, by rw [List.map_append, h.eq]; rfl, ?_, h.safe.fr hfr (fun k _ hk hv2 => (h.ha k (hv k hv2)).2.2 hk), ?_, ?_, ?_, h.fr.news hfr (fun k hk => (h.ha k (hv k hk)).1)⟩
  · refine OwK.snoc (K := OpK) hl (fun j y hj => ?_) (hown.bound.mono fun k hk => ⟨?_, hk.2⟩) (OpK.move (fun k hk hl => hfr.block k hl (hlow k hk)) hr)
    · obtain ⟨cs', h3, h4⟩ := h2 j y hj
      exact ⟨cs', OpK.move (fun k hk hl => hfr.block k hl (hlow k hk)) h3, h4⟩
    · rcases hk.1 with h5 | h5
      · exact .inl (hv k h5)
      · exact .inr h5
  · intro o ho
    rcases List.mem_append.1 ho with ho | ho
    · exact h.pos o ho
    · rw [List.mem_singleton.1 ho]; exact hx
  · intro k hk
    have h1 := h.ho k hk
    have h3 := h.disk.lt k hk
    refine ⟨h1.1, fun h4 => ?_, h1.2.2⟩
    rcases h4.1 with h4 | h4
    · exact h1.2.1 h4
    · omega
  · intro k hk
    rcases hk.1 with h4 | h4
    · have h5 := h.ha k h4
      exact ⟨h5.1, hk.2, h5.2.2⟩
    · have h6 := h.fr.size
      refine ⟨by omega, hk.2, fun h5 => by have := (h.hb k h5).2; omega⟩
  · intro k hk
    have h5 := h.hb k hk
    have h6 := hfr.size
    exact ⟨h5.1, by omega⟩
theorem SafeMid.fresh {w wr w' : World} {n : Nat} {p vw vs v' : Value} {ops : List OpD} {d : Dk} {s s' : List UInt8} {ws : List (Nat × List UInt8)} {O R Oa Ob : Nat → Prop} (h : SafeMid w n p vw vs ops d s ws O R Oa Ob wr)
    (hv : Ow w' (New wr) 5 1 v' s'.length (s'.map enc8)) (hf : Fr No wr w') (hw : d.waits = []) (hs : s' = d.now) (hsafe : d.safe = d.now) : SafeRel w n p (.slice none 0 0) v' [] d w' := by
  subst hs
  refine ⟨O, R, No, _, h.disk.no hf, h.len, by rw [hw]; exact hsafe, OwK.nil _ _ _ _ _, by rw [hw]; rfl, by simp, by rw [h.len] at hv; rw [hsafe]; exact hv.bound, ?_, fun k hk => hk.elim, ?_, h.fr.then hf⟩
  · intro k hk
    have h1 := h.disk.lt k hk
    exact ⟨(h.ho k hk).1, fun h => h, fun h2 => by have : wr.heap.size ≤ k := h2.1; omega⟩
  · intro k hk
    exact ⟨Nat.le_trans h.fr.size hk.1, hk.2⟩
theorem info38 : (Try.prog.info? 38).map (fun i => (i.zero, i.size, i.bytes)) = some (some (.agg #[.int .i64 0, .int .i64 0, .int .i64 0, .slice none 0 0, .int .u64 0, .int .i64 0]), 6, 64) := by kernel_rfl
theorem rb_byte {w : World} {F : Nat → Prop} {A : Option Addr} {m c : Nat} {l : List UInt8} {k : Nat} {x : UInt8} (h : Rb w F (.slice A m c) l) (hk : l[k]? = some x) : ∃ b o, A = some ⟨b, o, none⟩ ∧ m = l.length ∧ w.cell? ⟨b, o + k, none⟩ = some (.int .u8 (x.toNat : Int)) := by
  obtain ⟨hl, hx⟩ := List.getElem?_eq_some_iff.1 hk
  obtain ⟨b, o, c', he, _, _, _, hc⟩ := h.at_ k hl
  cases he
  subst hx
  exact ⟨b, o, rfl, rfl, hc⟩
/-- What the rounds over the writes have found of the byte at k. -/
def Hit (keep : Nat) (ops : List OpD) (c s : List UInt8) (k j : Nat) : Prop :=
  c[k]? = s[k]? ∨ ∃ j' x, j' < j ∧ ops[j']? = some x ∧ bset keep j' = true ∧ x.at_ ≤ (k : Int) ∧ (k : Int) - x.at_ < x.b.length ∧ x.b[k - x.at_.toNat]? = c[k]?
theorem Hit.step {keep : Nat} {ops : List OpD} {c s : List UInt8} {k j : Nat} {x : OpD} {ok ok' : Bool} (h : Hit keep ops c s k j → ok = true) (hx : ops[j]? = some x) (ho : ok = true → ok' = true)
    (hn : bset keep j = true → x.at_ ≤ (k : Int) → (k : Int) - x.at_ < x.b.length → x.b[k - x.at_.toNat]? = c[k]? → ok' = true) : Hit keep ops c s k (j + 1) → ok' = true := by
  rintro (h1 | ⟨j', y, h1, h2, h3, h4, h5, h6⟩)
  · exact ho (h (.inl h1))
  · by_cases hj : j' < j
    · exact ho (h (.inr ⟨j', y, hj, h2, h3, h4, h5, h6⟩))
    · have : j' = j := by omega
      subst this
      rw [hx] at h2
      cases h2
      exact hn h3 h4 h5 h6
set_option maxRecDepth 100000 in
set_option maxHeartbeats 4000000 in
theorem disksafe {w : World} {size tear : Int} {keep : Nat} {vl : Value} {l : List OpD} (hl : Row OpK w (fun k => k < w.heap.size) vl l) (hkeep : keep < 18446744073709551616) (hs1 : -9223372036854775808 ≤ size) (hs2 : size ≤ 9223372036854775807) :
    Calls Try.prog 5 #[.int .i64 size, vl, .int .u64 keep, .int .i64 tear] w (Told (.bool true) w) := by
  obtain ⟨Al, cl, rfl, hc1, hc2⟩ := hl.shape
  have hl63 : (l.length : Int) ≤ 9223372036854775807 := by simp only [maxLen] at hc2; omega
  have HL := Lib.hid hl
  clear hl hc2
  have up : ∀ W, Fr No w W → Told (.bool true) w (.returned (.bool true)) W := fun W h => ⟨rfl, h⟩
  have UP := Lib.hid up
  clear up
  cases hfew : fewB l
  · clear hs1 hs2
    go_enter Try.func5, Try.ntmps5
    go_wp2_with fail
    refine (live_any _).mono ?_
    rintro e w1 ⟨rfl, hF1⟩
    have HF1 := Lib.hid hF1
    clear hF1
    go_wp2_with fail
    refine (few_any (HL.out.fr (by decide) HF1.out (fun _ _ _ h => h))).mono ?_
    rw [hfew]
    rintro e w2 ⟨rfl, hF2⟩
    have HF2 := Lib.hid (HF1.out.then hF2)
    clear hF2
    go_wp2_with fail
    go_ret
    exact UP.out _ HF2.out
  · by_cases c1 : 400 < size
    · clear hs1
      go_enter Try.func5, Try.ntmps5
      go_wp2_with fail
      refine (live_any _).mono ?_
      rintro e w1 ⟨rfl, hF1⟩
      have HF1 := Lib.hid hF1
      clear hF1
      go_wp2_with fail
      refine (few_any (HL.out.fr (by decide) HF1.out (fun _ _ _ h => h))).mono ?_
      rw [hfew]
      rintro e w2 ⟨rfl, hF2⟩
      have HF2 := Lib.hid (HF1.out.then hF2)
      clear hF2
      go_wp2_with fail
      go_ret
      exact UP.out _ HF2.out
    · have c1' : size ≤ 400 := by omega
      clear c1
      by_cases c2 : (60 : Int) < l.length
      · go_enter Try.func5, Try.ntmps5
        go_wp2_with fail
        refine (live_any _).mono ?_
        rintro e w1 ⟨rfl, hF1⟩
        have HF1 := Lib.hid hF1
        clear hF1
        go_wp2_with fail
        refine (few_any (HL.out.fr (by decide) HF1.out (fun _ _ _ h => h))).mono ?_
        rw [hfew]
        rintro e w2 ⟨rfl, hF2⟩
        have HF2 := Lib.hid (HF1.out.then hF2)
        clear hF2
        go_wp2_with fail
        go_ret
        exact UP.out _ HF2.out
      · have c2' : (l.length : Int) ≤ 60 := by omega
        clear c2 hl63
        obtain ⟨n, hn⟩ : ∃ n, n = clampI size := ⟨_, rfl⟩
        have hn4 : n ≤ 400 := by rw [hn]; unfold clampI; omega
        have HN := Lib.hid hn
        have HFEW := Lib.hid hfew
        clear hn hfew
        go_enter Try.func5, Try.ntmps5
        go_wp2_with fail
        refine (live_any _).mono ?_
        rintro e w1 ⟨rfl, hF1⟩
        have HF1 := Lib.hid hF1
        clear hF1
        go_wp2_with fail
        refine (few_any (HL.out.fr (by decide) HF1.out (fun _ _ _ h => h))).mono ?_
        rw [HFEW.out]
        rintro e w2 ⟨rfl, hF2⟩
        have HF2 := Lib.hid (HF1.out.then hF2)
        clear hF2
        go_wp2_with fail
        refine (new_any size _).mono ?_
        rintro e w3 ⟨p, O, rfl, hD, hO, hF⟩
        obtain ⟨bp, rfl⟩ := hD.ptr
        rw [← HN.out] at hD
        have HD := Lib.hid hD
        have HF3 : Hid (Fr No w w3) := (show Fr No w w3 from HF2.out.then hF)
        have HO : Hid (∀ k, O k → w.heap.size ≤ k) := (show ∀ k, O k → w.heap.size ≤ k from fun k hk => Nat.le_trans HF2.out.size (hO k hk))
        clear hD hO hF
        go_wp2_with fail
        have hrb : ∀ s : List UInt8, s.length = n → readB s 0 size = s := fun s h => readB_all (by rw [h]; exact HN.out) (by omega)
        have HRB := Lib.hid hrb
        clear hrb
        refine (read_any HD.out (by omega) (by omega) hs2).mono ?_
        have hz : (List.replicate n (0 : UInt8)).length = n := List.length_replicate
        simp only
        rw [HRB.out _ hz]
        rintro e w4 ⟨v4, rfl, hv4, hF4⟩
        obtain ⟨A4, c4, rfl, _, hc4⟩ := hv4.shape
        have hrel0 : ∃ d, Hid (SafeRel w n (.pointer (some ⟨bp, 0, none⟩)) (.slice none 0 0) (.slice A4 (List.replicate n (0 : UInt8)).length c4) [] d w4 ∧ d.waits.length ≤ 0) := by
          refine ⟨⟨List.replicate n 0, List.replicate n 0, []⟩, (show SafeRel _ _ _ _ _ _ _ _ ∧ _ from ⟨⟨O, _, No, _, HD.out.no hF4, hz, rfl, OwK.nil _ _ _ _ _, rfl, by simp, by rw [hz] at hv4 ⊢; exact hv4.bound, ?_, ?_, ?_, HF3.out.then hF4⟩, Nat.le_refl _⟩)⟩
          · intro k hk
            have hlt := HD.out.lt k hk
            refine ⟨?_, fun h => h, fun h => by have h1 : w3.heap.size ≤ k := h.1; omega⟩
            rcases hk with hk | hk
            · exact HO.out k hk
            · exact hk.elim
          · intro k hk; exact hk.elim
          · intro k hk; exact ⟨Nat.le_trans HF3.out.size hk.1, hk.2⟩
        rw [hz] at hrel0
        rw [hz] at *
        clear hv4 hF4 hc4
        obtain ⟨d0, HR0⟩ := hrel0
        go_wp2_with fail
        go_loopw [11, 12, 44] (fun vw vs i wr => ∃ (k : Nat) (ops : List OpD) (d : Dk), k ≤ l.length ∧ i = .int .i64 k ∧ Hid (SafeRel w n (.pointer (some ⟨bp, 0, none⟩)) vw vs ops d wr ∧ d.waits.length ≤ k)) (fun _ _ i _ => l.length - (intOf i).toNat)
        case atStart => exact ⟨0, [], d0, Nat.zero_le _, rfl, HR0⟩
        case round =>
          obtain ⟨k, ops, d, hk, rfl, HR⟩ := hrel
          by_cases hlt : k < l.length
          · obtain ⟨O, R, Oa, Ob, hM, hap⟩ := HR.out.1.mid
            have HM := Lib.hid hM
            have HAP := Lib.hid hap
            clear hM hap
            obtain ⟨b, o, c', cs, he, _, _, hF, ⟨vb, hcs, hrb, hI1, hI2, hI3⟩, hcell⟩ := (HL.out.fr (by decide) HM.out.fr (fun _ _ _ h => h)).at_ k hlt
            cases he
            obtain ⟨Ab, cb, hvb, hb1, hb2⟩ := hrb.shape
            subst hvb
            have c0 := hcell 0 _ (by rw [hcs]; rfl)
            have c1 := hcell 1 _ (by rw [hcs]; rfl)
            have c2 := hcell 2 _ (by rw [hcs]; rfl)
            have c3 := hcell 3 _ (by rw [hcs]; rfl)
            have c4 := hcell 4 _ (by rw [hcs]; rfl)
            have c5 := hcell 5 _ (by rw [hcs]; rfl)
            simp only [show OpK.sz = 6 from rfl, Nat.add_zero] at c0 c1 c2 c3 c4 c5
            obtain ⟨⟨act, at_, nn, bb, kk, tt⟩, hx⟩ : ∃ x, x = l[k] := ⟨_, rfl⟩
            rw [← hx] at c0 c1 c2 c3 c4 c5 hcs hrb hb1 hI1 hI2 hI3
            dsimp only at c0 c1 c2 c3 c4 c5 hcs hrb hb1 hI1 hI2 hI3
            have HX := Lib.hid hx
            have HRB2 := Lib.hid hrb
            have HI := Lib.hid (And.intro hI1 (And.intro hI2 hI3))
            clear hcell hcs hb2 hx hrb hI1 hI2 hI3
            by_cases ha0 : act = 0
            · subst ha0
              obtain ⟨obj, hobj⟩ : ∃ obj, Hid (obj = (Obj.cells #[.int .i64 0, .int .i64 at_, .int .i64 nn, .slice Ab bb.length cb, .int .u64 kk, .int .i64 tt] 38 (0, 0))) := ⟨_, rfl⟩
              have HM2 : Hid (SafeMid w n (.pointer (some ⟨bp, 0, none⟩)) u11 u12 ops d d.safe d.waits O R Oa Ob (wr.alloc obj)) := (show SafeMid _ _ _ _ _ _ _ _ _ _ _ _ _ _ from HM.out.quiet ((Fr.refl _ _).alloc _))
              have HRB3 : Hid (Rb (wr.alloc obj) (fun k => k < w.heap.size) (.slice Ab bb.length cb) bb) := (show Rb _ _ _ _ from HRB2.out.fr ((Fr.refl No _).alloc _) (fun _ _ _ h => h))
              go_wp2_with fail
              rw [← hobj.out]
              by_cases hok : 0 ≤ at_ ∧ at_ + bb.length ≤ n
              · obtain ⟨t, rfl⟩ : ∃ t : Nat, at_ = t := ⟨at_.toNat, by omega⟩
                refine (write_yes HM2.out.disk HRB3.out (fun k hk hk2 => by have := (HM2.out.ho k (.inl hk2)).1; omega) (by rw [HM2.out.len]; omega) (by have := HR.out.2; omega)).mono ?_
                intro e w5 hpost
                obtain ⟨he5, hf5, O5, R5, hM5⟩ := HM2.out.turn hpost (by simp only; rw [length_splice _ _ _ (by rw [HM2.out.len]; omega)]; exact HM2.out.len)
                subst he5
                have hb5 : w5.heap[wr.heap.size]? = some obj := hf5.heap (blk_new wr obj) (fun h => by have := HM.out.disk.lt _ (.inl h); omega)
                rw [hobj.out] at hb5
                have e0 := blk_cell hb5 0
                have e1 := blk_cell hb5 1
                have e2 := blk_cell hb5 2
                have e3 := blk_cell hb5 3
                have e4 := blk_cell hb5 4
                have e5 := blk_cell hb5 5
                simp only [List.getElem?_toArray, List.getElem?_cons_zero, List.getElem?_cons_succ] at e0 e1 e2 e3 e4 e5
                have HM5 := Lib.hid hM5
                clear hpost hM5 hf5 hb5 c0 c1 c2 c3 c4 c5 HRB3 HM2
                obtain ⟨Aw, cw, rfl, hcw1, hcw2⟩ := HM5.out.rows.shape
                clear hcw2
                go_wp2_with (with_reducible refine halt_dst 62 rfl ?_)
                obtain ⟨obj2, hobj2⟩ : ∃ obj, Hid (obj = (Obj.cells #[.int .i64 0, .int .i64 (t : Int), .int .i64 nn, .slice Ab bb.length cb, .int .u64 kk, .int .i64 tt] 38 (0, 0))) := ⟨_, rfl⟩
                rw [← hobj2.out]
                have HM6 := Lib.hid (HM5.out.quiet ((Fr.refl No w5).alloc obj2))
                obtain ⟨cells, hown, hce⟩ := HM6.out.rows
                have hnew : ∀ j u, ([.int .i64 0, .int .i64 (t : Int), .int .i64 nn, .slice Ab bb.length cb, .int .u64 kk, .int .i64 tt] : List Value)[j]? = some u → ∃ ad, some (⟨w5.heap.size, 0, none⟩ : Addr) = some ad ∧ (w5.alloc obj2).cell? (ad.add j) = some u := by
                  intro j u hj
                  refine ⟨_, rfl, ?_⟩
                  have h1 := blk_new w5 obj2
                  rw [hobj2.out] at h1
                  rw [add_none, Nat.zero_add, hobj2.out, blk_cell h1 j, List.getElem?_toArray]
                  exact hj
                have hone : ∀ u ∈ ([.int .i64 0, .int .i64 (t : Int), .int .i64 nn, .slice Ab bb.length cb, .int .u64 kk, .int .i64 tt] : List Value), u.oneCell' = true := by
                  intro u hu
                  simp at hu
                  rcases hu with rfl | rfl | rfl | rfl | rfl | rfl <;> rfl
                refine wpList_app rfl (.tmp 59) (.tmp 61) 32 38 rfl _ 6 64 Try.underlying32 info38 rfl (by omega) (by omega) (.slice Aw ops.length cw) ops.length cells rfl (some ⟨w5.heap.size, 0, none⟩) 1 1 rfl hown.just _ rfl hnew hone ?_ ?_
                · have h1 := congrArg List.length HM5.out.eq
                  have h2 := HR.out.2
                  rw [List.length_map] at h1
                  omega
                intro v6 w6 hown6 hfr6
                have hlow : Fr No w (w5.alloc obj2) := HM6.out.fr
                obtain ⟨Oa6, hM6⟩ := HM6.out.more (x := ⟨0, t, nn, bb, kk, tt⟩) hown.len hce hown6 hfr6 ⟨.slice Ab bb.length cb, rfl, HRB2.out.move (fun k hk hl => (HM6.out.fr.block k hk (fun h => h)).trans (HM.out.fr.block k hk (fun h => h)).symm), HI.out.1, HI.out.2.1, HI.out.2.2⟩ (by simp only; omega) hown.2
                have HR6 : Hid (SafeRel w n (.pointer (some ⟨bp, 0, none⟩)) v6 u12 (ops ++ [⟨0, t, nn, bb, kk, tt⟩]) ⟨d.safe, splice d.now t bb, d.waits ++ [(t, bb)]⟩ w6 ∧ (d.waits ++ [(t, bb)]).length ≤ k + 1) := by
                  refine (show _ ∧ _ from ⟨hM6.rel ?_, by have := HR.out.2; simp; omega⟩)
                  show applyW d.safe (d.waits ++ [(t, bb)]) = splice d.now t bb
                  rw [applyW_append, HAP.out]
                clear hM6 hfr6 hown6 hone hnew hce hown e0 e1 e2 e3 e4 e5
                go_wp2_with fail
                go_roundw
                case rel => exact ⟨k + 1, _, _, by omega, by go_num, HR6⟩
                case measure => simp [intOf]; omega
              · have hno : at_ < 0 ∨ at_ > (d.now.length : Int) - bb.length := by rw [HM.out.len]; omega
                refine (write_no HM2.out.disk HRB3.out hno).mono ?_
                rintro e w' ⟨rfl, rfl⟩
                have HR2 : Hid (SafeRel w n (.pointer (some ⟨bp, 0, none⟩)) u11 u12 ops d (wr.alloc obj) ∧ d.waits.length ≤ k + 1) := (show _ ∧ _ from ⟨HM2.out.rel HAP.out, by have := HR.out.2; omega⟩)
                clear hno
                go_wp2_with fail
                go_roundw
                case rel => exact ⟨k + 1, _, _, by omega, by go_num, HR2⟩
                case measure => simp [intOf]; omega
            · by_cases ha1 : act = 1
              · subst ha1
                obtain ⟨obj, hobj⟩ : ∃ obj, Hid (obj = (Obj.cells #[.int .i64 1, .int .i64 at_, .int .i64 nn, .slice Ab bb.length cb, .int .u64 kk, .int .i64 tt] 38 (0, 0))) := ⟨_, rfl⟩
                have HM2 : Hid (SafeMid w n (.pointer (some ⟨bp, 0, none⟩)) u11 u12 ops d d.safe d.waits O R Oa Ob (wr.alloc obj)) := (show SafeMid _ _ _ _ _ _ _ _ _ _ _ _ _ _ from HM.out.quiet ((Fr.refl _ _).alloc _))
                go_wp2_with fail
                rw [← hobj.out]
                refine (sync_any HM2.out.disk (by have := HR.out.2; omega)).mono ?_
                intro e w5 hpost
                obtain ⟨he5, hf5, O5, R5, hM5⟩ := HM2.out.turn hpost HM2.out.len
                subst he5
                have HM5 := Lib.hid hM5
                clear hpost hM5 hf5 c0 c1 c2 c3 c4 c5
                go_wp2_with fail
                refine (read_any HM5.out.disk (by omega) (by omega) hs2).mono ?_
                simp only
                rw [HRB.out _ HM2.out.len]
                rintro e w6 ⟨v6, rfl, hv6, hF6⟩
                have HR6 : Hid (SafeRel w n (.pointer (some ⟨bp, 0, none⟩)) (.slice none 0 0) v6 [] ⟨applyW d.safe d.waits, d.now, []⟩ w6 ∧ ([] : List (Nat × List UInt8)).length ≤ k + 1) := (show _ ∧ _ from ⟨HM5.out.fresh hv6 hF6 rfl rfl HAP.out, by simp⟩)
                clear hv6 hF6
                go_wp2_with fail
                go_roundw
                case rel => exact ⟨k + 1, _, _, by omega, by go_num, HR6⟩
                case measure => simp [intOf]; omega
              · have HR2 : Hid (SafeRel w n (.pointer (some ⟨bp, 0, none⟩)) u11 u12 ops d (wr.alloc (.cells #[.int .i64 act, .int .i64 at_, .int .i64 nn, .slice Ab bb.length cb, .int .u64 kk, .int .i64 tt] 38 (0, 0))) ∧ d.waits.length ≤ k + 1) := (show _ ∧ _ from ⟨(HM.out.quiet ((Fr.refl _ _).alloc _)).rel HAP.out, by have := HR.out.2; omega⟩)
                go_wp2_with fail
                go_roundw
                case rel => exact ⟨k + 1, _, _, by omega, by go_num, HR2⟩
                case measure => simp [intOf]; omega
          · have hkl : k = l.length := by omega
            subst hkl
            obtain ⟨O, R, Oa, Ob, hM, hap⟩ := HR.out.1.mid
            have HM := Lib.hid hM
            have HAP := Lib.hid hap
            clear hM hap hlt
            obtain ⟨Aw, cw, rfl, hcw1, hcw2⟩ := HM.out.rows.shape
            have hops : (ops.length : Int) = d.waits.length := by have h1 := congrArg List.length HM.out.eq; rw [List.length_map] at h1; omega
            clear hcw2
            have HTOP := Lib.hid HM.out.top
            go_wp2_with fail
            refine (waiting_any HM.out.disk).mono ?_
            rintro e w' ⟨rfl, rfl⟩
            go_wp2_with fail
            refine (read_any HM.out.disk (by omega) (by omega) hs2).mono ?_
            rw [HRB.out _ HM.out.len]
            rintro e wa ⟨v15, rfl, hv15, hFa⟩
            have HMa := Lib.hid (HM.out.quiet hFa)
            have HV15 : Hid (Ow wa (fun k => wr.heap.size ≤ k ∧ k < wa.heap.size) 5 1 v15 d.now.length (d.now.map enc8)) := (show Ow _ _ _ _ _ _ _ from hv15.bound)
            have HSa : Hid (wr.heap.size ≤ wa.heap.size) := (show _ ≤ _ from hFa.size)
            obtain ⟨A15, c15, rfl, _, _⟩ := hv15.shape
            clear hFa hv15
            have hwaits : d.waits.length ≤ 60 := by have := HR.out.2; omega
            go_wp2_with fail
            refine (copy_any HMa.out.disk (by omega)).mono ?_
            rintro e wb ⟨p16, rfl, hD16, hFb⟩
            obtain ⟨bp16, rfl⟩ := hD16.ptr
            have HMb := Lib.hid (HMa.out.quiet hFb)
            have HD16 := Lib.hid hD16
            have HFb := Lib.hid hFb
            clear hFb hD16
            go_wp2_with fail
            refine (copy_any HMb.out.disk (by omega)).mono ?_
            rintro e wc ⟨p17, rfl, hD17, hFc⟩
            obtain ⟨bp17, rfl⟩ := hD17.ptr
            have HMc := Lib.hid (HMb.out.quiet hFc)
            have HD17 := Lib.hid hD17
            have HFc := Lib.hid hFc
            clear hFc hD17
            go_wp2_with fail
            refine (crash_any (HD16.out.no HFc.out) (by omega) 18446744073709551615 (-1) (by omega)).mono ?_
            have hall : Hid (crashS d.safe (keptW d.waits 18446744073709551615 d.waits.length) (-1) = d.now) := (show _ = _ from by
              rw [keptW_all (fun j hj => by rw [bset_test _ _ hj (by decide)]; exact (Nat.testBit_two_pow_sub_one 64 j).trans (by simp [hj])) _ (Nat.le_refl _) (by omega), crashS_all, List.take_of_length_le (Nat.le_refl _), HAP.out])
            have hnone : Hid (crashS d.safe (keptW d.waits 0 d.waits.length) tear = d.safe) := (show _ = _ from by
              rw [keptW_none (fun j hj => by rw [bset_test _ _ hj (by decide), Nat.zero_testBit])]; rfl)
            obtain ⟨c, hc⟩ : ∃ c, Hid (c = crashS d.safe (keptW d.waits keep d.waits.length) tear) := ⟨_, rfl⟩
            have hfit : Hid (∀ x ∈ d.waits, x.1 + x.2.length ≤ d.safe.length) := (show ∀ x ∈ d.waits, x.1 + x.2.length ≤ d.safe.length from by
              obtain ⟨_, _, _, _, _, _, hDD⟩ := HM.out.disk
              rw [hDD.hl]; exact hDD.hv)
            have hslen : Hid (d.safe.length = n) := (show _ = _ from by
              obtain ⟨_, _, _, _, _, _, hDD⟩ := HM.out.disk
              rw [hDD.hl]; exact HM.out.len)
            have hclen : Hid (c.length = n) := (show _ = _ from by rw [hc.out, crashS_length (fun x hx => hfit.out x (keptW_mem hx)), hslen.out])
            have hD17c : Hid (DiskIs wc (fun k => wb.heap.size ≤ k ∧ k < wc.heap.size) R (.pointer (some ⟨bp17, 0, none⟩)) d) := HD17
            rw [hall.out]
            rintro e wd ⟨O16, R16, rfl, hD16, hO16, hR16, hFd⟩
            have HMd : Hid (SafeMid w n (.pointer (some ⟨bp, 0, none⟩)) (.slice Aw ops.length cw) u12 ops d d.safe d.waits O R Oa Ob wd) := (show SafeMid _ _ _ _ _ _ _ _ _ _ _ _ _ _ from HMc.out.far wr.heap.size HTOP.out HM.out.fr.size hFd (fun k hk => Nat.le_trans HSa.out hk.1))
            have HD16d := Lib.hid hD16
            have HD17d : Hid (DiskIs wd (fun k => wb.heap.size ≤ k ∧ k < wc.heap.size) R (.pointer (some ⟨bp17, 0, none⟩)) d) := (show DiskIs _ _ _ _ _ from HD17.out.fr hFd (fun k _ hk h2 => by
              rcases hk with hk | hk
              · omega
              · have h3 := HTOP.out k (.inl (.inr hk)); have h4 := HSa.out; omega))
            have HO16 : Hid (∀ k, O16 k ∨ R16 k → (wr.heap.size ≤ k ∧ (k < wb.heap.size ∨ wc.heap.size ≤ k)) ∨ R k) := (show ∀ k, O16 k ∨ R16 k → (wr.heap.size ≤ k ∧ (k < wb.heap.size ∨ wc.heap.size ≤ k)) ∨ R k from fun k hk => by
              have h4 := HSa.out
              have h5 := HFb.out.size
              have h6 := HFc.out.size
              rcases hk with hk | hk
              · rcases hO16 k hk with h | h
                · left; omega
                · left; omega
              · rcases hR16 k hk with h | h
                · exact .inr h
                · left; omega)
            have HV15d : Hid (Ow wd (fun k => wr.heap.size ≤ k ∧ k < wa.heap.size) 5 1 (.slice A15 d.now.length c15) d.now.length (d.now.map enc8)) := (show Ow _ _ _ _ _ _ _ from ((HV15.out.fr HFb.out (fun _ _ _ h => h)).fr HFc.out (fun _ _ _ h => h)).fr hFd (fun k _ hk h2 => by omega))
            have hSd := hFd.size
            clear hD16 hO16 hR16 hFd hD17c
            go_wp2_with fail
            refine (crash_any HD17d.out (by omega) 0 tear (by omega)).mono ?_
            rw [hnone.out]
            rintro e we ⟨O17, R17, rfl, hD17, hO17, hR17, hFe⟩
            have HMe : Hid (SafeMid w n (.pointer (some ⟨bp, 0, none⟩)) (.slice Aw ops.length cw) u12 ops d d.safe d.waits O R Oa Ob we) := (show SafeMid _ _ _ _ _ _ _ _ _ _ _ _ _ _ from HMd.out.far wr.heap.size HTOP.out HM.out.fr.size hFe (fun k hk => Nat.le_trans HSa.out (Nat.le_trans HFb.out.size hk.1)))
            have HD17e := Lib.hid hD17
            have HD16e : Hid (DiskIs we O16 R16 (.pointer (some ⟨bp16, 0, none⟩)) ⟨d.now, d.now, []⟩) := (show DiskIs _ _ _ _ _ from HD16d.out.fr hFe (fun k _ hk h2 => by
              have h5 := HFb.out.size
              have h4 := HSa.out
              rcases HO16.out k hk with h3 | h3
              · omega
              · have h3 := HTOP.out k (.inl (.inr h3)); omega))
            have HO17 : Hid (∀ k, O17 k ∨ R17 k → wr.heap.size ≤ k ∨ R k) := (show ∀ k, O17 k ∨ R17 k → wr.heap.size ≤ k ∨ R k from fun k hk => by
              have h4 := HSa.out
              have h5 := HFb.out.size
              have h6 := HFc.out.size
              rcases hk with hk | hk
              · rcases hO17 k hk with h | h <;> (left; omega)
              · rcases hR17 k hk with h | h
                · exact .inr h
                · left; omega)
            have HV15e : Hid (Ow we (fun k => wr.heap.size ≤ k ∧ k < wa.heap.size) 5 1 (.slice A15 d.now.length c15) d.now.length (d.now.map enc8)) := (show Ow _ _ _ _ _ _ _ from HV15d.out.fr hFe (fun k _ hk h2 => by have h5 := HFb.out.size; omega))
            clear hD17 hO17 hR17 hFe hSd
            go_wp2_with fail
            refine (crash_any HMe.out.disk (by omega) keep tear hkeep).mono ?_
            rw [← hc.out]
            intro e wf hpost
            obtain ⟨he5, hFf, Of, Rf, hMf⟩ := HMe.out.turn hpost hclen.out
            subst he5
            have HMf := Lib.hid hMf
            have HD16f : Hid (DiskIs wf O16 R16 (.pointer (some ⟨bp16, 0, none⟩)) ⟨d.now, d.now, []⟩) := (show DiskIs _ _ _ _ _ from HD16e.out.fr hFf (fun k _ hk h2 => by
              rcases HO16.out k hk with h3 | h3
              · have := HTOP.out k (.inl (.inl h2)); omega
              · exact HMe.out.disk.apart k h2 h3))
            have HD17f : Hid (DiskIs wf O17 R17 (.pointer (some ⟨bp17, 0, none⟩)) ⟨d.safe, d.safe, []⟩) := (show DiskIs _ _ _ _ _ from HD17e.out.fr hFf (fun k _ hk h2 => by
              rcases HO17.out k hk with h3 | h3
              · have := HTOP.out k (.inl (.inl h2)); omega
              · exact HMe.out.disk.apart k h2 h3))
            have HV15f : Hid (Rb wf (fun k => wr.heap.size ≤ k ∧ k < wa.heap.size) (.slice A15 d.now.length c15) d.now) := (show Rb _ _ _ _ from (HV15e.out.fr hFf (fun k _ hk h2 => by have := HTOP.out k (.inl (.inl h2)); omega)).reads)
            obtain ⟨A12, c12, rfl, _, _⟩ := HMf.out.safe.shape
            have HV12f : Hid (Rb wf Ob (.slice A12 n c12) d.safe) := (show Rb _ _ _ _ from by
              have h := HMf.out.safe
              rw [← hslen.out] at h ⊢
              exact h.reads)
            clear hpost hFf hMf
            go_wp2_with fail
            refine (read_any HMf.out.disk (by omega) (by omega) hs2).mono ?_
            simp only
            rw [HRB.out _ hclen.out]
            rintro e wg ⟨v18, rfl, hv18, hFg⟩
            obtain ⟨A18, c18, rfl, hc18, hc182⟩ := hv18.shape
            have HFg := Lib.hid hFg
            have HV18 := Lib.hid hv18
            clear hv18 hFg hc182
            go_wp2_with fail
            refine (read_any (HD16f.out.no HFg.out) (by omega) (by omega) hs2).mono ?_
            simp only
            rw [HRB.out _ HM.out.len]
            rintro e wh ⟨v97, rfl, hv97, hFh⟩
            have HFh : Hid (Fr No wf wh) := (show Fr No wf wh from HFg.out.then hFh)
            have HV18h : Hid (Rb wh (New wf) (.slice A18 c.length c18) c) := (show Rb _ _ _ _ from HV18.out.reads.fr hFh (fun _ _ _ h => h))
            have HV97 := Lib.hid hv97
            clear hv97 hFh
            go_wp2_with fail
            refine (samebytes_yes HV97.out.reads (HV15f.out.fr HFh.out (fun _ _ _ h => h)) rfl).mono ?_
            rintro e w' ⟨rfl, rfl⟩
            go_wp2_with fail
            refine (read_any (HD17f.out.no HFh.out) (by omega) (by omega) hs2).mono ?_
            simp only
            rw [HRB.out _ hslen.out]
            rintro e wi ⟨v104, rfl, hv104, hFi⟩
            have HFi : Hid (Fr No wf wi) := (show Fr No wf wi from HFh.out.then hFi)
            have HV18i : Hid (Rb wi (New wf) (.slice A18 c.length c18) c) := (show Rb _ _ _ _ from HV18h.out.fr hFi (fun _ _ _ h => h))
            have HV104 := Lib.hid hv104
            clear hv104 hFi
            go_wp2_with fail
            refine (samebytes_yes HV104.out.reads (HV12f.out.fr HFi.out (fun _ _ _ h => h)) rfl).mono ?_
            rintro e w' ⟨rfl, rfl⟩
            have hcn : (c.length : Int) = n := by rw [hclen.out]
            go_wp2_with fail
            refine (waiting_any (HMf.out.disk.no HFi.out)).mono ?_
            rintro e w' ⟨rfl, rfl⟩
            have HMi := Lib.hid (HMf.out.quiet HFi.out)
            have HV12i : Hid (Rb wi Ob (.slice A12 n c12) d.safe) := (show Rb _ _ _ _ from HV12f.out.fr HFi.out (fun _ _ _ h => h))
            have hz0 : ((([] : List (Nat × List UInt8)).length : Nat) : Int) = 0 := rfl
            simp only [hz0]
            have hops2 : ops.length ≤ 60 := by omega
            go_wp2_with fail
            have hhit : ∀ k, k < c.length → Hit keep ops c d.safe k ops.length := by
              intro k hk
              have h1 := crash_cover (keep := keep) (tear := tear) hfit.out k (by rw [hslen.out]; omega)
              rw [← hc.out] at h1
              rcases h1 with h1 | ⟨j, x, h2, h3, h4, h5, h6, h7⟩
              · exact .inl h1
              · rw [← HM.out.eq, List.getElem?_map] at h2
                obtain ⟨o, ho, hox⟩ := Option.map_eq_some_iff.1 h2
                have hp := HM.out.pos o (List.mem_of_getElem? ho)
                subst hox
                dsimp only at h5 h6 h7
                exact .inr ⟨j, o, (List.getElem?_eq_some_iff.1 ho).1, ho, h4, by omega, by omega, h7.symm⟩
            have HHIT := Lib.hid hhit
            clear hhit hz0 hops hcn hwaits
            go_loopw [123] (fun i wx => ∃ k : Nat, k ≤ c.length ∧ i = .int .i64 k ∧ Hid (Fr No wi wx)) (fun i _ => c.length - (intOf i).toNat)
            case atStart => exact ⟨0, Nat.zero_le _, rfl, (show Fr No wi wi from Fr.refl _ _)⟩
            case round =>
              obtain ⟨k, hk, rfl, HX⟩ := hrel
              by_cases hlt : k < c.length
              · obtain ⟨ck, hck⟩ : ∃ ck, Hid (c[k]? = some ck) := ⟨_, List.getElem?_eq_getElem hlt⟩
                obtain ⟨sk, hsk⟩ : ∃ sk, Hid (d.safe[k]? = some sk) := ⟨_, List.getElem?_eq_getElem (by rw [hslen.out, ← hclen.out]; exact hlt)⟩
                obtain ⟨b1, o1, he1, _, hcc⟩ := rb_byte (HV18i.out.fr HX.out (fun _ _ _ h => h)) hck.out
                obtain ⟨b2, o2, he2, _, hcs⟩ := rb_byte (HV12i.out.fr HX.out (fun _ _ _ h => h)) hsk.out
                subst he1 he2
                have hkn : (k : Int) < n := by rw [← hclen.out]; omega
                have g1 := ck.toNat_lt
                have g2 := sk.toNat_lt
                go_wp2_with fail
                go_quiet (fail)
                go_wp2_with fail
                have HX1 : Hid (Fr No wi (wr.drewN nq)) := (show Fr No wi _ from HX.out.drewN nq)
                go_loopw [20, 137] (fun o j wx => ∃ (m : Nat) (ok : Bool), m ≤ ops.length ∧ o = .bool ok ∧ j = .int .i64 m ∧ Hid (Fr No wi wx ∧ (Hit keep ops c d.safe k m → ok = true))) (fun _ j _ => ops.length - (intOf j).toNat)
                case atStart =>
                  refine ⟨0, _, Nat.zero_le _, rfl, rfl, (show _ ∧ _ from ⟨HX1.out, ?_⟩)⟩
                  rintro (h | ⟨_, _, h, _⟩)
                  · rw [hck.out, hsk.out] at h
                    cases h
                    simp
                  · omega
                case round =>
                  obtain ⟨m, ok, hm, rfl, rfl, HY⟩ := hrel
                  by_cases hlm : m < ops.length
                  · obtain ⟨b3, o3, _, cs, he3, _, _, _, ⟨vb, hcs3, hrb, hI1, hI2, hI3⟩, hcell⟩ := (HMi.out.rows.reads.fr (by decide) HY.out.1 (fun _ _ _ h => h)).at_ m hlm
                    cases he3
                    obtain ⟨Ab, cb, hvb, hb1, hb2⟩ := hrb.shape
                    subst hvb
                    have d0 := hcell 0 _ (by rw [hcs3]; rfl)
                    have d1 := hcell 1 _ (by rw [hcs3]; rfl)
                    have d2 := hcell 2 _ (by rw [hcs3]; rfl)
                    have d3 := hcell 3 _ (by rw [hcs3]; rfl)
                    have d4 := hcell 4 _ (by rw [hcs3]; rfl)
                    have d5 := hcell 5 _ (by rw [hcs3]; rfl)
                    simp only [show OpK.sz = 6 from rfl, Nat.add_zero] at d0 d1 d2 d3 d4 d5
                    have hpos := HMi.out.pos _ (List.getElem_mem hlm)
                    obtain ⟨b5, o5, he5, _, hcc3⟩ := rb_byte (HV18i.out.fr HY.out.1 (fun _ _ _ h => h)) hck.out
                    cases he5
                    obtain ⟨x, hx⟩ : ∃ x, x = ops[m] := ⟨_, rfl⟩
                    have HXM : Hid (ops[m]? = some x) := (show _ = _ from by rw [hx]; exact List.getElem?_eq_getElem hlm)
                    rw [← hx] at d0 d1 d2 d3 d4 d5 hcs3 hrb hb1 hI1 hI2 hI3 hpos
                    obtain ⟨act, at_, nn, bb, kk, tt⟩ := x
                    obtain ⟨t, ht⟩ : ∃ t : Nat, at_ = t := ⟨at_.toNat, by dsimp only at hpos; omega⟩
                    subst ht
                    dsimp only at d0 d1 d2 d3 d4 d5 hcs3 hrb hb1 hI1 hI2 hI3
                    have hbb : (bb.length : Int) ≤ 9223372036854775807 := by simp only [maxLen] at hb2; omega
                    have hti : (t : Int) ≤ 9223372036854775807 := hI1.2
                    have HRB3 := Lib.hid hrb
                    have hkk : (kk : Int) < 18446744073709551616 := by omega
                    clear hcell hcs3 hb2 hx hrb hI1 hI2 hI3 hpos
                    have hbit := bit_shr keep m (by omega) hkeep
                    have hwm : min (IntKind.u64.wrap (m : Int)).toNat 64 = m := by rw [wraps_u64_64 _ (by omega) (by omega)]; omega
                    obtain ⟨obj, hobj⟩ : ∃ obj, Hid (obj = (Obj.cells #[.int .i64 act, .int .i64 (t : Int), .int .i64 nn, .slice Ab bb.length cb, .int .u64 kk, .int .i64 tt] 38 (0, 0))) := ⟨_, rfl⟩
                    cases hset : bset keep m
                    · rw [hset] at hbit
                      have hbd : Hid ((bits .and .u64 ((keep : Int) / 2 ^ min (IntKind.u64.wrap (m : Int)).toNat 64) 1 == 1) = false) := (show _ = _ from by rw [hwm, hbit]; rfl)
                      have hnx : Hid (∀ ok' : Bool, (ok = true → ok' = true) → (Hit keep ops c d.safe k (m + 1) → ok' = true)) := (show ∀ ok' : Bool, _ → _ from fun ok' h => Hit.step HY.out.2 HXM.out h (fun h => by rw [hset] at h; cases h))
                      clear hset hwm hbit
                      go_wp2_with fail
                      rw [← hobj.out]
                      refine wp_seq_region (fun W => True) [] [9, 15, 18, 24, 27, 30, 34] [] [0, 1, 2, 3, 4, 5, 6, 7, 8, 9, 10, 11, 12, 13, 14, 15, 16, 17, 18, 19, 20, 21, 22, 23, 24, 25, 26, 27, 28, 29, 30, 31, 32, 33, 34, 35, 36] (by kernel_rfl) (by kernel_rfl) rfl (by kernel_rfl) (fun _ _ _ _ _ h => h) ?_
                      have HS : Hid (True) := trivial
                      repeat (first
                        | (refine sq_off (a' := ?_) rfl rfl (by rfl) (fun _ => (HS).out) ?ha ?_; (case ha => simp only [Act.put, List.setIfInBounds_toArray, List.set_cons_zero, List.set_cons_succ]; rfl))
                        | (refine sq_any (v := ?_) (a' := ?_) rfl rfl rfl (by rfl) (fun W => ?hr) ?ha ?_; (case hr => go_simp; first | done | (simp only [(hbd).out]; done) | (simp only [(hbd).out]; rfl) | rfl); (case ha => simp only [Act.put, List.setIfInBounds_toArray, List.set_cons_zero, List.set_cons_succ]; rfl))
                        | (refine sq_load (v := ?_) (a' := ?_) rfl rfl rfl (by rfl) (fun W hSW => ?hr) (HS).out ?ha ?_; (case hr => (try dsimp only at hSW); go_simp; first | done | rfl); (case ha => simp only [Act.put, List.setIfInBounds_toArray, List.set_cons_zero, List.set_cons_succ]; rfl)))
                      refine sq_done ?_
                      have HY2 : Hid (Fr No wi (wr.alloc obj).drew ∧ (Hit keep ops c d.safe k (m + 1) → ok = true)) := (show _ ∧ _ from ⟨(HY.out.1.alloc _).drew, hnx.out ok (fun h => h)⟩)
                      go_wp2_with fail
                      go_roundw
                      case rel => exact ⟨m + 1, ok, by omega, rfl, by go_num, HY2⟩
                      case measure => simp [intOf]; omega
                    · rw [hset] at hbit
                      have hbd : Hid ((bits .and .u64 ((keep : Int) / 2 ^ min (IntKind.u64.wrap (m : Int)).toNat 64) 1 == 1) = true) := (show _ = _ from by rw [hwm, hbit]; rfl)
                      clear hset hwm hbit
                      by_cases htk : (k : Int) < (t : Int)
                      · have hnx : Hid (∀ ok' : Bool, (ok = true → ok' = true) → (Hit keep ops c d.safe k (m + 1) → ok' = true)) := (show ∀ ok' : Bool, _ → _ from fun ok' h => Hit.step HY.out.2 HXM.out h (fun _ h => by dsimp only at h; omega))
                        have hbe : Hid ((bits .and .u64 ((keep : Int) / 2 ^ min (IntKind.u64.wrap (m : Int)).toNat 64) 1 == 1) = true ∧ decide ((t : Int) ≤ (k : Int)) = false ∧ decide (t ≤ k) = false) := (show _ ∧ _ from ⟨hbd.out, decide_eq_false (by omega), decide_eq_false (by omega)⟩)
                        go_wp2_with fail
                        rw [← hobj.out]
                        refine wp_seq_region (fun W => W.cell? ⟨wr.heap.size, 1, none⟩ = some (.int .i64 (t : Int)) ∧ W.cell? ⟨wr.heap.size, 3, none⟩ = some (.slice Ab bb.length cb)) [] [9, 15, 18, 24, 27, 30, 34] [] [0, 1, 2, 3, 4, 5, 6, 7, 8, 9, 10, 11, 12, 13, 14, 15, 16, 17, 18, 19, 20, 21, 22, 23, 24, 25, 26, 27, 28, 29, 30, 31, 32, 33, 34, 35, 36] (by kernel_rfl) (by kernel_rfl) rfl (by kernel_rfl) (fun _ _ _ _ _ h => h) ?_
                        have HS : Hid ((wr.alloc obj).drew.cell? ⟨wr.heap.size, 1, none⟩ = some (.int .i64 (t : Int)) ∧ (wr.alloc obj).drew.cell? ⟨wr.heap.size, 3, none⟩ = some (.slice Ab bb.length cb)) := (show _ ∧ _ from ⟨(by rw [hobj.out]; exact blk_cell (blk_new wr _) 1), (by rw [hobj.out]; exact blk_cell (blk_new wr _) 3)⟩)
                        repeat (first
                          | (refine sq_off (a' := ?_) rfl rfl (by rfl) (fun _ => (HS).out) ?ha ?_; (case ha => simp only [Act.put, List.setIfInBounds_toArray, List.set_cons_zero, List.set_cons_succ]; rfl))
                          | (refine sq_any (v := ?_) (a' := ?_) rfl rfl rfl (by rfl) (fun W => ?hr) ?ha ?_; (case hr => go_simp; first | done | (simp only [(hbe).out]; done) | (simp only [(hbe).out]; rfl) | rfl); (case ha => simp only [Act.put, List.setIfInBounds_toArray, List.set_cons_zero, List.set_cons_succ]; rfl))
                          | (refine sq_load (v := ?_) (a' := ?_) rfl rfl rfl (by rfl) (fun W hSW => ?hr) (HS).out ?ha ?_; (case hr => (try dsimp only at hSW); go_simp; first | done | rfl); (case ha => simp only [Act.put, List.setIfInBounds_toArray, List.set_cons_zero, List.set_cons_succ]; rfl)))
                        refine sq_done ?_
                        have HY2 : Hid (Fr No wi (wr.alloc obj).drew ∧ (Hit keep ops c d.safe k (m + 1) → ok = true)) := (show _ ∧ _ from ⟨(HY.out.1.alloc _).drew, hnx.out ok (fun h => h)⟩)
                        go_wp2_with fail
                        go_roundw
                        case rel => exact ⟨m + 1, ok, by omega, rfl, by go_num, HY2⟩
                        case measure => simp [intOf]; omega
                      · have htk2 : (t : Int) ≤ (k : Int) := by omega
                        clear htk
                        by_cases hin : (bb.length : Int) ≤ (k : Int) - (t : Int)
                        · have hnx : Hid (∀ ok' : Bool, (ok = true → ok' = true) → (Hit keep ops c d.safe k (m + 1) → ok' = true)) := (show ∀ ok' : Bool, _ → _ from fun ok' h => Hit.step HY.out.2 HXM.out h (fun _ _ h => by dsimp only at h; omega))
                          have hbe : Hid ((bits .and .u64 ((keep : Int) / 2 ^ min (IntKind.u64.wrap (m : Int)).toNat 64) 1 == 1) = true ∧ decide ((t : Int) ≤ (k : Int)) = true ∧ decide (t ≤ k) = true ∧ decide ((k : Int) - (t : Int) < bb.length) = false ∧ IntKind.i64.wrap ((k : Int) - (t : Int)) = (k : Int) - (t : Int)) := (show _ ∧ _ ∧ _ ∧ _ ∧ _ from ⟨hbd.out, decide_eq_true htk2, decide_eq_true (by omega), decide_eq_false (by omega), by rw [IntKind.wrap_i64]; omega⟩)
                          go_wp2_with fail
                          rw [← hobj.out]
                          refine wp_seq_region (fun W => W.cell? ⟨wr.heap.size, 1, none⟩ = some (.int .i64 (t : Int)) ∧ W.cell? ⟨wr.heap.size, 3, none⟩ = some (.slice Ab bb.length cb)) [] [9, 15, 18, 24, 27, 30, 34] [] [0, 1, 2, 3, 4, 5, 6, 7, 8, 9, 10, 11, 12, 13, 14, 15, 16, 17, 18, 19, 20, 21, 22, 23, 24, 25, 26, 27, 28, 29, 30, 31, 32, 33, 34, 35, 36] (by kernel_rfl) (by kernel_rfl) rfl (by kernel_rfl) (fun _ _ _ _ _ h => h) ?_
                          have HS : Hid ((wr.alloc obj).drew.cell? ⟨wr.heap.size, 1, none⟩ = some (.int .i64 (t : Int)) ∧ (wr.alloc obj).drew.cell? ⟨wr.heap.size, 3, none⟩ = some (.slice Ab bb.length cb)) := (show _ ∧ _ from ⟨(by rw [hobj.out]; exact blk_cell (blk_new wr _) 1), (by rw [hobj.out]; exact blk_cell (blk_new wr _) 3)⟩)
                          repeat (first
                            | (refine sq_off (a' := ?_) rfl rfl (by rfl) (fun _ => (HS).out) ?ha ?_; (case ha => simp only [Act.put, List.setIfInBounds_toArray, List.set_cons_zero, List.set_cons_succ]; rfl))
                            | (refine sq_any (v := ?_) (a' := ?_) rfl rfl rfl (by rfl) (fun W => ?hr) ?ha ?_; (case hr => go_simp; first | done | (simp only [(hbe).out]; done) | (simp only [(hbe).out]; rfl) | rfl); (case ha => simp only [Act.put, List.setIfInBounds_toArray, List.set_cons_zero, List.set_cons_succ]; rfl))
                            | (refine sq_load (v := ?_) (a' := ?_) rfl rfl rfl (by rfl) (fun W hSW => ?hr) (HS).out ?ha ?_; (case hr => (try dsimp only at hSW); go_simp; first | done | rfl); (case ha => simp only [Act.put, List.setIfInBounds_toArray, List.set_cons_zero, List.set_cons_succ]; rfl)))
                          refine sq_done ?_
                          have HY2 : Hid (Fr No wi (wr.alloc obj).drew ∧ (Hit keep ops c d.safe k (m + 1) → ok = true)) := (show _ ∧ _ from ⟨(HY.out.1.alloc _).drew, hnx.out ok (fun h => h)⟩)
                          go_wp2_with fail
                          go_roundw
                          case rel => exact ⟨m + 1, ok, by omega, rfl, by go_num, HY2⟩
                          case measure => simp [intOf]; omega
                        · obtain ⟨q, hq⟩ : ∃ q : Nat, (k : Int) - (t : Int) = (q : Int) := ⟨k - t, by omega⟩
                          have hqb : (q : Int) < bb.length := by omega
                          have hqe : k - t = q := by omega
                          have hbe : Hid ((bits .and .u64 ((keep : Int) / 2 ^ min (IntKind.u64.wrap (m : Int)).toNat 64) 1 == 1) = true ∧ decide ((t : Int) ≤ (k : Int)) = true ∧ decide (t ≤ k) = true ∧ decide ((k : Int) - (t : Int) < bb.length) = true ∧ decide ((q : Int) < bb.length) = true ∧ decide (q < bb.length) = true ∧ IntKind.i64.wrap ((k : Int) - (t : Int)) = (q : Int) ∧ IntKind.i64.wrap (q : Int) = (q : Int) ∧ (k : Int) - (t : Int) = (q : Int)) := (show _ ∧ _ ∧ _ ∧ _ ∧ _ ∧ _ ∧ _ ∧ _ ∧ _ from ⟨hbd.out, decide_eq_true htk2, decide_eq_true (by omega), decide_eq_true (by omega), decide_eq_true hqb, decide_eq_true (by omega), by rw [IntKind.wrap_i64]; omega, by rw [IntKind.wrap_i64]; omega, hq⟩)
                          obtain ⟨y, hy⟩ : ∃ y, Hid (bb[q]? = some y) := ⟨_, List.getElem?_eq_getElem (by omega)⟩
                          obtain ⟨b4, o4, he4, _, hyc⟩ := rb_byte HRB3.out hy.out
                          subst he4
                          have g3 := y.toNat_lt
                          clear hin
                          by_cases hyk : (y.toNat : Int) = (ck.toNat : Int)
                          · go_wp2_with fail
                            rw [← hobj.out]
                            refine wp_seq_region (fun W => W.cell? ⟨wr.heap.size, 1, none⟩ = some (.int .i64 (t : Int)) ∧ W.cell? ⟨wr.heap.size, 3, none⟩ = some (.slice (some ⟨b4, o4, none⟩) bb.length cb) ∧ W.cell? ⟨b4, o4 + q, none⟩ = some (.int .u8 (y.toNat : Int)) ∧ W.cell? ⟨b1, o1 + k, none⟩ = some (.int .u8 (ck.toNat : Int))) [] [9, 15, 18, 24, 27, 30, 34] [] [0, 1, 2, 3, 4, 5, 6, 7, 8, 9, 10, 11, 12, 13, 14, 15, 16, 17, 18, 19, 20, 21, 22, 23, 24, 25, 26, 27, 28, 29, 30, 31, 32, 33, 34, 35, 36] (by kernel_rfl) (by kernel_rfl) rfl (by kernel_rfl) (fun _ _ _ _ _ h => h) ?_
                            have HS : Hid ((wr.alloc obj).drew.cell? ⟨wr.heap.size, 1, none⟩ = some (.int .i64 (t : Int)) ∧ (wr.alloc obj).drew.cell? ⟨wr.heap.size, 3, none⟩ = some (.slice (some ⟨b4, o4, none⟩) bb.length cb) ∧ (wr.alloc obj).drew.cell? ⟨b4, o4 + q, none⟩ = some (.int .u8 (y.toNat : Int)) ∧ (wr.alloc obj).drew.cell? ⟨b1, o1 + k, none⟩ = some (.int .u8 (ck.toNat : Int))) := (show _ ∧ _ ∧ _ ∧ _ from ⟨(by rw [hobj.out]; exact blk_cell (blk_new wr _) 1), (by rw [hobj.out]; exact blk_cell (blk_new wr _) 3), cell_alloc hyc _, cell_alloc hcc3 _⟩)
                            repeat (first
                              | (refine sq_off (a' := ?_) rfl rfl (by rfl) (fun _ => (HS).out) ?ha ?_; (case ha => simp only [Act.put, List.setIfInBounds_toArray, List.set_cons_zero, List.set_cons_succ]; rfl))
                              | (refine sq_any (v := ?_) (a' := ?_) rfl rfl rfl (by rfl) (fun W => ?hr) ?ha ?_; (case hr => go_simp; first | done | (simp only [(hbe).out]; done) | (simp only [(hbe).out]; rfl) | rfl); (case ha => simp only [Act.put, List.setIfInBounds_toArray, List.set_cons_zero, List.set_cons_succ]; rfl))
                              | (refine sq_load (v := ?_) (a' := ?_) rfl rfl rfl (by rfl) (fun W hSW => ?hr) (HS).out ?ha ?_; (case hr => (try dsimp only at hSW); go_simp; first | done | rfl); (case ha => simp only [Act.put, List.setIfInBounds_toArray, List.set_cons_zero, List.set_cons_succ]; rfl)))
                            refine sq_done ?_
                            have HY2 : Hid (Fr No wi (wr.alloc obj).drew ∧ (Hit keep ops c d.safe k (m + 1) → true = true)) := (show _ ∧ _ from ⟨(HY.out.1.alloc _).drew, fun _ => rfl⟩)
                            go_wp2_with fail
                            go_roundw
                            case rel => exact ⟨m + 1, true, by omega, rfl, by go_num, HY2⟩
                            case measure => simp [intOf]; omega
                          · have hnx : Hid (∀ ok' : Bool, (ok = true → ok' = true) → (Hit keep ops c d.safe k (m + 1) → ok' = true)) := (show ∀ ok' : Bool, _ → _ from fun ok' h => Hit.step HY.out.2 HXM.out h (fun _ _ _ h => by
                              dsimp only at h
                              rw [Int.toNat_natCast, hqe, hy.out, hck.out] at h
                              cases h
                              exact absurd rfl hyk))
                            have hbf := Lib.hid (And.intro hbe.out (And.intro (decide_eq_false hyk) (And.intro (beq_eq_false_iff_ne.2 hyk) (decide_eq_false (p := y.toNat = ck.toNat) (by omega)))))
                            clear hyk
                            go_wp2_with fail
                            rw [← hobj.out]
                            refine wp_seq_region (fun W => W.cell? ⟨wr.heap.size, 1, none⟩ = some (.int .i64 (t : Int)) ∧ W.cell? ⟨wr.heap.size, 3, none⟩ = some (.slice (some ⟨b4, o4, none⟩) bb.length cb) ∧ W.cell? ⟨b4, o4 + q, none⟩ = some (.int .u8 (y.toNat : Int)) ∧ W.cell? ⟨b1, o1 + k, none⟩ = some (.int .u8 (ck.toNat : Int))) [] [9, 15, 18, 24, 27, 30, 34] [] [0, 1, 2, 3, 4, 5, 6, 7, 8, 9, 10, 11, 12, 13, 14, 15, 16, 17, 18, 19, 20, 21, 22, 23, 24, 25, 26, 27, 28, 29, 30, 31, 32, 33, 34, 35, 36] (by kernel_rfl) (by kernel_rfl) rfl (by kernel_rfl) (fun _ _ _ _ _ h => h) ?_
                            have HS : Hid ((wr.alloc obj).drew.cell? ⟨wr.heap.size, 1, none⟩ = some (.int .i64 (t : Int)) ∧ (wr.alloc obj).drew.cell? ⟨wr.heap.size, 3, none⟩ = some (.slice (some ⟨b4, o4, none⟩) bb.length cb) ∧ (wr.alloc obj).drew.cell? ⟨b4, o4 + q, none⟩ = some (.int .u8 (y.toNat : Int)) ∧ (wr.alloc obj).drew.cell? ⟨b1, o1 + k, none⟩ = some (.int .u8 (ck.toNat : Int))) := (show _ ∧ _ ∧ _ ∧ _ from ⟨(by rw [hobj.out]; exact blk_cell (blk_new wr _) 1), (by rw [hobj.out]; exact blk_cell (blk_new wr _) 3), cell_alloc hyc _, cell_alloc hcc3 _⟩)
                            repeat (first
                              | (refine sq_off (a' := ?_) rfl rfl (by rfl) (fun _ => (HS).out) ?ha ?_; (case ha => simp only [Act.put, List.setIfInBounds_toArray, List.set_cons_zero, List.set_cons_succ]; rfl))
                              | (refine sq_any (v := ?_) (a' := ?_) rfl rfl rfl (by rfl) (fun W => ?hr) ?ha ?_; (case hr => go_simp; first | done | (simp only [(hbf).out]; done) | (simp only [(hbf).out]; rfl) | rfl); (case ha => simp only [Act.put, List.setIfInBounds_toArray, List.set_cons_zero, List.set_cons_succ]; rfl))
                              | (refine sq_load (v := ?_) (a' := ?_) rfl rfl rfl (by rfl) (fun W hSW => ?hr) (HS).out ?ha ?_; (case hr => (try dsimp only at hSW); go_simp; first | done | rfl); (case ha => simp only [Act.put, List.setIfInBounds_toArray, List.set_cons_zero, List.set_cons_succ]; rfl)))
                            refine sq_done ?_
                            have HY2 : Hid (Fr No wi (wr.alloc obj).drew ∧ (Hit keep ops c d.safe k (m + 1) → ok = true)) := (show _ ∧ _ from ⟨(HY.out.1.alloc _).drew, hnx.out ok (fun h => h)⟩)
                            go_wp2_with fail
                            go_roundw
                            case rel => exact ⟨m + 1, ok, by omega, rfl, by go_num, HY2⟩
                            case measure => simp [intOf]; omega
                  · have hml : m = ops.length := by omega
                    subst hml
                    have hok : ok = true := HY.out.2 (HHIT.out k hlt)
                    subst hok
                    have HX3 : Hid (Fr No wi wr) := (show Fr No wi wr from HY.out.1)
                    go_wp2_with fail
                    refine ⟨⟨_, _, _, _, _, .int .i64 ((k + 1 : Nat) : Int), ⟨k + 1, by omega, rfl⟩, rfl, rfl, rfl, rfl, rfl, by go_num⟩, by simp [intOf]; omega⟩
              · have hkl : k = c.length := by omega
                subst hkl
                clear hlt
                have hcn3 : ¬ ((c.length : Int) < (n : Int)) := by rw [hclen.out]; omega
                go_wp2_with fail
                go_ret
                exact UP.out _ (HMi.out.fr.then HX.out)
end Go.Proofs.Ytbaohngnpgappaa
