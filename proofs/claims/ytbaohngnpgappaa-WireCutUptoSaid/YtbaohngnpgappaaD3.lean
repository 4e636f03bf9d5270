/- The statements' own small functions of the disk: SameBytes, live. -/
import Derived.Test.YtbaohngnpgappaaD2
set_option linter.unusedVariables false
set_option linter.unusedSimpArgs false
namespace Go.Proofs.Ytbaohngnpgappaa
open Go.RowKit
theorem samebytes {w : World} {F1 F2 : Nat → Prop} {v1 v2 : Value} {l1 l2 : List UInt8} (h1 : Rb w F1 v1 l1) (h2 : Rb w F2 v2 l2) :
    Calls Try.prog 25 #[v1, v2] w fun e w' => e = .returned (.bool (l1 == l2)) ∧ w = w' := by
  have H1 := Lib.hid h1
  have H2 := Lib.hid h2
  clear h1 h2
  go_enter Try.func25, Try.ntmps25
  go_wp2_with (first | ((with_reducible refine at_dst 6 rfl ?_); refine wpListG_str (by rfl) rfl Try.underlying22 Try.underlying5 Try.underlying9 (by exact H1.out) ?_) | ((with_reducible refine at_dst 8 rfl ?_); refine wpListG_str (by rfl) rfl Try.underlying22 Try.underlying5 Try.underlying9 (by exact H2.out) ?_))
  go_ret
  exact ⟨rfl, rfl⟩
theorem samebytes_yes {w : World} {F1 F2 : Nat → Prop} {v1 v2 : Value} {l1 l2 : List UInt8} (h1 : Rb w F1 v1 l1) (h2 : Rb w F2 v2 l2) (h : l1 = l2) :
    Calls Try.prog 25 #[v1, v2] w fun e w' => e = .returned (.bool true) ∧ w = w' := by
  subst h
  have := samebytes h1 h2
  rw [beq_self_eq_true] at this
  exact this
/-- A literal of bytes in a block of its own. -/
theorem rb_lit {w : World} {g : Nat} {l : List UInt8} (h : w.heap[g]? = some (.cells (l.map enc8).toArray 5 (0, 0))) (hl : l.length ≤ 1000) : Rb w (fun k => k = g) (.slice (some ⟨g, 0, none⟩) l.length l.length) l := by
  refine ⟨_, _, rfl, Nat.le_refl _, by simp only [maxLen]; omega, fun j x hj => ⟨g, 0, rfl, rfl, ?_⟩⟩
  rw [Nat.zero_add, blk_cell h]
  simp [hj]
def Told (v : Value) (w : World) (e : Ending) (w' : World) : Prop := e = .returned v ∧ Fr No w w'
theorem DiskIs.no {w w' : World} {O R : Nat → Prop} {p : Value} {d : Dk} (h : DiskIs w O R p d) (hf : Fr No w w') : DiskIs w' O R p d := h.fr hf (fun _ _ _ h => h)
theorem DiskIs.ptr {w : World} {O R : Nat → Prop} {p : Value} {d : Dk} (h : DiskIs w O R p d) : ∃ bp, p = .pointer (some ⟨bp, 0, none⟩) := by
  obtain ⟨bp, _, _, _, _, rfl, _⟩ := h
  exact ⟨bp, rfl⟩
/-- New since w0. -/
theorem Fr.news {S : Nat → Prop} {w0 w w' : World} (h : Fr No w0 w) (k : Fr S w w') (hs : ∀ i, S i → w0.heap.size ≤ i) : Fr No w0 w' := h.trans k (fun _ _ h => h) (fun i hi h => by have := hs i h; omega)
set_option maxHeartbeats 4000000 in
theorem live_any (w : World) : Calls Try.prog 20 #[] w (Told (.bool true) w) := by
  go_enter Try.func20, Try.ntmps20
  go_wp2_with fail
  refine (new_any 4 _).mono ?_
  rintro e w1 ⟨p, O, rfl, hD, hO, hF⟩
  obtain ⟨bp, rfl⟩ := hD.ptr
  have HD := Lib.hid hD
  have HO := Lib.hid hO
  have HF := Lib.hid hF
  clear hD hO hF
  go_wp2_with fail
  refine (size_any HD.out).mono ?_
  rintro e w' ⟨rfl, rfl⟩
  rw [show ((⟨List.replicate (clampI 4) 0, List.replicate (clampI 4) 0, []⟩ : Dk).now.length : Int) = 4 from rfl]
  go_wp2_with fail
  have F1 : Fr No w1 (w1.alloc (.cells #[.int .u8 7, .int .u8 8] 5)) := (Fr.refl _ _).alloc _
  have hlit : Rb (w1.alloc (.cells #[.int .u8 7, .int .u8 8] 5)) (fun k => k = w1.heap.size) (.slice (some ⟨w1.heap.size, 0, none⟩) 2 2) [7, 8] := rb_lit (l := [7, 8]) (blk_new w1 _) (by decide)
  refine (write_yes (a := 2) (HD.out.no F1) hlit (fun k hk hO => by have := HD.out.lt k (.inl hO); omega) (by decide) (by decide)).mono ?_
  rintro e w2 ⟨O2, R2, rfl, hD2, hO2, hR2, hF2⟩
  have HD2 := Lib.hid hD2
  have HO2 : Hid (∀ k, O2 k → w.heap.size ≤ k) := (show ∀ k, O2 k → w.heap.size ≤ k from fun k hk => by
    rcases hO2 k hk with h | h
    · exact HO.out k h
    · have h1 := HF.out.size; have h2 := F1.size; omega)
  have HF2 : Hid (Fr No w w2) := (show Fr No w w2 from (HF.out.then F1).news hF2 HO.out)
  clear hD2 hO2 hR2 hF2 F1 hlit
  go_wp2_with fail
  refine (copy_any HD2.out (by decide)).mono ?_
  rintro e w3 ⟨p', rfl, hD3, hF3⟩
  obtain ⟨bp', rfl⟩ := hD3.ptr
  have HD3 := Lib.hid hD3
  have HD2' := Lib.hid (HD2.out.no hF3)
  have HF3 : Hid (Fr No w w3) := (show Fr No w w3 from HF2.out.then hF3)
  have HS3 := hF3.size
  clear hD3 hF3
  go_wp2_with fail
  refine (read_any HD2'.out (by decide) (by decide) (by decide)).mono ?_
  rintro e w4 ⟨v4, rfl, hv4, hF4⟩
  obtain ⟨A4, c4, rfl, _, _⟩ := hv4.shape
  have HV4 := Lib.hid hv4
  have HD3' := Lib.hid (HD3.out.no hF4)
  have HD4 := Lib.hid (HD2'.out.no hF4)
  have HF34 := Lib.hid hF4
  clear hv4 hF4
  go_wp2_with fail
  refine (crash_any HD4.out (by decide) 0 (-1) (by decide)).mono ?_
  rintro e w5 ⟨O5, R5, rfl, hD5, hO5, hR5, hF5⟩
  have HD5 := Lib.hid hD5
  have GO5 := Lib.hid hO5
  have GR5 := Lib.hid hR5
  have HS34 := HF34.out.size
  have HO5 : Hid (∀ k, O5 k → w.heap.size ≤ k) := (show ∀ k, O5 k → w.heap.size ≤ k from fun k hk => by
    rcases hO5 k hk with h | h
    · exact HO2.out k h
    · have h1 := HF3.out.size; omega)
  have HF5 : Hid (Fr No w w5) := (show Fr No w w5 from (HF3.out.then HF34.out).news hF5 HO2.out)
  have HE5 : Hid (DiskIs w5 (fun k => w2.heap.size ≤ k ∧ k < w3.heap.size) R2 (.pointer (some ⟨bp', 0, none⟩)) _) := (show DiskIs _ _ _ _ _ from HD3'.out.fr hF5 (fun k _ hk hO => by
    have h1 := HD2.out.lt k (.inl hO)
    rcases hk with hk | hk
    · omega
    · exact HD2.out.apart k hO hk))
  have HV5 := Lib.hid (HV4.out.fr hF5 (fun k _ hk hO => by have h1 := HD2.out.lt k (.inl hO); have h2 : w3.heap.size ≤ k := hk; omega))
  have HS5 := hF5.size
  clear hD5 hO5 hR5 hF5
  go_wp2_with fail
  refine (crash_any HE5.out (by decide) 1 1 (by decide)).mono ?_
  rintro e w6 ⟨O6, R6, rfl, hD6, hO6, hR6, hF6⟩
  have HD6 := Lib.hid hD6
  have HSw := HF2.out.size
  have HF6 : Hid (Fr No w w6) := (show Fr No w w6 from HF5.out.news hF6 (fun k hk => by have := hk.1; omega))
  have hS3 := HF3.out.size
  have HE6 : Hid (DiskIs w6 O5 R5 (.pointer (some ⟨bp, 0, none⟩)) _) := (show DiskIs _ _ _ _ _ from HD5.out.fr hF6 (fun k hk hk2 hO => by
    rcases hk2 with h | h
    · rcases GO5.out k h with h | h
      · have h1 := HD2.out.lt k (.inl h); omega
      · have h2 := hO.2; omega
    · rcases GR5.out k h with h | h
      · have h1 := HD2.out.lt k (.inr h); omega
      · have h2 := hO.2; omega))
  have HV6 := Lib.hid (HV5.out.fr hF6 (fun k _ hk hO => by have h2 : w3.heap.size ≤ k := hk; have h3 := hO.2; omega))
  clear hD6 hO6 hR6 hF6
  go_wp2_with fail
  refine (samebytes_yes (HV6.out.reads.fr ((Fr.refl No w6).alloc _) (fun _ _ _ h => h)) (rb_lit (l := [0, 0, 7, 8]) (blk_new w6 _) (by decide)) (by decide)).mono ?_
  rintro e w7 ⟨rfl, rfl⟩
  go_wp2_with fail
  refine (read_any (HE6.out.no ((Fr.refl No w6).alloc _)) (by decide) (by decide) (by decide)).mono ?_
  rintro e w7 ⟨v7, rfl, hv7, hF7⟩
  obtain ⟨A7, c7, rfl, _, _⟩ := hv7.shape
  have HV7 := Lib.hid hv7
  have HF7 : Hid (Fr No w6 w7) := (show Fr No w6 w7 from ((Fr.refl No w6).alloc _).then hF7)
  clear hv7 hF7
  go_wp2_with fail
  refine (samebytes_yes (HV7.out.reads.fr ((Fr.refl No w7).alloc _) (fun _ _ _ h => h)) (rb_lit (l := [0, 0, 0, 0]) (blk_new w7 _) (by decide)) (by decide)).mono ?_
  rintro e w8 ⟨rfl, rfl⟩
  go_wp2_with fail
  refine (read_any (HD6.out.no (HF7.out.alloc _)) (by decide) (by decide) (by decide)).mono ?_
  rintro e w9 ⟨v9, rfl, hv9, hF9⟩
  obtain ⟨A9, c9, rfl, _, _⟩ := hv9.shape
  have HV9 := Lib.hid hv9
  have HF9 : Hid (Fr No w6 w9) := (show Fr No w6 w9 from (HF7.out.alloc _).then hF9)
  clear hv9 hF9
  go_wp2_with fail
  refine (samebytes_yes (HV9.out.reads.fr ((Fr.refl No w9).alloc _) (fun _ _ _ h => h)) (rb_lit (l := [0, 0, 7, 0]) (blk_new w9 _) (by decide)) (by decide)).mono ?_
  rintro e w10 ⟨rfl, rfl⟩
  go_wp2_with fail
  go_ret
  exact ⟨rfl, HF6.out.then (HF9.out.alloc _)⟩
end Go.Proofs.Ytbaohngnpgappaa
