/- append of a text to a row of one's own, with a word on where the row lies behind it. -/
import Derived.Test.YtbaohngnpgappaaA1
import Derived.Lib.AppendStr
set_option linter.unusedVariables false
set_option linter.unusedSimpArgs false
namespace Go.Proofs.Ytbaohngnpgappaa
open Go.RowKit
section
variable {P : Program}
theorem run_apps {W : World} {O : Nat → Prop} (t u ty e : TypeId) (ht : P.underlying t = some (.slice e)) (hu : P.underlying u = some .string) (hinfo : (P.info? e).map (fun i => (i.zero, i.size, i.bytes)) = some (some (.int .u8 0), 1, 1))
    (v : Value) (n : Nat) (xs : List Value) (HO : Ow W O e 1 v n xs) (y : ByteArray) (hb : n + y.size ≤ 140737488355328) :
    ∃ v1 w1, (Builtin.append_ #[t, u] ty #[v, .string y]).run P W = .ok v1 w1 ∧ Ow w1 (fun k => v.ownBlock = some k ∨ k = W.heap.size) e 1 v1 (n + y.size) (xs ++ Lib.strCells y) ∧ Fr (fun k => v.ownBlock = some k) W w1 := by
  obtain ⟨i, hi, hzz⟩ := Option.map_eq_some_iff.1 hinfo
  simp only [Prod.mk.injEq] at hzz
  obtain ⟨hz0, hz1, hz2⟩ := hzz
  obtain ⟨v1, w1, hr, ho, hg, hnil⟩ := Lib.run_append_own_string (P := P) W 0 t u ty e i ht hu hi hz0 hz1 hz2 v n xs HO.1 y (by simp only [maxLen]; omega) hb (Nat.zero_le _)
  refine ⟨v1, w1, hr, ⟨ho, fun k hk => ?_⟩, Fr.grown hg fun k hk => hk⟩
  rcases HO.1.2 with ⟨rfl, rfl⟩ | ⟨g, cap, cur, rfl, _, hh, hnc, hcm, hcs, _⟩
  · by_cases h0 : y.size = 0
    · rw [hnil.2 ⟨rfl, h0⟩] at hk
      simp [Value.ownBlock] at hk
    · have h2 := run_append_nil_string (P := P) W t u ty e i (.int .u8 0) ht hu hi hz0 y (by omega) (by omega) (by rw [hz2]; omega)
      rw [hr] at h2
      injection h2 with h3 h4
      rw [h3] at hk
      exact .inr (Option.some.inj hk).symm
  · by_cases hroom : n + y.size ≤ cap
    · have h2 := Lib.run_append_room_string (P := P) W t u ty e i ht hu hi hz1 g n cap cur hh y hroom (by omega)
      rw [hr] at h2
      injection h2 with h3 h4
      rw [h3] at hk
      exact .inl hk
    · have holds : ∀ j u, xs[j]? = some u → W.cell? ((⟨g, 0, none⟩ : Addr).add j) = some u := fun j u hj => by
        obtain ⟨A, c, he, _, _, hc⟩ := HO.cells
        cases he
        obtain ⟨g', he, _, h5, _⟩ := hc j u hj
        cases he
        rw [add_none, Nat.zero_add]
        exact h5
      have h2 := Lib.run_append_grow_string (P := P) W t u ty e i (.int .u8 0) ht hu hi hz0 ⟨g, 0, none⟩ n cap xs (by rw [hz1]; have := HO.len; omega) holds y (by omega) (by omega) (by rw [hz2]; exact growslice_fits (by omega) (by omega))
      rw [hr] at h2
      injection h2 with h3 h4
      rw [h3] at hk
      exact .inr (Option.some.inj hk).symm
theorem wp_apps {W : World} {O : Nat → Prop} {o : Oper} {a : Act} {K : Act → World → Prop} {Q : Exit → Act → World → Prop} (s x : Operand) (t u e : TypeId)
    (ho : o.op = .call { callee := .builtin .append, args := #[s, x], argTypes := #[t, u] }) (ht : P.underlying t = some (.slice e)) (hu : P.underlying u = some .string) (hinfo : (P.info? e).map (fun i => (i.zero, i.size, i.bytes)) = some (some (.int .u8 0), 1, 1))
    (v : Value) (n : Nat) (xs : List Value) (hs : a.eval s = v) (y : ByteArray) (hx : a.eval x = .string y) (HO : Ow W O e 1 v n xs) (hb : n + y.size ≤ 140737488355328)
    (h : ∀ v1 w1, Ow w1 (fun k => v.ownBlock = some k ∨ k = W.heap.size) e 1 v1 (n + y.size) (xs ++ Lib.strCells y) → Fr (fun k => v.ownBlock = some k) W w1 → K (a.put o.dst v1) w1) : o.wp P a W K Q := by
  obtain ⟨v1, w1, hr, h2, h3⟩ := run_apps (P := P) t u o.type e ht hu hinfo v n xs HO y hb
  unfold Oper.wp execOp
  simp only [ho, resolve, invoke, builtin, Sem.run_bind, Sem.run_pure, Result.andThen_ok, List.map_toArray, List.map_cons, List.map_nil, hs, hx, hr]
  exact h v1 w1 h2 h3
theorem sq_apps {ops : Array Oper} {Q : Exit → Act → World → Prop} {S : World → Prop} {ds eff lds : List Nat} {i : Nat} {r : List Nat} {oi : Oper} {a : Act} {w : World} {O : Nat → Prop} (hi0 : ops.toList[i]? = some oi) (he : eff.contains i = true) (hw : Region.wanted oi (yielded ops a.tmps) = true) (s x : Operand) (t u e : TypeId)
    (ho : oi.op = .call { callee := .builtin .append, args := #[s, x], argTypes := #[t, u] }) (ht : P.underlying t = some (.slice e)) (hu : P.underlying u = some .string) (hinfo : (P.info? e).map (fun i => (i.zero, i.size, i.bytes)) = some (some (.int .u8 0), 1, 1))
    (v : Value) (n : Nat) (xs : List Value) (hs : a.eval s = v) (y : ByteArray) (hx : a.eval x = .string y) (HO : Ow w O e 1 v n xs) (hb : n + y.size ≤ 140737488355328)
    (h : ∀ v1 w1, Ow w1 (fun k => v.ownBlock = some k ∨ k = w.heap.size) e 1 v1 (n + y.size) (xs ++ Lib.strCells y) → Fr (fun k => v.ownBlock = some k) w w1 → (i ∉ ds → S w1) ∧ wpSeq P ops Q S eff lds ds r (a.put oi.dst v1) w1) : wpSeq P ops Q S eff lds ds (i :: r) a w :=
  sq_eff hi0 he hw fun K hK => wp_apps s x t u e ho ht hu hinfo v n xs hs y hx HO hb fun v1 w1 h2 h3 => hK.out _ _ (h v1 w1 h2 h3).1 (h v1 w1 h2 h3).2
end
theorem strCells_is (s : List UInt8) : Lib.strCells ⟨s.toArray⟩ = s.map enc8 := by
  simp [Lib.strCells, enc8]
end Go.Proofs.Ytbaohngnpgappaa
