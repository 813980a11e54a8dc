/- Tiers that come in, opened. -/
import Derived.Test.YthgfdgkmmlbohaaPZx0
import Derived.Test.YthgfdgkmmlbohaaMath
import Derived.Deep.SlicePairs
import Derived.ChangeArms
namespace Go.Proofs.Ythgfdgkmmlbohaa.Ext
open Go.RowKit Go.ChangeShapes Go.WideShapes Go.Proofs.YthgfdgkmmlbohaaW.PrintWords Go.Proofs.YthgfdgkmmlbohaaW.PrintLast Go.Proofs.YthgfdgkmmlbohaaW.PrintMore Go.Proofs.Ythgfdgkmmlbohaa.PZ
set_option linter.unusedVariables false
instance : Inhabited S27 := ⟨z27⟩
theorem tiers_come {H : Type} {enc : TypeId × Value → H} {W : World} {a : Option Addr} {len cap : Nat} {d : DataW H} {p : List MemPlace}
    (h : DataW.Trod enc Try.prog W 0 (fun _ => true) true 22 (.slice a len cap) d p) : ∃ L : List S27, L.length = len ∧ len ≤ cap ∧ (∀ t ∈ L, I64 t.f0 ∧ I64 t.f1) ∧ Kd.C k27 W a L.length L := by
  obtain ⟨fuel, hf⟩ := h
  rcases Go.Deep.open_slice_pairs Try.underlying22 Try.underlying27 (by kernel_rfl) rfl rfl (by kernel_rfl) (by kernel_rfl) hf with ⟨hcs, _⟩ | ⟨ad, len', cap', m, n, V0, V1, D0, D1, P0, P1, hcs, _, hl, hm, hmm, _, hx⟩
  · simp [Value.cells] at hcs
    obtain ⟨rfl, rfl, rfl⟩ := hcs
    exact ⟨[], rfl, Nat.le_refl _, fun p h => (by cases h), Kd.C_nil _ _⟩
  · simp [Value.cells] at hcs
    obtain ⟨rfl, rfl, rfl⟩ := hcs
    have hlm : len ≤ m := by rw [hmm]; split <;> omega
    have each : ∀ i, i < len → ∃ p : S27, (I64 p.f0 ∧ I64 p.f1) ∧ W.cell? (ad.add (i * 2)) = some (.int .i64 p.f0) ∧ W.cell? (ad.add (i * 2 + 1)) = some (.int .i64 p.f1) := by
      intro i hi
      obtain ⟨e0, e1, t0, t1⟩ := hx i (by omega)
      obtain ⟨c, h0, _, w0⟩ := DataW.trod_int Try.underlying2 t0
      obtain ⟨z, h1, _, w1⟩ := DataW.trod_int Try.underlying2 t1
      simp only [List.cons.injEq, and_true] at h0 h1
      rw [h0] at e0
      rw [h1] at e1
      exact ⟨⟨c, z⟩, ⟨wf_i64 _ w0, wf_i64 _ w1⟩, e0, e1⟩
    obtain ⟨q, hq⟩ := Go.Deep.choose_lt each
    refine ⟨(List.range len).map q, by simp, hl, ?_, ?_⟩
    · intro p hp
      obtain ⟨i, hi, rfl⟩ := List.mem_map.1 hp
      exact (hq i (List.mem_range.1 hi)).1
    · have hlen : ((List.range len).map q).length = len := by simp
      rw [hlen]
      refine ⟨hlen, by simp only [maxLen] at hm; omega, fun _ => ⟨ad, rfl, fun j x hj => ?_⟩⟩
      have hjl : j < len := by
        have := (List.getElem?_eq_some_iff.1 hj).1
        simpa using this
      rw [List.getElem?_map, List.getElem?_range hjl] at hj
      simp only [Option.map_some, Option.some.injEq] at hj
      subst hj
      have e0 := (hq j hjl).2.1
      have e1 := (hq j hjl).2.2
      refine ⟨[.int .i64 (q j).f0, .int .i64 (q j).f1], rfl, k27_mk W _, fun i u hi => ?_⟩
      have hz : k27.sz = 2 := rfl
      rw [hz]
      match i, hi with
      | 0, hi => simp at hi; subst hi; rw [Nat.add_zero]; exact e0
      | 1, hi => simp at hi; subst hi; exact e1
end Go.Proofs.Ythgfdgkmmlbohaa.Ext
