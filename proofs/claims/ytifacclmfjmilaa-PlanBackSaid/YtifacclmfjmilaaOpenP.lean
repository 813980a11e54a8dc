/- A plan that comes in, opened. -/
import Derived.Test.YtifacclmfjmilaaPZx0
import Derived.Test.YtifacclmfjmilaaMath
import Derived.ChangeSame
import Derived.Deep.SlicePairs
import Derived.ChangeArms
namespace Go.Proofs.Ytifacclmfjmilaa.Ext
open Go.RowKit Go.ChangeShapes Go.WideShapes Go.Proofs.YtifacclmfjmilaaW.PrintWords Go.Proofs.YtifacclmfjmilaaW.PrintLast Go.Proofs.YtifacclmfjmilaaW.PrintMore Go.Proofs.Ytifacclmfjmilaa.PZ
set_option linter.unusedVariables false
instance : Inhabited S55 := ⟨z55⟩
theorem tiers_open {H : Type} {enc : TypeId × Value → H} {W : World} {fuel : Nat} {cs : List Value} {d : DataW H} {p : List MemPlace}
    (hf : DataW.trod enc Try.prog W 0 (fun _ => true) true fuel 23 cs = some (d, p)) : ∃ a len cap, cs = [.slice a len cap] ∧ ∃ L : List S55, L.length = len ∧ len ≤ cap ∧ (∀ t ∈ L, I64 t.f0 ∧ I64 t.f1) ∧ Kd.C k55 W a L.length L := by
  rcases Go.Deep.open_slice_pairs Try.underlying23 Try.underlying55 (by kernel_rfl) rfl rfl (by kernel_rfl) (by kernel_rfl) hf with ⟨hcs, _⟩ | ⟨ad, len, cap, m, n, V0, V1, D0, D1, P0, P1, hcs, _, hl, hm, hmm, _, hx⟩
  · exact ⟨_, _, _, hcs, [], rfl, Nat.le_refl _, fun p h => (by cases h), Kd.C_nil _ _⟩
  · refine ⟨_, _, _, hcs, ?_⟩
    have hlm : len ≤ m := by rw [hmm]; split <;> omega
    have each : ∀ i, i < len → ∃ p : S55, (I64 p.f0 ∧ I64 p.f1) ∧ W.cell? (ad.add (i * 2)) = some (.int .i64 p.f0) ∧ W.cell? (ad.add (i * 2 + 1)) = some (.int .i64 p.f1) := by
      intro i hi
      obtain ⟨e0, e1, t0, t1⟩ := hx i (by omega)
      obtain ⟨c, h0, _, w0⟩ := DataW.trod_int Try.underlying2 t0
      obtain ⟨z, h1, _, w1⟩ := DataW.trod_int Try.underlying2 t1
      simp only [List.cons.injEq, and_true] at h0 h1
      rw [h0] at e0
      rw [h1] at e1
      exact ⟨⟨c, z⟩, ⟨wf_i64 _ w0, wf_i64 _ w1⟩, e0, e1⟩
    obtain ⟨q, hq⟩ := Go.Deep.choose_lt each
    refine ⟨(List.range len).map q, by simp, hl, ?_, ?_⟩
    · intro p hp
      obtain ⟨i, hi, rfl⟩ := List.mem_map.1 hp
      exact (hq i (List.mem_range.1 hi)).1
    · have hlen : ((List.range len).map q).length = len := by simp
      rw [hlen]
      refine ⟨hlen, by simp only [maxLen] at hm; omega, fun _ => ⟨ad, rfl, fun j x hj => ?_⟩⟩
      have hjl : j < len := by
        have := (List.getElem?_eq_some_iff.1 hj).1
        simpa using this
      rw [List.getElem?_map, List.getElem?_range hjl] at hj
      simp only [Option.map_some, Option.some.injEq] at hj
      subst hj
      have e0 := (hq j hjl).2.1
      have e1 := (hq j hjl).2.2
      refine ⟨[.int .i64 (q j).f0, .int .i64 (q j).f1], rfl, k55_mk W _, fun i u hi => ?_⟩
      have hz : k55.sz = 2 := rfl
      rw [hz]
      match i, hi with
      | 0, hi => simp at hi; subst hi; rw [Nat.add_zero]; exact e0
      | 1, hi => simp at hi; subst hi; exact e1
theorem wf_u32 (a : Int) (h : (Lit.int .u32 a).wf = true) : 0 ≤ a ∧ a < 4294967296 := by
  have h1 : IntKind.u32.min = 0 := rfl
  have h2 : IntKind.u32.max = 4294967295 := rfl
  simp only [Lit.wf, Bool.and_eq_true, decide_eq_true_eq, h1, h2] at h
  omega
theorem plan_come {H : Type} {enc : TypeId × Value → H} {W : World} {v : Value} {d : DataW H} {p : List MemPlace} {base : Nat} (hv : Value.okWide Try.prog W .any base 25 v)
    (h : DataW.Trod enc Try.prog W 0 (fun _ => true) true 25 v d p) : ∃ a0 a1 a2 a3 a4 a5 A c, ∃ L : List S55, v = .agg #[.int .u32 a0, .int .i64 a1, .int .i64 a2, .int .i64 a3, .int .i64 a4, .int .i64 a5, .slice A L.length c] ∧ (0 ≤ a0 ∧ a0 < 4294967296) ∧ (I64 a1 ∧ I64 a2 ∧ I64 a3 ∧ I64 a4 ∧ I64 a5) ∧ L.length ≤ c ∧ (∀ t ∈ L, I64 t.f0 ∧ I64 t.f1) ∧ Kd.C k55 W A L.length L := by
  obtain ⟨cs, rfl, hsz⟩ := okWide_struct Try.underlying25 hv
  obtain ⟨fuel, hf⟩ := h
  obtain ⟨xs, n, _, hx, hl, hlen, hfs⟩ := DataW.trod_struct Try.underlying25 hf
  have h7 : Try.prog.cellsOf 25 = 7 := by kernel_rfl
  rw [h7] at hsz
  have h2 : Try.prog.cellsOf 2 = 1 := by kernel_rfl
  have h22 : Try.prog.cellsOf 22 = 1 := by kernel_rfl
  have h23 : Try.prog.cellsOf 23 = 1 := by kernel_rfl
  obtain ⟨l, rfl⟩ : ∃ l : List Value, cs = l.toArray := ⟨cs.toList, by simp⟩
  have hll : l.length = 7 := by simpa using hsz
  have hxl : xs.length = 7 := hlen
  match l, hll, xs, hxl with
  | [x0, x1, x2, x3, x4, x5, x6], _, [y0, y1, y2, y3, y4, y5, y6], _ =>
    have t0 : DataW.trod enc Try.prog W 0 (fun _ => true) true n 22 [x0] = some y0 := by
      have t : DataW.trod enc Try.prog W 0 (fun _ => true) true n 22 (List.take (Try.prog.cellsOf 22) (List.drop 0 [x0, x1, x2, x3, x4, x5, x6])) = some y0 := hfs 0 _ rfl
      rw [h22] at t
      exact t
    have t1 : DataW.trod enc Try.prog W 0 (fun _ => true) true n 2 [x1] = some y1 := by
      have t : DataW.trod enc Try.prog W 0 (fun _ => true) true n 2 (List.take (Try.prog.cellsOf 2) (List.drop 1 [x0, x1, x2, x3, x4, x5, x6])) = some y1 := hfs 1 _ rfl
      rw [h2] at t
      exact t
    have t2 : DataW.trod enc Try.prog W 0 (fun _ => true) true n 2 [x2] = some y2 := by
      have t : DataW.trod enc Try.prog W 0 (fun _ => true) true n 2 (List.take (Try.prog.cellsOf 2) (List.drop 2 [x0, x1, x2, x3, x4, x5, x6])) = some y2 := hfs 2 _ rfl
      rw [h2] at t
      exact t
    have t3 : DataW.trod enc Try.prog W 0 (fun _ => true) true n 2 [x3] = some y3 := by
      have t : DataW.trod enc Try.prog W 0 (fun _ => true) true n 2 (List.take (Try.prog.cellsOf 2) (List.drop 3 [x0, x1, x2, x3, x4, x5, x6])) = some y3 := hfs 3 _ rfl
      rw [h2] at t
      exact t
    have t4 : DataW.trod enc Try.prog W 0 (fun _ => true) true n 2 [x4] = some y4 := by
      have t : DataW.trod enc Try.prog W 0 (fun _ => true) true n 2 (List.take (Try.prog.cellsOf 2) (List.drop 4 [x0, x1, x2, x3, x4, x5, x6])) = some y4 := hfs 4 _ rfl
      rw [h2] at t
      exact t
    have t5 : DataW.trod enc Try.prog W 0 (fun _ => true) true n 2 [x5] = some y5 := by
      have t : DataW.trod enc Try.prog W 0 (fun _ => true) true n 2 (List.take (Try.prog.cellsOf 2) (List.drop 5 [x0, x1, x2, x3, x4, x5, x6])) = some y5 := hfs 5 _ rfl
      rw [h2] at t
      exact t
    have t6 : DataW.trod enc Try.prog W 0 (fun _ => true) true n 23 [x6] = some y6 := by
      have t : DataW.trod enc Try.prog W 0 (fun _ => true) true n 23 (List.take (Try.prog.cellsOf 23) (List.drop 6 [x0, x1, x2, x3, x4, x5, x6])) = some y6 := hfs 6 _ rfl
      rw [h23] at t
      exact t
    obtain ⟨a0, g0, _, w0⟩ := DataW.trod_int Try.underlying22 t0
    obtain ⟨a1, g1, _, w1⟩ := DataW.trod_int Try.underlying2 t1
    obtain ⟨a2, g2, _, w2⟩ := DataW.trod_int Try.underlying2 t2
    obtain ⟨a3, g3, _, w3⟩ := DataW.trod_int Try.underlying2 t3
    obtain ⟨a4, g4, _, w4⟩ := DataW.trod_int Try.underlying2 t4
    obtain ⟨a5, g5, _, w5⟩ := DataW.trod_int Try.underlying2 t5
    obtain ⟨A, len, cap, g6, L, e1, e2, e3, e4⟩ := tiers_open t6
    simp only [List.cons.injEq, and_true] at g0 g1 g2 g3 g4 g5 g6
    subst g0; subst g1; subst g2; subst g3; subst g4; subst g5; subst g6; subst e1
    exact ⟨a0, a1, a2, a3, a4, a5, A, cap, L, rfl, wf_u32 _ w0, ⟨wf_i64 _ w1, wf_i64 _ w2, wf_i64 _ w3, wf_i64 _ w4, wf_i64 _ w5⟩, e2, e3, e4⟩
end Go.Proofs.Ytifacclmfjmilaa.Ext
