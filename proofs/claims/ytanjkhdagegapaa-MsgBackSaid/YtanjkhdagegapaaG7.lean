import Derived.Test.YtanjkhdagegapaaPZx0
import Derived.Test.YtanjkhdagegapaaMath
import Derived.ChangeSame
import Derived.Deep.SlicePairs
import Derived.ChangeArms
import Derived.Test.YtanjkhdagegapaaBeMath
import Derived.Test.YtanjkhdagegapaaRead
import Derived.Laws.BytesArg
import Derived.ChangeSlices
section
/- A plan, a reply, a request that come in, opened. -/
namespace Go.Proofs.Ytanjkhdagegapaa.Ext
open Go.RowKit Go.ChangeShapes Go.WideShapes Go.Proofs.YtanjkhdagegapaaW.PrintWords Go.Proofs.YtanjkhdagegapaaW.PrintLast Go.Proofs.YtanjkhdagegapaaW.PrintMore Go.Proofs.Ytanjkhdagegapaa.PZ
set_option linter.unusedVariables false
instance : Inhabited S39 := ⟨z39⟩
theorem tiers_open {H : Type} {enc : TypeId × Value → H} {W : World} {fuel : Nat} {cs : List Value} {d : DataW H} {p : List MemPlace}
    (hf : DataW.trod enc Try.prog W 0 (fun _ => true) true fuel 23 cs = some (d, p)) : ∃ a len cap, cs = [.slice a len cap] ∧ ∃ L : List S39, L.length = len ∧ len ≤ cap ∧ (∀ t ∈ L, I64 t.f0 ∧ I64 t.f1) ∧ Kd.C k39 W a L.length L := by
  rcases Go.Deep.open_slice_pairs Try.underlying23 Try.underlying39 (by kernel_rfl) rfl rfl (by kernel_rfl) (by kernel_rfl) hf with ⟨hcs, _⟩ | ⟨ad, len, cap, m, n, V0, V1, D0, D1, P0, P1, hcs, _, hl, hm, hmm, _, hx⟩
  · exact ⟨_, _, _, hcs, [], rfl, Nat.le_refl _, fun p h => (by cases h), Kd.C_nil _ _⟩
  · refine ⟨_, _, _, hcs, ?_⟩
    have hlm : len ≤ m := by rw [hmm]; split <;> omega
    have each : ∀ i, i < len → ∃ p : S39, (I64 p.f0 ∧ I64 p.f1) ∧ W.cell? (ad.add (i * 2)) = some (.int .i64 p.f0) ∧ W.cell? (ad.add (i * 2 + 1)) = some (.int .i64 p.f1) := by
      intro i hi
      obtain ⟨e0, e1, t0, t1⟩ := hx i (by omega)
      obtain ⟨c, h0, _, w0⟩ := DataW.trod_int Try.underlying2 t0
      obtain ⟨z, h1, _, w1⟩ := DataW.trod_int Try.underlying2 t1
      simp only [List.cons.injEq, and_true] at h0 h1
      rw [h0] at e0
      rw [h1] at e1
      exact ⟨⟨c, z⟩, ⟨wf_i64 _ w0, wf_i64 _ w1⟩, e0, e1⟩
    obtain ⟨q, hq⟩ := Go.Deep.choose_lt each
    refine ⟨(List.range len).map q, by simp, hl, ?_, ?_⟩
    · intro p hp
      obtain ⟨i, hi, rfl⟩ := List.mem_map.1 hp
      exact (hq i (List.mem_range.1 hi)).1
    · have hlen : ((List.range len).map q).length = len := by simp
      rw [hlen]
      refine ⟨hlen, by simp only [maxLen] at hm; omega, fun _ => ⟨ad, rfl, fun j x hj => ?_⟩⟩
      have hjl : j < len := by
        have := (List.getElem?_eq_some_iff.1 hj).1
        simpa using this
      rw [List.getElem?_map, List.getElem?_range hjl] at hj
      simp only [Option.map_some, Option.some.injEq] at hj
      subst hj
      have e0 := (hq j hjl).2.1
      have e1 := (hq j hjl).2.2
      refine ⟨[.int .i64 (q j).f0, .int .i64 (q j).f1], rfl, k39_mk W _, fun i u hi => ?_⟩
      have hz : k39.sz = 2 := rfl
      rw [hz]
      match i, hi with
      | 0, hi => simp at hi; subst hi; rw [Nat.add_zero]; exact e0
      | 1, hi => simp at hi; subst hi; exact e1
theorem wf_u32 (a : Int) (h : (Lit.int .u32 a).wf = true) : 0 ≤ a ∧ a < 4294967296 := by
  have h1 : IntKind.u32.min = 0 := rfl
  have h2 : IntKind.u32.max = 4294967295 := rfl
  simp only [Lit.wf, Bool.and_eq_true, decide_eq_true_eq, h1, h2] at h
  omega
theorem wf_u8m (a : Int) (h : (Lit.int .u8 a).wf = true) : 0 ≤ a ∧ a < 256 := by
  have h1 : IntKind.u8.min = 0 := rfl
  have h2 : IntKind.u8.max = 255 := rfl
  simp only [Lit.wf, Bool.and_eq_true, decide_eq_true_eq, h1, h2] at h
  omega
set_option maxRecDepth 100000 in
theorem plan_fields {H : Type} {enc : TypeId × Value → H} {W : World} {n0 : Nat} {x0 x1 x2 x3 x4 x5 x6 : Value} {y : DataW H × List MemPlace} (hf : DataW.trod enc Try.prog W 0 (fun _ => true) true n0 25 [x0, x1, x2, x3, x4, x5, x6] = some y) :
    ∃ a0 a1 a2 a3 a4 a5 A c, ∃ L : List S39, [x0, x1, x2, x3, x4, x5, x6] = [.int .u32 a0, .int .i64 a1, .int .i64 a2, .int .i64 a3, .int .i64 a4, .int .i64 a5, .slice A L.length c] ∧ (0 ≤ a0 ∧ a0 < 4294967296) ∧ (I64 a1 ∧ I64 a2 ∧ I64 a3 ∧ I64 a4 ∧ I64 a5) ∧ L.length ≤ c ∧ (∀ t ∈ L, I64 t.f0 ∧ I64 t.f1) ∧ Kd.C k39 W A L.length L := by
  obtain ⟨xs, n, _, hx, hl, hlen, hfs⟩ := DataW.trod_struct Try.underlying25 hf
  have hzi64 : Try.prog.cellsOf 2 = 1 := by kernel_rfl
  have hztiers : Try.prog.cellsOf 23 = 1 := by kernel_rfl
  have hzu32 : Try.prog.cellsOf 22 = 1 := by kernel_rfl
  have hxl : xs.length = 7 := hlen
  match xs, hxl with
  | [y0, y1, y2, y3, y4, y5, y6], _ =>
    have t0 : DataW.trod enc Try.prog W 0 (fun _ => true) true n 22 [x0] = some y0 := by
      have t : DataW.trod enc Try.prog W 0 (fun _ => true) true n 22 (List.take (Try.prog.cellsOf 22) (List.drop 0 [x0, x1, x2, x3, x4, x5, x6])) = some y0 := hfs 0 _ rfl
      rw [hzu32] at t
      exact t
    have t1 : DataW.trod enc Try.prog W 0 (fun _ => true) true n 2 [x1] = some y1 := by
      have t : DataW.trod enc Try.prog W 0 (fun _ => true) true n 2 (List.take (Try.prog.cellsOf 2) (List.drop 1 [x0, x1, x2, x3, x4, x5, x6])) = some y1 := hfs 1 _ rfl
      rw [hzi64] at t
      exact t
    have t2 : DataW.trod enc Try.prog W 0 (fun _ => true) true n 2 [x2] = some y2 := by
      have t : DataW.trod enc Try.prog W 0 (fun _ => true) true n 2 (List.take (Try.prog.cellsOf 2) (List.drop 2 [x0, x1, x2, x3, x4, x5, x6])) = some y2 := hfs 2 _ rfl
      rw [hzi64] at t
      exact t
    have t3 : DataW.trod enc Try.prog W 0 (fun _ => true) true n 2 [x3] = some y3 := by
      have t : DataW.trod enc Try.prog W 0 (fun _ => true) true n 2 (List.take (Try.prog.cellsOf 2) (List.drop 3 [x0, x1, x2, x3, x4, x5, x6])) = some y3 := hfs 3 _ rfl
      rw [hzi64] at t
      exact t
    have t4 : DataW.trod enc Try.prog W 0 (fun _ => true) true n 2 [x4] = some y4 := by
      have t : DataW.trod enc Try.prog W 0 (fun _ => true) true n 2 (List.take (Try.prog.cellsOf 2) (List.drop 4 [x0, x1, x2, x3, x4, x5, x6])) = some y4 := hfs 4 _ rfl
      rw [hzi64] at t
      exact t
    have t5 : DataW.trod enc Try.prog W 0 (fun _ => true) true n 2 [x5] = some y5 := by
      have t : DataW.trod enc Try.prog W 0 (fun _ => true) true n 2 (List.take (Try.prog.cellsOf 2) (List.drop 5 [x0, x1, x2, x3, x4, x5, x6])) = some y5 := hfs 5 _ rfl
      rw [hzi64] at t
      exact t
    have t6 : DataW.trod enc Try.prog W 0 (fun _ => true) true n 23 [x6] = some y6 := by
      have t : DataW.trod enc Try.prog W 0 (fun _ => true) true n 23 (List.take (Try.prog.cellsOf 23) (List.drop 6 [x0, x1, x2, x3, x4, x5, x6])) = some y6 := hfs 6 _ rfl
      rw [hztiers] at t
      exact t
    obtain ⟨a0, g0, _, w0⟩ := DataW.trod_int Try.underlying22 t0
    obtain ⟨a1, g1, _, w1⟩ := DataW.trod_int Try.underlying2 t1
    obtain ⟨a2, g2, _, w2⟩ := DataW.trod_int Try.underlying2 t2
    obtain ⟨a3, g3, _, w3⟩ := DataW.trod_int Try.underlying2 t3
    obtain ⟨a4, g4, _, w4⟩ := DataW.trod_int Try.underlying2 t4
    obtain ⟨a5, g5, _, w5⟩ := DataW.trod_int Try.underlying2 t5
    obtain ⟨A, len, cap, g6, L, e1, e2, e3, e4⟩ := tiers_open t6
    simp only [List.cons.injEq, and_true] at g0 g1 g2 g3 g4 g5 g6
    subst g0; subst g1; subst g2; subst g3; subst g4; subst g5; subst g6; subst e1
    exact ⟨a0, a1, a2, a3, a4, a5, A, cap, L, rfl, wf_u32 _ w0, ⟨wf_i64 _ w1, wf_i64 _ w2, wf_i64 _ w3, wf_i64 _ w4, wf_i64 _ w5⟩, e2, e3, e4⟩
set_option maxRecDepth 100000 in
theorem reply_come {H : Type} {enc : TypeId × Value → H} {W : World} {v : Value} {d : DataW H} {p : List MemPlace} {base : Nat} (hv : Value.okWide Try.prog W .any base 42 v)
    (h : DataW.Trod enc Try.prog W 0 (fun _ => true) true 42 v d p) : ∃ e d n m t, v = .agg #[.int .i64 e, .int .u32 d, .int .i64 n, .int .i64 m, .string t] ∧ I64 e ∧ (0 ≤ d ∧ d < 4294967296) ∧ I64 n ∧ I64 m := by
  obtain ⟨cs, rfl, hsz⟩ := okWide_struct Try.underlying42 hv
  obtain ⟨fuel, hf⟩ := h
  have hN : Try.prog.cellsOf 42 = 5 := by kernel_rfl
  rw [hN] at hsz
  obtain ⟨l, rfl⟩ : ∃ l : List Value, cs = l.toArray := ⟨cs.toList, by simp⟩
  have hll : l.length = 5 := by simpa using hsz
  match l, hll with
  | [x0, x1, x2, x3, x4], _ =>
    obtain ⟨xs, n, _, hx, hl, hlen, hfs⟩ := DataW.trod_struct Try.underlying42 hf
    have hzerr : Try.prog.cellsOf 30 = 1 := by kernel_rfl
    have hzi64 : Try.prog.cellsOf 2 = 1 := by kernel_rfl
    have hzstr : Try.prog.cellsOf 9 = 1 := by kernel_rfl
    have hzu32 : Try.prog.cellsOf 22 = 1 := by kernel_rfl
    have hxl : xs.length = 5 := hlen
    match xs, hxl with
    | [y0, y1, y2, y3, y4], _ =>
      have t0 : DataW.trod enc Try.prog W 0 (fun _ => true) true n 30 [x0] = some y0 := by
        have t : DataW.trod enc Try.prog W 0 (fun _ => true) true n 30 (List.take (Try.prog.cellsOf 30) (List.drop 0 [x0, x1, x2, x3, x4])) = some y0 := hfs 0 _ rfl
        rw [hzerr] at t
        exact t
      have t1 : DataW.trod enc Try.prog W 0 (fun _ => true) true n 22 [x1] = some y1 := by
        have t : DataW.trod enc Try.prog W 0 (fun _ => true) true n 22 (List.take (Try.prog.cellsOf 22) (List.drop 1 [x0, x1, x2, x3, x4])) = some y1 := hfs 1 _ rfl
        rw [hzu32] at t
        exact t
      have t2 : DataW.trod enc Try.prog W 0 (fun _ => true) true n 2 [x2] = some y2 := by
        have t : DataW.trod enc Try.prog W 0 (fun _ => true) true n 2 (List.take (Try.prog.cellsOf 2) (List.drop 2 [x0, x1, x2, x3, x4])) = some y2 := hfs 2 _ rfl
        rw [hzi64] at t
        exact t
      have t3 : DataW.trod enc Try.prog W 0 (fun _ => true) true n 2 [x3] = some y3 := by
        have t : DataW.trod enc Try.prog W 0 (fun _ => true) true n 2 (List.take (Try.prog.cellsOf 2) (List.drop 3 [x0, x1, x2, x3, x4])) = some y3 := hfs 3 _ rfl
        rw [hzi64] at t
        exact t
      have t4 : DataW.trod enc Try.prog W 0 (fun _ => true) true n 9 [x4] = some y4 := by
        have t : DataW.trod enc Try.prog W 0 (fun _ => true) true n 9 (List.take (Try.prog.cellsOf 9) (List.drop 4 [x0, x1, x2, x3, x4])) = some y4 := hfs 4 _ rfl
        rw [hzstr] at t
        exact t
      obtain ⟨a0, g0, _, w0⟩ := DataW.trod_int Try.underlying30 t0
      obtain ⟨a1, g1, _, w1⟩ := DataW.trod_int Try.underlying22 t1
      obtain ⟨a2, g2, _, w2⟩ := DataW.trod_int Try.underlying2 t2
      obtain ⟨a3, g3, _, w3⟩ := DataW.trod_int Try.underlying2 t3
      obtain ⟨a4, g4, _, w4⟩ := DataW.trod_string Try.underlying9 t4
      simp only [List.cons.injEq, and_true] at g0 g1 g2 g3 g4
      subst g0; subst g1; subst g2; subst g3; subst g4
      exact ⟨a0, a1, a2, a3, a4, rfl, wf_i64 _ w0, wf_u32 _ w1, wf_i64 _ w2, wf_i64 _ w3⟩
set_option maxRecDepth 100000 in
theorem request_come {H : Type} {enc : TypeId × Value → H} {W : World} {v : Value} {d : DataW H} {p : List MemPlace} {base : Nat} (hv : Value.okWide Try.prog W .any base 27 v)
    (h : DataW.Trod enc Try.prog W 0 (fun _ => true) true 27 v d p) : ∃ x : S27, ∃ A c, v = .agg #[.int .u8 x.f0, .int .u32 x.f1, .string x.f2, .int .u32 x.f3, .int .i64 x.f4, .int .i64 x.f5, .int .i64 x.f6, .string x.f7, .int .u32 x.f8.f0, .int .i64 x.f8.f1, .int .i64 x.f8.f2, .int .i64 x.f8.f3, .int .i64 x.f8.f4, .int .i64 x.f8.f5, .slice A x.f8.f6.length c] ∧ (0 ≤ x.f0 ∧ x.f0 < 256) ∧ (0 ≤ x.f1 ∧ x.f1 < 4294967296) ∧ (0 ≤ x.f3 ∧ x.f3 < 4294967296) ∧ (I64 x.f4 ∧ I64 x.f5 ∧ I64 x.f6) ∧ (0 ≤ x.f8.f0 ∧ x.f8.f0 < 4294967296) ∧ (I64 x.f8.f1 ∧ I64 x.f8.f2 ∧ I64 x.f8.f3 ∧ I64 x.f8.f4 ∧ I64 x.f8.f5) ∧ x.f8.f6.length ≤ c ∧ (∀ t ∈ x.f8.f6, I64 t.f0 ∧ I64 t.f1) ∧ Kd.C k39 W A x.f8.f6.length x.f8.f6 := by
  obtain ⟨cs, rfl, hsz⟩ := okWide_struct Try.underlying27 hv
  obtain ⟨fuel, hf⟩ := h
  have hN : Try.prog.cellsOf 27 = 15 := by kernel_rfl
  rw [hN] at hsz
  obtain ⟨l, rfl⟩ : ∃ l : List Value, cs = l.toArray := ⟨cs.toList, by simp⟩
  have hll : l.length = 15 := by simpa using hsz
  match l, hll with
  | [x0, x1, x2, x3, x4, x5, x6, x7, x8, x9, x10, x11, x12, x13, x14], _ =>
    obtain ⟨xs, n, _, hx, hl, hlen, hfs⟩ := DataW.trod_struct Try.underlying27 hf
    have hzi64 : Try.prog.cellsOf 2 = 1 := by kernel_rfl
    have hzplan : Try.prog.cellsOf 25 = 7 := by kernel_rfl
    have hzstr : Try.prog.cellsOf 9 = 1 := by kernel_rfl
    have hzu32 : Try.prog.cellsOf 22 = 1 := by kernel_rfl
    have hzu8 : Try.prog.cellsOf 5 = 1 := by kernel_rfl
    have hxl : xs.length = 9 := hlen
    match xs, hxl with
    | [y0, y1, y2, y3, y4, y5, y6, y7, y8], _ =>
      have t0 : DataW.trod enc Try.prog W 0 (fun _ => true) true n 5 [x0] = some y0 := by
        have t : DataW.trod enc Try.prog W 0 (fun _ => true) true n 5 (List.take (Try.prog.cellsOf 5) (List.drop 0 [x0, x1, x2, x3, x4, x5, x6, x7, x8, x9, x10, x11, x12, x13, x14])) = some y0 := hfs 0 _ rfl
        rw [hzu8] at t
        exact t
      have t1 : DataW.trod enc Try.prog W 0 (fun _ => true) true n 22 [x1] = some y1 := by
        have t : DataW.trod enc Try.prog W 0 (fun _ => true) true n 22 (List.take (Try.prog.cellsOf 22) (List.drop 1 [x0, x1, x2, x3, x4, x5, x6, x7, x8, x9, x10, x11, x12, x13, x14])) = some y1 := hfs 1 _ rfl
        rw [hzu32] at t
        exact t
      have t2 : DataW.trod enc Try.prog W 0 (fun _ => true) true n 9 [x2] = some y2 := by
        have t : DataW.trod enc Try.prog W 0 (fun _ => true) true n 9 (List.take (Try.prog.cellsOf 9) (List.drop 2 [x0, x1, x2, x3, x4, x5, x6, x7, x8, x9, x10, x11, x12, x13, x14])) = some y2 := hfs 2 _ rfl
        rw [hzstr] at t
        exact t
      have t3 : DataW.trod enc Try.prog W 0 (fun _ => true) true n 22 [x3] = some y3 := by
        have t : DataW.trod enc Try.prog W 0 (fun _ => true) true n 22 (List.take (Try.prog.cellsOf 22) (List.drop 3 [x0, x1, x2, x3, x4, x5, x6, x7, x8, x9, x10, x11, x12, x13, x14])) = some y3 := hfs 3 _ rfl
        rw [hzu32] at t
        exact t
      have t4 : DataW.trod enc Try.prog W 0 (fun _ => true) true n 2 [x4] = some y4 := by
        have t : DataW.trod enc Try.prog W 0 (fun _ => true) true n 2 (List.take (Try.prog.cellsOf 2) (List.drop 4 [x0, x1, x2, x3, x4, x5, x6, x7, x8, x9, x10, x11, x12, x13, x14])) = some y4 := hfs 4 _ rfl
        rw [hzi64] at t
        exact t
      have t5 : DataW.trod enc Try.prog W 0 (fun _ => true) true n 2 [x5] = some y5 := by
        have t : DataW.trod enc Try.prog W 0 (fun _ => true) true n 2 (List.take (Try.prog.cellsOf 2) (List.drop 5 [x0, x1, x2, x3, x4, x5, x6, x7, x8, x9, x10, x11, x12, x13, x14])) = some y5 := hfs 5 _ rfl
        rw [hzi64] at t
        exact t
      have t6 : DataW.trod enc Try.prog W 0 (fun _ => true) true n 2 [x6] = some y6 := by
        have t : DataW.trod enc Try.prog W 0 (fun _ => true) true n 2 (List.take (Try.prog.cellsOf 2) (List.drop 6 [x0, x1, x2, x3, x4, x5, x6, x7, x8, x9, x10, x11, x12, x13, x14])) = some y6 := hfs 6 _ rfl
        rw [hzi64] at t
        exact t
      have t7 : DataW.trod enc Try.prog W 0 (fun _ => true) true n 9 [x7] = some y7 := by
        have t : DataW.trod enc Try.prog W 0 (fun _ => true) true n 9 (List.take (Try.prog.cellsOf 9) (List.drop 7 [x0, x1, x2, x3, x4, x5, x6, x7, x8, x9, x10, x11, x12, x13, x14])) = some y7 := hfs 7 _ rfl
        rw [hzstr] at t
        exact t
      have t8 : DataW.trod enc Try.prog W 0 (fun _ => true) true n 25 [x8, x9, x10, x11, x12, x13, x14] = some y8 := by
        have t : DataW.trod enc Try.prog W 0 (fun _ => true) true n 25 (List.take (Try.prog.cellsOf 25) (List.drop 8 [x0, x1, x2, x3, x4, x5, x6, x7, x8, x9, x10, x11, x12, x13, x14])) = some y8 := hfs 8 _ rfl
        rw [hzplan] at t
        exact t
      obtain ⟨a0, g0, _, w0⟩ := DataW.trod_int Try.underlying5 t0
      obtain ⟨a1, g1, _, w1⟩ := DataW.trod_int Try.underlying22 t1
      obtain ⟨a2, g2, _, w2⟩ := DataW.trod_string Try.underlying9 t2
      obtain ⟨a3, g3, _, w3⟩ := DataW.trod_int Try.underlying22 t3
      obtain ⟨a4, g4, _, w4⟩ := DataW.trod_int Try.underlying2 t4
      obtain ⟨a5, g5, _, w5⟩ := DataW.trod_int Try.underlying2 t5
      obtain ⟨a6, g6, _, w6⟩ := DataW.trod_int Try.underlying2 t6
      obtain ⟨a7, g7, _, w7⟩ := DataW.trod_string Try.underlying9 t7
      obtain ⟨p0, p1, p2, p3, p4, p5, A, cap, L, g8, r0, r1, e2, e3, e4⟩ := plan_fields t8
      simp only [List.cons.injEq, and_true] at g0 g1 g2 g3 g4 g5 g6 g7 g8
      subst g0; subst g1; subst g2; subst g3; subst g4; subst g5; subst g6; subst g7; (obtain ⟨rfl, rfl, rfl, rfl, rfl, rfl, rfl⟩ := g8)
      exact ⟨⟨a0, a1, a2, a3, a4, a5, a6, a7, ⟨p0, p1, p2, p3, p4, p5, L⟩⟩, A, cap, rfl, wf_u8m _ w0, wf_u32 _ w1, wf_u32 _ w3, ⟨wf_i64 _ w4, wf_i64 _ w5, wf_i64 _ w6⟩, r0, r1, e2, e3, e4⟩
end Go.Proofs.Ytanjkhdagegapaa.Ext
end

section
/- Bytes that come in, opened. -/
namespace Go.Proofs.Ytanjkhdagegapaa.Ext
open Go.RowKit Go.ChangeShapes Go.WideShapes Go.Proofs.YtanjkhdagegapaaW.PrintWords Go.Proofs.YtanjkhdagegapaaW.PrintLast Go.Proofs.YtanjkhdagegapaaW.PrintMore Go.Proofs.YtanjkhdagegapaaW.Hand
set_option linter.unusedVariables false
theorem wf_byteO (c : Int) (h : (Lit.int .u8 c).wf = true) : IsByte c := by
  have h1 : IntKind.u8.min = 0 := rfl
  have h2 : IntKind.u8.max = 255 := rfl
  simp only [Lit.wf, Bool.and_eq_true, decide_eq_true_eq, h1, h2] at h
  unfold IsByte; omega
theorem bytes_come {H : Type} {enc : TypeId × Value → H} {W : World} {a : Option Addr} {len cap : Nat} {d : DataW H} {p : List MemPlace}
    (h : DataW.Trod enc Try.prog W 0 (fun _ => true) true 29 (.slice a len cap) d p) : ∃ l, l.length = len ∧ Kd.C (Kd.int .u8) W a l.length l ∧ l.length ≤ cap ∧ ∀ x ∈ l, IsByte x := by
  have w0 : (a = none ∧ len = 0 ∧ cap = 0 ∧ ([] : List Int) = []) ∨ ∃ z0 : List Int, ∃ x, a = some x ∧ len ≤ cap ∧ cap ≤ maxLen ∧ z0.length = cap ∧ (∀ i, i < z0.length → W.cell? (x.add i) = some (.int .u8 (z0.getD i 0))) ∧ ∀ n ∈ z0, (Lit.int .u8 n).wf = true := by
    obtain ⟨fuel, hf⟩ := h
    rcases open_ints Try.underlying29 Try.underlying5 (by kernel_rfl) hf with ⟨hcs, _⟩ | ⟨x, l, c, zs, hcs, _, hl, hm, hz, _, hcell, hwz⟩
    · simp [Value.cells] at hcs
      obtain ⟨rfl, rfl, rfl⟩ := hcs
      exact .inl ⟨rfl, rfl, rfl, rfl⟩
    · simp [Value.cells] at hcs
      obtain ⟨rfl, rfl, rfl⟩ := hcs
      exact .inr ⟨zs, _, rfl, hl, hm, by simpa using hz, hcell, hwz⟩
  have w1 : ∃ z0 : List Int, (a = none ∧ len = 0 ∧ cap = 0 ∧ z0 = []) ∨ ∃ x, a = some x ∧ len ≤ cap ∧ cap ≤ maxLen ∧ z0.length = cap ∧ (∀ i, i < z0.length → W.cell? (x.add i) = some (.int .u8 (z0.getD i 0))) ∧ ∀ n ∈ z0, (Lit.int .u8 n).wf = true := by
    rcases w0 with h | ⟨z0, h⟩
    · exact ⟨[], .inl h⟩
    · exact ⟨z0, .inr h⟩
  obtain ⟨z0, w1⟩ := w1
  obtain ⟨l0, rfl, hr0, hm0, hw0, hc0⟩ := ReadsInt.ofRowC w1
  exact ⟨l0, rfl, Kd.C_of_reads (d := (0 : Int)) (h1 := fun _ => rfl) hr0, hc0, fun c hc => wf_byteO c (hw0 c hc)⟩
end Go.Proofs.Ytanjkhdagegapaa.Ext
end
