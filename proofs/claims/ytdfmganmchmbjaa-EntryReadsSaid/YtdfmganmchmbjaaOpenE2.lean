/- Invoices that come in, opened (cut from what mkopen.py prints). -/
import Derived.Test.YtdfmganmchmbjaaOpenE
namespace Go.Proofs.Ytdfmganmchmbjaa.Ext
open Go.RowKit Go.ChangeShapes Go.WideShapes Go.Proofs.YtdfmganmchmbjaaW.PrintWords Go.Proofs.YtdfmganmchmbjaaW.PrintLast Go.Proofs.YtdfmganmchmbjaaW.PrintMore Go.Proofs.Ytdfmganmchmbjaa.PZ
set_option linter.unusedVariables false
def LOk (t : S53) : Prop := (0 ≤ t.f0 ∧ t.f0 < 256) ∧ (0 ≤ t.f1 ∧ t.f1 < 4294967296) ∧ (-9223372036854775808 ≤ t.f2 ∧ t.f2 ≤ 9223372036854775807) ∧ (-9223372036854775808 ≤ t.f3 ∧ t.f3 ≤ 9223372036854775807) ∧ (-9223372036854775808 ≤ t.f4 ∧ t.f4 ≤ 9223372036854775807)
instance : Inhabited S53 := ⟨z53⟩
set_option maxRecDepth 100000 in
theorem lines_open {H : Type} {enc : TypeId × Value → H} {W : World} {fuel : Nat} {cs : List Value} {d : DataW H} {p : List MemPlace}
    (hf : DataW.trod enc Try.prog W 0 (fun _ => true) true fuel 28 cs = some (d, p)) : ∃ a len cap, cs = [.slice a len cap] ∧ ∃ L : List S53, L.length = len ∧ len ≤ cap ∧ (∀ t ∈ L, LOk t) ∧ Kd.C k53 W a L.length L := by
  rcases Go.Deep.open_slice Try.underlying28 hf with ⟨hcs, _⟩ | ⟨ad, len, cap, m, n, D, Pl, hcs, _, hl, hm, hmm, _, hx⟩
  · exact ⟨_, _, _, hcs, [], rfl, Nat.le_refl _, fun p h => (by cases h), Kd.C_nil _ _⟩
  · refine ⟨_, _, _, hcs, ?_⟩
    have hlm : len ≤ m := by rw [hmm]; split <;> omega
    have ce : Try.prog.cellsOf 53 = 5 := by kernel_rfl
    have each : ∀ i, i < len → ∃ p : S53, LOk p ∧ W.cell? (ad.add (i * 5)) = some (.int .u8 p.f0) ∧ W.cell? (ad.add (i * 5 + 1)) = some (.int .u32 p.f1) ∧ W.cell? (ad.add (i * 5 + 2)) = some (.int .i64 p.f2) ∧ W.cell? (ad.add (i * 5 + 3)) = some (.int .i64 p.f3) ∧ W.cell? (ad.add (i * 5 + 4)) = some (.int .i64 p.f4) := by
      intro i hi
      obtain ⟨cs', h1, h2⟩ := hx i (by omega)
      rw [ce] at h1
      obtain ⟨_, hlen, hcell⟩ := World.cells?_some h1
      obtain ⟨xs, k, hk, hxy, _, hxl, hfs⟩ := DataW.trod_struct Try.underlying53 h2
      match xs, hxl, cs', hlen with
      | [y0, y1, y2, y3, y4], _, [x0, x1, x2, x3, x4], _ =>
        have t0 : DataW.trod enc Try.prog W 0 (fun _ => true) true k 5 [x0] = some y0 := by
          have t : DataW.trod enc Try.prog W 0 (fun _ => true) true k 5 (List.take (Try.prog.cellsOf 5) (List.drop 0 [x0, x1, x2, x3, x4])) = some y0 := hfs 0 _ rfl
          rw [show Try.prog.cellsOf 5 = 1 from by kernel_rfl] at t
          exact t
        have t1 : DataW.trod enc Try.prog W 0 (fun _ => true) true k 23 [x1] = some y1 := by
          have t : DataW.trod enc Try.prog W 0 (fun _ => true) true k 23 (List.take (Try.prog.cellsOf 23) (List.drop 1 [x0, x1, x2, x3, x4])) = some y1 := hfs 1 _ rfl
          rw [show Try.prog.cellsOf 23 = 1 from by kernel_rfl] at t
          exact t
        have t2 : DataW.trod enc Try.prog W 0 (fun _ => true) true k 2 [x2] = some y2 := by
          have t : DataW.trod enc Try.prog W 0 (fun _ => true) true k 2 (List.take (Try.prog.cellsOf 2) (List.drop 2 [x0, x1, x2, x3, x4])) = some y2 := hfs 2 _ rfl
          rw [show Try.prog.cellsOf 2 = 1 from by kernel_rfl] at t
          exact t
        have t3 : DataW.trod enc Try.prog W 0 (fun _ => true) true k 2 [x3] = some y3 := by
          have t : DataW.trod enc Try.prog W 0 (fun _ => true) true k 2 (List.take (Try.prog.cellsOf 2) (List.drop 3 [x0, x1, x2, x3, x4])) = some y3 := hfs 3 _ rfl
          rw [show Try.prog.cellsOf 2 = 1 from by kernel_rfl] at t
          exact t
        have t4 : DataW.trod enc Try.prog W 0 (fun _ => true) true k 2 [x4] = some y4 := by
          have t : DataW.trod enc Try.prog W 0 (fun _ => true) true k 2 (List.take (Try.prog.cellsOf 2) (List.drop 4 [x0, x1, x2, x3, x4])) = some y4 := hfs 4 _ rfl
          rw [show Try.prog.cellsOf 2 = 1 from by kernel_rfl] at t
          exact t
        obtain ⟨a0, g0, _, w0⟩ := DataW.trod_int Try.underlying5 t0
        obtain ⟨a1, g1, _, w1⟩ := DataW.trod_int Try.underlying23 t1
        obtain ⟨a2, g2, _, w2⟩ := DataW.trod_int Try.underlying2 t2
        obtain ⟨a3, g3, _, w3⟩ := DataW.trod_int Try.underlying2 t3
        obtain ⟨a4, g4, _, w4⟩ := DataW.trod_int Try.underlying2 t4
        simp only [List.cons.injEq, and_true] at g0 g1 g2 g3 g4
        subst g0; subst g1; subst g2; subst g3; subst g4
        have e0 := hcell 0 (by omega)
        have e1 := hcell 1 (by omega)
        have e2 := hcell 2 (by omega)
        have e3 := hcell 3 (by omega)
        have e4 := hcell 4 (by omega)
        rw [Go.Deep.add_add] at e0 e1 e2 e3 e4
        exact ⟨⟨a0, a1, a2, a3, a4⟩, ⟨wf_u8e _ w0, wf_u32e _ w1, wf_i64e _ w2, wf_i64e _ w3, wf_i64e _ w4⟩, by simpa using e0, by simpa using e1, by simpa using e2, by simpa using e3, by simpa using e4⟩
    obtain ⟨q, hq⟩ := Go.Deep.choose_lt each
    refine ⟨(List.range len).map q, by simp, hl, ?_, ?_⟩
    · intro p hp
      obtain ⟨i, hi, rfl⟩ := List.mem_map.1 hp
      exact (hq i (List.mem_range.1 hi)).1
    · have hlen : ((List.range len).map q).length = len := by simp
      rw [hlen]
      refine ⟨hlen, by simp only [maxLen] at hm; omega, fun _ => ⟨ad, rfl, fun j x hj => ?_⟩⟩
      have hjl : j < len := by
        have := (List.getElem?_eq_some_iff.1 hj).1
        simpa using this
      rw [List.getElem?_map, List.getElem?_range hjl] at hj
      simp only [Option.map_some, Option.some.injEq] at hj
      subst hj
      obtain ⟨_, e0, e1, e2, e3, e4⟩ := hq j hjl
      refine ⟨[.int .u8 (q j).f0, .int .u32 (q j).f1, .int .i64 (q j).f2, .int .i64 (q j).f3, .int .i64 (q j).f4], rfl, k53_mk W _, fun i u hi => ?_⟩
      have hz : k53.sz = 5 := rfl
      rw [hz]
      match i, hi with
      | 0, hi => simp at hi; subst hi; rw [Nat.add_zero]; exact e0
      | 1, hi => simp at hi; subst hi; exact e1
      | 2, hi => simp at hi; subst hi; exact e2
      | 3, hi => simp at hi; subst hi; exact e3
      | 4, hi => simp at hi; subst hi; exact e4
set_option maxRecDepth 100000 in
theorem invoice_come {H : Type} {enc : TypeId × Value → H} {W : World} {v : Value} {d : DataW H} {p : List MemPlace} {base : Nat} (hv : Value.okWide Try.prog W .any base 30 v)
    (h : DataW.Trod enc Try.prog W 0 (fun _ => true) true 30 v d p) : ∃ a0 a1 a2 a4 a5 A c, ∃ L : List S53, v = .agg #[.int .u32 a0, .int .u32 a1, .int .i64 a2, .slice A L.length c, .int .i64 a4, .int .i64 a5] ∧ (0 ≤ a0 ∧ a0 < 4294967296) ∧ (0 ≤ a1 ∧ a1 < 4294967296) ∧ (-9223372036854775808 ≤ a2 ∧ a2 ≤ 9223372036854775807) ∧ (-9223372036854775808 ≤ a4 ∧ a4 ≤ 9223372036854775807) ∧ (-9223372036854775808 ≤ a5 ∧ a5 ≤ 9223372036854775807) ∧ L.length ≤ c ∧ (∀ t ∈ L, LOk t) ∧ Kd.C k53 W A L.length L := by
  obtain ⟨cs, rfl, hsz⟩ := okWide_struct Try.underlying30 hv
  obtain ⟨fuel, hf⟩ := h
  obtain ⟨xs, n, _, hx, hl, hlen, hfs⟩ := DataW.trod_struct Try.underlying30 hf
  have h7 : Try.prog.cellsOf 30 = 6 := by kernel_rfl
  rw [h7] at hsz
  obtain ⟨l, rfl⟩ : ∃ l : List Value, cs = l.toArray := ⟨cs.toList, by simp⟩
  have hll : l.length = 6 := by simpa using hsz
  have hxl : xs.length = 6 := hlen
  match l, hll, xs, hxl with
  | [x0, x1, x2, x3, x4, x5], _, [y0, y1, y2, y3, y4, y5], _ =>
    have t0 : DataW.trod enc Try.prog W 0 (fun _ => true) true n 23 [x0] = some y0 := by
      have t : DataW.trod enc Try.prog W 0 (fun _ => true) true n 23 (List.take (Try.prog.cellsOf 23) (List.drop 0 [x0, x1, x2, x3, x4, x5])) = some y0 := hfs 0 _ rfl
      rw [show Try.prog.cellsOf 23 = 1 from by kernel_rfl] at t
      exact t
    have t1 : DataW.trod enc Try.prog W 0 (fun _ => true) true n 23 [x1] = some y1 := by
      have t : DataW.trod enc Try.prog W 0 (fun _ => true) true n 23 (List.take (Try.prog.cellsOf 23) (List.drop 1 [x0, x1, x2, x3, x4, x5])) = some y1 := hfs 1 _ rfl
      rw [show Try.prog.cellsOf 23 = 1 from by kernel_rfl] at t
      exact t
    have t2 : DataW.trod enc Try.prog W 0 (fun _ => true) true n 2 [x2] = some y2 := by
      have t : DataW.trod enc Try.prog W 0 (fun _ => true) true n 2 (List.take (Try.prog.cellsOf 2) (List.drop 2 [x0, x1, x2, x3, x4, x5])) = some y2 := hfs 2 _ rfl
      rw [show Try.prog.cellsOf 2 = 1 from by kernel_rfl] at t
      exact t
    have t3 : DataW.trod enc Try.prog W 0 (fun _ => true) true n 28 [x3] = some y3 := by
      have t : DataW.trod enc Try.prog W 0 (fun _ => true) true n 28 (List.take (Try.prog.cellsOf 28) (List.drop 3 [x0, x1, x2, x3, x4, x5])) = some y3 := hfs 3 _ rfl
      rw [show Try.prog.cellsOf 28 = 1 from by kernel_rfl] at t
      exact t
    have t4 : DataW.trod enc Try.prog W 0 (fun _ => true) true n 2 [x4] = some y4 := by
      have t : DataW.trod enc Try.prog W 0 (fun _ => true) true n 2 (List.take (Try.prog.cellsOf 2) (List.drop 4 [x0, x1, x2, x3, x4, x5])) = some y4 := hfs 4 _ rfl
      rw [show Try.prog.cellsOf 2 = 1 from by kernel_rfl] at t
      exact t
    have t5 : DataW.trod enc Try.prog W 0 (fun _ => true) true n 2 [x5] = some y5 := by
      have t : DataW.trod enc Try.prog W 0 (fun _ => true) true n 2 (List.take (Try.prog.cellsOf 2) (List.drop 5 [x0, x1, x2, x3, x4, x5])) = some y5 := hfs 5 _ rfl
      rw [show Try.prog.cellsOf 2 = 1 from by kernel_rfl] at t
      exact t
    obtain ⟨a0, g0, _, w0⟩ := DataW.trod_int Try.underlying23 t0
    obtain ⟨a1, g1, _, w1⟩ := DataW.trod_int Try.underlying23 t1
    obtain ⟨a2, g2, _, w2⟩ := DataW.trod_int Try.underlying2 t2
    obtain ⟨a4, g4, _, w4⟩ := DataW.trod_int Try.underlying2 t4
    obtain ⟨a5, g5, _, w5⟩ := DataW.trod_int Try.underlying2 t5
    obtain ⟨A, len, cap, g3, L, e1, e2, e3, e4⟩ := lines_open t3
    simp only [List.cons.injEq, and_true] at g0 g1 g2 g3 g4 g5
    subst g0; subst g1; subst g2; subst g3; subst g4; subst g5; subst e1
    exact ⟨a0, a1, a2, a4, a5, A, cap, L, rfl, wf_u32e _ w0, wf_u32e _ w1, wf_i64e _ w2, wf_i64e _ w4, wf_i64e _ w5, e2, e3, e4⟩
end Go.Proofs.Ytdfmganmchmbjaa.Ext
