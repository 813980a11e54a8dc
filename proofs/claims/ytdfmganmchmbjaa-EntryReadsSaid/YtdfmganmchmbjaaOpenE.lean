/- What comes in, opened (printed by mkopen.py). -/
import Derived.Test.YtdfmganmchmbjaaPZx0
import Derived.ChangeSame
import Derived.Deep.SlicePairs
import Derived.ChangeArms
namespace Go.Proofs.Ytdfmganmchmbjaa.Ext
open Go.RowKit Go.ChangeShapes Go.WideShapes Go.Proofs.YtdfmganmchmbjaaW.PrintWords Go.Proofs.YtdfmganmchmbjaaW.PrintLast Go.Proofs.YtdfmganmchmbjaaW.PrintMore Go.Proofs.Ytdfmganmchmbjaa.PZ
set_option linter.unusedVariables false
instance : Inhabited S37 := ⟨z37⟩
theorem wf_u64e (a : Int) (h : (Lit.int .u64 a).wf = true) : 0 ≤ a ∧ a < 18446744073709551616 := by
  have h1 : IntKind.u64.min = 0 := rfl
  have h2 : IntKind.u64.max = 18446744073709551615 := rfl
  simp only [Lit.wf, Bool.and_eq_true, decide_eq_true_eq, h1, h2] at h
  omega
theorem wf_i64e (a : Int) (h : (Lit.int .i64 a).wf = true) : -9223372036854775808 ≤ a ∧ a ≤ 9223372036854775807 := by
  have h1 : IntKind.i64.min = -9223372036854775808 := rfl
  have h2 : IntKind.i64.max = 9223372036854775807 := rfl
  simp only [Lit.wf, Bool.and_eq_true, decide_eq_true_eq, h1, h2] at h
  omega
theorem wf_u32e (a : Int) (h : (Lit.int .u32 a).wf = true) : 0 ≤ a ∧ a < 4294967296 := by
  have h1 : IntKind.u32.min = 0 := rfl
  have h2 : IntKind.u32.max = 4294967295 := rfl
  simp only [Lit.wf, Bool.and_eq_true, decide_eq_true_eq, h1, h2] at h
  omega
theorem wf_u8e (a : Int) (h : (Lit.int .u8 a).wf = true) : 0 ≤ a ∧ a < 256 := by
  have h1 : IntKind.u8.min = 0 := rfl
  have h2 : IntKind.u8.max = 255 := rfl
  simp only [Lit.wf, Bool.and_eq_true, decide_eq_true_eq, h1, h2] at h
  omega
def POk (t : S37) : Prop := t.f0.size ≤ 9223372036854775807 ∧ -9223372036854775808 ≤ t.f1 ∧ t.f1 ≤ 9223372036854775807
theorem parts_open {H : Type} {enc : TypeId × Value → H} {W : World} {fuel : Nat} {cs : List Value} {d : DataW H} {p : List MemPlace}
    (hf : DataW.trod enc Try.prog W 0 (fun _ => true) true fuel 24 cs = some (d, p)) : ∃ a len cap, cs = [.slice a len cap] ∧ ∃ L : List S37, L.length = len ∧ len ≤ cap ∧ (∀ t ∈ L, POk t) ∧ Kd.C k37 W a L.length L := by
  rcases Go.Deep.open_slice_pairs Try.underlying24 Try.underlying37 (by kernel_rfl) rfl rfl (by kernel_rfl) (by kernel_rfl) hf with ⟨hcs, _⟩ | ⟨ad, len, cap, m, n, V0, V1, D0, D1, P0, P1, hcs, _, hl, hm, hmm, _, hx⟩
  · exact ⟨_, _, _, hcs, [], rfl, Nat.le_refl _, fun p h => (by cases h), Kd.C_nil _ _⟩
  · refine ⟨_, _, _, hcs, ?_⟩
    have hlm : len ≤ m := by rw [hmm]; split <;> omega
    have each : ∀ i, i < len → ∃ p : S37, POk p ∧ W.cell? (ad.add (i * 2)) = some (.string p.f0) ∧ W.cell? (ad.add (i * 2 + 1)) = some (.int .i64 p.f1) := by
      intro i hi
      obtain ⟨e0, e1, t0, t1⟩ := hx i (by omega)
      obtain ⟨c, h0, _, w0⟩ := DataW.trod_string Try.underlying9 t0
      obtain ⟨z, h1, _, w1⟩ := DataW.trod_int Try.underlying2 t1
      simp only [List.cons.injEq, and_true] at h0 h1
      rw [h0] at e0
      rw [h1] at e1
      exact ⟨⟨c, z⟩, ⟨w0, wf_i64e _ w1⟩, e0, e1⟩
    obtain ⟨q, hq⟩ := Go.Deep.choose_lt each
    refine ⟨(List.range len).map q, by simp, hl, ?_, ?_⟩
    · intro p hp
      obtain ⟨i, hi, rfl⟩ := List.mem_map.1 hp
      exact (hq i (List.mem_range.1 hi)).1
    · have hlen : ((List.range len).map q).length = len := by simp
      rw [hlen]
      refine ⟨hlen, by simp only [maxLen] at hm; omega, fun _ => ⟨ad, rfl, fun j x hj => ?_⟩⟩
      have hjl : j < len := by
        have := (List.getElem?_eq_some_iff.1 hj).1
        simpa using this
      rw [List.getElem?_map, List.getElem?_range hjl] at hj
      simp only [Option.map_some, Option.some.injEq] at hj
      subst hj
      have e0 := (hq j hjl).2.1
      have e1 := (hq j hjl).2.2
      refine ⟨[.string (q j).f0, .int .i64 (q j).f1], rfl, k37_mk W _, fun i u hi => ?_⟩
      have hz : k37.sz = 2 := rfl
      rw [hz]
      match i, hi with
      | 0, hi => simp at hi; subst hi; rw [Nat.add_zero]; exact e0
      | 1, hi => simp at hi; subst hi; exact e1
set_option maxRecDepth 100000 in
theorem posting_come {H : Type} {enc : TypeId × Value → H} {W : World} {v : Value} {d : DataW H} {p : List MemPlace} {base : Nat} (hv : Value.okWide Try.prog W .any base 26 v)
    (h : DataW.Trod enc Try.prog W 0 (fun _ => true) true 26 v d p) : ∃ a0 a1 a2 A c, ∃ L : List S37, v = .agg #[.int .u64 a0, .int .i64 a1, .int .u32 a2, .slice A L.length c] ∧ (0 ≤ a0 ∧ a0 < 18446744073709551616) ∧ (-9223372036854775808 ≤ a1 ∧ a1 ≤ 9223372036854775807) ∧ (0 ≤ a2 ∧ a2 < 4294967296) ∧ L.length ≤ c ∧ (∀ t ∈ L, POk t) ∧ Kd.C k37 W A L.length L := by
  obtain ⟨cs, rfl, hsz⟩ := okWide_struct Try.underlying26 hv
  obtain ⟨fuel, hf⟩ := h
  obtain ⟨xs, n, _, hx, hl, hlen, hfs⟩ := DataW.trod_struct Try.underlying26 hf
  have h7 : Try.prog.cellsOf 26 = 4 := by kernel_rfl
  rw [h7] at hsz
  obtain ⟨l, rfl⟩ : ∃ l : List Value, cs = l.toArray := ⟨cs.toList, by simp⟩
  have hll : l.length = 4 := by simpa using hsz
  have hxl : xs.length = 4 := hlen
  match l, hll, xs, hxl with
  | [x0, x1, x2, x3], _, [y0, y1, y2, y3], _ =>
    have t0 : DataW.trod enc Try.prog W 0 (fun _ => true) true n 22 [x0] = some y0 := by
      have t : DataW.trod enc Try.prog W 0 (fun _ => true) true n 22 (List.take (Try.prog.cellsOf 22) (List.drop 0 [x0, x1, x2, x3])) = some y0 := hfs 0 _ rfl
      rw [show Try.prog.cellsOf 22 = 1 from by kernel_rfl] at t
      exact t
    have t1 : DataW.trod enc Try.prog W 0 (fun _ => true) true n 2 [x1] = some y1 := by
      have t : DataW.trod enc Try.prog W 0 (fun _ => true) true n 2 (List.take (Try.prog.cellsOf 2) (List.drop 1 [x0, x1, x2, x3])) = some y1 := hfs 1 _ rfl
      rw [show Try.prog.cellsOf 2 = 1 from by kernel_rfl] at t
      exact t
    have t2 : DataW.trod enc Try.prog W 0 (fun _ => true) true n 23 [x2] = some y2 := by
      have t : DataW.trod enc Try.prog W 0 (fun _ => true) true n 23 (List.take (Try.prog.cellsOf 23) (List.drop 2 [x0, x1, x2, x3])) = some y2 := hfs 2 _ rfl
      rw [show Try.prog.cellsOf 23 = 1 from by kernel_rfl] at t
      exact t
    have t3 : DataW.trod enc Try.prog W 0 (fun _ => true) true n 24 [x3] = some y3 := by
      have t : DataW.trod enc Try.prog W 0 (fun _ => true) true n 24 (List.take (Try.prog.cellsOf 24) (List.drop 3 [x0, x1, x2, x3])) = some y3 := hfs 3 _ rfl
      rw [show Try.prog.cellsOf 24 = 1 from by kernel_rfl] at t
      exact t
    obtain ⟨a0, g0, _, w0⟩ := DataW.trod_int Try.underlying22 t0
    obtain ⟨a1, g1, _, w1⟩ := DataW.trod_int Try.underlying2 t1
    obtain ⟨a2, g2, _, w2⟩ := DataW.trod_int Try.underlying23 t2
    obtain ⟨A, len, cap, g3, L, e1, e2, e3, e4⟩ := parts_open t3
    simp only [List.cons.injEq, and_true] at g0 g1 g2 g3
    subst g0; subst g1; subst g2; subst g3; subst e1
    exact ⟨a0, a1, a2, A, cap, L, rfl, wf_u64e _ w0, wf_i64e _ w1, wf_u32e _ w2, e2, e3, e4⟩
set_option maxRecDepth 100000 in
theorem lease_come {H : Type} {enc : TypeId × Value → H} {W : World} {v : Value} {d : DataW H} {p : List MemPlace} {base : Nat} (hv : Value.okWide Try.prog W .any base 40 v)
    (h : DataW.Trod enc Try.prog W 0 (fun _ => true) true 40 v d p) : ∃ a0 a1 a2 a3 a4, v = .agg #[.int .u32 a0, .int .i64 a1, .int .i64 a2, .int .i64 a3, .int .i64 a4] ∧ (0 ≤ a0 ∧ a0 < 4294967296) ∧ (-9223372036854775808 ≤ a1 ∧ a1 ≤ 9223372036854775807) ∧ (-9223372036854775808 ≤ a2 ∧ a2 ≤ 9223372036854775807) ∧ (-9223372036854775808 ≤ a3 ∧ a3 ≤ 9223372036854775807) ∧ (-9223372036854775808 ≤ a4 ∧ a4 ≤ 9223372036854775807) := by
  obtain ⟨cs, rfl, hsz⟩ := okWide_struct Try.underlying40 hv
  obtain ⟨fuel, hf⟩ := h
  obtain ⟨xs, n, _, hx, hl, hlen, hfs⟩ := DataW.trod_struct Try.underlying40 hf
  have h7 : Try.prog.cellsOf 40 = 5 := by kernel_rfl
  rw [h7] at hsz
  obtain ⟨l, rfl⟩ : ∃ l : List Value, cs = l.toArray := ⟨cs.toList, by simp⟩
  have hll : l.length = 5 := by simpa using hsz
  have hxl : xs.length = 5 := hlen
  match l, hll, xs, hxl with
  | [x0, x1, x2, x3, x4], _, [y0, y1, y2, y3, y4], _ =>
    have t0 : DataW.trod enc Try.prog W 0 (fun _ => true) true n 23 [x0] = some y0 := by
      have t : DataW.trod enc Try.prog W 0 (fun _ => true) true n 23 (List.take (Try.prog.cellsOf 23) (List.drop 0 [x0, x1, x2, x3, x4])) = some y0 := hfs 0 _ rfl
      rw [show Try.prog.cellsOf 23 = 1 from by kernel_rfl] at t
      exact t
    have t1 : DataW.trod enc Try.prog W 0 (fun _ => true) true n 2 [x1] = some y1 := by
      have t : DataW.trod enc Try.prog W 0 (fun _ => true) true n 2 (List.take (Try.prog.cellsOf 2) (List.drop 1 [x0, x1, x2, x3, x4])) = some y1 := hfs 1 _ rfl
      rw [show Try.prog.cellsOf 2 = 1 from by kernel_rfl] at t
      exact t
    have t2 : DataW.trod enc Try.prog W 0 (fun _ => true) true n 2 [x2] = some y2 := by
      have t : DataW.trod enc Try.prog W 0 (fun _ => true) true n 2 (List.take (Try.prog.cellsOf 2) (List.drop 2 [x0, x1, x2, x3, x4])) = some y2 := hfs 2 _ rfl
      rw [show Try.prog.cellsOf 2 = 1 from by kernel_rfl] at t
      exact t
    have t3 : DataW.trod enc Try.prog W 0 (fun _ => true) true n 2 [x3] = some y3 := by
      have t : DataW.trod enc Try.prog W 0 (fun _ => true) true n 2 (List.take (Try.prog.cellsOf 2) (List.drop 3 [x0, x1, x2, x3, x4])) = some y3 := hfs 3 _ rfl
      rw [show Try.prog.cellsOf 2 = 1 from by kernel_rfl] at t
      exact t
    have t4 : DataW.trod enc Try.prog W 0 (fun _ => true) true n 2 [x4] = some y4 := by
      have t : DataW.trod enc Try.prog W 0 (fun _ => true) true n 2 (List.take (Try.prog.cellsOf 2) (List.drop 4 [x0, x1, x2, x3, x4])) = some y4 := hfs 4 _ rfl
      rw [show Try.prog.cellsOf 2 = 1 from by kernel_rfl] at t
      exact t
    obtain ⟨a0, g0, _, w0⟩ := DataW.trod_int Try.underlying23 t0
    obtain ⟨a1, g1, _, w1⟩ := DataW.trod_int Try.underlying2 t1
    obtain ⟨a2, g2, _, w2⟩ := DataW.trod_int Try.underlying2 t2
    obtain ⟨a3, g3, _, w3⟩ := DataW.trod_int Try.underlying2 t3
    obtain ⟨a4, g4, _, w4⟩ := DataW.trod_int Try.underlying2 t4
    simp only [List.cons.injEq, and_true] at g0 g1 g2 g3 g4
    subst g0; subst g1; subst g2; subst g3; subst g4
    exact ⟨a0, a1, a2, a3, a4, rfl, wf_u32e _ w0, wf_i64e _ w1, wf_i64e _ w2, wf_i64e _ w3, wf_i64e _ w4⟩
set_option maxRecDepth 100000 in
theorem pack_come {H : Type} {enc : TypeId × Value → H} {W : World} {v : Value} {d : DataW H} {p : List MemPlace} {base : Nat} (hv : Value.okWide Try.prog W .any base 42 v)
    (h : DataW.Trod enc Try.prog W 0 (fun _ => true) true 42 v d p) : ∃ a0 a1, v = .agg #[.int .u32 a0, .int .i64 a1] ∧ (0 ≤ a0 ∧ a0 < 4294967296) ∧ (-9223372036854775808 ≤ a1 ∧ a1 ≤ 9223372036854775807) := by
  obtain ⟨cs, rfl, hsz⟩ := okWide_struct Try.underlying42 hv
  obtain ⟨fuel, hf⟩ := h
  obtain ⟨xs, n, _, hx, hl, hlen, hfs⟩ := DataW.trod_struct Try.underlying42 hf
  have h7 : Try.prog.cellsOf 42 = 2 := by kernel_rfl
  rw [h7] at hsz
  obtain ⟨l, rfl⟩ : ∃ l : List Value, cs = l.toArray := ⟨cs.toList, by simp⟩
  have hll : l.length = 2 := by simpa using hsz
  have hxl : xs.length = 2 := hlen
  match l, hll, xs, hxl with
  | [x0, x1], _, [y0, y1], _ =>
    have t0 : DataW.trod enc Try.prog W 0 (fun _ => true) true n 23 [x0] = some y0 := by
      have t : DataW.trod enc Try.prog W 0 (fun _ => true) true n 23 (List.take (Try.prog.cellsOf 23) (List.drop 0 [x0, x1])) = some y0 := hfs 0 _ rfl
      rw [show Try.prog.cellsOf 23 = 1 from by kernel_rfl] at t
      exact t
    have t1 : DataW.trod enc Try.prog W 0 (fun _ => true) true n 2 [x1] = some y1 := by
      have t : DataW.trod enc Try.prog W 0 (fun _ => true) true n 2 (List.take (Try.prog.cellsOf 2) (List.drop 1 [x0, x1])) = some y1 := hfs 1 _ rfl
      rw [show Try.prog.cellsOf 2 = 1 from by kernel_rfl] at t
      exact t
    obtain ⟨a0, g0, _, w0⟩ := DataW.trod_int Try.underlying23 t0
    obtain ⟨a1, g1, _, w1⟩ := DataW.trod_int Try.underlying2 t1
    simp only [List.cons.injEq, and_true] at g0 g1
    subst g0; subst g1
    exact ⟨a0, a1, rfl, wf_u32e _ w0, wf_i64e _ w1⟩
end Go.Proofs.Ytdfmganmchmbjaa.Ext
