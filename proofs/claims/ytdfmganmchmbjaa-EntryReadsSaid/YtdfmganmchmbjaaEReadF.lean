/- EntryReads: what bytes that are read say. -/
import Derived.Test.YtdfmganmchmbjaaEBackF
import Derived.Test.YtdfmganmchmbjaaOpenE
import Derived.Deep.SlicePairs
namespace Go.Proofs.Ytdfmganmchmbjaa.Ext
open Go.RowKit Go.ChangeShapes Go.WideShapes Go.Proofs.YtdfmganmchmbjaaW.PrintWords Go.Proofs.YtdfmganmchmbjaaW.PrintLast Go.Proofs.YtdfmganmchmbjaaW.PrintMore Go.Proofs.YtdfmganmchmbjaaW.Hand Go.Proofs.Ytdfmganmchmbjaa.PZ
set_option linter.unusedVariables false
theorem bytes_come {H : Type} {enc : TypeId × Value → H} {W : World} {a : Option Addr} {len cap : Nat} {d : DataW H} {p : List MemPlace}
    (h : DataW.Trod enc Try.prog W 0 (fun _ => true) true 31 (.slice a len cap) d p) : ∃ l, l.length = len ∧ Kd.C (Kd.int .u8) W a l.length l ∧ ∀ x ∈ l, IsByte x := by
  have w0 : (a = none ∧ len = 0 ∧ cap = 0 ∧ ([] : List Int) = []) ∨ ∃ z0 : List Int, ∃ x, a = some x ∧ len ≤ cap ∧ cap ≤ maxLen ∧ z0.length = cap ∧ (∀ i, i < z0.length → W.cell? (x.add i) = some (.int .u8 (z0.getD i 0))) ∧ ∀ n ∈ z0, (Lit.int .u8 n).wf = true := by
    obtain ⟨fuel, hf⟩ := h
    rcases open_ints Try.underlying31 Try.underlying5 (by kernel_rfl) hf with ⟨hcs, _⟩ | ⟨x, l, c, zs, hcs, _, hl, hm, hz, _, hcell, hwz⟩
    · simp [Value.cells] at hcs
      obtain ⟨rfl, rfl, rfl⟩ := hcs
      exact .inl ⟨rfl, rfl, rfl, rfl⟩
    · simp [Value.cells] at hcs
      obtain ⟨rfl, rfl, rfl⟩ := hcs
      exact .inr ⟨zs, _, rfl, hl, hm, by simpa using hz, hcell, hwz⟩
  have w1 : ∃ z0 : List Int, (a = none ∧ len = 0 ∧ cap = 0 ∧ z0 = []) ∨ ∃ x, a = some x ∧ len ≤ cap ∧ cap ≤ maxLen ∧ z0.length = cap ∧ (∀ i, i < z0.length → W.cell? (x.add i) = some (.int .u8 (z0.getD i 0))) ∧ ∀ n ∈ z0, (Lit.int .u8 n).wf = true := by
    rcases w0 with h | ⟨z0, h⟩
    · exact ⟨[], .inl h⟩
    · exact ⟨z0, .inr h⟩
  obtain ⟨z0, w1⟩ := w1
  obtain ⟨l0, rfl, hr0, hm0, hw0, hc0⟩ := ReadsInt.ofRowC w1
  exact ⟨l0, rfl, Kd.C_of_reads (d := (0 : Int)) (h1 := fun _ => rfl) hr0, fun c hc => wf_u8e c (hw0 c hc)⟩
theorem glease_sound (l : List Int) (hb : ∀ x ∈ l, IsByte x) : glease l = ((0, 0, 0, 0, 0), 21) ∨ ∃ a0 a1 a2 a3 a4, glease l = ((a0, a1, a2, a3, a4), 0) ∧ l = eleaseb a0 a1 a2 a3 a4 := by
  unfold glease
  by_cases hd : (rlease ⟨l, false⟩).2.done = 0
  · rw [if_pos hd]
    obtain ⟨d1, d2⟩ := done_zero hd
    have h3 := int_good.was _ d1
    have h2 := int_good.was _ h3
    have h1 := int_good.was _ h2
    have h0 := int_good.was _ h1
    obtain ⟨t0, p0⟩ := small_good.took ⟨l, false⟩ hb h0
    have y0 := small_good.rest (r := ⟨l, false⟩) hb h0
    obtain ⟨t1, _⟩ := int_good.took _ y0 h1
    have y1 := int_good.rest y0 h1
    obtain ⟨t2, _⟩ := int_good.took _ y1 h2
    have y2 := int_good.rest y1 h2
    obtain ⟨t3, _⟩ := int_good.took _ y2 h3
    have y3 := int_good.rest y2 h3
    obtain ⟨t4, _⟩ := int_good.took _ y3 d1
    refine Or.inr ⟨_, _, _, _, _, rfl, ?_⟩
    dsimp only at t0
    have d2' : (⟨l, false⟩ : Rs).small.2.int.2.int.2.int.2.int.2.xs = [] := d2
    rw [d2', List.append_nil] at t4
    unfold eleaseb
    rw [emod_top p0.1 p0.2]
    simp only [List.append_assoc]
    rw [← t4, ← t3, ← t2, ← t1, ← t0]
  · rw [if_neg hd]; exact Or.inl rfl
theorem gpack_sound (l : List Int) (hb : ∀ x ∈ l, IsByte x) : gpack l = ((0, 0), 21) ∨ ∃ a0 a1, gpack l = ((a0, a1), 0) ∧ l = epackb a0 a1 := by
  unfold gpack
  by_cases hd : (rpack ⟨l, false⟩).2.done = 0
  · rw [if_pos hd]
    obtain ⟨d1, d2⟩ := done_zero hd
    have h0 := int_good.was _ d1
    obtain ⟨t0, p0⟩ := small_good.took ⟨l, false⟩ hb h0
    have y0 := small_good.rest (r := ⟨l, false⟩) hb h0
    obtain ⟨t1, _⟩ := int_good.took _ y0 d1
    refine Or.inr ⟨_, _, rfl, ?_⟩
    dsimp only at t0
    have d2' : (⟨l, false⟩ : Rs).small.2.int.2.xs = [] := d2
    rw [d2', List.append_nil] at t1
    unfold epackb
    rw [emod_top p0.1 p0.2, ← t1, ← t0]
  · rw [if_neg hd]; exact Or.inl rfl
theorem epost_long {a0 a1 : Int} (a2 : Int) {L : List S37} (hk : eposts a0 a1 L = true) : 45 ≤ (epost a0 a1 a2 L).length := by
  obtain ⟨k1, _, k3⟩ := eposts_facts hk
  have hlen : (epost a0 a1 a2 L).length = 32 + ((L.map pbytes).flatten).length := by unfold epost; rw [List.length_append, phead_length]
  match L, k1, k3, hlen with
  | x :: r, _, k3, hlen =>
    have hx : pbad x = false := by
      rw [List.any_cons, Bool.or_eq_false_iff] at k3; exact k3.1
    have := (pbad_size hx).1
    rw [List.map_cons, List.flatten_cons, List.length_append, pbytes_length] at hlen
    omega
theorem einv_long (a0 a1 a2 a4 a5 : Int) (L : List S53) : 48 ≤ (einv a0 a1 a2 a4 a5 L).length := by
  unfold einv; rw [List.length_append, ihead_length]; omega
end Go.Proofs.Ytdfmganmchmbjaa.Ext
