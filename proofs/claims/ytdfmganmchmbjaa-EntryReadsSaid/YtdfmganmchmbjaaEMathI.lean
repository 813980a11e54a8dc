/- Invoices: what was put is read; what is read is what was put; without the last byte, or with one more, nothing is read. -/
import Derived.Test.YtdfmganmchmbjaaEMathP
import Derived.Test.YtdfmganmchmbjaaEGet6
import Derived.Test.YtdfmganmchmbjaaOpenE2
namespace Go.Proofs.Ytdfmganmchmbjaa.Ext
open Go.RowKit Go.Proofs.YtdfmganmchmbjaaW.PrintWords Go.Proofs.YtdfmganmchmbjaaW.PrintLast Go.Proofs.YtdfmganmchmbjaaW.PrintMore Go.Proofs.YtdfmganmchmbjaaW.Hand Go.Proofs.Ytdfmganmchmbjaa.PZ
set_option linter.unusedVariables false
abbrev I64r (v : Int) : Prop := -9223372036854775808 ≤ v ∧ v ≤ 9223372036854775807
abbrev U32r (v : Int) : Prop := 0 ≤ v ∧ v < 4294967296
theorem line_good : Good rline lbytes LOk := by
  refine ⟨fun r h => byte_good.was r (small_good.was _ (int_good.was _ (int_good.was _ (int_good.was _ h)))), fun r hb h => ?_⟩
  have b4 := int_good.was _ h
  have b3 := int_good.was _ b4
  have b2 := int_good.was _ b3
  have b1 := small_good.was _ b2
  obtain ⟨t0, p0⟩ := byte_good.took r hb b1
  have y0 := byte_good.rest hb b1
  obtain ⟨t1, p1⟩ := small_good.took _ y0 b2
  have y1 := small_good.rest y0 b2
  obtain ⟨t2, p2⟩ := int_good.took _ y1 b3
  have y2 := int_good.rest y1 b3
  obtain ⟨t3, p3⟩ := int_good.took _ y2 b4
  have y3 := int_good.rest y2 b4
  obtain ⟨t4, p4⟩ := int_good.took _ y3 h
  refine ⟨?_, ⟨p0, p1, p2, p3, p4⟩⟩
  show r.xs = lbytes ⟨r.byte.1, r.byte.2.small.1, r.byte.2.small.2.int.1, r.byte.2.small.2.int.2.int.1, r.byte.2.small.2.int.2.int.2.int.1⟩ ++ r.byte.2.small.2.int.2.int.2.int.2.xs
  unfold lbytes
  dsimp only
  rw [emod_top (v := r.byte.2.small.1) p1.1 p1.2]
  simp only [List.append_assoc]
  rw [← t4, ← t3, ← t2, ← t1, ← t0]
theorem line_app (x : S53) (hx : LOk x) (b : List Int) : rline ⟨lbytes x ++ b, false⟩ = (x, ⟨b, false⟩) := by
  obtain ⟨h0, h1, h2, h3, h4⟩ := hx
  have e : lbytes x ++ b = beN 1 x.f0 ++ (beN 8 x.f1 ++ (beN 8 (x.f2 % top64) ++ (beN 8 (x.f3 % top64) ++ (beN 8 (x.f4 % top64) ++ b)))) := by
    unfold lbytes
    rw [emod_top (v := x.f1) h1.1 h1.2]
    simp only [List.append_assoc]
  rw [e]
  unfold rline
  rw [byte_app _ _ h0.1 h0.2]
  dsimp only
  rw [small_app _ _ h1.1 h1.2]
  dsimp only
  rw [int_app _ _ h2.1 h2.2]
  dsimp only
  rw [int_app _ _ h3.1 h3.2]
  dsimp only
  rw [int_app _ _ h4.1 h4.2]
theorem invoice_good (r : Rs) (hb : ∀ x ∈ r.xs, IsByte x) (a0 a1 a2 a4 a5 : Int) (L : List S53) (r' : Rs) (he : rinvoice r = ((a0, a1, a2, a4, a5, L), r')) (h : r'.bad = false) :
    r.xs = einv a0 a1 a2 a4 a5 L ++ r'.xs ∧ U32r a0 ∧ U32r a1 ∧ I64r a2 ∧ I64r a4 ∧ I64r a5 ∧ ∀ x ∈ L, LOk x := by
  unfold rinvoice at he
  simp only [Prod.mk.injEq] at he
  obtain ⟨⟨e0, e1, e2, e4, e5, eL⟩, er⟩ := he
  have hlen := relems_length rline (r.small.2.small.2.int.2.int.2.int.2.count 28).2 (r.small.2.small.2.int.2.int.2.int.2.count 28).1.toNat
  rw [eL] at hlen
  rw [← er] at h
  have hc0 : (r.small.2.small.2.int.2.int.2.int.2.count 28).2.bad = false := by
    have key : ∀ (k : Nat) (q : Rs), (relems rline q k).2.bad = false → q.bad = false := by
      intro k
      induction k with
      | zero => intro q hq; exact hq
      | succ k ih => intro q hq; exact ih q (line_good.was _ hq)
    exact key _ _ h
  have h5 := (count_good 28).was _ hc0
  have h4 := int_good.was _ h5
  have h3 := int_good.was _ h4
  have h2 := int_good.was _ h3
  have h1 := small_good.was _ h2
  obtain ⟨t0, p0⟩ := small_good.took r hb h1
  have y0 := small_good.rest hb h1
  obtain ⟨t1, p1⟩ := small_good.took _ y0 h2
  have y1 := small_good.rest y0 h2
  obtain ⟨t2, p2⟩ := int_good.took _ y1 h3
  have y2 := int_good.rest y1 h3
  obtain ⟨t3, p3⟩ := int_good.took _ y2 h4
  have y3 := int_good.rest y2 h4
  obtain ⟨t4, p4⟩ := int_good.took _ y3 h5
  have y4 := int_good.rest y3 h5
  obtain ⟨c1, c2⟩ := (count_good 28).took _ y4 hc0
  have bc := (count_good 28).rest y4 hc0
  obtain ⟨_, q1, q2, _⟩ := relems_good line_good _ bc _ h
  rw [e0] at t0 p0
  rw [e1] at t1 p1
  rw [e2] at t2 p2
  rw [e4] at t3 p3
  rw [e5] at t4 p4
  rw [eL, er] at q1
  rw [eL] at q2
  have hn : ((L.length : Nat) : Int) = (r.small.2.small.2.int.2.int.2.int.2.count 28).1 := by rw [hlen]; have := c2.1; omega
  refine ⟨?_, p0, p1, p2, p3, p4, q2⟩
  unfold einv ihead
  rw [emod_top (v := a0) p0.1 p0.2, emod_top (v := a1) p1.1 p1.2, emod_top (v := (L.length : Int)) (by omega) (by have := c2.2; omega), hn]
  simp only [List.append_assoc]
  rw [← q1, ← c1, ← t4, ← t3, ← t2, ← t1, ← t0]
theorem invoice_app (a0 a1 a2 a4 a5 : Int) (L : List S53) (rest : List Int) (h0 : U32r a0) (h1 : U32r a1) (h2 : I64r a2) (h4 : I64r a4) (h5 : I64r a5) (hL : L.length ≤ 28) (hx : ∀ x ∈ L, LOk x) : rinvoice ⟨einv a0 a1 a2 a4 a5 L ++ rest, false⟩ = ((a0, a1, a2, a4, a5, L), ⟨rest, false⟩) := by
  have e : einv a0 a1 a2 a4 a5 L ++ rest = beN 8 a0 ++ (beN 8 a1 ++ (beN 8 (a2 % top64) ++ (beN 8 (a4 % top64) ++ (beN 8 (a5 % top64) ++ (beN 8 (L.length : Int) ++ ((L.map lbytes).flatten ++ rest)))))) := by
    unfold einv ihead
    rw [emod_top (v := a0) h0.1 h0.2, emod_top (v := a1) h1.1 h1.2, emod_top (v := (L.length : Int)) (by omega) (by omega)]
    simp only [List.append_assoc]
  rw [e]
  unfold rinvoice
  rw [small_app _ _ h0.1 h0.2]
  dsimp only
  rw [small_app _ _ h1.1 h1.2]
  dsimp only
  rw [int_app _ _ h2.1 h2.2]
  dsimp only
  rw [int_app _ _ h4.1 h4.2]
  dsimp only
  rw [int_app _ _ h5.1 h5.2]
  dsimp only
  rw [count_app _ _ _ (by omega) (by omega) (by omega)]
  dsimp only
  rw [Int.toNat_natCast, relems_all rline lbytes L rest (fun x h b => line_app x (hx x h) b)]
/-- May such an invoice come? -/
structure IOk (a0 a1 a2 a4 a5 : Int) (L : List S53) : Prop where
  h0 : U32r a0
  h1 : U32r a1
  h2 : I64r a2
  h4 : I64r a4
  h5 : I64r a5
  hx : ∀ x ∈ L, LOk x
theorem ebills_len {a0 a1 a4 a5 : Int} {L : List S53} (hk : ebills a0 a1 a4 a5 L = true) : L.length ≤ 28 := by
  unfold ebills at hk
  simp only [Bool.and_eq_true, decide_eq_true_eq, Bool.not_eq_true'] at hk
  omega
theorem ginvoice_rest (a0 a1 a2 a4 a5 : Int) (L : List S53) (rest : List Int) (h : IOk a0 a1 a2 a4 a5 L) (hk : ebills a0 a1 a4 a5 L = true) : ginvoice (einv a0 a1 a2 a4 a5 L ++ rest) = if rest = [] then ((a0, a1, a2, a4, a5, L), 0) else ((0, 0, 0, 0, 0, []), 21) := by
  unfold ginvoice
  rw [invoice_app a0 a1 a2 a4 a5 L rest h.h0 h.h1 h.h2 h.h4 h.h5 (ebills_len hk) h.hx]
  dsimp only
  unfold gsel_invoice chk_invoice
  dsimp only
  by_cases hr : rest = []
  · rw [if_pos hr, hr, if_pos ⟨rfl, hk⟩]
  · have hl : 0 < rest.length := List.length_pos_iff.2 hr
    rw [if_neg hr, if_neg (by unfold Rs.done; rw [if_pos (Or.inr hl)]; exact fun h => absurd h.1 (by decide))]
/-- What is read is an invoice that may be, and its bytes are those; or none is read. -/
theorem ginvoice_sound (l : List Int) (hb : ∀ x ∈ l, IsByte x) : ginvoice l = ((0, 0, 0, 0, 0, []), 21) ∨ ∃ a0 a1 a2 a4 a5 L, ginvoice l = ((a0, a1, a2, a4, a5, L), 0) ∧ l = einv a0 a1 a2 a4 a5 L ∧ IOk a0 a1 a2 a4 a5 L ∧ ebills a0 a1 a4 a5 L = true := by
  obtain ⟨⟨⟨a0, a1, a2, a4, a5, L⟩, r'⟩, he⟩ : ∃ u, rinvoice ⟨l, false⟩ = u := ⟨_, rfl⟩
  unfold ginvoice
  rw [he]
  unfold gsel_invoice chk_invoice
  dsimp only
  by_cases hd : r'.done = 0 ∧ ebills a0 a1 a4 a5 L = true
  · rw [if_pos hd]
    obtain ⟨d1, d2⟩ := done_zero hd.1
    obtain ⟨g1, g2, g3, g4, g5, g6, g7⟩ := invoice_good ⟨l, false⟩ hb a0 a1 a2 a4 a5 L r' he d1
    rw [d2, List.append_nil] at g1
    exact Or.inr ⟨a0, a1, a2, a4, a5, L, rfl, g1, ⟨g2, g3, g4, g5, g6, g7⟩, hd.2⟩
  · rw [if_neg hd]; exact Or.inl rfl
theorem einv_bytes (a0 a1 a2 a4 a5 : Int) (L : List S53) : ∀ x ∈ einv a0 a1 a2 a4 a5 L, IsByte x := by
  intro x hx
  unfold einv ihead at hx
  simp only [List.mem_append, List.mem_flatten, List.mem_map] at hx
  rcases hx with (((((hx | hx) | hx) | hx) | hx) | hx) | ⟨l, ⟨p, _, rfl⟩, hx⟩
  · exact beN_bytes _ _ x hx
  · exact beN_bytes _ _ x hx
  · exact beN_bytes _ _ x hx
  · exact beN_bytes _ _ x hx
  · exact beN_bytes _ _ x hx
  · exact beN_bytes _ _ x hx
  · unfold lbytes at hx
    simp only [List.mem_append] at hx
    rcases hx with (((hx | hx) | hx) | hx) | hx
    · exact beN_bytes _ _ x hx
    · exact beN_bytes _ _ x hx
    · exact beN_bytes _ _ x hx
    · exact beN_bytes _ _ x hx
    · exact beN_bytes _ _ x hx
/-- Without the last byte none is read. -/
theorem ginvoice_less (a0 a1 a2 a4 a5 : Int) (L : List S53) (h : IOk a0 a1 a2 a4 a5 L) (hk : ebills a0 a1 a4 a5 L = true) (m : Nat) (hm : (einv a0 a1 a2 a4 a5 L).length = m + 1) : ginvoice ((einv a0 a1 a2 a4 a5 L).take m) = ((0, 0, 0, 0, 0, []), 21) := by
  have hb := einv_bytes a0 a1 a2 a4 a5 L
  rcases ginvoice_sound ((einv a0 a1 a2 a4 a5 L).take m) (fun x hx => hb x (List.mem_of_mem_take hx)) with h' | ⟨b0, b1, b2, b4, b5, M, _, e, g, gk⟩
  · exact h'
  · exfalso
    have e1 := invoice_app b0 b1 b2 b4 b5 M ((einv a0 a1 a2 a4 a5 L).drop m) g.h0 g.h1 g.h2 g.h4 g.h5 (ebills_len gk) g.hx
    rw [← e, List.take_append_drop] at e1
    have e2 := invoice_app a0 a1 a2 a4 a5 L [] h.h0 h.h1 h.h2 h.h4 h.h5 (ebills_len hk) h.hx
    rw [List.append_nil, e1] at e2
    injection e2 with _ e3
    injection e3 with e4 _
    have : ((einv a0 a1 a2 a4 a5 L).drop m).length = 0 := by rw [e4]; rfl
    rw [List.length_drop] at this
    omega
end Go.Proofs.Ytdfmganmchmbjaa.Ext
