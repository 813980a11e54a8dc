/- EntryBack, its cases joined. -/
import Derived.Test.YtdfmganmchmbjaaEBackW
import Derived.Test.YtdfmganmchmbjaaOpenE2
namespace Go.Proofs.Ytdfmganmchmbjaa.Ext
open Go.RowKit Go.ChangeShapes Go.WideShapes Go.Proofs.YtdfmganmchmbjaaW.PrintWords Go.Proofs.YtdfmganmchmbjaaW.PrintLast Go.Proofs.YtdfmganmchmbjaaW.PrintMore Go.Proofs.Ytdfmganmchmbjaa.PZ
set_option linter.unusedVariables false
theorem top64_lit2 {a : Int} (h : a < 18446744073709551616) : a < top64 := h
set_option maxRecDepth 100000 in
theorem EntryBack.walk {H : Type} {enc : TypeId × Value → H} {W : World} {v0 v1 v2 v3 : Value} {d0 d1 d2 d3 : DataW H} {p0 p1 p2 p3 : List MemPlace} {base : Nat} (more : Int) (hv0 : Value.okWide Try.prog W .any base 26 v0) (hv1 : Value.okWide Try.prog W .any base 30 v1) (hv2 : Value.okWide Try.prog W .any base 40 v2) (hv3 : Value.okWide Try.prog W .any base 42 v3)
    (h0 : DataW.Trod enc Try.prog W 0 (fun _ => true) true 26 v0 d0 p0) (h1 : DataW.Trod enc Try.prog W 0 (fun _ => true) true 30 v1 d1 p1) (h2 : DataW.Trod enc Try.prog W 0 (fun _ => true) true 40 v2 d2 p2) (h3 : DataW.Trod enc Try.prog W 0 (fun _ => true) true 42 v3 d3 p3) (hm : (Lit.int .u8 more).wf = true) :
    Calls Try.prog 6 #[v0, v1, v2, v3, .int .u8 more] W fun e w' => e = .returned (.bool true) ∧ Below W.heap.size W w' := by
  obtain ⟨a0, a1, a2, A, c, L, rfl, ha, _, ha2, hc, _, hC⟩ := posting_come hv0 h0
  obtain ⟨b0, b1, b2, b4, b5, B, d, M, rfl, hb0, hb1, hb2, hb4, hb5, hd, hx, hD⟩ := invoice_come hv1 h1
  obtain ⟨l0, l1, l2, l3, l4, rfl, hl0, hl1, hl2, hl3, hl4⟩ := lease_come hv2 h2
  obtain ⟨q0, q1, rfl, hq0, hq1⟩ := pack_come hv3 h3
  have ha' : 0 ≤ a0 ∧ a0 < top64 := ⟨ha.1, top64_lit2 ha.2⟩
  have hmo : IsByte more := wf_u8e more hm
  have hi : IOk b0 b1 b2 b4 b5 M := ⟨hb0, hb1, hb2, hb4, hb5, hx⟩
  obtain ⟨r, hr⟩ := great_is2 a0 a1 a2 L b0 b1 b2 b4 b5 M
  cases r
  · cases hP : eposts a0 a1 L <;> cases hI : ebills b0 b1 b4 b5 M
    · exact back_ff more a0 a1 a2 b0 b1 b2 b4 b5 l0 l1 l2 l3 l4 q0 q1 A B c d L M W hC hc hD hd ha' hb0.1 hb1.1 hmo ha2 hi hl0 hl1 hl2 hl3 hl4 hq0 hq1 hr hP hI
    · exact back_ft more a0 a1 a2 b0 b1 b2 b4 b5 l0 l1 l2 l3 l4 q0 q1 A B c d L M W hC hc hD hd ha' hb0.1 hb1.1 hmo ha2 hi hl0 hl1 hl2 hl3 hl4 hq0 hq1 hr hP hI
    · exact back_tf more a0 a1 a2 b0 b1 b2 b4 b5 l0 l1 l2 l3 l4 q0 q1 A B c d L M W hC hc hD hd ha' hb0.1 hb1.1 hmo ha2 hi hl0 hl1 hl2 hl3 hl4 hq0 hq1 hr hP hI
    · exact back_tt more a0 a1 a2 b0 b1 b2 b4 b5 l0 l1 l2 l3 l4 q0 q1 A B c d L M W hC hc hD hd ha' hb0.1 hb1.1 hmo ha2 hi hl0 hl1 hl2 hl3 hl4 hq0 hq1 hr hP hI
  · exact back_great more a0 a1 a2 b0 b1 b2 b4 b5 l0 l1 l2 l3 l4 q0 q1 A B c d L M W hC hc hD hd ha' hb0.1 hb1.1 hmo ha2 hi hl0 hl1 hl2 hl3 hl4 hq0 hq1 hr
end Go.Proofs.Ytdfmganmchmbjaa.Ext
