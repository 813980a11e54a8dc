/- Postings: what was put is read; what is read is what was put; without the last byte, or with one more, nothing is read. -/
import Derived.Test.YtdfmganmchmbjaaEMath
import Derived.Test.YtdfmganmchmbjaaEGet4
namespace Go.Proofs.Ytdfmganmchmbjaa.Ext
open Go.RowKit Go.Proofs.YtdfmganmchmbjaaW.PrintWords Go.Proofs.YtdfmganmchmbjaaW.PrintLast Go.Proofs.YtdfmganmchmbjaaW.PrintMore Go.Proofs.YtdfmganmchmbjaaW.Hand Go.Proofs.Ytdfmganmchmbjaa.PZ
set_option linter.unusedVariables false
theorem emod_top {v : Int} (h0 : 0 ≤ v) (h : v < 4294967296) : v % top64 = v := Int.emod_eq_of_lt h0 (by unfold top64; omega)
theorem part_good : Good rpart pbytes (fun x => -9223372036854775808 ≤ x.f1 ∧ x.f1 ≤ 9223372036854775807) := by
  refine ⟨fun r h => text_good.was r (int_good.was _ h), fun r hb h => ?_⟩
  have b1 := int_good.was _ h
  obtain ⟨t1, t2⟩ := text_good.took r hb b1
  obtain ⟨i1, i2⟩ := int_good.took r.text.2 (text_good.rest hb b1) h
  refine ⟨?_, i2⟩
  show r.xs = pbytes ⟨strOfNums r.text.1, r.text.2.int.1⟩ ++ r.text.2.int.2.xs
  unfold pbytes
  dsimp only
  rw [str_nums _ t2.1, strOfNums_size, List.append_assoc, ← i1]
  exact t1
theorem part_app (x : S37) (hx : pbad x = false) (b : List Int) : rpart ⟨pbytes x ++ b, false⟩ = (x, ⟨b, false⟩) := by
  obtain ⟨_, h2, _, h4, h5⟩ := pbad_size hx
  have e : pbytes x ++ b = beN 4 (bytesOf x.f0).length ++ (bytesOf x.f0 ++ (beN 8 (x.f1 % top64) ++ b)) := by
    unfold pbytes
    rw [bytesOf_length]
    simp only [List.append_assoc]
  rw [e]
  unfold rpart
  rw [text_app _ _ (by rw [bytesOf_length]; omega)]
  dsimp only
  rw [int_app _ _ (by omega) (by omega)]
  dsimp only
  rw [str_bytes]
theorem posting_good (r : Rs) (hb : ∀ x ∈ r.xs, IsByte x) (a0 a1 a2 : Int) (L : List S37) (r' : Rs) (he : rposting r = ((a0, a1, a2, L), r')) (h : r'.bad = false) :
    r.xs = epost a0 a1 a2 L ++ r'.xs ∧ (0 ≤ a0 ∧ a0 < top64) ∧ (-9223372036854775808 ≤ a1 ∧ a1 ≤ 9223372036854775807) ∧ (0 ≤ a2 ∧ a2 < 4294967296) := by
  unfold rposting at he
  simp only [Prod.mk.injEq] at he
  obtain ⟨⟨e0, e1, e2, eL⟩, er⟩ := he
  have hlen := relems_length rpart (r.uint.2.int.2.small.2.count 16).2 (r.uint.2.int.2.small.2.count 16).1.toNat
  rw [eL] at hlen
  rw [← er] at h
  have hc0 : (r.uint.2.int.2.small.2.count 16).2.bad = false := by
    have key : ∀ (k : Nat) (q : Rs), (relems rpart q k).2.bad = false → q.bad = false := by
      intro k
      induction k with
      | zero => intro q hq; exact hq
      | succ k ih => intro q hq; exact ih q (part_good.was _ hq)
    exact key _ _ h
  have hs0 := (count_good 16).was _ hc0
  have hi0 := small_good.was _ hs0
  have hu0 := int_good.was _ hi0
  obtain ⟨u1, u2⟩ := uint_good.took r hb hu0
  have bu := uint_good.rest hb hu0
  obtain ⟨i1, i2⟩ := int_good.took _ bu hi0
  have bi := int_good.rest bu hi0
  obtain ⟨s1, s2⟩ := small_good.took _ bi hs0
  have bs := small_good.rest bi hs0
  obtain ⟨c1, c2⟩ := (count_good 16).took _ bs hc0
  have bc := (count_good 16).rest bs hc0
  obtain ⟨_, p1, p2, _⟩ := relems_good part_good _ bc _ h
  try dsimp only at u1 u2 i1 i2 s1 s2 c1 c2
  rw [e0] at u1 u2
  rw [e1] at i1 i2
  rw [e2] at s1 s2
  rw [eL, er] at p1
  have hn : ((L.length : Nat) : Int) = (r.uint.2.int.2.small.2.count 16).1 := by rw [hlen]; omega
  refine ⟨?_, u2, i2, s2⟩
  unfold epost phead
  rw [emod_top s2.1 s2.2, emod_top (v := (L.length : Int)) (by omega) (by omega), hn]
  simp only [List.append_assoc]
  rw [← p1, ← c1, ← s1, ← i1, ← u1]
theorem posting_app (a0 a1 a2 : Int) (L : List S37) (rest : List Int) (h0 : 0 ≤ a0 ∧ a0 < top64) (h2 : 0 ≤ a2 ∧ a2 < 4294967296) (hk : eposts a0 a1 L = true) : rposting ⟨epost a0 a1 a2 L ++ rest, false⟩ = ((a0, a1, a2, L), ⟨rest, false⟩) := by
  unfold eposts at hk
  simp only [Bool.and_eq_true, decide_eq_true_eq, Bool.not_eq_true'] at hk
  obtain ⟨⟨⟨⟨⟨k1, k2⟩, k3⟩, k4⟩, k5⟩, k6⟩ := hk
  have e : epost a0 a1 a2 L ++ rest = beN 8 a0 ++ (beN 8 (a1 % top64) ++ (beN 8 a2 ++ (beN 8 (L.length : Int) ++ ((L.map pbytes).flatten ++ rest)))) := by
    unfold epost phead
    rw [emod_top h2.1 h2.2, emod_top (v := (L.length : Int)) (by omega) (by omega)]
    simp only [List.append_assoc]
  rw [e]
  unfold rposting
  rw [uint_app _ _ h0.1 h0.2]
  dsimp only
  rw [int_app _ _ (by omega) (by omega)]
  dsimp only
  rw [small_app _ _ h2.1 h2.2]
  dsimp only
  rw [count_app _ _ _ (by omega) (by omega) (by omega)]
  dsimp only
  rw [Int.toNat_natCast, relems_all rpart pbytes L rest (fun x hx b => part_app x (any_mem k6 hx) b)]
theorem gposting_rest (a0 a1 a2 : Int) (L : List S37) (rest : List Int) (h0 : 0 ≤ a0 ∧ a0 < top64) (h2 : 0 ≤ a2 ∧ a2 < 4294967296) (hk : eposts a0 a1 L = true) : gposting (epost a0 a1 a2 L ++ rest) = if rest = [] then ((a0, a1, a2, L), 0) else ((0, 0, 0, []), 21) := by
  unfold gposting
  rw [posting_app a0 a1 a2 L rest h0 h2 hk]
  dsimp only
  unfold gsel_posting chk_posting
  dsimp only
  by_cases hr : rest = []
  · rw [if_pos hr, hr, if_pos ⟨rfl, hk⟩]
  · have hl : 0 < rest.length := List.length_pos_iff.2 hr
    rw [if_neg hr, if_neg (by unfold Rs.done; rw [if_pos (Or.inr hl)]; exact fun h => absurd h.1 (by decide))]
/-- What is read is a posting that may be, and its bytes are those; or none is read. -/
theorem gposting_sound (l : List Int) (hb : ∀ x ∈ l, IsByte x) : gposting l = ((0, 0, 0, []), 21) ∨ ∃ a0 a1 a2 L, gposting l = ((a0, a1, a2, L), 0) ∧ l = epost a0 a1 a2 L ∧ (0 ≤ a0 ∧ a0 < top64) ∧ (0 ≤ a2 ∧ a2 < 4294967296) ∧ eposts a0 a1 L = true := by
  obtain ⟨⟨⟨a0, a1, a2, L⟩, r'⟩, he⟩ : ∃ u, rposting ⟨l, false⟩ = u := ⟨_, rfl⟩
  unfold gposting
  rw [he]
  unfold gsel_posting chk_posting
  dsimp only
  by_cases hd : r'.done = 0 ∧ eposts a0 a1 L = true
  · rw [if_pos hd]
    obtain ⟨d1, d2⟩ := done_zero hd.1
    obtain ⟨g1, g2, _, g4⟩ := posting_good ⟨l, false⟩ hb a0 a1 a2 L r' he d1
    rw [d2, List.append_nil] at g1
    exact Or.inr ⟨a0, a1, a2, L, rfl, g1, g2, g4, hd.2⟩
  · rw [if_neg hd]; exact Or.inl rfl
theorem epost_bytes (a0 a1 a2 : Int) (L : List S37) : ∀ x ∈ epost a0 a1 a2 L, IsByte x := by
  intro x hx
  unfold epost phead at hx
  simp only [List.mem_append, List.mem_flatten, List.mem_map] at hx
  rcases hx with (((hx | hx) | hx) | hx) | ⟨l, ⟨p, _, rfl⟩, hx⟩
  · exact beN_bytes _ _ x hx
  · exact beN_bytes _ _ x hx
  · exact beN_bytes _ _ x hx
  · exact beN_bytes _ _ x hx
  · unfold pbytes at hx
    simp only [List.mem_append] at hx
    rcases hx with (hx | hx) | hx
    · exact beN_bytes _ _ x hx
    · exact bytesOf_bytes _ x hx
    · exact beN_bytes _ _ x hx
/-- Without the last byte none is read. -/
theorem gposting_less (a0 a1 a2 : Int) (L : List S37) (h0 : 0 ≤ a0 ∧ a0 < top64) (h2 : 0 ≤ a2 ∧ a2 < 4294967296) (hk : eposts a0 a1 L = true) (m : Nat) (hm : (epost a0 a1 a2 L).length = m + 1) : gposting ((epost a0 a1 a2 L).take m) = ((0, 0, 0, []), 21) := by
  have hb := epost_bytes a0 a1 a2 L
  rcases gposting_sound ((epost a0 a1 a2 L).take m) (fun x hx => hb x (List.mem_of_mem_take hx)) with h | ⟨b0, b1, b2, M, _, e, g0, g2, gk⟩
  · exact h
  · exfalso
    have e1 := posting_app b0 b1 b2 M ((epost a0 a1 a2 L).drop m) g0 g2 gk
    rw [← e, List.take_append_drop] at e1
    have e2 := posting_app a0 a1 a2 L [] h0 h2 hk
    rw [List.append_nil, e1] at e2
    injection e2 with _ e3
    injection e3 with e4 _
    have : ((epost a0 a1 a2 L).drop m).length = 0 := by rw [e4]; rfl
    rw [List.length_drop] at this
    omega
end Go.Proofs.Ytdfmganmchmbjaa.Ext
