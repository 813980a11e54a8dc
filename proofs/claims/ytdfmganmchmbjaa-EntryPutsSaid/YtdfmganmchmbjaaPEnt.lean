/- What the reference's functions of layer 14 come to. -/
import Derived.Test.YtdfmganmchmbjaaPYx1
import Derived.Test.YtdfmganmchmbjaaPYx2
import Derived.Test.YtdfmganmchmbjaaPYx3
import Derived.Test.YtdfmganmchmbjaaEExt2
namespace Go.Proofs.Ytdfmganmchmbjaa.Ext
open Go.RowKit Go.Proofs.YtdfmganmchmbjaaW.PrintWords Go.Proofs.YtdfmganmchmbjaaW.PrintLast Go.Proofs.YtdfmganmchmbjaaW.PrintMore Go.Proofs.Ytdfmganmchmbjaa.PZ Go.Proofs.Ytdfmganmchmbjaa.PY
set_option linter.unusedVariables false
set_option linter.unusedSimpArgs false
theorem empty_iff (s : ByteArray) : s.toList.isEmpty = decide ((s.size : Int) < 1) := by
  rw [Lib.toList_data]
  cases h : s.data.toList with
  | nil =>
    have h0 : s.size = 0 := by
      show s.data.size = 0
      rw [← Array.length_toList, h]; rfl
    rw [h0]; rfl
  | cons x t =>
    have h0 : s.size = t.length + 1 := by
      show s.data.size = _
      rw [← Array.length_toList, h]; rfl
    rw [h0]
    symm
    rw [List.isEmpty_cons]
    exact decide_eq_false (by omega)
theorem drop_any {α : Type} (l : List α) (d : α) (p : α → Bool) (j : Nat) (h : j < l.length) : (l.drop j).any p = (p (l.getD j d) || (l.drop (j + 1)).any p) := by
  rw [List.drop_eq_getElem_cons h, List.any_cons, List.getD_eq_getElem?_getD, List.getElem?_eq_getElem h]; rfl
theorem wrap_nat (j : Nat) (h : j < 100000) : wrap64 ((j : Int) + 1) = ((j + 1 : Nat) : Int) := by unfold wrap64; omega
theorem posts_l0 (a b c : Int) (l : List S37) (hl : l.length ≤ 1000) : ∀ (n j : Nat), j ≤ l.length → l.length - j ≤ n → quitrentref14_Posts.l0 (n + 1) (j : Int) a b c l = some (!((l.drop j).any pbad)) := by
  intro n
  induction n with
  | zero =>
    intro j hj h
    have : j = l.length := by omega
    subst this
    rw [quitrentref14_Posts.l0, if_neg (by omega), List.drop_length]; rfl
  | succ n ih =>
    intro j hj h
    rw [quitrentref14_Posts.l0]
    by_cases hlt : j < l.length
    · rw [if_pos (by omega), if_pos (by omega), drop_any l z37 pbad j hlt]
      have hrd : rd_T37 l (j : Int) = l.getD j z37 := rfl
      rw [hrd, wrap_nat j (by omega), ih (j + 1) (by omega) (by omega)]
      obtain ⟨⟨f0, f1⟩, ht⟩ : ∃ t, l.getD j z37 = t := ⟨_, rfl⟩
      rw [ht]
      unfold pbad
      rw [empty_iff]
      by_cases h1 : (f0.size : Int) < 1
      · simp [h1]
      · by_cases h2 : (f0.size : Int) > 32
        · simp [h1, h2]
        · by_cases h3 : f1 = 0
          · simp [h1, h2, h3]
          · by_cases h4 : f1 < -4611686018427387904
            · simp [h1, h2, h3, h4]
            · by_cases h5 : f1 > 4611686018427387904
              · simp [h1, h2, h3, h4, h5]
              · simp [h1, h2, h3, h4, h5]
    · have : j = l.length := by omega
      subst this
      rw [if_neg (by omega), List.drop_length]; rfl
theorem posts_ref (a0 a1 a2 : Int) (l : List S37) (h0 : 0 ≤ a0) : quitrentref14_Posts.f 60 a0 a1 a2 l = some (eposts a0 a1 l) := by
  unfold quitrentref14_Posts.f eposts
  by_cases c0 : a0 = 0
  · rw [if_pos c0, quitrentref14_Posts.j0, if_pos rfl]; simp [c0]
  · rw [if_neg c0]
    by_cases c1 : a1 < 0
    · rw [if_pos c1, quitrentref14_Posts.j0, if_pos rfl]; simp [show ¬ 0 ≤ a1 by omega]
    · rw [if_neg c1]
      by_cases c2 : a1 > 137438953472
      · rw [if_pos c2, quitrentref14_Posts.j0, if_pos rfl]; simp [show ¬ a1 ≤ 137438953472 by omega]
      · rw [if_neg c2]
        by_cases c3 : (l.length : Int) < 1
        · rw [if_pos c3, quitrentref14_Posts.j0, if_pos rfl]
          simp only [Option.some.injEq]
          symm
          have : decide ((0 : Int) < l.length) = false := decide_eq_false (by omega)
          rw [this]; simp
        · rw [if_neg c3]
          by_cases c4 : (l.length : Int) > 16
          · rw [quitrentref14_Posts.j0, if_pos (decide_eq_true c4)]
            have : decide ((l.length : Int) ≤ 16) = false := decide_eq_false (by omega)
            rw [this]; simp
          · rw [quitrentref14_Posts.j0, if_neg (by simp; omega)]
            have := posts_l0 a0 a1 a2 l (by omega) 58 0 (by omega) (by omega)
            rw [show ((0 : Nat) : Int) = 0 from rfl, List.drop_zero] at this
            rw [this]
            simp only [Option.some.injEq]
            rw [decide_eq_true (by omega : 0 < a0), decide_eq_true (by omega : 0 ≤ a1), decide_eq_true (by omega : a1 ≤ 137438953472), decide_eq_true (by omega : (0 : Int) < l.length), decide_eq_true (by omega : (l.length : Int) ≤ 16)]
            rfl
theorem bills_l0 (a b c d e : Int) (l : List S53) (hl : l.length ≤ 1000) : ∀ (n j : Nat), j ≤ l.length → l.length - j ≤ n → quitrentref14_Bills.l0 (n + 1) (j : Int) a b c l d e = some (!((l.drop j).any lbad)) := by
  intro n
  induction n with
  | zero =>
    intro j hj h
    have : j = l.length := by omega
    subst this
    rw [quitrentref14_Bills.l0, if_neg (by omega), List.drop_length]; rfl
  | succ n ih =>
    intro j hj h
    rw [quitrentref14_Bills.l0]
    by_cases hlt : j < l.length
    · rw [if_pos (by omega), if_pos (by omega), drop_any l z53 lbad j hlt]
      have hrd : rd_T53 l (j : Int) = l.getD j z53 := rfl
      rw [hrd, wrap_nat j (by omega), ih (j + 1) (by omega) (by omega)]
      obtain ⟨⟨f0, f1, f2, f3, f4⟩, ht⟩ : ∃ t, l.getD j z53 = t := ⟨_, rfl⟩
      rw [ht]
      unfold lbad
      by_cases h1 : f0 < 1
      · simp [h1]
      · by_cases h2 : f0 > 3
        · simp [h1, h2]
        · by_cases h3 : f2 < 0
          · simp [h1, h2, h3]
          · by_cases h4 : f3 < 0
            · simp [h1, h2, h3, h4]
            · by_cases h5 : f4 < 0
              · simp [h1, h2, h3, h4, h5]
              · simp [h1, h2, h3, h4, h5]
    · have : j = l.length := by omega
      subst this
      rw [if_neg (by omega), List.drop_length]; rfl
theorem bills_ref (a0 a1 a2 a4 a5 : Int) (l : List S53) (h0 : 0 ≤ a0) (h1 : 0 ≤ a1) : quitrentref14_Bills.f 60 a0 a1 a2 l a4 a5 = some (ebills a0 a1 a4 a5 l) := by
  unfold quitrentref14_Bills.f ebills
  by_cases c0 : a0 = 0
  · rw [if_pos c0, quitrentref14_Bills.j0, if_pos rfl]; simp [c0]
  · rw [if_neg c0]
    by_cases c1 : a1 = 0
    · rw [if_pos c1, quitrentref14_Bills.j0, if_pos rfl]; simp [c1]
    · rw [if_neg c1]
      by_cases c2 : a4 < 0
      · rw [if_pos c2, quitrentref14_Bills.j0, if_pos rfl]; simp [show ¬ 0 ≤ a4 by omega]
      · rw [if_neg c2]
        by_cases c3 : a5 < 0
        · rw [if_pos c3, quitrentref14_Bills.j0, if_pos rfl]; simp [show ¬ 0 ≤ a5 by omega]
        · rw [if_neg c3]
          by_cases c4 : (l.length : Int) > 28
          · rw [quitrentref14_Bills.j0, if_pos (decide_eq_true c4)]
            have : decide ((l.length : Int) ≤ 28) = false := decide_eq_false (by omega)
            rw [this]; simp
          · rw [quitrentref14_Bills.j0, if_neg (by simp; omega)]
            have := bills_l0 a0 a1 a2 a4 a5 l (by omega) 58 0 (by omega) (by omega)
            rw [show ((0 : Nat) : Int) = 0 from rfl, List.drop_zero] at this
            rw [this]
            simp only [Option.some.injEq]
            rw [decide_eq_true (by omega : 0 < a0), decide_eq_true (by omega : 0 < a1), decide_eq_true (by omega : (l.length : Int) ≤ 28), decide_eq_true (by omega : 0 ≤ a4), decide_eq_true (by omega : 0 ≤ a5)]
            rfl
theorem number_f (x : Int) : quitrentref14_number.f x = some (beN 8 (x % top64)) := by
  unfold quitrentref14_number.f quitrentref01_Number.f
  rw [IntKind.wrap_u64, if_pos ⟨(top_pos x).1, by decide, by decide⟩]
  rfl
def nums8 (l : List Int) : List Int := (l.map fun x => beN 8 (x % top64)).flatten
theorem nums8_length (l : List Int) : (nums8 l).length = 8 * l.length := by
  induction l with
  | nil => rfl
  | cons x l ih => unfold nums8 at ih ⊢; simp only [List.map_cons, List.flatten_cons, List.length_append, beN_length, List.length_cons, ih]; omega
theorem nums8_drop (l : List Int) (j : Nat) (h : j < l.length) : nums8 (l.drop j) = beN 8 (rd l j % top64) ++ nums8 (l.drop (j + 1)) := by
  rw [List.drop_eq_getElem_cons h]
  unfold nums8
  rw [List.map_cons, List.flatten_cons]
  unfold rd
  rw [List.getD_eq_getElem?_getD, Int.toNat_natCast, List.getElem?_eq_getElem h]; rfl
theorem lease_l0 (l : List Int) (hl : l.length ≤ 1000) : ∀ (n j : Nat) (x : List Int), x.length ≤ 100000 → j ≤ l.length → l.length - j ≤ n → x.length + 8 * (l.length - j) ≤ 100000 → quitrentref14_Lease.l0 (n + 1) x l (j : Int) = some (x ++ nums8 (l.drop j)) := by
  intro n
  induction n with
  | zero =>
    intro j x hx hj h _
    have : j = l.length := by omega
    subst this
    rw [quitrentref14_Lease.l0, if_neg (by omega), List.drop_length]; simp [nums8]
  | succ n ih =>
    intro j x hx hj h hb
    rw [quitrentref14_Lease.l0]
    by_cases hlt : j < l.length
    · rw [if_pos (by omega), if_pos (by omega), number_f]
      simp only [Option.bind_some]
      rw [if_pos (by rw [beN_length]; omega), wrap_nat j (by omega), ih (j + 1) _ (by rw [List.length_append, beN_length]; omega) (by omega) (by omega) (by rw [List.length_append, beN_length]; omega), nums8_drop l j hlt, List.append_assoc]
    · have : j = l.length := by omega
      subst this
      rw [if_neg (by omega), List.drop_length]; simp [nums8]
theorem w64_mod (x : Int) : wrap64 x % top64 = x % top64 := by unfold wrap64 top64; omega
theorem lease_ref (a0 a1 a2 a3 a4 : Int) : quitrentref14_Lease.f 60 a0 a1 a2 a3 a4 = some (eleaseb a0 a1 a2 a3 a4) := by
  unfold quitrentref14_Lease.f
  have := lease_l0 [wrap64 a0, a1, a2, a3, a4] (by simp) 59 0 [] (by simp) (by simp) (by simp) (by simp)
  rw [show ((0 : Nat) : Int) = 0 from rfl] at this
  rw [this]
  simp [nums8, eleaseb, w64_mod]
theorem pack_ref (a0 a1 : Int) : quitrentref14_Pack.f a0 a1 = some (epackb a0 a1) := by
  unfold quitrentref14_Pack.f
  rw [number_f, number_f]
  simp only [Option.bind_some]
  rw [if_pos (by simp [beN_length]), w64_mod]
  rfl
theorem invoice_l1 (a b c d e : Int) (l : List S53) (hl : l.length ≤ 1000) (hg : ∀ x ∈ l, 0 ≤ x.f0 ∧ x.f0 < 256) : ∀ (n j : Nat) (x : List Int), j ≤ l.length → l.length - j ≤ n → x.length + 33 * (l.length - j) ≤ 100000 → quitrentref14_Invoice.l1 (n + 1) x (j : Int) a b c l d e = some (x ++ ((l.drop j).map lbytes).flatten) := by
  intro n
  induction n with
  | zero =>
    intro j x hj h _
    have : j = l.length := by omega
    subst this
    rw [quitrentref14_Invoice.l1, if_neg (by omega), List.drop_length]; simp
  | succ n ih =>
    intro j x hj h hb
    rw [quitrentref14_Invoice.l1]
    by_cases hlt : j < l.length
    · rw [if_pos (by omega), if_pos (by omega), if_pos (by omega)]
      have hrd : rd_T53 l (j : Int) = l[j] := by
        simp only [rd_T53, Int.toNat_natCast, List.getD_eq_getElem?_getD, List.getElem?_eq_getElem hlt]; rfl
      rw [hrd]
      have hm := hg _ (List.getElem_mem hlt)
      simp only [Option.bind_some, number_f]
      rw [if_pos (by simp [beN_length]; omega)]
      rw [if_pos (by simp [beN_length]; omega)]
      rw [if_pos (by simp [beN_length]; omega)]
      rw [if_pos (by simp [beN_length]; omega)]
      rw [wrap_nat j (by omega), ih (j + 1) _ (by omega) (by omega) (by simp only [List.length_append, beN_length, List.length_cons, List.length_nil]; omega), List.drop_eq_getElem_cons hlt, List.map_cons, List.flatten_cons, w64_mod]
      have e1 : beN 1 l[j].f0 = [l[j].f0] := by
        show [l[j].f0 / 256 ^ 0 % 256] = [l[j].f0]
        rw [Int.pow_zero, Int.ediv_one, Int.emod_eq_of_lt hm.1 hm.2]
      unfold lbytes
      rw [e1]
      simp only [List.append_assoc]
    · have : j = l.length := by omega
      subst this
      rw [if_neg (by omega), List.drop_length]; simp
theorem invoice_l0 (a b c d e : Int) (ll : List S53) (hll : ll.length ≤ 28) (hg : ∀ x ∈ ll, 0 ≤ x.f0 ∧ x.f0 < 256) (l : List Int) (hl : l.length ≤ 10) : ∀ (n j : Nat) (x : List Int), j ≤ l.length → l.length - j ≤ n → x.length + 8 * (l.length - j) ≤ 1000 → quitrentref14_Invoice.l0 (n + 40) x l (j : Int) a b c ll d e = some (x ++ nums8 (l.drop j) ++ (ll.map lbytes).flatten) := by
  intro n
  induction n with
  | zero =>
    intro j x hj h hb
    have : j = l.length := by omega
    subst this
    rw [quitrentref14_Invoice.l0, if_neg (by omega), List.drop_length]
    have := invoice_l1 a b c d e ll (by omega) hg 38 0 x (by omega) (by omega) (by omega)
    rw [show ((0 : Nat) : Int) = 0 from rfl, List.drop_zero] at this
    rw [this]; simp [nums8]
  | succ n ih =>
    intro j x hj h hb
    rw [show n + 1 + 40 = (n + 40) + 1 by omega, quitrentref14_Invoice.l0]
    by_cases hlt : j < l.length
    · rw [if_pos (by omega), if_pos (by omega), number_f]
      simp only [Option.bind_some]
      rw [if_pos (by rw [beN_length]; omega), wrap_nat j (by omega), ih (j + 1) _ (by omega) (by omega) (by rw [List.length_append, beN_length]; omega), nums8_drop l j hlt]
      simp only [List.append_assoc]
    · have : j = l.length := by omega
      subst this
      rw [if_neg (by omega), List.drop_length]
      have := invoice_l1 a b c d e ll (by omega) hg (n + 39) 0 x (by omega) (by omega) (by omega)
      rw [show ((0 : Nat) : Int) = 0 from rfl, List.drop_zero] at this
      rw [this]; simp [nums8]
theorem invoice_ref (a0 a1 a2 a4 a5 : Int) (l : List S53) (hl : l.length ≤ 28) (hg : l.any lbad = false) : quitrentref14_Invoice.f 60 a0 a1 a2 l a4 a5 = some (einv a0 a1 a2 a4 a5 l) := by
  unfold quitrentref14_Invoice.f
  have := invoice_l0 a0 a1 a2 a4 a5 l hl (fun x hx => by have h1 := lbad_good (any_mem hg hx); omega) [wrap64 a0, wrap64 a1, a2, a4, a5, (l.length : Int)] (by simp) 20 0 [] (by simp) (by simp) (by simp)
  rw [show ((0 : Nat) : Int) = 0 from rfl] at this
  rw [this]
  simp [nums8, einv, ihead, w64_mod]
end Go.Proofs.Ytdfmganmchmbjaa.Ext
