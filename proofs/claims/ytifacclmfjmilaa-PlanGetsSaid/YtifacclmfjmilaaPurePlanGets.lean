import Derived.Test.YtifacclmfjmilaaPZx6
import Derived.Test.YtifacclmfjmilaaPMath2
import Derived.Test.YtifacclmfjmilaaPRef
import Derived.Lib.Strings
namespace Go.Proofs.Ytifacclmfjmilaa.Pure
open Go.RowKit Go.Proofs.Ytifacclmfjmilaa.PZ Go.Proofs.YtifacclmfjmilaaW.PrintWords Go.Proofs.YtifacclmfjmilaaW.PrintLast Go.Proofs.Ytifacclmfjmilaa.Ext
theorem gbytes_wf {l : List Int} (h : ∀ x ∈ l, (Lit.int .u8 x).wf = true) : ∀ x ∈ l, IsByte x := fun x hx => by
  have h := h x hx
  have h1 : IntKind.u8.min = 0 := rfl
  have h2 : IntKind.u8.max = 255 := rfl
  simp only [Lit.wf, Bool.and_eq_true, decide_eq_true_eq, h1, h2] at h
  unfold IsByte; omega
theorem gbytesOf_str (l : List Int) (h : ∀ x ∈ l, IsByte x) : bytesOf (strOfNums l) = l := by
  unfold bytesOf
  rw [strOfNums_data, List.map_map]
  conv => rhs; rw [← List.map_id l]
  apply List.map_congr_left
  intro x hx
  have := h x hx
  unfold IsByte at this
  simp
  omega
theorem gstrOf_inj {x y : List Int} (hx : ∀ c ∈ x, IsByte c) (hy : ∀ c ∈ y, IsByte c) (h : (strOfNums x).toList = (strOfNums y).toList) : x = y := by
  have e : strOfNums x = strOfNums y := by
    have h1 := congrArg (fun l : List UInt8 => (⟨l.toArray⟩ : ByteArray)) h
    simp only [Lib.toList_data] at h1
    generalize strOfNums x = a at h1
    generalize strOfNums y = b at h1
    obtain ⟨⟨a⟩⟩ := a
    obtain ⟨⟨b⟩⟩ := b
    exact h1
  have := congrArg bytesOf e
  rwa [gbytesOf_str x hx, gbytesOf_str y hy] at this
/-- The numbers that bytes hold, from the i-th on. -/
def gnums (x : List Int) : Nat → Nat → List Int
  | _, 0 => []
  | i, d + 1 => wrap64 (beVal ((x.take (8 * i + 8)).drop (8 * i))) :: gnums x (i + 1) d
theorem gnums_length (x : List Int) : ∀ d i, (gnums x i d).length = d
  | 0, _ => rfl
  | d + 1, i => by simp [gnums, gnums_length x d (i + 1)]
theorem rget_l0 (x : List Int) (hb : ∀ c ∈ x, IsByte c) (K : Nat) : ∀ (d i : Nat) (acc : List Int), 8 * (i + d) ≤ x.length → i + d ≤ 100 → acc.length = i →
    quitrentref13_Get.l0 (K + d) x acc ((8 * i : Nat) : Int) = quitrentref13_Get.l0 K x (acc ++ gnums x i d) ((8 * (i + d) : Nat) : Int) := by
  intro d
  induction d with
  | zero => intro i acc _ _ _; simp [gnums]
  | succ d ih =>
    intro i acc h1 h2 h3
    have hw : wrap64 (((8 * i : Nat) : Int) + 8) = ((8 * (i + 1) : Nat) : Int) := by rw [wrap_i _ (by omega) (by omega)]; omega
    conv => lhs; rw [show K + (d + 1) = (K + d) + 1 by omega]; simp only [quitrentref13_Get.l0]
    have hv : quitrentref01_Value.f ((x.take (8 * (i + 1))).drop (8 * i)) = some (beVal ((x.take (8 * i + 8)).drop (8 * i))) := by
      unfold quitrentref01_Value.f
      rw [if_pos ⟨bytesOk_of fun c hc => hb c (List.mem_of_mem_take (List.mem_of_mem_drop hc)), by rw [List.length_drop, List.length_take]; omega⟩]
      rfl
    rw [hw, if_pos (by omega), if_pos (by omega), if_pos (by omega), if_pos (by omega), Int.toNat_natCast, Int.toNat_natCast, hv, Option.bind_some, if_pos (by omega), ih (i + 1) _ (by omega) (by omega) (by simp [h3])]
    rw [show i + (d + 1) = i + 1 + d by omega]
    simp [gnums]
/-- The tiers among numbers, from the i-th on. -/
def gtiers (x : List Int) : Nat → Nat → List S55
  | _, 0 => []
  | i, d + 1 => ⟨rd x ((7 + 2 * i : Nat) : Int), rd x ((8 + 2 * i : Nat) : Int)⟩ :: gtiers x (i + 1) d
theorem gtiers_length (x : List Int) : ∀ d i, (gtiers x i d).length = d
  | 0, _ => rfl
  | d + 1, i => by simp [gtiers, gtiers_length x d (i + 1)]
theorem rget_l1 (x nm : List Int) (a0 a1 a2 a3 a4 a5 : Int) (K : Nat) : ∀ (d i : Nat) (acc : List S55), 7 + 2 * (i + d) ≤ nm.length → i + d ≤ 100 → acc.length = i →
    quitrentref13_Get.l1 (K + d) x nm ((7 + 2 * i : Nat) : Int) a0 a1 a2 a3 a4 a5 acc = quitrentref13_Get.l1 K x nm ((7 + 2 * (i + d) : Nat) : Int) a0 a1 a2 a3 a4 a5 (acc ++ gtiers nm i d) := by
  intro d
  induction d with
  | zero => intro i acc _ _ _; simp [gtiers]
  | succ d ih =>
    intro i acc h1 h2 h3
    have hw : wrap64 (((7 + 2 * i : Nat) : Int) + 1) = ((8 + 2 * i : Nat) : Int) := by rw [wrap_i _ (by omega) (by omega)]; omega
    have hw2 : wrap64 (((7 + 2 * i : Nat) : Int) + 2) = ((7 + 2 * (i + 1) : Nat) : Int) := by rw [wrap_i _ (by omega) (by omega)]; omega
    conv => lhs; rw [show K + (d + 1) = (K + d) + 1 by omega]; simp only [quitrentref13_Get.l1]
    rw [hw, hw2, if_pos (by omega), if_pos (by omega), if_pos (by omega), if_pos (by omega), if_pos (by omega), ih (i + 1) _ (by omega) (by omega) (by simp [h3])]
    rw [show i + (d + 1) = i + 1 + d by omega]
    simp [gtiers]
theorem rget_f (x : List Int) (hb : ∀ c ∈ x, IsByte c) (n : Nat) (hn : x.length = 8 * n) (h7 : 7 ≤ n) (h15 : n ≤ 15) (K : Nat) :
    quitrentref13_Get.f (K + 400) x = (let nm := gnums x 0 n; let a0 := rd nm 0 % 4294967296; let ls := gtiers nm 0 ((n - 7) / 2)
      if pchk a0 (rd nm 1) (rd nm 2) (rd nm 3) (rd nm 4) (rd nm 5) ls = true ∧ bytes8 (planNums a0 (rd nm 1) (rd nm 2) (rd nm 3) (rd nm 4) (rd nm 5) ls) = x then some (a0, rd nm 1, rd nm 2, rd nm 3, rd nm 4, rd nm 5, ls, true)
      else some (0, 0, 0, 0, 0, 0, [], false)) := by
  unfold quitrentref13_Get.f
  rw [if_neg (by omega), if_pos (by omega), decide_eq_false (by omega)]
  conv => lhs; rw [show K + 400 = ((K + 399 - n) + n) + 1 by omega]; simp only [quitrentref13_Get.j0]
  rw [if_neg (by decide)]
  have h0 := rget_l0 x hb (K + 399 - n) n 0 [] (by omega) (by omega) rfl
  rw [show ((8 * 0 : Nat) : Int) = 0 from rfl] at h0
  rw [h0, List.nil_append]
  obtain ⟨nm, hnm⟩ : ∃ nm, gnums x 0 n = nm := ⟨_, rfl⟩
  have hl : nm.length = n := by rw [← hnm, gnums_length]
  rw [hnm]
  obtain ⟨m, hm⟩ : ∃ m, (n - 7) / 2 = m := ⟨_, rfl⟩
  rw [hm]
  conv => lhs; rw [show K + 399 - n = ((K + 398 - n - m) + m) + 1 by omega]; simp only [quitrentref13_Get.l0]
  rw [if_neg (by omega), if_pos (by omega), if_pos (by omega), if_pos (by omega), if_pos (by omega), if_pos (by omega), if_pos (by omega)]
  have h1 := rget_l1 x nm (rd nm 0 % 4294967296) (rd nm 1) (rd nm 2) (rd nm 3) (rd nm 4) (rd nm 5) (K + 398 - n - m) m 0 [] (by omega) (by omega) rfl
  rw [show ((7 + 2 * 0 : Nat) : Int) = 7 from rfl] at h1
  rw [h1, List.nil_append]
  obtain ⟨ls, hls⟩ : ∃ ls, gtiers nm 0 m = ls := ⟨_, rfl⟩
  have hll : ls.length = m := by rw [← hls, gtiers_length]
  rw [hls]
  conv => lhs; rw [show K + 398 - n - m = (K + 397 - n - m) + 1 by omega]; simp only [quitrentref13_Get.l1]
  rw [wrap_i _ (by omega) (by omega), if_neg (by omega), rcheck _ _ _ _ _ _ _ (by omega), Option.bind_some]
  rw [rput _ _ _ _ _ _ _ (by omega) (by omega) (by omega) _ (by omega), Option.bind_some]
  dsimp only
  rw [hls]
  by_cases hc : pchk (rd nm 0 % 4294967296) (rd nm 1) (rd nm 2) (rd nm 3) (rd nm 4) (rd nm 5) ls = true
  · rw [if_pos hc]
    by_cases he : bytes8 (planNums (rd nm 0 % 4294967296) (rd nm 1) (rd nm 2) (rd nm 3) (rd nm 4) (rd nm 5) ls) = x
    · simp only [he, hc, and_self, if_true]
    · rw [if_neg (fun h => he (gstrOf_inj (bytes8_bytes _) hb h)), if_neg (fun h => he h.2)]
  · rw [if_neg hc, if_neg (fun h => hc h.1)]
theorem gnums_put : ∀ (suf pre : List Int), (∀ v ∈ suf, I64 v) → gnums (bytes8 (pre ++ suf)) pre.length suf.length = suf := by
  intro suf
  induction suf with
  | nil => intro _ _; rfl
  | cons v suf ih =>
    intro pre h
    have e := ih (pre ++ [v]) (fun u hu => h u (List.mem_cons_of_mem _ hu))
    rw [List.length_append, List.append_assoc, List.singleton_append, List.length_singleton] at e
    have hs : ((bytes8 (pre ++ v :: suf)).take (8 * pre.length + 8)).drop (8 * pre.length) = beN 8 (v % top64) := by
      have e1 : bytes8 (pre ++ v :: suf) = bytes8 pre ++ (bytes8 (v :: suf) ++ []) := by simp [bytes8]
      rw [e1, List.drop_take, ← bytes8_length, List.drop_left, show (bytes8 pre).length + 8 - (bytes8 pre).length = 8 by omega, (take_bytes8 v suf []).1]
    have hv : beVal (beN 8 (v % top64)) = v % top64 := by
      have := top_pos v
      exact beVal_beN_lt 8 _ this.1 this.2
    simp only [List.length_cons, gnums]
    rw [e, hs, hv, wrap_mod v (h v (List.mem_cons_self ..))]
theorem gtiers_put : ∀ (ls : List S55) (pre : List Int) (i : Nat), pre.length = 7 + 2 * i → gtiers (pre ++ tierNums ls) i ls.length = ls := by
  intro ls
  induction ls with
  | nil => intro _ _ _; rfl
  | cons t ls ih =>
    intro pre i h
    have e := ih (pre ++ [t.f0, t.f1]) (i + 1) (by simp [h]; omega)
    have e2 : pre ++ tierNums (t :: ls) = (pre ++ [t.f0, t.f1]) ++ tierNums ls := by simp [tierNums]
    simp only [List.length_cons, gtiers]
    rw [e2, e]
    have g0 : rd ((pre ++ [t.f0, t.f1]) ++ tierNums ls) ((7 + 2 * i : Nat) : Int) = t.f0 := by
      unfold rd; rw [Int.toNat_natCast, ← h, List.append_assoc]; simp [List.getD_eq_getElem?_getD]
    have g1 : rd ((pre ++ [t.f0, t.f1]) ++ tierNums ls) ((8 + 2 * i : Nat) : Int) = t.f1 := by
      unfold rd; rw [Int.toNat_natCast, show 8 + 2 * i = pre.length + 1 by omega, List.append_assoc]; simp [List.getD_eq_getElem?_getD]
    rw [g0, g1]
/-- The reference reads what was put. -/
theorem rget_put (a0 a1 a2 a3 a4 a5 : Int) (ls : List S55) (h1 : a0 ≤ 4294967295) (hk : pchk a0 a1 a2 a3 a4 a5 ls = true) (K : Nat) :
    quitrentref13_Get.f (K + 400) (bytes8 (planNums a0 a1 a2 a3 a4 a5 ls)) = some (a0, a1, a2, a3, a4, a5, ls, true) := by
  have hk' := hk
  unfold pchk at hk'
  rw [Bool.and_eq_true, Bool.and_eq_true, decide_eq_true_eq] at hk'
  obtain ⟨hl4, ht⟩ := chk_range hk'.2.2
  have n1 : 0 ≤ a1 ∧ a1 ≤ 1099511627776 := numsOk_of hk 0 (by decide)
  have n2 : 0 ≤ a2 ∧ a2 ≤ 1099511627776 := numsOk_of hk 1 (by decide)
  have n3 : 0 ≤ a3 ∧ a3 ≤ 1099511627776 := numsOk_of hk 2 (by decide)
  have n4 : 0 ≤ a4 ∧ a4 ≤ 1099511627776 := numsOk_of hk 3 (by decide)
  have n5 : 0 ≤ a5 ∧ a5 ≤ 1125899906842624 := numsOk_of hk 4 (by decide)
  have hlen : (planNums a0 a1 a2 a3 a4 a5 ls).length = 7 + 2 * ls.length := by unfold planNums; rw [List.length_append, tierNums_length]; rfl
  have hI : ∀ v ∈ planNums a0 a1 a2 a3 a4 a5 ls, I64 v := by
    intro v hv
    unfold planNums at hv
    rcases List.mem_append.1 hv with hv | hv
    · simp at hv
      unfold I64
      rcases hv with rfl | rfl | rfl | rfl | rfl | rfl | rfl <;> omega
    · exact tierNums_mem ht v hv
  have hg := gnums_put (planNums a0 a1 a2 a3 a4 a5 ls) [] hI
  rw [List.nil_append, List.length_nil, hlen] at hg
  have hgt : gtiers (planNums a0 a1 a2 a3 a4 a5 ls) 0 ls.length = ls := gtiers_put ls [a0, a1, a2, a3, a4, a5, (ls.length : Int)] 0 rfl
  rw [rget_f _ (bytes8_bytes _) (7 + 2 * ls.length) (by rw [bytes8_length, hlen]) (by omega) (by omega)]
  dsimp only
  rw [hg, show (7 + 2 * ls.length - 7) / 2 = ls.length by omega, hgt]
  have r0 : rd (planNums a0 a1 a2 a3 a4 a5 ls) 0 = a0 := rfl
  have r1 : rd (planNums a0 a1 a2 a3 a4 a5 ls) 1 = a1 := rfl
  have r2 : rd (planNums a0 a1 a2 a3 a4 a5 ls) 2 = a2 := rfl
  have r3 : rd (planNums a0 a1 a2 a3 a4 a5 ls) 3 = a3 := rfl
  have r4 : rd (planNums a0 a1 a2 a3 a4 a5 ls) 4 = a4 := rfl
  have r5 : rd (planNums a0 a1 a2 a3 a4 a5 ls) 5 = a5 := rfl
  rw [r0, r1, r2, r3, r4, r5, show a0 % 4294967296 = a0 by omega, if_pos ⟨hk, rfl⟩]
/-- What the reference does not read, the program does not. -/
theorem rget_none (x : List Int) (hb : ∀ c ∈ x, IsByte c) (h : pget x = (0, 0, 0, 0, 0, 0, [], 21)) (K : Nat) : quitrentref13_Get.f (K + 400) x = some (0, 0, 0, 0, 0, 0, [], false) := by
  by_cases h1 : x.length < 56
  · unfold quitrentref13_Get.f
    rw [if_pos (by omega)]; simp only [quitrentref13_Get.j0, if_true]
  · by_cases h2 : x.length % 8 = 0
    · by_cases h3 : 120 < x.length
      · unfold quitrentref13_Get.f
        rw [if_neg (by omega), if_pos (by omega), decide_eq_true (by omega)]; simp only [quitrentref13_Get.j0, if_true]
      · rw [rget_f x hb (x.length / 8) (by omega) (by omega) (by omega)]
        dsimp only
        split
        · rename_i hc
          exfalso
          have e := pget_rest _ _ _ _ _ _ _ [] (by omega) hc.1
          rw [List.append_nil, hc.2, h, if_pos rfl] at e
          simp at e
        · rfl
    · unfold quitrentref13_Get.f
      rw [if_neg (by omega), if_neg (by omega)]; simp only [quitrentref13_Get.j0, if_true]
theorem gsame_zero (k : Nat) : quitrentref13_Same.f (k + 2) 0 0 0 0 0 0 ([] : List S55) 0 0 0 0 0 0 [] = some true := rfl
theorem gsame_l0 (a0 a1 a2 a3 a4 a5 b0 b1 b2 b3 b4 b5 : Int) (ls : List S55) (hl : ls.length ≤ 100) (K : Nat) : ∀ (d i : Nat), i + d = ls.length →
    quitrentref13_Same.l0 (K + d + 1) (i : Int) a0 a1 a2 a3 a4 a5 ls b0 b1 b2 b3 b4 b5 ls = some true := by
  intro d
  induction d with
  | zero => intro i h; simp only [quitrentref13_Same.l0]; rw [if_neg (by omega)]
  | succ d ih =>
    intro i h
    rw [show K + (d + 1) + 1 = (K + d + 1) + 1 by omega]
    simp only [quitrentref13_Same.l0]
    rw [if_pos (by omega), if_pos (by omega), if_pos (by omega), if_neg (by simp), wrap_nat i (by omega)]
    exact ih (i + 1) (by omega)
theorem gsame_self (a0 a1 a2 a3 a4 a5 : Int) (ls : List S55) (hl : ls.length ≤ 100) (K : Nat) : quitrentref13_Same.f (K + 200) a0 a1 a2 a3 a4 a5 ls a0 a1 a2 a3 a4 a5 ls = some true := by
  unfold quitrentref13_Same.f
  simp only [if_true, bne_self_eq_false]
  rw [show K + 200 = ((K + 198 - ls.length) + ls.length + 1) + 1 by omega]
  simp only [quitrentref13_Same.j0]
  rw [if_neg (by decide)]
  exact gsame_l0 _ _ _ _ _ _ _ _ _ _ _ _ ls hl _ ls.length 0 (by omega)
theorem PlanGets : quitrentlaw13_PlanGets.Pure := by
  intro l hm hl hw
  have hb := gbytes_wf hw
  have hg : plan_Get.f l = some (pget l) := by unfold plan_Get.f; rw [if_pos ⟨bytesOk_of hb, by unfold maxLen at hm; omega⟩]
  refine ⟨600, ?_⟩
  unfold quitrentlaw13_PlanGets.f
  by_cases h500 : (l.length : Int) > 500
  · rw [if_pos h500]
  · rw [if_neg h500, hg, Option.bind_some]
    rcases pget_sound l hb with h | ⟨a0, a1, a2, a3, a4, a5, ls, h, h0, hk, hbt⟩
    · have hr := rget_none l hb h 200
      rw [show 200 + 400 = 600 from rfl] at hr
      rw [hr, Option.bind_some, h]
      dsimp only
      rw [if_pos (by decide), if_neg (by decide), if_pos rfl, gsame_zero 598]
      rfl
    · have hr := rget_put a0 a1 a2 a3 a4 a5 ls h0 hk 200
      rw [show 200 + 400 = 600 from rfl, hbt] at hr
      have hk' := hk
      unfold pchk at hk'
      rw [Bool.and_eq_true, Bool.and_eq_true, decide_eq_true_eq] at hk'
      obtain ⟨hl4, ht⟩ := chk_range hk'.2.2
      rw [hr, Option.bind_some, h]
      dsimp only
      have hs := gsame_self a0 a1 a2 a3 a4 a5 ls (by omega) 400
      rw [show 400 + 200 = 600 from rfl] at hs
      rw [if_pos (by decide), if_pos rfl, hs]
      rfl
end Go.Proofs.Ytifacclmfjmilaa.Pure
