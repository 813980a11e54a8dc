/- The plain law of the check, as the statements ask for it. -/
import Derived.Test.YtddajglkefpjdaaCrcM
import Derived.Lib.Strings
namespace Go.Proofs.Ytddajglkefpjdaa.Ext
set_option linter.unusedVariables false
def placeOf (a : Int) : List Int := [a % 256, a / 256 % 256, a / 65536 % 256, a / 16777216 % 256]
theorem wf_byte (c : Int) (h : (Lit.int .u8 c).wf = true) : IsByte c := by
  have h1 : IntKind.u8.min = 0 := rfl
  have h2 : IntKind.u8.max = 255 := rfl
  simp only [Lit.wf, Bool.and_eq_true, decide_eq_true_eq, h1, h2] at h
  unfold IsByte; omega
theorem wf_word (c : Int) (h : (Lit.int .u32 c).wf = true) : 0 ≤ c ∧ c < 4294967296 := by
  have h1 : IntKind.u32.min = 0 := rfl
  have h2 : IntKind.u32.max = 4294967295 := rfl
  simp only [Lit.wf, Bool.and_eq_true, decide_eq_true_eq, h1, h2] at h
  omega
theorem wf_half (c : Int) (h : (Lit.int .u16 c).wf = true) : 0 ≤ c ∧ c < 65536 := by
  have h1 : IntKind.u16.min = 0 := rfl
  have h2 : IntKind.u16.max = 65535 := rfl
  simp only [Lit.wf, Bool.and_eq_true, decide_eq_true_eq, h1, h2] at h
  omega
theorem placeOf_bytes (a : Int) : ∀ c ∈ placeOf a, IsByte c := by
  intro c hc
  simp only [placeOf, List.mem_cons, List.not_mem_nil, or_false] at hc
  unfold IsByte
  omega
theorem leNum_four (a b c d : Int) (ha : IsByte a) (hb : IsByte b) (hc : IsByte c) (hd : IsByte d) : leNum [a, b, c, d] = a.toNat + 256 * b.toNat + 65536 * c.toNat + 16777216 * d.toNat := by
  unfold IsByte at *
  have e : ∀ n : Nat, 2 ^ 8 * n = 256 * n := fun n => rfl
  simp only [leNum]
  rw [xor_low 8 0 d.toNat (by omega), xor_low 8 _ c.toNat (by omega), xor_low 8 _ b.toNat (by omega), xor_low 8 _ a.toNat (by omega)]
  omega
theorem leNum_placeOf (a : Int) (h0 : 0 ≤ a) (h1 : a < 4294967296) : leNum (placeOf a) = a.toNat := by
  have hb := placeOf_bytes a
  unfold placeOf at *
  rw [leNum_four _ _ _ _ (hb _ (by simp)) (hb _ (by simp)) (hb _ (by simp)) (hb _ (by simp))]
  omega
/-- Two checks of parts are the same number if the registers are. -/
theorem check_beq (x y : Nat) : ((4294967295 - (x : Int)) == (4294967295 - (y : Int))) = decide (x = y) := by
  by_cases h : x = y
  · subst h; simp
  · rw [decide_eq_false h, beq_eq_false_iff_ne]; omega
theorem check_parts (p q : List (List Int)) (s z : Nat) (hp : ∀ c ∈ p.flatten, IsByte c) (hq : ∀ c ∈ q.flatten, IsByte c) (hl : p.flatten.length = q.flatten.length) (hs : s ≤ 8 * p.flatten.length) (hz : z < 4294967296)
    (hd : leNum p.flatten ^^^ leNum q.flatten = 2 ^ s * z) : ((4294967295 - (crcParts 4294967295 p : Int)) == (4294967295 - (crcParts 4294967295 q : Int))) = decide (z = 0) := by
  rw [check_beq, crcParts_flat, crcParts_flat]
  have := crc_same 4294967295 s z _ _ hp hq hl hs hz hd
  by_cases h : z = 0
  · rw [decide_eq_true h, decide_eq_true (this.2 h)]
  · rw [decide_eq_false h, decide_eq_false (fun e => h (this.1 e))]
theorem place_ahead (b : List Int) (a1 a2 : Int) (hb : ∀ c ∈ b, IsByte c) (h1 : 0 ≤ a1 ∧ a1 < 4294967296) (h2 : 0 ≤ a2 ∧ a2 < 4294967296) :
    ((4294967295 - (crcParts 4294967295 [placeOf a1, b] : Int)) == (4294967295 - (crcParts 4294967295 [placeOf a2, b] : Int))) = (a1 == a2) := by
  rw [check_parts [placeOf a1, b] [placeOf a2, b] 0 (a1.toNat ^^^ a2.toNat)]
  · by_cases h : a1 = a2
    · subst h; simp
    · rw [beq_eq_false_iff_ne.2 h, decide_eq_false]
      rw [xor_zero_iff]; omega
  · intro c hc; simp at hc
    rcases hc with hc | hc
    · exact placeOf_bytes _ _ hc
    · exact hb c hc
  · intro c hc; simp at hc
    rcases hc with hc | hc
    · exact placeOf_bytes _ _ hc
    · exact hb c hc
  · simp [placeOf]
  · omega
  · exact Nat.xor_lt_two_pow (n := 32) (by omega) (by omega)
  · have l1 : (placeOf a1).length = 4 := rfl
    have l2 : (placeOf a2).length = 4 := rfl
    simp only [List.flatten_cons, List.flatten_nil, List.append_nil]
    rw [leNum_append, leNum_append, leNum_placeOf a1 h1.1 h1.2, leNum_placeOf a2 h2.1 h2.2, l1, l2, Nat.xor_assoc, Nat.xor_comm (a2.toNat), ← Nat.xor_assoc (2 ^ (8 * 4) * leNum b), Nat.xor_self, Nat.zero_xor]
    omega
theorem place_behind (b : List Int) (a1 a2 : Int) (hb : ∀ c ∈ b, IsByte c) (h1 : 0 ≤ a1 ∧ a1 < 4294967296) (h2 : 0 ≤ a2 ∧ a2 < 4294967296) :
    ((4294967295 - (crcParts 4294967295 [b, placeOf a1] : Int)) == (4294967295 - (crcParts 4294967295 [b, placeOf a2] : Int))) = (a1 == a2) := by
  rw [check_parts [b, placeOf a1] [b, placeOf a2] (8 * b.length) (a1.toNat ^^^ a2.toNat)]
  · by_cases h : a1 = a2
    · subst h; simp
    · rw [beq_eq_false_iff_ne.2 h, decide_eq_false]
      rw [xor_zero_iff]; omega
  · intro c hc; simp at hc
    rcases hc with hc | hc
    · exact hb c hc
    · exact placeOf_bytes _ _ hc
  · intro c hc; simp at hc
    rcases hc with hc | hc
    · exact hb c hc
    · exact placeOf_bytes _ _ hc
  · simp [placeOf]
  · simp; omega
  · exact Nat.xor_lt_two_pow (n := 32) (by omega) (by omega)
  · simp only [List.flatten_cons, List.flatten_nil, List.append_nil]
    rw [leNum_append, leNum_append, leNum_placeOf a1 h1.1 h1.2, leNum_placeOf a2 h2.1 h2.2, Nat.xor_assoc, xor_left, ← Nat.xor_assoc (leNum b), Nat.xor_self, Nat.zero_xor, pow_mul_xor]
/-- Strings of bytes are the same if the bytes are. -/
theorem strOf_same (x y : List Int) (hx : ∀ c ∈ x, IsByte c) (hy : ∀ c ∈ y, IsByte c) : ((strOfNums x).toList == (strOfNums y).toList) = decide (x = y) := by
  rw [Lib.toList_data, Lib.toList_data]
  have e : ∀ l : List Int, (strOfNums l).data.toList = l.map fun n => UInt8.ofNat n.toNat := fun l => by simp [strOfNums]
  rw [e, e]
  by_cases h : x = y
  · subst h; simp
  · rw [decide_eq_false h, beq_eq_false_iff_ne]
    intro h2
    apply h
    clear e h
    induction x generalizing y with
    | nil => cases y with
      | nil => rfl
      | cons b y => simp at h2
    | cons a x ih =>
      cases y with
      | nil => simp at h2
      | cons b y =>
        simp only [List.map_cons, List.cons.injEq] at h2
        have ha := hx a (by simp)
        have hb := hy b (by simp)
        unfold IsByte at ha hb
        have e1 : a = b := by
          have := congrArg UInt8.toNat h2.1
          simp at this
          omega
        rw [e1, ih y (fun c hc => hx c (by simp [hc])) (fun c hc => hy c (by simp [hc])) h2.2]
theorem list_four (l : List Int) (h : l.length = 4) : ∃ a b c d, l = [a, b, c, d] := by
  match l, h with
  | [a, b, c, d], _ => exact ⟨a, b, c, d, rfl⟩
theorem leNum_four_lt (l : List Int) (h : l.length = 4) (hb : ∀ c ∈ l, IsByte c) : leNum l < 4294967296 := by
  obtain ⟨a, b, c, d, rfl⟩ := list_four l h
  have h1 := hb a (by simp); have h2 := hb b (by simp); have h3 := hb c (by simp); have h4 := hb d (by simp)
  rw [leNum_four _ _ _ _ h1 h2 h3 h4]
  unfold IsByte at *
  omega
theorem leNum_four_inj (x y : List Int) (hx : x.length = 4) (hy : y.length = 4) (bx : ∀ c ∈ x, IsByte c) (by_ : ∀ c ∈ y, IsByte c) (h : leNum x = leNum y) : x = y := by
  obtain ⟨a, b, c, d, rfl⟩ := list_four x hx
  obtain ⟨a', b', c', d', rfl⟩ := list_four y hy
  have h1 := bx a (by simp); have h2 := bx b (by simp); have h3 := bx c (by simp); have h4 := bx d (by simp)
  have g1 := by_ a' (by simp); have g2 := by_ b' (by simp); have g3 := by_ c' (by simp); have g4 := by_ d' (by simp)
  rw [leNum_four _ _ _ _ h1 h2 h3 h4, leNum_four _ _ _ _ g1 g2 g3 g4] at h
  unfold IsByte at *
  have e1 : a = a' := by omega
  have e2 : b = b' := by omega
  have e3 : c = c' := by omega
  have e4 : d = d' := by omega
  rw [e1, e2, e3, e4]
/-- Four bytes in the midst, or other ones. -/
theorem word_mid (p x y q : List Int) (hp : ∀ c ∈ p, IsByte c) (hx : ∀ c ∈ x, IsByte c) (hy : ∀ c ∈ y, IsByte c) (hq : ∀ c ∈ q, IsByte c) (lx : x.length = 4) (ly : y.length = 4) :
    ((4294967295 - (crcParts 4294967295 [p ++ x ++ q] : Int)) == (4294967295 - (crcParts 4294967295 [p, y, q] : Int))) = decide (x = y) := by
  rw [check_parts [p ++ x ++ q] [p, y, q] (8 * p.length) (leNum x ^^^ leNum y)]
  · by_cases h : x = y
    · subst h; simp
    · rw [decide_eq_false h, decide_eq_false]
      rw [xor_zero_iff]
      exact fun e => h (leNum_four_inj x y lx ly hx hy e)
  · intro c hc; simp at hc
    rcases hc with hc | hc | hc
    · exact hp c hc
    · exact hx c hc
    · exact hq c hc
  · intro c hc; simp at hc
    rcases hc with hc | hc | hc
    · exact hp c hc
    · exact hy c hc
    · exact hq c hc
  · simp; omega
  · simp; omega
  · exact Nat.xor_lt_two_pow (n := 32) (leNum_four_lt x lx hx) (leNum_four_lt y ly hy)
  · simp only [List.flatten_cons, List.flatten_nil, List.append_nil, List.append_assoc]
    rw [leNum_append, leNum_append, leNum_append, leNum_append, lx, ly, pow_mul_xor, pow_mul_xor, pow_mul_xor]
    generalize leNum p = a
    generalize 2 ^ (8 * p.length) * leNum x = b
    generalize 2 ^ (8 * p.length) * leNum y = c
    generalize 2 ^ (8 * p.length) * (2 ^ (8 * 4) * leNum q) = d
    rw [Nat.xor_assoc, xor_left (b ^^^ d), ← Nat.xor_assoc a, Nat.xor_self, Nat.zero_xor, Nat.xor_assoc, xor_left d, Nat.xor_self, Nat.xor_zero]
end Go.Proofs.Ytddajglkefpjdaa.Ext
