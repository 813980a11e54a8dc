/- Plain facts on bytes of numbers, and on readers of them. -/
import Derived.Test.YtanjkhdagegapaaRead
import Derived.Laws.BytesArg
import Derived.Lib.ConvBytes
namespace Go.Proofs.Ytanjkhdagegapaa.Ext
open Go.RowKit Go.Proofs.YtanjkhdagegapaaW.PrintWords Go.Proofs.YtanjkhdagegapaaW.PrintLast Go.Proofs.YtanjkhdagegapaaW.PrintMore Go.Proofs.YtanjkhdagegapaaW.Hand
set_option linter.unusedVariables false
theorem foldl_val (l : List Int) : ∀ a : Int, l.foldl (fun v c => v * 256 + c) a = a * 256 ^ l.length + beVal l := by
  induction l with
  | nil => intro a; simp [beVal]
  | cons c l ih =>
    intro a
    have e1 := ih (a * 256 + c)
    have e2 := ih (0 * 256 + c)
    simp only [beVal, List.foldl_cons, List.length_cons] at *
    rw [e1, e2, Int.pow_succ]
    simp only [Int.add_mul, Int.mul_assoc, Int.mul_comm (256 : Int) (256 ^ l.length)]
    omega
theorem beVal_append (a b : List Int) : beVal (a ++ b) = beVal a * 256 ^ b.length + beVal b := by
  unfold beVal
  rw [List.foldl_append, foldl_val]
  rfl
theorem beVal_beN (n : Nat) (v : Int) : beVal (beN n v) = v % 256 ^ n := by
  induction n with
  | zero => simp [beN, beVal]
  | succ n ih =>
    have e : beN (n + 1) v = [v / 256 ^ n % 256] ++ beN n v := rfl
    rw [e, beVal_append, ih, beN_length]
    have h1 : beVal [v / 256 ^ n % 256] = v / 256 ^ n % 256 := by simp [beVal]
    rw [h1, Int.pow_succ]
    have hp : (0 : Int) < 256 ^ n := Int.pow_pos (by decide)
    have a1 := Int.emod_add_mul_ediv v (256 ^ n)
    have a2 := Int.emod_add_mul_ediv (v / 256 ^ n) 256
    have a3 := Int.emod_add_mul_ediv v (256 ^ n * 256)
    rw [← Int.ediv_ediv_of_nonneg (Int.le_of_lt hp)] at a3
    generalize v / 256 ^ n = q at *
    generalize (256 : Int) ^ n = p at *
    have a4 : p * q = p * (q % 256) + p * 256 * (q / 256) := by
      conv => lhs; rw [← a2]
      rw [Int.mul_add, Int.mul_assoc]
    have a5 : q % 256 * p = p * (q % 256) := Int.mul_comm _ _
    omega
theorem beVal_beN_lt (n : Nat) (v : Int) (h0 : 0 ≤ v) (h : v < 256 ^ n) : beVal (beN n v) = v := by rw [beVal_beN]; exact Int.emod_eq_of_lt h0 h
theorem beN_bytes (n : Nat) (v : Int) : ∀ x ∈ beN n v, IsByte x := by
  induction n with
  | zero => intro x hx; cases hx
  | succ n ih =>
    intro x hx
    rcases List.mem_cons.1 hx with rfl | hx
    · unfold IsByte; omega
    · exact ih x hx
theorem bytesOf_bytes (s : ByteArray) : ∀ x ∈ bytesOf s, IsByte x := by
  intro x hx
  obtain ⟨b, _, rfl⟩ := List.mem_map.1 hx
  have := b.toNat_lt
  unfold IsByte
  omega
theorem str_bytes (s : ByteArray) : strOfNums (bytesOf s) = s := by
  unfold strOfNums bytesOf
  obtain ⟨⟨l⟩⟩ := s
  simp only [List.map_map]
  congr 1
  congr 1
  conv => rhs; rw [← List.map_id l]
  apply List.map_congr_left
  intro b _
  simp
theorem C_str (W : World) (e : TypeId) (s : ByteArray) (h : s.size ≤ 9223372036854775807) : Kd.C (Kd.int .u8) (Lib.bytesWorld W e s) (some ⟨W.heap.size, 0, none⟩) (bytesOf s).length (bytesOf s) := by
  have := bytes_reads W e s h
  rw [← bytesOf_length] at this
  exact Kd.C_of_reads (d := (0 : Int)) (h1 := fun _ => rfl) this
theorem str_below (W : World) (e : TypeId) (s : ByteArray) : Below W.heap.size W (Lib.bytesWorld W e s) := bytes_below (Below.refl _ _) (Nat.le_refl _) e s
/-- What a reader takes off that which begins with so many bytes. -/
theorem take_app (a b : List Int) (n : Nat) (h : a.length = n) : (⟨a ++ b, false⟩ : Rs).take n = (some a, ⟨b, false⟩) := by
  subst h
  rw [Rs.take_yes (by simp)]
  simp
theorem uint_app (v : Int) (b : List Int) (h0 : 0 ≤ v) (h : v < 18446744073709551616) : (⟨beN 8 v ++ b, false⟩ : Rs).uint = (v, ⟨b, false⟩) := by
  unfold Rs.uint
  rw [take_app _ _ 8 (beN_length 8 v)]
  simp only [beVal_beN_lt 8 v h0 (by have e : (256 : Int) ^ 8 = 18446744073709551616 := by decide
                                     omega)]
theorem int_app (v : Int) (b : List Int) (h0 : -9223372036854775808 ≤ v) (h : v ≤ 9223372036854775807) : (⟨beN 8 (v % top64) ++ b, false⟩ : Rs).int = (v, ⟨b, false⟩) := by
  have et : top64 = 18446744073709551616 := rfl
  unfold Rs.int
  rw [take_app _ _ 8 (beN_length 8 _)]
  simp only [beVal_beN_lt 8 (v % top64) (top_pos v).1 (by have e : (256 : Int) ^ 8 = 18446744073709551616 := by decide
                                                          have := (top_pos v).2
                                                          omega)]
  rw [et]
  have : wrap64 (v % 18446744073709551616) = v := by unfold wrap64; omega
  rw [this]
theorem byte_app (v : Int) (b : List Int) (h0 : 0 ≤ v) (h : v < 256) : (⟨beN 1 v ++ b, false⟩ : Rs).byte = (v, ⟨b, false⟩) := by
  unfold Rs.byte
  rw [take_app _ _ 1 (beN_length 1 v)]
  simp only [beN, rd]
  simp
  omega
theorem len4_app (v : Int) (b : List Int) (h0 : 0 ≤ v) (h : v < 4294967296) : (⟨beN 4 v ++ b, false⟩ : Rs).len4 = (v, ⟨b, false⟩) := by
  unfold Rs.len4
  rw [take_app _ _ 4 (beN_length 4 v)]
  simp only [beVal_beN_lt 4 v h0 (by have e : (256 : Int) ^ 4 = 4294967296 := by decide
                                     omega)]
theorem text_app (s b : List Int) (h : s.length < 4294967296) : (⟨beN 4 s.length ++ (s ++ b), false⟩ : Rs).text = (s, ⟨b, false⟩) := by
  unfold Rs.text
  rw [len4_app _ _ (by omega) (by omega)]
  simp only [Int.toNat_natCast]
  rw [take_app _ _ s.length rfl]
/-- A reader of too little is spoilt. -/
theorem take_short (xs : List Int) (n : Nat) (h : xs.length < n) : (⟨xs, false⟩ : Rs).take n = (none, ⟨xs, true⟩) := Rs.take_no (.inr h)
theorem bad_take (xs : List Int) (n : Nat) : (⟨xs, true⟩ : Rs).take n = (none, ⟨xs, true⟩) := Rs.take_no (.inl rfl)
theorem bad_uint (xs : List Int) : (⟨xs, true⟩ : Rs).uint = (0, ⟨xs, true⟩) := by unfold Rs.uint; rw [bad_take]
theorem bad_int (xs : List Int) : (⟨xs, true⟩ : Rs).int = (0, ⟨xs, true⟩) := by unfold Rs.int; rw [bad_take]
theorem bad_byte (xs : List Int) : (⟨xs, true⟩ : Rs).byte = (0, ⟨xs, true⟩) := by unfold Rs.byte; rw [bad_take]
theorem bad_text (xs : List Int) : (⟨xs, true⟩ : Rs).text = ([], ⟨xs, true⟩) := by unfold Rs.text Rs.len4; rw [bad_take]; simp only [bad_take]
theorem bad_count (xs : List Int) (m : Int) : (⟨xs, true⟩ : Rs).count m = (0, ⟨xs, true⟩) := by unfold Rs.count; rw [bad_uint]; split <;> simp
theorem bad_done (xs : List Int) : (⟨xs, true⟩ : Rs).done = 21 := by unfold Rs.done; simp
theorem short_uint (xs : List Int) (h : xs.length < 8) : (⟨xs, false⟩ : Rs).uint = (0, ⟨xs, true⟩) := by unfold Rs.uint; rw [take_short _ _ h]
theorem short_int (xs : List Int) (h : xs.length < 8) : (⟨xs, false⟩ : Rs).int = (0, ⟨xs, true⟩) := by unfold Rs.int; rw [take_short _ _ h]
theorem short_byte (xs : List Int) (h : xs.length < 1) : (⟨xs, false⟩ : Rs).byte = (0, ⟨xs, true⟩) := by unfold Rs.byte; rw [take_short _ _ h]
theorem short_text (xs : List Int) (h : xs.length < 4) : (⟨xs, false⟩ : Rs).text = ([], ⟨xs, true⟩) := by
  unfold Rs.text Rs.len4; rw [take_short _ _ h]; simp only [bad_take]
theorem short_text2 (n : Nat) (xs : List Int) (h0 : n < 4294967296) (h : xs.length < n) : (⟨beN 4 n ++ xs, false⟩ : Rs).text = ([], ⟨xs, true⟩) := by
  unfold Rs.text
  rw [len4_app _ _ (by omega) (by omega)]
  simp only [Int.toNat_natCast]
  rw [take_short _ _ h]
end Go.Proofs.Ytanjkhdagegapaa.Ext
