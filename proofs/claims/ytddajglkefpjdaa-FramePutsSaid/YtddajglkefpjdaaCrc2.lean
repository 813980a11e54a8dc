/- The contract of crc.Check, proved by walking its code. -/
import Derived.Test.YtddajglkefpjdaaCrc1
import Derived.Laws.BitsAllLaws
import Derived.Laws.BitsLemmas
namespace Go.Proofs.Ytddajglkefpjdaa.Ext
open Go.RowKit Go.Proofs.YtddajglkefpjdaaW.PrintWords Go.Proofs.YtddajglkefpjdaaW.PrintLast Go.Proofs.YtddajglkefpjdaaW.PrintMore
set_option linter.unusedVariables false

def nibTab : List Nat := [0, 274646895, 549293790, 820201905, 1098587580, 1361435347, 1640403810, 1905808397, 2197175160, 2460548119, 2722870694, 2987750089, 3280807620, 3553878443, 3811616794, 4084100981]
def nibAt (n : Nat) : Nat := nibTab.getD (n % 16) 0
def crcNib (n : Nat) : Nat := (n / 16) ^^^ nibAt n
def crcByte (n : Nat) (c : Int) : Nat := crcNib (crcNib (n ^^^ (c % 4294967296).toNat))
def crcBytes (n : Nat) (l : List Int) : Nat := l.foldl crcByte n
def crcParts (n : Nat) (l : List (List Int)) : Nat := l.foldl crcBytes n
def crc_Check.f (l0 : List (List Int)) : Option Int := some (4294967295 - (crcParts 4294967295 l0 : Nat) : Int)
theorem nibTab_lt (n : Nat) : nibAt n < 4294967296 := by
  have h : n % 16 < 16 := Nat.mod_lt _ (by decide)
  have : ∀ j, j < 16 → nibTab.getD j 0 < 4294967296 := by decide
  exact this _ h
theorem crcNib_lt (n : Nat) (h : n < 4294967296) : crcNib n < 4294967296 := by
  unfold crcNib
  have := nibTab_lt n
  exact Nat.xor_lt_two_pow (n := 32) (by omega) this
theorem crcByte_lt (n : Nat) (c : Int) (h : n < 4294967296) : crcByte n c < 4294967296 := by
  unfold crcByte
  refine crcNib_lt _ (crcNib_lt _ (Nat.xor_lt_two_pow (n := 32) h (by omega)))
theorem nib_steps (m : Nat) (h : m < 4294967296) : Go.bits .and .u32 (m : Int) 15 = ((m % 16 : Nat) : Int) ∧ Go.bits .xor .u32 ((m : Int) / 16) ((nibAt m : Nat) : Int) = ((crcNib m : Nat) : Int) := by
  constructor
  · have := bits_mask .u32 32 (by decide) (fun n h0 h1 => by rw [IntKind.wrap_u32']; omega) 4 (by decide) (m : Int) (by omega) (by omega)
    simpa using this
  · have h1 : ((m : Int) / 16) = ((m / 16 : Nat) : Int) := by omega
    rw [h1, u32_xor_nat _ _ (by omega) (nibTab_lt m)]; rfl
theorem u32_not (n : Nat) (h : n < 4294967296) : Go.bits .xor .u32 IntKind.u32.max (n : Int) = 4294967295 - (n : Int) := by
  have e : IntKind.u32.max = ((4294967295 : Nat) : Int) := rfl
  rw [e, u32_xor_nat _ _ (by omega) h]
  have h1 : (4294967295 : Nat) ^^^ n = 4294967295 - n := by
    have h2 : (BitVec.allOnes 32 ^^^ BitVec.ofNat 32 n).toNat = 2 ^ 32 - 1 - n := by
      rw [BitVec.allOnes_xor, BitVec.toNat_not, BitVec.toNat_ofNat, Nat.mod_eq_of_lt h]
    rw [BitVec.toNat_xor, BitVec.toNat_ofNat, Nat.mod_eq_of_lt h] at h2
    exact h2
  rw [h1]; omega
theorem take_one {α : Type} (l : List α) (d : α) (j : Nat) (h : j < l.length) : l.take (j + 1) = l.take j ++ [l.getD j d] := by
  rw [List.take_succ_eq_append_getElem h]; simp [List.getD_eq_getElem?_getD, List.getElem?_eq_getElem h]
theorem crcBytes_one (n : Nat) (l : List Int) (j : Nat) (h : j < l.length) : crcBytes n (l.take (j + 1)) = crcByte (crcBytes n (l.take j)) (rd l j) := by
  rw [take_one l 0 j h]; simp [crcBytes, rd]
theorem crcParts_one (n : Nat) (l : List (List Int)) (j : Nat) (h : j < l.length) : crcParts n (l.take (j + 1)) = crcBytes (crcParts n (l.take j)) (l.getD j []) := by
  rw [take_one l [] j h]; simp [crcParts]
def nibVals : Array Value := #[.int .u32 0, .int .u32 274646895, .int .u32 549293790, .int .u32 820201905, .int .u32 1098587580, .int .u32 1361435347, .int .u32 1640403810, .int .u32 1905808397, .int .u32 2197175160, .int .u32 2460548119, .int .u32 2722870694, .int .u32 2987750089, .int .u32 3280807620, .int .u32 3553878443, .int .u32 3811616794, .int .u32 4084100981]
theorem nibVals_get (n : Nat) : nibVals[n % 16]? = some (.int .u32 ((nibAt n : Nat) : Int)) := by
  have h : n % 16 < 16 := Nat.mod_lt _ (by decide)
  have h' : n % 16 = 0 ∨ n % 16 = 1 ∨ n % 16 = 2 ∨ n % 16 = 3 ∨ n % 16 = 4 ∨ n % 16 = 5 ∨ n % 16 = 6 ∨ n % 16 = 7 ∨ n % 16 = 8 ∨ n % 16 = 9 ∨ n % 16 = 10 ∨ n % 16 = 11 ∨ n % 16 = 12 ∨ n % 16 = 13 ∨ n % 16 = 14 ∨ n % 16 = 15 := by omega
  rcases h' with e | e | e | e | e | e | e | e | e | e | e | e | e | e | e | e <;> (unfold nibAt; rw [e]; rfl)
theorem at_rows {w : World} {A : Option Addr} {n : Nat} {xs : List (List Int)} (h : Kd.C (Kd.slice 5 (Kd.int .u8)) w A n xs) (i : Int) (h0 : 0 ≤ i) (h1 : i < n) : ∃ ad A0 c0, A = some ad ∧ w.cell? (ad.add i.toNat) = some (.slice A0 (xs.getD i.toNat []).length c0) ∧ (xs.getD i.toNat []).length ≤ c0 ∧ (Kd.int .u8).C w A0 (xs.getD i.toNat []).length (xs.getD i.toNat []) := by
  obtain ⟨ad, c, e, _, hK, hc0⟩ := Kd.C_get h ([] : List Int) i h0 h1
  have hc : ∀ j u, c[j]? = some u → w.cell? (ad.add (i.toNat * 1 + j)) = some u := hc0
  obtain ⟨A0, c0, rfl, l0, g0⟩ := hK
  exact ⟨ad, A0, c0, e, by have hq := hc 0 _ rfl; rwa [Nat.mul_one, Nat.add_zero] at hq, l0, g0⟩

set_option maxHeartbeats 3200000 in
theorem crc_Check.calls (A0 : Option Addr) (c0 : Nat) (l0 : List (List Int)) (r : Int) (w : World) (hr0 : Kd.C (Kd.slice 5 (Kd.int .u8)) w A0 l0.length l0) (hc0 : l0.length ≤ c0) (h : crc_Check.f l0 = some r) :
    Calls Try.prog 27 #[.slice A0 l0.length c0] w fun e w' => e = .returned (.int .u32 r) ∧ Below w.heap.size w w' := by
  have HR0 := Aside0.mk hr0
  clear hr0 hc0
  have H := Aside0.mk (Option.some.inj h)
  clear h
  go_enter Try.func27, Try.ntmps27
  go_wp2_with (go_at_call 35; refine (nibbles_any _).mono ?_; rintro e w1 ⟨rfl, hb⟩)
  rw [tab_16]
  go_wp2
  have HB1 := Aside0.mk hb
  clear hb
  change Code.wp _ _ _ _ (w1.alloc (.cells nibVals 66))
  obtain ⟨W, hW⟩ : ∃ W, W = w1.alloc (.cells nibVals 66) := ⟨_, rfl⟩
  rw [← hW]
  have HB : Aside0 (Below w.heap.size w W) := ⟨by rw [hW]; exact below_alloc HB1.out _⟩
  have HT : Aside0 (∀ n : Nat, W.cell? ⟨w1.heap.size, n % 16, none⟩ = some (.int .u32 ((nibAt n : Nat) : Int))) := ⟨fun n => by rw [hW, World.cell?_alloc_at _ _ _ _ rfl]; exact nibVals_get n⟩
  have HRW : Aside0 (Kd.C (Kd.slice 5 (Kd.int .u8)) W A0 l0.length l0) := ⟨Kd.C_below HR0.out (by exact HB.out)⟩
  clear hW HB1 HR0
  go_loop [4, 12] (fun v i => ∃ k : Nat, ∃ n : Nat, k ≤ l0.length ∧ n < 4294967296 ∧ i = .int .i64 k ∧ v = .int .u32 (n : Int) ∧ Aside0 (n = crcParts 4294967295 (l0.take k))) (fun _ i => l0.length - (intOf i).toNat)
  case atStart => exact ⟨0, 4294967295, by omega, by omega, rfl, rfl, ⟨by simp [crcParts]⟩⟩
  case round =>
    obtain ⟨k, n, hk, hn, rfl, rfl, HN⟩ := hrel
    by_cases hlt : k < l0.length
    · obtain ⟨ad, A1, c1, e1, hc1, hl1, hr1⟩ := at_rows HRW.out k (by omega) (by omega)
      cases e1
      have HR1 := Aside0.mk hr1
      clear hr1
      simp only [Int.toNat_natCast] at hc1 hl1 HR1
      obtain ⟨l1, hl1e⟩ : ∃ l1, l1 = l0.getD k [] := ⟨_, rfl⟩
      rw [← hl1e] at hc1 hl1 HR1
      have HL1 := Aside0.mk hl1e
      clear hl1e hl1
      have hmax := Kd.C_max HRW.out
      have hmax1 := Kd.C_max HR1.out
      go_wp2
      go_loop [4, 18] (fun v i => ∃ j : Nat, ∃ m : Nat, j ≤ l1.length ∧ m < 4294967296 ∧ i = .int .i64 j ∧ v = .int .u32 (m : Int) ∧ Aside0 (m = crcBytes n (l1.take j))) (fun _ i => l1.length - (intOf i).toNat)
      case atStart => exact ⟨0, n, by omega, hn, rfl, rfl, ⟨by simp [crcBytes]⟩⟩
      case round =>
        obtain ⟨j, m, hj, hm, rfl, rfl, HM⟩ := hrel
        by_cases hlt1 : j < l1.length
        · obtain ⟨ad1, e1, hx1⟩ := Kd.at_int HR1.out j (by omega) (by omega)
          cases e1
          simp only [Int.toNat_natCast] at hx1
          obtain ⟨c, HC⟩ : ∃ c, Aside0 (c = rd l1 j) := ⟨_, ⟨rfl⟩⟩
          rw [← HC.out] at hx1
          obtain ⟨m1, HM1⟩ : ∃ m1, Aside0 (m1 = m ^^^ (c % 4294967296).toNat) := ⟨_, ⟨rfl⟩⟩
          have hm1 : m1 < 4294967296 := by rw [HM1.out]; exact Nat.xor_lt_two_pow (n := 32) hm (by omega)
          have q1 : Go.bits .xor .u32 (m : Int) (c % 4294967296) = (m1 : Int) := by rw [u32_xor _ _ (by omega) (by omega) (by omega) (by omega), HM1.out]; simp
          obtain ⟨q2, q3⟩ := nib_steps m1 hm1
          obtain ⟨m2, HM2⟩ : ∃ m2, Aside0 (m2 = crcNib m1) := ⟨_, ⟨rfl⟩⟩
          rw [← HM2.out] at q3
          have hm2 : m2 < 4294967296 := by rw [HM2.out]; exact crcNib_lt _ hm1
          obtain ⟨q4, q5⟩ := nib_steps m2 hm2
          have t1 := HT.out m1
          have t2 := HT.out m2
          have b1 : ((m1 % 16 : Nat) : Int) < 16 := by omega
          have b2 : ((m2 % 16 : Nat) : Int) < 16 := by omega
          go_wp2
          go_round
          case rel => exact ⟨j + 1, crcNib m2, by omega, crcNib_lt _ hm2, by go_num, rfl, ⟨by rw [crcBytes_one _ _ _ hlt1, ← HM.out, ← HC.out, crcByte, ← HM1.out, ← HM2.out]⟩⟩
          case measure => simp [intOf]; omega
        · obtain rfl : j = l1.length := by omega
          go_wp2
          go_round
          case rel => exact ⟨k + 1, m, by omega, hm, by go_num, rfl, ⟨by rw [crcParts_one _ _ _ hlt, ← HN.out, ← HL1.out, HM.out, List.take_length]⟩⟩
          case measure => simp [intOf]; omega
    · obtain rfl : k = l0.length := by omega
      have sg : IntKind.u32.signed = false := rfl
      have nt := u32_not n hn
      go_wp2
      go_ret
      exact ⟨by have h1 := HN.out; rw [List.take_length] at h1; rw [← H.out, ← h1]; rfl, HB.out⟩
end Go.Proofs.Ytddajglkefpjdaa.Ext
