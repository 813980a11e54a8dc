/- The contracts of wire.Reader, proved by walking its code. -/
import Derived.Test.YtanjkhdagegapaaPut
namespace Go.Proofs.Ytanjkhdagegapaa.Ext
open Go.RowKit Go.Proofs.YtanjkhdagegapaaW.PrintWords Go.Proofs.YtanjkhdagegapaaW.PrintLast Go.Proofs.YtanjkhdagegapaaW.PrintMore Go.Proofs.YtanjkhdagegapaaW.Hand
set_option linter.unusedVariables false

def IsByte (c : Int) : Prop := 0 ≤ c ∧ c < 256
/-- Bytes as a number, the highest first. -/
def beVal (l : List Int) : Int := l.foldl (fun v c => v * 256 + c) 0
theorem beVal_snoc (l : List Int) (c : Int) : beVal (l ++ [c]) = beVal l * 256 + c := by simp [beVal]
theorem fold_lt (l : List Int) (h : ∀ c ∈ l, IsByte c) : ∀ a : Int, 0 ≤ a → 0 ≤ l.foldl (fun v c => v * 256 + c) a ∧ l.foldl (fun v c => v * 256 + c) a < (a + 1) * 256 ^ l.length := by
  induction l with
  | nil => intro a h0; simp; omega
  | cons c l ih =>
    intro a h0
    have hc := h c (by simp)
    unfold IsByte at hc
    obtain ⟨h1, h2⟩ := ih (fun x hx => h x (by simp [hx])) (a * 256 + c) (by omega)
    refine ⟨h1, Int.lt_of_lt_of_le h2 ?_⟩
    rw [List.length_cons, Int.pow_succ, Int.mul_comm (256 ^ l.length) 256, ← Int.mul_assoc]
    exact Int.mul_le_mul_of_nonneg_right (by omega) (Int.le_of_lt (Int.pow_pos (by decide)))
theorem beVal_lt (l : List Int) (h : ∀ c ∈ l, IsByte c) : 0 ≤ beVal l ∧ beVal l < 256 ^ l.length := by
  have := fold_lt l h 0 (by omega)
  simpa [beVal] using this
theorem pow_le (m n : Nat) (h : m ≤ n) : (256 : Int) ^ m ≤ 256 ^ n := by
  have := Nat.pow_le_pow_right (n := 256) (by decide) h
  have h2 : ((256 ^ m : Nat) : Int) ≤ ((256 ^ n : Nat) : Int) := by omega
  simpa [Int.natCast_pow] using h2
theorem take_one {α : Type} (l : List α) (d : α) (j : Nat) (h : j < l.length) : l.take (j + 1) = l.take j ++ [l.getD j d] := by
  rw [List.take_succ_eq_append_getElem h]; simp [List.getD_eq_getElem?_getD, List.getElem?_eq_getElem h]
theorem rd_byte (l : List Int) (h : ∀ c ∈ l, IsByte c) (j : Nat) (hj : j < l.length) : IsByte (rd l j) := by
  simp only [rd, Int.toNat_natCast, List.getD_eq_getElem?_getD, List.getElem?_eq_getElem hj]
  exact h _ (List.getElem_mem hj)
theorem sum_step (l : List Int) (h : ∀ c ∈ l, IsByte c) (h8 : l.length ≤ 8) (j : Nat) (hj : j < l.length) :
    0 ≤ beVal (l.take j) ∧ beVal (l.take j) * 256 + rd l j < top64 ∧ beVal (l.take (j + 1)) = beVal (l.take j) * 256 + rd l j := by
  have hb := beVal_lt (l.take j) (fun c hc => h c (List.mem_of_mem_take hc))
  have hc := rd_byte l h j hj
  unfold IsByte at hc
  have hp := pow_le (l.take j).length 7 (by simp; omega)
  have e7 : (256 : Int) ^ 7 = 72057594037927936 := by decide
  have et : top64 = 18446744073709551616 := rfl
  refine ⟨hb.1, by rw [et]; omega, ?_⟩
  rw [take_one l 0 j hj, beVal_snoc]
  simp [rd]
set_option maxHeartbeats 800000 in
theorem sum_any (A : Option Addr) (c n : Nat) (l : List Int) (hn : l.length = n) (w : World) (hr : Kd.C (Kd.int .u8) w A n l) (h : ∀ c ∈ l, IsByte c) (h8 : l.length ≤ 8) :
    Calls Try.prog 53 #[.slice A n c] w fun e w' => e = .returned (.int .u64 (beVal l)) ∧ w = w' := by
  subst hn
  have HR := Aside0.mk hr
  clear hr
  go_enter Try.func53, Try.ntmps53
  go_wp2
  go_loop [3, 8] (fun v i => ∃ j : Nat, j ≤ l.length ∧ i = .int .i64 j ∧ v = .int .u64 (beVal (l.take j))) (fun _ i => l.length - (intOf i).toNat)
  case atStart => exact ⟨0, by omega, rfl, by simp [beVal]⟩
  case round =>
    obtain ⟨j, hj, rfl, rfl⟩ := hrel
    by_cases hlt : j < l.length
    · obtain ⟨ad, e1, hx⟩ := Kd.at_int HR.out j (by omega) (by omega)
      cases e1
      simp only [Int.toNat_natCast] at hx
      obtain ⟨h1, h2, h3⟩ := sum_step l h h8 j hlt
      have hc := rd_byte l h j hlt
      obtain ⟨c1, HC⟩ : ∃ c, Aside0 (c = rd l j) := ⟨_, ⟨rfl⟩⟩
      rw [← HC.out] at hx h2 h3 hc
      obtain ⟨v1, HV⟩ : ∃ v, Aside0 (v = beVal (l.take j)) := ⟨_, ⟨rfl⟩⟩
      rw [← HV.out] at h1 h2 h3 ⊢
      have H3 := Aside0.mk h3
      have hc1 := hc.1
      have hc2 := hc.2
      clear hc h3 h
      have q1 : IntKind.u64.wrap (v1 * 256) = v1 * 256 := by rw [u64_conv, Int.emod_eq_of_lt (by omega) (by omega)]
      have q2 : IntKind.u64.wrap (v1 * 256 + c1) = v1 * 256 + c1 := by rw [u64_conv, Int.emod_eq_of_lt (by omega) (by omega)]
      go_wp2
      go_round
      case rel => exact ⟨j + 1, by omega, by go_num, by rw [H3.out]⟩
      case measure => simp [intOf]; omega
    · obtain rfl : j = l.length := by omega
      rw [List.take_length]
      go_wp2
      go_ret
      exact ⟨rfl, rfl⟩

/-- A reader at block g: what is left to take, and whether it is spoilt. It leans on no block but such as B tells of. -/
def RdrAt (W : World) (g : Nat) (B : Nat → Prop) (xs : List Int) (bad : Bool) : Prop :=
  ∃ (A : Option Addr) (c : Nat), Blk W g (.cells #[.slice A xs.length c, .bool bad] 93) ∧ xs.length ≤ c ∧ Kd.F (Kd.int .u8) W (fun k => B k ∧ k ≠ g) A xs.length xs ∧ (∀ x ∈ xs, IsByte x) ∧ B g
theorem RdrAt.keep {W W' : World} {g : Nat} {B : Nat → Prop} {xs : List Int} {bad : Bool} (h : RdrAt W g B xs bad) (hk : ∀ k, B k → k < W.heap.size → W'.heap[k]? = W.heap[k]?) : RdrAt W' g B xs bad := by
  obtain ⟨A, c, h1, h2, h3, h4, h5⟩ := h
  exact ⟨A, c, ⟨(hk g h5 h1.lt).trans h1.out⟩, h2, Kd.F_step h3 (fun k h hl => hk k h.1 hl), h4, h5⟩
theorem RdrAt.below {W W' : World} {g : Nat} {B : Nat → Prop} {xs : List Int} {bad : Bool} (h : RdrAt W g B xs bad) (hb : Below W.heap.size W W') : RdrAt W' g B xs bad := h.keep (fun k _ hl => hb.block k hl)
theorem RdrAt.alloc {W : World} {g : Nat} {B : Nat → Prop} {xs : List Int} {bad : Bool} (h : RdrAt W g B xs bad) (o : Obj) : RdrAt (W.alloc o) g B xs bad := h.below (below_alloc (Below.refl _ _) _)
theorem RdrAt.drew {W : World} {g : Nat} {B : Nat → Prop} {xs : List Int} {bad : Bool} (h : RdrAt W g B xs bad) : RdrAt W.drew g B xs bad := h.below (below_drew (Below.refl _ _))
theorem RdrAt.drewN {W : World} {g : Nat} {B : Nat → Prop} {xs : List Int} {bad : Bool} (h : RdrAt W g B xs bad) (n : Nat) : RdrAt (W.drewN n) g B xs bad := h.below (pw_below_drewN (Below.refl _ _) n)
theorem RdrAt.cells {W : World} {g : Nat} {B : Nat → Prop} {xs : List Int} {bad : Bool} (h : RdrAt W g B xs bad) : ∃ (A : Option Addr) (c : Nat), W.cell? ⟨g, 0, none⟩ = some (.slice A xs.length c) ∧ W.cell? ⟨g, 1, none⟩ = some (.bool bad) ∧ W.frozen? ⟨g, 0, none⟩ = false ∧ xs.length ≤ c := by
  obtain ⟨A, c, h1, h2, h3, h4, h5⟩ := h
  exact ⟨A, c, (h1.cell 0).trans rfl, (h1.cell 1).trans rfl, h1.free 0, h2⟩
theorem RdrAt.c1 {W : World} {g : Nat} {B : Nat → Prop} {xs : List Int} {bad : Bool} (h : RdrAt W g B xs bad) : W.cell? ⟨g, 1, none⟩ = some (.bool bad) := by
  obtain ⟨A, c, _, h1, _⟩ := h.cells
  exact h1
theorem conv_len (n : Nat) (h : n ≤ 9223372036854775807) : IntKind.u64.wrap (n : Int) = (n : Int) := by rw [IntKind.wrap_u64]; omega
/-- What a reader shows, with the means to step on. -/
theorem RdrAt.lay {W : World} {g : Nat} {B : Nat → Prop} {xs : List Int} (h : RdrAt W g B xs false) : ∃ (A : Option Addr) (c : Nat), W.cell? ⟨g, 0, none⟩ = some (.slice A xs.length c) ∧ W.cell? ⟨g, 1, none⟩ = some (.bool false) ∧ W.frozen? ⟨g, 0, none⟩ = false ∧ xs.length ≤ c ∧ Kd.C (Kd.int .u8) W A xs.length xs ∧ (∀ x ∈ xs, IsByte x) ∧ B g ∧
    ∀ (W' : World), Below W.heap.size W W' → W'.cell? ⟨g, 0, none⟩ = some (.slice A xs.length c) ∧ W'.frozen? ⟨g, 0, none⟩ = false ∧
      ∀ (A2 : Option Addr) (c2 n : Nat), (∀ w : World, Kd.C (Kd.int .u8) w A xs.length xs → Kd.C (Kd.int .u8) w A2 (xs.drop n).length (xs.drop n)) → (xs.drop n).length ≤ c2 → RdrAt (W'.setCell ⟨g, 0, none⟩ (.slice A2 (xs.length - n) c2)) g B (xs.drop n) false := by
  obtain ⟨A, c, h1, h2, h3, h4, h5⟩ := h
  refine ⟨A, c, (h1.cell 0).trans rfl, (h1.cell 1).trans rfl, h1.free 0, h2, Kd.F_now h3, h4, h5, fun W' hb => ?_⟩
  have h1' := h1.below hb
  have h3' := Kd.F_below h3 hb
  refine ⟨(h1'.cell 0).trans rfl, h1'.free 0, fun A2 c2 n hC hc => ⟨A2, c2, h1'.put 0 _ (by rw [List.length_drop]; rfl), hc, ?_, fun x hx => h4 x (List.mem_of_mem_drop hx), h5⟩⟩
  exact Kd.F_far (Kd.F_imp h3' hC) (fun k h => h.2) _
theorem cut_to (k : IntKind) {A : Option Addr} {c : Nat} {xs : List Int} {b : Nat} (hm : b ≤ xs.length) (hc : xs.length ≤ c) (bi : Int) (hb : bi = b) :
    (∀ W : World, (Instr.slice 29 (.slice A xs.length c) none (some (.int k bi)) none).run Try.prog W = .ok (.slice A b c) W) ∧
      (∀ w : World, Kd.C (Kd.int .u8) w A xs.length xs → Kd.C (Kd.int .u8) w A (xs.take b).length (xs.take b)) := by
  subst hb
  obtain ⟨i0, hi, hz0, hz1, hz2⟩ := info_parts infoU8
  obtain ⟨h3, h4, h5⟩ := print_take_of (P := Try.prog) (Value.int .u8) (0 : Int) 29 5 k Try.underlying29 hi hz1 A c xs (b : Int) (by omega) (by omega) hc
  have hl : (xs.take b).length = b := by simp; omega
  simp only [Int.toNat_natCast, hl] at h3
  simp only [Int.toNat_natCast] at h4
  exact ⟨h3, fun w h => Kd.C_of_reads (d := (0 : Int)) (h1 := fun _ => rfl) (h4 w (Kd.reads_of_C (enc := Value.int .u8) (d := (0 : Int)) (h1 := fun _ => rfl) h))⟩
theorem cut_from (k : IntKind) {A : Option Addr} {c : Nat} {xs : List Int} {a : Nat} (hm : a ≤ xs.length) (hc : xs.length ≤ c) (ai : Int) (ha : ai = (a : Int)) :
    ∃ (A' : Option Addr) (c' : Nat), (∀ W : World, (Instr.slice 29 (.slice A xs.length c) (some (.int k ai)) none none).run Try.prog W = .ok (.slice A' (xs.drop a).length c') W) ∧
      (∀ w : World, Kd.C (Kd.int .u8) w A xs.length xs → Kd.C (Kd.int .u8) w A' (xs.drop a).length (xs.drop a)) ∧ (xs.drop a).length ≤ c' := by
  subst ha
  obtain ⟨i0, hi, hz0, hz1, hz2⟩ := info_parts infoU8
  obtain ⟨A', h3, h4, h5⟩ := print_drop_of (P := Try.prog) (Value.int .u8) (0 : Int) 29 5 k Try.underlying29 hi hz1 A c xs (a : Int) (by omega) (by omega) hc
  simp only [Int.toNat_natCast] at h3 h4 h5
  exact ⟨A', _, h3, fun w h => Kd.C_of_reads (d := (0 : Int)) (h1 := fun _ => rfl) (h4 w (Kd.reads_of_C (enc := Value.int .u8) (d := (0 : Int)) (h1 := fun _ => rfl) h)), h5⟩
theorem RdrAt.spoil {W : World} {g : Nat} {B : Nat → Prop} {xs : List Int} {bad : Bool} (h : RdrAt W g B xs bad) (b : Bool) : RdrAt (W.setCell ⟨g, 1, none⟩ (.bool b)) g B xs b := by
  obtain ⟨A, c, h1, h2, h3, h4, h5⟩ := h
  exact ⟨A, c, h1.put 1 _ rfl, h2, Kd.F_far h3 (fun k h => h.2) _, h4, h5⟩
theorem Bad_any (g : Nat) (B : Nat → Prop) (xs : List Int) (bad : Bool) (w : World) (h : RdrAt w g B xs bad) :
    Calls Try.prog 83 #[.pointer (some ⟨g, 0, none⟩)] w fun e w' => e = .returned (.tuple #[]) ∧ RdrAt w' g B xs true ∧ w.grownBy w' (some g) := by
  have hs := Aside0.mk (h.spoil true)
  obtain ⟨A, c, h1, h2, h3, h4, h5⟩ := h
  have c1 : w.cell? ⟨g, 1, none⟩ = some (.bool bad) := (h1.cell 1).trans rfl
  have f1 := h1.free 1
  clear h3 h4
  go_enter Try.func83, Try.ntmps83
  go_wp2
  go_end0
  exact ⟨rfl, hs.out, grown_put _ _ _ _⟩
theorem Bad_nil (w : World) : Calls Try.prog 83 #[.pointer none] w fun e w' => e = .returned (.tuple #[]) ∧ w = w' := by
  go_enter Try.func83, Try.ntmps83
  go_wp2
  go_end0
  exact ⟨rfl, rfl⟩
theorem addr_zero (a : Addr) : a.add 0 = a := by
  unfold Addr.add
  obtain ⟨b, o, x⟩ := a
  split <;> simp_all
theorem Byte1_any (A : Option Addr) (c n : Nat) (l : List Int) (hl : l.length = n) (h1 : n = 1) (w : World) (hr : Kd.C (Kd.int .u8) w A n l) :
    Calls Try.prog 81 #[.slice A n c] w fun e w' => e = .returned (.int .u8 (rd l 0)) ∧ w = w' := by
  obtain ⟨ad, e1, hx⟩ := Kd.at_int hr 0 (by omega) (by omega)
  cases e1
  simp only [Int.toNat_zero] at hx
  have hx0 : w.cell? ad = some (.int .u8 (rd l 0)) := by rw [addr_zero] at hx; exact hx
  have hn : (0 : Int) < (n : Int) := by omega
  clear h1 hr
  go_enter Try.func81, Try.ntmps81
  go_wp2
  go_ret
  exact ⟨rfl, rfl⟩
theorem Int1_any (A : Option Addr) (c n : Nat) (l : List Int) (hl : l.length = n) (w : World) (hr : Kd.C (Kd.int .u8) w A n l) (h : ∀ c ∈ l, IsByte c) (h8 : l.length ≤ 8) :
    Calls Try.prog 52 #[.slice A n c] w fun e w' => e = .returned (.int .i64 (wrap64 (beVal l))) ∧ w = w' := by
  have HR := Aside0.mk hr
  have HL := Aside0.mk hl
  have HB := Aside0.mk h
  clear hr hl h
  go_enter Try.func52, Try.ntmps52
  go_wp2_with (go_at_call 53; refine (sum_any A c n l HL.out _ HR.out HB.out h8).mono ?_; rintro e w1 ⟨rfl, rfl⟩)
  go_ret
  exact ⟨rfl, rfl⟩
theorem R_empty (W : World) (base : Nat) (ok : Nat → Prop) (hb : base ≤ W.heap.size) (hk : ok W.heap.size) : Kd.R (Kd.int .u8) 5 (W.alloc (.cells #[] 5)) base ok (.slice (some ⟨W.heap.size, 0, none⟩) 0 0) [] := by
  refine ⟨fun k h => ?_, [], ⟨rfl, .inr ⟨W.heap.size, 0, #[], rfl, hb, heap_new _ _, Nat.le_refl _, by simp [maxLen], rfl, rfl⟩⟩, Reps.none _ _⟩
  simp [Value.ownBlock] at h
  subst h; exact hk
theorem Text1_any (A : Option Addr) (c n : Nat) (l : List Int) (hl : l.length = n) (w : World) (hr : Kd.C (Kd.int .u8) w A n l) (hm : n ≤ 140737488355000) :
    Calls Try.prog 56 #[.slice A n c] w fun e w' => ∃ v0 : Value, e = .returned v0 ∧ Kd.R (Kd.int .u8) 5 w' w.heap.size (fun k => w.heap.size ≤ k) v0 l ∧ Below w.heap.size w w' := by
  have HR := Aside0.mk hr
  clear hr
  go_enter Try.func56, Try.ntmps56
  go_wp2_with (at_builtin; refine Kd.R_append_row (Value.int .u8) (0 : Int) (w0 := w) w.heap.size rfl (.const (.slice none 0 0)) (.tmp 3) 29 5 (.int .u8 0) 1 rfl Try.underlying29 infoU8 rfl (by decide) (.slice none 0 0) [] l A n c (fun k => w.heap.size ≤ k) rfl rfl (fun _ h => h) (Kd.R_nil _ _ _ _ _) HR.out (Below.refl _ _) (Nat.le_refl _) (by simp; omega) ?_; intro v1 w1 ho hb hg hat; have HO := Aside0.mk ho; have HB := Aside0.mk hb; clear ho hb hg hat)
  go_ret
  exact ⟨v1, rfl, HO.out, HB.out⟩

set_option maxHeartbeats 800000 in
theorem from_no_U64 (g : Nat) (B : Nat → Prop) (xs : List Int) (bad : Bool) (n : Nat) (ni : Int) (hni : ni = n) (w : World) (h : RdrAt w g B xs bad) (hm : xs.length ≤ 9223372036854775807) (hb : bad = true ∨ xs.length < n) :
    Calls Try.prog 54 #[.pointer (some ⟨g, 0, none⟩), .int .u64 ni, .func (.func 53) #[] #[]] w fun e w' => e = .returned (.int .u64 0) ∧ RdrAt w' g B xs true ∧ w.grownBy w' (some g) := by
  obtain ⟨A, c, c0, c1, f0, hc⟩ := h.cells
  have hw := conv_len xs.length hm
  have HH := Aside0.mk h
  clear h
  by_cases hlt : xs.length < n
  · have h1 : (xs.length : Int) < ni := by omega
    clear hb hni
    go_enter Try.func54, Try.ntmps54
    go_wp2_with (go_at_call 83; refine (Bad_any g B xs bad _ HH.out).mono ?_; rintro e w1 ⟨rfl, hR, hg⟩; have k1 := hR.c1; have HR := Aside0.mk hR; have HG := Aside0.mk hg; clear hR hg)
    go_ret
    exact ⟨rfl, HR.out, HG.out⟩
  · have h1 : ¬ (xs.length : Int) < ni := by omega
    obtain rfl : bad = true := by rcases hb with h | h; exact h; exact absurd h hlt
    clear hb hni
    go_enter Try.func54, Try.ntmps54
    go_wp2_with fail
    go_ret
    exact ⟨rfl, HH.out, World.grownBy.refl _ _⟩

set_option maxHeartbeats 800000 in
theorem from_yes_U64 (g : Nat) (B : Nat → Prop) (xs : List Int) (n : Nat) (ni : Int) (hni : ni = n) (w : World) (h : RdrAt w g B xs false) (hm : xs.length ≤ 140737488355000) (hn : n ≤ xs.length) (h8 : n ≤ 8) :
    Calls Try.prog 54 #[.pointer (some ⟨g, 0, none⟩), .int .u64 ni, .func (.func 53) #[] #[]] w fun e w' => e = .returned (.int .u64 (beVal (xs.take n))) ∧ RdrAt w' g B (xs.drop n) false ∧ w.grownBy w' (some g) := by
  have HGL : Aside0 (g < w.heap.size) := ⟨by obtain ⟨_, _, h1, _⟩ := h; exact h1.lt⟩
  obtain ⟨A, c, c0, c1, f0, hc, hC, hby, hBg, hL⟩ := h.lay
  have hw := conv_len xs.length (by omega)
  have h1 : ¬ (xs.length : Int) < ni := by omega
  have hT := cut_to .u64 (A := A) (c := c) hn hc ni hni
  obtain ⟨A2, c2, u1, u2, u3⟩ := cut_from .u64 (A := A) (c := c) hn hc ni hni
  obtain ⟨t1, t2⟩ := hT
  have lt : (xs.take n).length = n := by simp; omega
  have HT : Aside0 (Kd.C (Kd.int .u8) w A n (xs.take n)) := ⟨by have := t2 w hC; rw [lt] at this; exact this⟩
  have LT := Aside0.mk lt
  have HBY : Aside0 (∀ x ∈ xs.take n, IsByte x) := ⟨fun x hx => hby x (List.mem_of_mem_take hx)⟩
  have U2 := Aside0.mk u2
  have HL := Aside0.mk hL
  clear h lt t2 u2 hC hby hL hni
  have H8 := Aside0.mk h8
  clear h8
  go_enter Try.func54, Try.ntmps54
  go_wp2_with (go_at_call 53; refine (sum_any A c n (xs.take n) LT.out _ HT.out HBY.out (by rw [LT.out]; exact H8.out)).mono ?_; rintro e w1 ⟨rfl, rfl⟩; obtain ⟨k0, kf, kn⟩ := HL.out w (Below.refl _ _); have HN := Aside0.mk kn; clear kn)
  go_ret
  refine ⟨rfl, HN.out A2 c2 n U2.out u3, grown_put _ _ _ _⟩

set_option maxHeartbeats 800000 in
theorem from_no_Bs (g : Nat) (B : Nat → Prop) (xs : List Int) (bad : Bool) (n : Nat) (ni : Int) (hni : ni = n) (w : World) (h : RdrAt w g B xs bad) (hm : xs.length ≤ 9223372036854775807) (hb : bad = true ∨ xs.length < n) :
    Calls Try.prog 55 #[.pointer (some ⟨g, 0, none⟩), .int .u64 ni, .func (.func 56) #[] #[]] w fun e w' => e = .returned (.slice none 0 0) ∧ RdrAt w' g B xs true ∧ w.grownBy w' (some g) := by
  obtain ⟨A, c, c0, c1, f0, hc⟩ := h.cells
  have hw := conv_len xs.length hm
  have HH := Aside0.mk h
  clear h
  by_cases hlt : xs.length < n
  · have h1 : (xs.length : Int) < ni := by omega
    clear hb hni
    go_enter Try.func55, Try.ntmps55
    go_wp2_with (go_at_call 83; refine (Bad_any g B xs bad _ HH.out).mono ?_; rintro e w1 ⟨rfl, hR, hg⟩; have k1 := hR.c1; have HR := Aside0.mk hR; have HG := Aside0.mk hg; clear hR hg)
    go_ret
    exact ⟨rfl, HR.out, HG.out⟩
  · have h1 : ¬ (xs.length : Int) < ni := by omega
    obtain rfl : bad = true := by rcases hb with h | h; exact h; exact absurd h hlt
    clear hb hni
    go_enter Try.func55, Try.ntmps55
    go_wp2_with fail
    go_ret
    exact ⟨rfl, HH.out, World.grownBy.refl _ _⟩

set_option maxHeartbeats 800000 in
theorem from_yes_Bs (g : Nat) (B : Nat → Prop) (xs : List Int) (n : Nat) (ni : Int) (hni : ni = n) (w : World) (h : RdrAt w g B xs false) (hm : xs.length ≤ 140737488355000) (hn : n ≤ xs.length) :
    Calls Try.prog 55 #[.pointer (some ⟨g, 0, none⟩), .int .u64 ni, .func (.func 56) #[] #[]] w fun e w' => ∃ v0 : Value, e = .returned v0 ∧ Kd.R (Kd.int .u8) 5 w' w.heap.size (fun k => w.heap.size ≤ k) v0 (xs.take n) ∧ RdrAt w' g B (xs.drop n) false ∧ w.grownBy w' (some g) := by
  have HGL : Aside0 (g < w.heap.size) := ⟨by obtain ⟨_, _, h1, _⟩ := h; exact h1.lt⟩
  obtain ⟨A, c, c0, c1, f0, hc, hC, hby, hBg, hL⟩ := h.lay
  have hw := conv_len xs.length (by omega)
  have h1 : ¬ (xs.length : Int) < ni := by omega
  have hT := cut_to .u64 (A := A) (c := c) hn hc ni hni
  obtain ⟨A2, c2, u1, u2, u3⟩ := cut_from .u64 (A := A) (c := c) hn hc ni hni
  obtain ⟨t1, t2⟩ := hT
  have lt : (xs.take n).length = n := by simp; omega
  have HT : Aside0 (Kd.C (Kd.int .u8) w A n (xs.take n)) := ⟨by have := t2 w hC; rw [lt] at this; exact this⟩
  have LT := Aside0.mk lt
  have HBY : Aside0 (∀ x ∈ xs.take n, IsByte x) := ⟨fun x hx => hby x (List.mem_of_mem_take hx)⟩
  have U2 := Aside0.mk u2
  have HL := Aside0.mk hL
  clear h lt t2 u2 hC hby hL hni
  go_enter Try.func55, Try.ntmps55
  go_wp2_with (go_at_call 56; refine (Text1_any A c n (xs.take n) LT.out _ HT.out (by omega)).mono ?_; rintro e w1 ⟨v0, rfl, hr, hb⟩; have HV := Aside0.mk hr; have HBel := Aside0.mk hb; clear hr hb; obtain ⟨k0, kf, kn⟩ := HL.out w1 HBel.out; have HN := Aside0.mk kn; clear kn)
  go_ret
  refine ⟨v0, rfl, Kd.R_far HV.out (fun k hk => by have := HGL.out; show k ≠ g; omega) _, HN.out A2 c2 n U2.out u3, grown_trans (grown_below HBel.out) (grown_put _ _ _ _)⟩

set_option maxHeartbeats 800000 in
theorem from_no_U8 (g : Nat) (B : Nat → Prop) (xs : List Int) (bad : Bool) (n : Nat) (ni : Int) (hni : ni = n) (w : World) (h : RdrAt w g B xs bad) (hm : xs.length ≤ 9223372036854775807) (hb : bad = true ∨ xs.length < n) :
    Calls Try.prog 80 #[.pointer (some ⟨g, 0, none⟩), .int .u64 ni, .func (.func 81) #[] #[]] w fun e w' => e = .returned (.int .u8 0) ∧ RdrAt w' g B xs true ∧ w.grownBy w' (some g) := by
  obtain ⟨A, c, c0, c1, f0, hc⟩ := h.cells
  have hw := conv_len xs.length hm
  have HH := Aside0.mk h
  clear h
  by_cases hlt : xs.length < n
  · have h1 : (xs.length : Int) < ni := by omega
    clear hb hni
    go_enter Try.func80, Try.ntmps80
    go_wp2_with (go_at_call 83; refine (Bad_any g B xs bad _ HH.out).mono ?_; rintro e w1 ⟨rfl, hR, hg⟩; have k1 := hR.c1; have HR := Aside0.mk hR; have HG := Aside0.mk hg; clear hR hg)
    go_ret
    exact ⟨rfl, HR.out, HG.out⟩
  · have h1 : ¬ (xs.length : Int) < ni := by omega
    obtain rfl : bad = true := by rcases hb with h | h; exact h; exact absurd h hlt
    clear hb hni
    go_enter Try.func80, Try.ntmps80
    go_wp2_with fail
    go_ret
    exact ⟨rfl, HH.out, World.grownBy.refl _ _⟩

set_option maxHeartbeats 800000 in
theorem from_yes_U8 (g : Nat) (B : Nat → Prop) (xs : List Int) (n : Nat) (ni : Int) (hni : ni = n) (w : World) (h : RdrAt w g B xs false) (hm : xs.length ≤ 140737488355000) (hn : n ≤ xs.length) (h8 : n = 1) :
    Calls Try.prog 80 #[.pointer (some ⟨g, 0, none⟩), .int .u64 ni, .func (.func 81) #[] #[]] w fun e w' => e = .returned (.int .u8 (rd (xs.take n) 0)) ∧ RdrAt w' g B (xs.drop n) false ∧ w.grownBy w' (some g) := by
  have HGL : Aside0 (g < w.heap.size) := ⟨by obtain ⟨_, _, h1, _⟩ := h; exact h1.lt⟩
  obtain ⟨A, c, c0, c1, f0, hc, hC, hby, hBg, hL⟩ := h.lay
  have hw := conv_len xs.length (by omega)
  have h1 : ¬ (xs.length : Int) < ni := by omega
  have hT := cut_to .u64 (A := A) (c := c) hn hc ni hni
  obtain ⟨A2, c2, u1, u2, u3⟩ := cut_from .u64 (A := A) (c := c) hn hc ni hni
  obtain ⟨t1, t2⟩ := hT
  have lt : (xs.take n).length = n := by simp; omega
  have HT : Aside0 (Kd.C (Kd.int .u8) w A n (xs.take n)) := ⟨by have := t2 w hC; rw [lt] at this; exact this⟩
  have LT := Aside0.mk lt
  have HBY : Aside0 (∀ x ∈ xs.take n, IsByte x) := ⟨fun x hx => hby x (List.mem_of_mem_take hx)⟩
  have U2 := Aside0.mk u2
  have HL := Aside0.mk hL
  clear h lt t2 u2 hC hby hL hni
  have H8 := Aside0.mk h8
  clear h8
  go_enter Try.func80, Try.ntmps80
  go_wp2_with (go_at_call 81; refine (Byte1_any A c n (xs.take n) LT.out H8.out _ HT.out).mono ?_; rintro e w1 ⟨rfl, rfl⟩; obtain ⟨k0, kf, kn⟩ := HL.out w (Below.refl _ _); have HN := Aside0.mk kn; clear kn)
  go_ret
  refine ⟨rfl, HN.out A2 c2 n U2.out u3, grown_put _ _ _ _⟩

set_option maxHeartbeats 800000 in
theorem from_no_I64 (g : Nat) (B : Nat → Prop) (xs : List Int) (bad : Bool) (n : Nat) (ni : Int) (hni : ni = n) (w : World) (h : RdrAt w g B xs bad) (hm : xs.length ≤ 9223372036854775807) (hb : bad = true ∨ xs.length < n) :
    Calls Try.prog 51 #[.pointer (some ⟨g, 0, none⟩), .int .u64 ni, .func (.func 52) #[] #[]] w fun e w' => e = .returned (.int .i64 0) ∧ RdrAt w' g B xs true ∧ w.grownBy w' (some g) := by
  obtain ⟨A, c, c0, c1, f0, hc⟩ := h.cells
  have hw := conv_len xs.length hm
  have HH := Aside0.mk h
  clear h
  by_cases hlt : xs.length < n
  · have h1 : (xs.length : Int) < ni := by omega
    clear hb hni
    go_enter Try.func51, Try.ntmps51
    go_wp2_with (go_at_call 83; refine (Bad_any g B xs bad _ HH.out).mono ?_; rintro e w1 ⟨rfl, hR, hg⟩; have k1 := hR.c1; have HR := Aside0.mk hR; have HG := Aside0.mk hg; clear hR hg)
    go_ret
    exact ⟨rfl, HR.out, HG.out⟩
  · have h1 : ¬ (xs.length : Int) < ni := by omega
    obtain rfl : bad = true := by rcases hb with h | h; exact h; exact absurd h hlt
    clear hb hni
    go_enter Try.func51, Try.ntmps51
    go_wp2_with fail
    go_ret
    exact ⟨rfl, HH.out, World.grownBy.refl _ _⟩

set_option maxHeartbeats 800000 in
theorem from_yes_I64 (g : Nat) (B : Nat → Prop) (xs : List Int) (n : Nat) (ni : Int) (hni : ni = n) (w : World) (h : RdrAt w g B xs false) (hm : xs.length ≤ 140737488355000) (hn : n ≤ xs.length) (h8 : n ≤ 8) :
    Calls Try.prog 51 #[.pointer (some ⟨g, 0, none⟩), .int .u64 ni, .func (.func 52) #[] #[]] w fun e w' => e = .returned (.int .i64 (wrap64 (beVal (xs.take n)))) ∧ RdrAt w' g B (xs.drop n) false ∧ w.grownBy w' (some g) := by
  have HGL : Aside0 (g < w.heap.size) := ⟨by obtain ⟨_, _, h1, _⟩ := h; exact h1.lt⟩
  obtain ⟨A, c, c0, c1, f0, hc, hC, hby, hBg, hL⟩ := h.lay
  have hw := conv_len xs.length (by omega)
  have h1 : ¬ (xs.length : Int) < ni := by omega
  have hT := cut_to .u64 (A := A) (c := c) hn hc ni hni
  obtain ⟨A2, c2, u1, u2, u3⟩ := cut_from .u64 (A := A) (c := c) hn hc ni hni
  obtain ⟨t1, t2⟩ := hT
  have lt : (xs.take n).length = n := by simp; omega
  have HT : Aside0 (Kd.C (Kd.int .u8) w A n (xs.take n)) := ⟨by have := t2 w hC; rw [lt] at this; exact this⟩
  have LT := Aside0.mk lt
  have HBY : Aside0 (∀ x ∈ xs.take n, IsByte x) := ⟨fun x hx => hby x (List.mem_of_mem_take hx)⟩
  have U2 := Aside0.mk u2
  have HL := Aside0.mk hL
  clear h lt t2 u2 hC hby hL hni
  have H8 := Aside0.mk h8
  clear h8
  go_enter Try.func51, Try.ntmps51
  go_wp2_with (go_at_call 52; refine (Int1_any A c n (xs.take n) LT.out _ HT.out HBY.out (by rw [LT.out]; exact H8.out)).mono ?_; rintro e w1 ⟨rfl, rfl⟩; obtain ⟨k0, kf, kn⟩ := HL.out w (Below.refl _ _); have HN := Aside0.mk kn; clear kn)
  go_ret
  refine ⟨rfl, HN.out A2 c2 n U2.out u3, grown_put _ _ _ _⟩

/-! ### what the reader's calls come to, as plain functions on what is left and whether it is spoilt -/
structure Rs where
  xs : List Int
  bad : Bool
/-- The next n bytes; none, if they are not there: then it is spoilt. -/
def Rs.take (r : Rs) (n : Nat) : Option (List Int) × Rs :=
  if r.bad = true ∨ r.xs.length < n then (none, ⟨r.xs, true⟩) else (some (r.xs.take n), ⟨r.xs.drop n, false⟩)
def Rs.uint (r : Rs) : Int × Rs := match r.take 8 with
  | (none, r') => (0, r')
  | (some l, r') => (beVal l, r')
def Rs.int (r : Rs) : Int × Rs := match r.take 8 with
  | (none, r') => (0, r')
  | (some l, r') => (wrap64 (beVal l), r')
def Rs.byte (r : Rs) : Int × Rs := match r.take 1 with
  | (none, r') => (0, r')
  | (some l, r') => (rd l 0, r')
def Rs.len4 (r : Rs) : Int × Rs := match r.take 4 with
  | (none, r') => (0, r')
  | (some l, r') => (beVal l, r')
def Rs.text (r : Rs) : List Int × Rs := match r.len4.2.take r.len4.1.toNat with
  | (none, r') => ([], r')
  | (some l, r') => (l, r')
def RdrS (W : World) (g : Nat) (B : Nat → Prop) (r : Rs) : Prop := RdrAt W g B r.xs r.bad
theorem Rs.take_no {r : Rs} {n : Nat} (h : r.bad = true ∨ r.xs.length < n) : r.take n = (none, ⟨r.xs, true⟩) := by unfold Rs.take; rw [if_pos h]
theorem Rs.take_yes {r : Rs} {n : Nat} (h : ¬ (r.bad = true ∨ r.xs.length < n)) : r.take n = (some (r.xs.take n), ⟨r.xs.drop n, false⟩) := by unfold Rs.take; rw [if_neg h]
theorem Uint_calls (g : Nat) (B : Nat → Prop) (r : Rs) (w : World) (h : RdrS w g B r) (hm : r.xs.length ≤ 140737488355000) :
    Calls Try.prog 29 #[.pointer (some ⟨g, 0, none⟩)] w fun e w' => e = .returned (.int .u64 r.uint.1) ∧ RdrS w' g B r.uint.2 ∧ w.grownBy w' (some g) := by
  obtain ⟨xs, bad⟩ := r
  have HH := Aside0.mk h
  clear h
  by_cases hc : bad = true ∨ xs.length < 8
  · have e : (⟨xs, bad⟩ : Rs).uint = (0, ⟨xs, true⟩) := by unfold Rs.uint; rw [Rs.take_no hc]
    rw [e]
    go_enter Try.func29, Try.ntmps29
    go_wp2_with (go_at_call 54; refine (from_no_U64 g B xs bad 8 8 rfl _ HH.out (by show xs.length ≤ _; omega) hc).mono ?_; rintro e w1 ⟨rfl, hR, hg⟩; have HR := Aside0.mk hR; have HG := Aside0.mk hg; clear hR hg)
    go_ret
    exact ⟨rfl, HR.out, HG.out⟩
  · have e : (⟨xs, bad⟩ : Rs).uint = (beVal (xs.take 8), ⟨xs.drop 8, false⟩) := by unfold Rs.uint; rw [Rs.take_yes hc]
    rw [e]
    obtain rfl : bad = false := by cases bad <;> simp_all
    have hn : 8 ≤ xs.length := by omega
    clear hc
    go_enter Try.func29, Try.ntmps29
    go_wp2_with (go_at_call 54; refine (from_yes_U64 g B xs 8 8 rfl _ HH.out hm hn (by omega)).mono ?_; rintro e w1 ⟨rfl, hR, hg⟩; have HR := Aside0.mk hR; have HG := Aside0.mk hg; clear hR hg)
    go_ret
    exact ⟨rfl, HR.out, HG.out⟩
theorem Byte_calls (g : Nat) (B : Nat → Prop) (r : Rs) (w : World) (h : RdrS w g B r) (hm : r.xs.length ≤ 140737488355000) :
    Calls Try.prog 48 #[.pointer (some ⟨g, 0, none⟩)] w fun e w' => e = .returned (.int .u8 r.byte.1) ∧ RdrS w' g B r.byte.2 ∧ w.grownBy w' (some g) := by
  obtain ⟨xs, bad⟩ := r
  have HH := Aside0.mk h
  clear h
  by_cases hc : bad = true ∨ xs.length < 1
  · have e : (⟨xs, bad⟩ : Rs).byte = (0, ⟨xs, true⟩) := by unfold Rs.byte; rw [Rs.take_no hc]
    rw [e]
    go_enter Try.func48, Try.ntmps48
    go_wp2_with (go_at_call 80; refine (from_no_U8 g B xs bad 1 1 rfl _ HH.out (by show xs.length ≤ _; omega) hc).mono ?_; rintro e w1 ⟨rfl, hR, hg⟩; have HR := Aside0.mk hR; have HG := Aside0.mk hg; clear hR hg)
    go_ret
    exact ⟨rfl, HR.out, HG.out⟩
  · have e : (⟨xs, bad⟩ : Rs).byte = (rd (xs.take 1) 0, ⟨xs.drop 1, false⟩) := by unfold Rs.byte; rw [Rs.take_yes hc]
    rw [e]
    obtain rfl : bad = false := by cases bad <;> simp_all
    have hn : 1 ≤ xs.length := by omega
    clear hc
    go_enter Try.func48, Try.ntmps48
    go_wp2_with (go_at_call 80; refine (from_yes_U8 g B xs 1 1 rfl _ HH.out hm hn rfl).mono ?_; rintro e w1 ⟨rfl, hR, hg⟩; have HR := Aside0.mk hR; have HG := Aside0.mk hg; clear hR hg)
    go_ret
    exact ⟨rfl, HR.out, HG.out⟩
theorem Int_calls (g : Nat) (B : Nat → Prop) (r : Rs) (w : World) (h : RdrS w g B r) (hm : r.xs.length ≤ 140737488355000) :
    Calls Try.prog 28 #[.pointer (some ⟨g, 0, none⟩)] w fun e w' => e = .returned (.int .i64 r.int.1) ∧ RdrS w' g B r.int.2 ∧ w.grownBy w' (some g) := by
  obtain ⟨xs, bad⟩ := r
  have HH := Aside0.mk h
  clear h
  by_cases hc : bad = true ∨ xs.length < 8
  · have e : (⟨xs, bad⟩ : Rs).int = (0, ⟨xs, true⟩) := by unfold Rs.int; rw [Rs.take_no hc]
    rw [e]
    go_enter Try.func28, Try.ntmps28
    go_wp2_with (go_at_call 51; refine (from_no_I64 g B xs bad 8 8 rfl _ HH.out (by show xs.length ≤ _; omega) hc).mono ?_; rintro e w1 ⟨rfl, hR, hg⟩; have HR := Aside0.mk hR; have HG := Aside0.mk hg; clear hR hg)
    go_ret
    exact ⟨rfl, HR.out, HG.out⟩
  · have e : (⟨xs, bad⟩ : Rs).int = (wrap64 (beVal (xs.take 8)), ⟨xs.drop 8, false⟩) := by unfold Rs.int; rw [Rs.take_yes hc]
    rw [e]
    obtain rfl : bad = false := by cases bad <;> simp_all
    have hn : 8 ≤ xs.length := by omega
    clear hc
    go_enter Try.func28, Try.ntmps28
    go_wp2_with (go_at_call 51; refine (from_yes_I64 g B xs 8 8 rfl _ HH.out hm hn (by omega)).mono ?_; rintro e w1 ⟨rfl, hR, hg⟩; have HR := Aside0.mk hR; have HG := Aside0.mk hg; clear hR hg)
    go_ret
    exact ⟨rfl, HR.out, HG.out⟩

theorem beVal4 (l : List Int) (h : ∀ c ∈ l, IsByte c) (h4 : l.length ≤ 4) : 0 ≤ beVal l ∧ beVal l < 4294967296 := by
  obtain ⟨h1, h2⟩ := beVal_lt l h
  have h3 := pow_le l.length 4 h4
  have e4 : (256 : Int) ^ 4 = 4294967296 := by decide
  omega
theorem Text_calls (g : Nat) (B : Nat → Prop) (r : Rs) (w : World) (h : RdrS w g B r) (hm : r.xs.length ≤ 140737488355000) :
    Calls Try.prog 30 #[.pointer (some ⟨g, 0, none⟩)] w fun e w' => ∃ v0 : Value, e = .returned v0 ∧ Kd.R (Kd.int .u8) 5 w' w.heap.size (fun _ => True) v0 r.text.1 ∧ RdrS w' g B r.text.2 ∧ w.grownBy w' (some g) := by
  obtain ⟨xs, bad⟩ := r
  have HH := Aside0.mk h
  have HBy : Aside0 (∀ x ∈ xs, IsByte x) := ⟨by obtain ⟨_, _, _, _, _, h4, _⟩ := h; exact h4⟩
  have hgl : Aside0 (g < w.heap.size) := ⟨by obtain ⟨_, _, h1, _⟩ := h; exact h1.lt⟩
  have hm' : xs.length ≤ 140737488355000 := hm
  clear h hm
  by_cases hc : bad = true ∨ xs.length < 4
  · have e : (⟨xs, bad⟩ : Rs).text = ([], ⟨xs, true⟩) := by
      have e4 : (⟨xs, bad⟩ : Rs).len4 = (0, ⟨xs, true⟩) := by unfold Rs.len4; rw [Rs.take_no hc]
      unfold Rs.text; rw [e4]; simp only []; rw [Rs.take_no (.inl rfl)]
    rw [e]
    go_enter Try.func30, Try.ntmps30
    go_wp2_with fail
    refine (from_no_U64 g B xs bad 4 4 rfl _ HH.out (by omega) hc).mono ?_
    rintro e w1 ⟨rfl, hR, hg⟩
    have HR := Aside0.mk hR
    have HG := Aside0.mk hg
    clear hR hg
    go_wp2_with fail
    refine (from_no_Bs g B xs true 0 0 rfl _ HR.out (by omega) (.inl rfl)).mono ?_
    rintro e w2 ⟨rfl, hR, hg⟩
    have HR2 := Aside0.mk hR
    have HG2 := Aside0.mk hg
    clear hR hg
    go_wp2_with fail
    go_ret
    exact ⟨_, rfl, Kd.R_nil _ _ _ _ _, HR2.out, grown_trans HG.out HG2.out⟩
  · have hbf : bad = false := by cases bad <;> simp_all
    subst hbf
    have hn : 4 ≤ xs.length := by omega
    have h4 := beVal4 (xs.take 4) (fun c hc => HBy.out c (List.mem_of_mem_take hc)) (by simp; omega)
    obtain ⟨ni, HNI⟩ : ∃ ni, Aside0 (ni = beVal (xs.take 4)) := ⟨_, ⟨rfl⟩⟩
    rw [← HNI.out] at h4
    obtain ⟨n, hnn⟩ : ∃ n : Nat, ni = n := ⟨ni.toNat, by omega⟩
    have HNN := Aside0.mk hnn
    have e0 : (⟨xs, false⟩ : Rs).text = match (⟨xs.drop 4, false⟩ : Rs).take n with
      | (none, r') => ([], r')
      | (some l, r') => (l, r') := by
      have e4 : (⟨xs, false⟩ : Rs).len4 = (beVal (xs.take 4), ⟨xs.drop 4, false⟩) := by unfold Rs.len4; rw [Rs.take_yes hc]
      unfold Rs.text; rw [e4]; simp only []; rw [← HNI.out, hnn, Int.toNat_natCast]
    rw [e0]
    clear hc hnn e0
    by_cases hc2 : false = true ∨ (xs.drop 4).length < n
    · rw [show (⟨xs.drop 4, false⟩ : Rs).take n = (none, ⟨xs.drop 4, true⟩) from Rs.take_no hc2]
      go_enter Try.func30, Try.ntmps30
      go_wp2_with fail
      refine (from_yes_U64 g B xs 4 4 rfl _ HH.out hm' hn (by omega)).mono ?_
      rintro e w1 ⟨rfl, hR, hg⟩
      rw [← HNI.out]
      have HR := Aside0.mk hR
      have HG := Aside0.mk hg
      clear hR hg
      go_wp2_with fail
      refine (from_no_Bs g B (xs.drop 4) false n ni HNN.out _ HR.out (by simp; omega) hc2).mono ?_
      rintro e w2 ⟨rfl, hR, hg⟩
      have HR2 := Aside0.mk hR
      have HG2 := Aside0.mk hg
      clear hR hg
      go_wp2_with fail
      go_ret
      exact ⟨_, rfl, Kd.R_nil _ _ _ _ _, HR2.out, grown_trans HG.out HG2.out⟩
    · rw [show (⟨xs.drop 4, false⟩ : Rs).take n = (some ((xs.drop 4).take n), ⟨(xs.drop 4).drop n, false⟩) from Rs.take_yes hc2]
      have hn2 : n ≤ (xs.drop 4).length := by omega
      have hd : (xs.drop 4).length ≤ 140737488355000 := by simp; omega
      clear hc2
      go_enter Try.func30, Try.ntmps30
      go_wp2_with fail
      refine (from_yes_U64 g B xs 4 4 rfl _ HH.out hm' hn (by omega)).mono ?_
      rintro e w1 ⟨rfl, hR, hg⟩
      rw [← HNI.out]
      have HR := Aside0.mk hR
      have HG := Aside0.mk hg
      clear hR hg
      go_wp2_with fail
      refine (from_yes_Bs g B (xs.drop 4) n ni HNN.out _ HR.out hd hn2).mono ?_
      rintro e w2 ⟨v0, rfl, hV, hR, hg⟩
      have HV := Aside0.mk hV
      have HR2 := Aside0.mk hR
      have HG2 := Aside0.mk hg
      clear hR hg hV
      go_wp2_with fail
      go_ret
      exact ⟨v0, rfl, Kd.R_lower (Kd.R_mono HV.out (fun _ _ => trivial)) HG.out.size, HR2.out, grown_trans HG.out HG2.out⟩
def Rs.count (r : Rs) (most : Int) : Int × Rs :=
  if most < 0 ∨ most < r.uint.1 then (0, ⟨r.uint.2.xs, true⟩) else r.uint
theorem uint_lt (r : Rs) (h : ∀ x ∈ r.xs, IsByte x) : 0 ≤ r.uint.1 ∧ r.uint.1 < top64 := by
  unfold Rs.uint Rs.take
  by_cases hc : r.bad = true ∨ r.xs.length < 8
  · rw [if_pos hc]; simp [top64]
  · rw [if_neg hc]
    have hb := beVal_lt (r.xs.take 8) (fun c hc => h c (List.mem_of_mem_take hc))
    have h8 := pow_le (r.xs.take 8).length 8 (by simp; omega)
    have e8 : (256 : Int) ^ 8 = top64 := by decide
    exact ⟨hb.1, by show beVal _ < _; omega⟩
theorem RdrS.bytes {W : World} {g : Nat} {B : Nat → Prop} {r : Rs} (h : RdrS W g B r) : ∀ x ∈ r.xs, IsByte x := by
  obtain ⟨_, _, _, _, _, h4, _⟩ := h; exact h4
/-- Is all taken, and nothing spoilt? -/
def Rs.done (r : Rs) : Int := if r.bad = true ∨ 0 < r.xs.length then 21 else 0
theorem Done_calls (g : Nat) (B : Nat → Prop) (r : Rs) (w : World) (h : RdrS w g B r) (hm : r.xs.length ≤ 9223372036854775807) :
    Calls Try.prog 31 #[.pointer (some ⟨g, 0, none⟩)] w fun e w' => e = .returned (.int .i64 r.done) ∧ w = w' := by
  obtain ⟨xs, bad⟩ := r
  obtain ⟨A, c, c0, c1, f0, hc⟩ := h.cells
  simp only [] at c0 c1 hc hm
  clear h
  cases bad with
  | true =>
    have e : (⟨xs, true⟩ : Rs).done = 21 := by simp [Rs.done]
    rw [e]
    go_enter Try.func31, Try.ntmps31
    go_wp2
    go_ret
    exact ⟨rfl, rfl⟩
  | false =>
    by_cases h0 : 0 < xs.length
    · have e : (⟨xs, false⟩ : Rs).done = 21 := by simp [Rs.done, h0]
      rw [e]
      have h1 : (0 : Int) < xs.length := by omega
      go_enter Try.func31, Try.ntmps31
      go_wp2
      go_ret
      exact ⟨rfl, rfl⟩
    · have e : (⟨xs, false⟩ : Rs).done = 0 := by simp [Rs.done, h0]
      rw [e]
      have h1 : ¬ (0 : Int) < xs.length := by omega
      go_enter Try.func31, Try.ntmps31
      go_wp2
      go_ret
      exact ⟨rfl, rfl⟩
set_option maxHeartbeats 800000 in
theorem New_calls (A : Option Addr) (c : Nat) (l : List Int) (w : World) (hr : Kd.C (Kd.int .u8) w A l.length l) (hb : ∀ x ∈ l, IsByte x) (hm : l.length ≤ 140737488355000) :
    Calls Try.prog 27 #[.slice A l.length c] w fun e w' => ∃ g, e = .returned (.pointer (some ⟨g, 0, none⟩)) ∧ RdrS w' g (fun k => w.heap.size ≤ k ∧ k < w'.heap.size) ⟨l, false⟩ ∧ Below w.heap.size w w' := by
  have HR := Aside0.mk hr
  have HBy := Aside0.mk hb
  clear hr hb
  go_enter Try.func27, Try.ntmps27
  go_wp2_with (at_builtin; refine Kd.R_append_row (Value.int .u8) (0 : Int) (w0 := w) w.heap.size rfl (.tmp 3) (.tmp 4) 29 5 (.int .u8 0) 1 rfl Try.underlying29 infoU8 rfl (by decide) (.slice (some ⟨w.heap.size, 0, none⟩) 0 0) [] l A l.length c (fun k => w.heap.size ≤ k) rfl rfl (fun k hk => by simp at hk; omega) (R_empty w _ _ (Nat.le_refl _) (Nat.le_refl _)) (Kd.C_alloc HR.out _) (below_alloc (Below.refl _ _) _) (by simp) (by simp; omega) ?_; intro v1 w1 ho hb hg hat; simp only [List.nil_append] at ho; obtain ⟨Av, cv, ev⟩ := Kd.R_slice ho; subst ev; have HO := Aside0.mk ho; have HB := Aside0.mk hb; clear ho hb hg hat)
  go_ret
  refine ⟨w1.heap.size, rfl, ⟨Av, cv, Blk.new_, (Kd.R_reads' HO.out).2.1, ?_, HBy.out, HB.out.size, by rw [size_alloc]; omega⟩, below_alloc HB.out _⟩
  have h1 := Kd.R_F (Kd.R_bound HO.out)
  exact Kd.F_mono (Kd.F_alloc h1 _) (fun k hk => ⟨⟨hk.1, by rw [size_alloc]; have := hk.2.2.1; omega⟩, by have := hk.2.2.1; omega⟩)
end Go.Proofs.Ytanjkhdagegapaa.Ext
