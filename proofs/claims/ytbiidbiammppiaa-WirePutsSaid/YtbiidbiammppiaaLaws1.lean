/- WireBounds, WireOrder and WireSpoilt, walked. -/
import Derived.Test.YtbiidbiammppiaaGoes
import Derived.Deep.RegionWith
import Derived.WalkLawsBesides
namespace Go.Proofs.Ytbiidbiammppiaa.Ext
open Go.RowKit Go.Proofs.YtbiidbiammppiaaW.PrintWords Go.Proofs.YtbiidbiammppiaaW.PrintLast Go.Proofs.YtbiidbiammppiaaW.PrintMore Go.Proofs.YtbiidbiammppiaaW.Hand
set_option linter.unusedVariables false
theorem wf_byte (c : Int) (h : (Lit.int .u8 c).wf = true) : IsByte c := by
  have h1 : IntKind.u8.min = 0 := rfl
  have h2 : IntKind.u8.max = 255 := rfl
  simp only [Lit.wf, Bool.and_eq_true, decide_eq_true_eq, h1, h2] at h
  unfold IsByte; omega
theorem wf_u64 (c : Int) (h : (Lit.int .u64 c).wf = true) : 0 ≤ c ∧ c < top64 := by
  have h1 : IntKind.u64.min = 0 := rfl
  have h2 : IntKind.u64.max = 18446744073709551615 := rfl
  have h3 : top64 = 18446744073709551616 := rfl
  simp only [Lit.wf, Bool.and_eq_true, decide_eq_true_eq, h1, h2] at h
  omega
/-- So many texts, one behind the other: their bytes together, and the reader behind them. -/
def texts : Nat → Rs → Int × Rs
  | 0, r => (0, r)
  | k + 1, r => ((texts k r).1 + (texts k r).2.text.1.length, (texts k r).2.text.2)
theorem take_len (r : Rs) (n : Nat) : (r.take n).2.xs.length ≤ r.xs.length := by
  unfold Rs.take
  split
  · exact Nat.le_refl _
  · simp
theorem text_len (r : Rs) : r.text.1.length + r.text.2.xs.length ≤ r.xs.length := by
  unfold Rs.text
  have h4 : r.len4.2.xs.length ≤ r.xs.length := by
    unfold Rs.len4
    have := take_len r 4
    generalize r.take 4 = t at this
    obtain ⟨a, b⟩ := t
    cases a <;> exact this
  generalize r.len4.2 = q at h4
  generalize r.len4.1.toNat = n
  unfold Rs.take
  by_cases hc : q.bad = true ∨ q.xs.length < n
  · rw [if_pos hc]; simp; exact h4
  · rw [if_neg hc]; simp; omega
theorem texts_len (k : Nat) (r : Rs) : 0 ≤ (texts k r).1 ∧ (texts k r).1 + (texts k r).2.xs.length ≤ r.xs.length := by
  induction k with
  | zero => simp [texts]
  | succ k ih =>
    have := text_len (texts k r).2
    simp only [texts]
    omega
set_option maxHeartbeats 1600000 in
theorem bounds_any (A : Option Addr) (c : Nat) (l : List Int) (w : World) (hr : Kd.C (Kd.int .u8) w A l.length l) (hb : ∀ x ∈ l, IsByte x) :
    Calls Try.prog 3 #[.slice A l.length c] w fun e w' => e = .returned (.bool true) ∧ Below w.heap.size w w' := by
  have HR := Aside0.mk hr
  have HBy := Aside0.mk hb
  clear hr hb
  by_cases hl : (2000 : Int) < l.length
  · go_enter Try.func3, Try.ntmps3
    go_wp2_with fail
    go_ret
    exact ⟨rfl, Below.refl _ _⟩
  · go_enter Try.func3, Try.ntmps3
    go_wp2_with (go_at_call 10; refine (New_calls A c l _ HR.out HBy.out (by omega)).mono ?_; rintro e w1 ⟨g, rfl, hR, hb⟩; have HR1 := Aside0.mk hR; have HB1 := Aside0.mk hb; have hgl : g < w1.heap.size := (by obtain ⟨_, _, h1, _⟩ := hR; exact h1.lt); have hg0 : w.heap.size ≤ g := (by obtain ⟨_, _, _, _, _, _, h5⟩ := hR; exact h5.1); clear hR hb)
    go_loopw [4, 5] (fun n i wr => ∃ k : Nat, k ≤ l.length + 2 ∧ i = .int .i64 k ∧ n = .int .i64 (texts k ⟨l, false⟩).1 ∧ Aside0 (RdrS wr g (fun k => w.heap.size ≤ k ∧ k < w1.heap.size) (texts k ⟨l, false⟩).2) ∧ Aside0 (Below w.heap.size w wr)) (fun _ i _ => l.length + 2 - (intOf i).toNat)
    case atStart => exact ⟨0, by omega, rfl, rfl, HR1, HB1⟩
    case round =>
      obtain ⟨k, hk, rfl, rfl, HS, HBW⟩ := hrel
      obtain ⟨q, HQ⟩ : ∃ q, Aside0 (q = texts k ⟨l, false⟩) := ⟨_, ⟨rfl⟩⟩
      have ht := texts_len k ⟨l, false⟩
      rw [← HQ.out] at ht HS ⊢
      simp only [] at ht
      by_cases hlt : k < l.length + 2
      · have htx := text_len q.2
        obtain ⟨m, HM⟩ : ∃ m, Aside0 (m = q.2.text.1.length) := ⟨_, ⟨rfl⟩⟩
        rw [← HM.out] at htx
        have hltI : (k : Int) < (l.length : Int) + 2 := by omega
        go_wp2_with (go_at_call 11; refine (Text_calls g _ q.2 _ HS.out (by omega)).mono ?_; rintro e w2 ⟨v2, rfl, hV, hR, hG⟩; obtain ⟨A2, c2, ev⟩ := Kd.R_slice hV; subst ev; rw [← HM.out]; have HR2 := Aside0.mk hR; have HB2 := Aside0.mk (HBW.out.grown hG HBW.out.size (fun k hk => by injection hk with hk; omega)); clear hV hR hG)
        go_roundw
        case rel => exact ⟨k + 1, by omega, by go_num, by simp only [texts]; rw [← HQ.out, ← HM.out], by simp only [texts]; rw [← HQ.out]; exact HR2, HB2⟩
        case measure => simp [intOf]; omega
      · have hltI : ¬ (k : Int) < (l.length : Int) + 2 := by omega
        have hle : q.1 ≤ l.length := by omega
        go_wp2_with (go_at_call 12; refine (goes_true _).mono ?_; rintro e w3 ⟨rfl, hb⟩; have HB3 := Aside0.mk (below_step HBW.out hb); clear hb)
        go_ret
        exact ⟨rfl, HB3.out⟩
theorem Uint_nil (v : Int) (w : World) (hv : 0 ≤ v) (hv2 : v < top64) :
    Calls Try.prog 13 #[.slice none 0 0, .int .u64 v] w fun e w' => ∃ v0 : Value, e = .returned v0 ∧ Kd.R (Kd.int .u8) 5 w' w.heap.size (fun _ => True) v0 (beN 8 v) ∧ Below w.heap.size w w' :=
  Uint_any none 0 [] v w (Kd.C_nil _ _) (by decide) hv hv2
set_option maxHeartbeats 1600000 in
theorem order_any (a b : Int) (w : World) (ha : 0 ≤ a) (ha2 : a < top64) (hb : 0 ≤ b) (hb2 : b < top64)
    (hL : Op.bytesLess (strOfNums (beN 8 a)).toList (strOfNums (beN 8 b)).toList = decide (a < b)) (hE : ((strOfNums (beN 8 a)).toList == (strOfNums (beN 8 b)).toList) = (a == b)) (hS : (strOfNums (beN 8 a)).size = 8) :
    Calls Try.prog 4 #[.int .u64 a, .int .u64 b] w fun e w' => e = .returned (.bool true) ∧ Below w.heap.size w w' := by
  generalize h1 : strOfNums (beN 8 a) = S1 at hL hE hS
  generalize h2 : strOfNums (beN 8 b) = S2 at hL hE
  have H1 := Aside0.mk h1
  have H2 := Aside0.mk h2
  clear h1 h2
  go_enter Try.func4, Try.ntmps4
  go_wp2_with fail
  go_region_with (first
    | (go_at_call 13; (with_reducible refine (Uint_nil a _ ha ha2).mono ?_); rintro e w1 ⟨v1, rfl, hV, hb⟩; have hcv1 := str_own hV; rw [H1.out] at hcv1; have HV1 := Aside0.mk hV; have HB1 := Aside0.mk hb; clear hV hb)
    | (go_at_call 13; (with_reducible refine (Uint_nil b _ hb hb2).mono ?_); rintro e w2 ⟨v2, rfl, hV, hb⟩; have hcv2 := str_own hV; rw [H2.out] at hcv2; have hcv1b := str_own (Kd.R_below HV1.out hb); rw [H1.out] at hcv1b; have HB2 := Aside0.mk hb; clear hV hb))
  all_goals
    go_wp2_with (go_at_call 12; refine (goes_true _).mono ?_; rintro e w3 ⟨rfl, hb3⟩; have HB3 := Aside0.mk hb3; clear hb3)
    go_ret
    exact ⟨rfl, below_step (below_step (below_step (below_drew (Below.refl _ _)) HB1.out) HB2.out) HB3.out⟩
end Go.Proofs.Ytbiidbiammppiaa.Ext
