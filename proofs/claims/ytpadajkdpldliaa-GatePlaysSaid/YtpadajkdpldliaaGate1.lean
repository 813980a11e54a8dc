/- gate.Put, Get, New, Queue, Ask, proved by walking their code. -/
import Derived.Test.YtpadajkdpldliaaGateQ2
import Derived.Deep.RegionWith
namespace Go.Proofs.Ytpadajkdpldliaa.Ext
open Go.RowKit Go.Proofs.YtpadajkdpldliaaW.PrintWords Go.Proofs.YtpadajkdpldliaaW.PrintLast Go.Proofs.YtpadajkdpldliaaW.PrintMore Go.Proofs.YtpadajkdpldliaaW.Hand
set_option linter.unusedVariables false
/-- A letter's bytes. -/
def lett (n : Int) (s : List Int) : List Int := beN 8 n ++ (beN 4 s.length ++ s)
theorem gPut_calls (n : Int) (A : Option Addr) (c : Nat) (s : List Int) (w : World) (hr : Kd.C (Kd.int .u8) w A s.length s) (hm : s.length ≤ 140737488350000) (h0 : 0 ≤ n) (h1 : n < 18446744073709551616) :
    Calls Try.prog 17 #[.int .u64 n, .slice A s.length c] w fun e w' => ∃ v0 : Value, e = .returned v0 ∧ Kd.R (Kd.int .u8) 5 w' w.heap.size (fun _ => True) v0 (lett n s) ∧ Below w.heap.size w w' := by
  have HR := Aside0.mk hr
  have H0 := Aside0.mk h0
  have H1 := Aside0.mk h1
  clear hr h0 h1
  go_enter Try.func17, Try.ntmps17
  go_wp2_with fail
  refine (Uint_any none 0 [] n _ (Kd.C_nil _ _) (by decide) H0.out H1.out).mono ?_
  rintro e w1 ⟨v1, rfl, hV, hb⟩
  obtain ⟨A1, c1, ev⟩ := Kd.R_slice hV
  subst ev
  have HB := Aside0.mk hb
  have hl : ([] ++ beN 8 n).length = 8 := by simp [beN_length]
  have kt := Aside0.mk (Text_any A1 c1 ([] ++ beN 8 n) A c s w1 (Kd.R_reads' hV).2.2 (Kd.C_below HR.out hb) (by rw [hl]; omega))
  rw [hl] at kt
  rw [hl]
  clear hV hb hl
  go_wp2_with fail
  refine kt.out.mono ?_
  rintro e w2 ⟨v2, rfl, hV, hb⟩
  have HV := Aside0.mk hV
  have HB2 := Aside0.mk (below_step HB.out hb)
  clear hV hb
  go_wp2_with fail
  go_ret
  refine ⟨v2, rfl, Kd.R_lower ?_ HB.out.size, HB2.out⟩
  have := HV.out
  rw [List.nil_append, List.append_assoc] at this
  exact this
theorem take_len_ (r : Rs) (n : Nat) : (r.take n).2.xs.length ≤ r.xs.length := by
  unfold Rs.take
  split
  · exact Nat.le_refl _
  · simp
theorem text_len_ (r : Rs) : r.text.1.length + r.text.2.xs.length ≤ r.xs.length := by
  unfold Rs.text
  have h4 : r.len4.2.xs.length ≤ r.xs.length := by
    unfold Rs.len4
    have := take_len_ r 4
    generalize r.take 4 = t at this
    obtain ⟨a, b⟩ := t
    cases a <;> exact this
  generalize r.len4.2 = q at h4
  generalize r.len4.1.toNat = n
  unfold Rs.take
  by_cases hc : q.bad = true ∨ q.xs.length < n
  · rw [if_pos hc]; simp; exact h4
  · rw [if_neg hc]; simp; omega
/-- What a letter's bytes say. -/
def gGet (l : List Int) : Option (Int × List Int) :=
  let u := (⟨l, false⟩ : Rs).uint
  let t := u.2.text
  if t.2.done = 0 then some (u.1, t.1) else none
def GetIs (w w' : World) (e : Ending) : Option (Int × List Int) → Prop
  | none => e = .returned (.tuple #[.int .u64 0, .slice none 0 0, .bool false])
  | some p => ∃ v0, e = .returned (.tuple #[.int .u64 p.1, v0, .bool true]) ∧ Kd.R (Kd.int .u8) 5 w' w.heap.size (fun _ => True) v0 p.2
set_option maxHeartbeats 1600000 in
theorem gGet_calls (A : Option Addr) (c : Nat) (l : List Int) (w : World) (hr : Kd.C (Kd.int .u8) w A l.length l) (hb : ∀ x ∈ l, IsByte x) (hm : l.length ≤ 140737488350000) :
    Calls Try.prog 22 #[.slice A l.length c] w fun e w' => Below w.heap.size w w' ∧ GetIs w w' e (gGet l) := by
  have HR := Aside0.mk hr
  have HBy := Aside0.mk hb
  clear hr hb
  obtain ⟨u1, u2, hu⟩ : ∃ a b, (⟨l, false⟩ : Rs).uint = (a, b) := ⟨_, _, rfl⟩
  obtain ⟨t1, t2, ht⟩ : ∃ a b, u2.text = (a, b) := ⟨_, _, rfl⟩
  have hg : gGet l = if t2.done = 0 then some (u1, t1) else none := by unfold gGet; simp only [hu, ht]
  have HG := Aside0.mk hg
  have hul : u2.xs.length ≤ 140737488350000 := by
    have : (⟨l, false⟩ : Rs).uint.2 = ((⟨l, false⟩ : Rs).take 8).2 := by unfold Rs.uint; generalize (⟨l, false⟩ : Rs).take 8 = t; obtain ⟨x, y⟩ := t; cases x <;> rfl
    rw [hu] at this
    have h2 := take_len_ (⟨l, false⟩ : Rs) 8
    rw [← this] at h2
    exact Nat.le_trans h2 hm
  have htl : t2.xs.length ≤ 140737488350000 := by
    have := text_len_ u2
    rw [ht] at this
    simp only at this
    omega
  have HU := Aside0.mk hu
  have HT := Aside0.mk ht
  have HUL := Aside0.mk hul
  have HTL := Aside0.mk htl
  have hdn : t2.done = 0 ∨ t2.done = 21 := by unfold Rs.done; split <;> simp
  clear hg hu ht hul htl
  go_enter Try.func22, Try.ntmps22
  go_wp2_with fail
  refine (New_calls A c l _ HR.out HBy.out (by omega)).mono ?_
  rintro e w1 ⟨g, rfl, hR, hbl⟩
  have HR1 := Aside0.mk hR
  have HB1 := Aside0.mk hbl
  have hg0 := Aside0.mk (show w.heap.size ≤ g by obtain ⟨_, _, _, _, _, _, h5⟩ := hR; exact h5.1)
  clear hR hbl
  go_wp2_with fail
  refine (Uint_calls g _ ⟨l, false⟩ _ HR1.out (by show l.length ≤ _; omega)).mono ?_
  rintro e w2 ⟨rfl, hR, hG⟩
  rw [HU.out] at hR ⊢
  have HR2 := Aside0.mk hR
  have HB2 := Aside0.mk (HB1.out.grown hG HB1.out.size (fun k hk => by injection hk with hk; have := hg0.out; omega))
  clear hR hG
  go_wp2_with fail
  refine (Text_calls g _ u2 _ HR2.out (by have := HUL.out; omega)).mono ?_
  rintro e w3 ⟨v3, rfl, hV, hR, hG⟩
  rw [HT.out] at hR hV
  have HV := Aside0.mk (Kd.R_lower hV HB2.out.size)
  have HR3 := Aside0.mk hR
  have HB3 := Aside0.mk (HB2.out.grown hG HB2.out.size (fun k hk => by injection hk with hk; have := hg0.out; omega))
  clear hR hG hV
  go_wp2_with fail
  refine (Done_calls g _ t2 _ HR3.out (by have := HTL.out; omega)).mono ?_
  rintro e w4 ⟨rfl, rfl⟩
  rcases hdn with hd | hd
  · rw [hd]
    have hd2 := Aside0.mk hd
    clear hd
    go_wp2_with fail
    go_ret3
    exact ⟨HB3.out, by rw [HG.out, if_pos hd2.out]; exact ⟨v3, rfl, HV.out⟩⟩
  · rw [hd]
    have hd2 := Aside0.mk hd
    clear hd
    go_wp2_with fail
    go_ret3
    exact ⟨HB3.out, by rw [HG.out, if_neg (by rw [hd2.out]; decide)]; exact rfl⟩
/-- A gateway at block g: its own number, the number of its last request, the requests that wait, the answers. -/
def GAt (W : World) (g B : Nat) (me last : Int) (Q R : List (Int × List Int)) : Prop :=
  ∃ va vb, Blk W g (.cells #[.int .i64 me, .int .u64 last, va, vb] 68) ∧ Kd.N DQ 71 W B (fun k => k ≠ g ∧ some k ≠ vb.ownBlock) va Q ∧ Kd.N DQ 51 W B (fun k => k ≠ g ∧ some k ≠ va.ownBlock) vb R ∧ B ≤ g
/-- What stays when a gateway does something: blocks of other types. -/
def KT (g : Nat) (w w' : World) : Prop := w.heap.size ≤ w'.heap.size ∧ ∀ k cells e fr, w.heap[k]? = some (.cells cells e fr) → k ≠ g → e ≠ 71 → e ≠ 51 → w'.heap[k]? = w.heap[k]?
theorem KT.refl (g : Nat) (w : World) : KT g w w := ⟨Nat.le_refl _, fun _ _ _ _ _ _ _ _ => rfl⟩
theorem KT.trans {g : Nat} {a b c : World} (h : KT g a b) (k : KT g b c) : KT g a c :=
  ⟨Nat.le_trans h.1 k.1, fun j cells e fr hj h1 h2 h3 => by
    have e1 := h.2 j cells e fr hj h1 h2 h3
    exact (k.2 j cells e fr (e1.trans hj) h1 h2 h3).trans e1⟩
theorem KT.of_below {g : Nat} {a b : World} (h : Below a.heap.size a b) : KT g a b := ⟨h.size, fun j cells e fr hj _ _ _ => h.block j (by
  rcases Nat.lt_or_ge j a.heap.size with h | h
  · exact h
  · rw [Array.getElem?_eq_none h] at hj; cases hj)⟩
theorem KT.of_keep {g : Nat} {a b : World} {row : Option Nat} (h : KeepBut a b g row) (ht : ∀ k, row = some k → ∃ cells, a.heap[k]? = some (.cells cells 71 (0, 0)) ∨ a.heap[k]? = some (.cells cells 51 (0, 0))) : KT g a b :=
  ⟨h.1, fun j cells e fr hj h1 h2 h3 => h.2 j (by
    rcases Nat.lt_or_ge j a.heap.size with h | h
    · exact h
    · rw [Array.getElem?_eq_none h] at hj; cases hj) h1 (fun hr => by
      obtain ⟨cs, h4⟩ := ht j hr.symm
      rcases h4 with h4 | h4
      · rw [hj] at h4; injection h4 with h4; injection h4 with _ h4; exact h2 h4
      · rw [hj] at h4; injection h4 with h4; injection h4 with _ h4; exact h3 h4)⟩
theorem GAt.below {W W' : World} {g B : Nat} {me last : Int} {Q R : List (Int × List Int)} (h : GAt W g B me last Q R) (hb : Below W.heap.size W W') : GAt W' g B me last Q R := by
  obtain ⟨va, vb, h1, h2, h3, h4⟩ := h
  exact ⟨va, vb, h1.below hb, Kd.N_below h2 hb, Kd.N_below h3 hb, h4⟩
theorem GAt.lt {W : World} {g B : Nat} {me last : Int} {Q R : List (Int × List Int)} (h : GAt W g B me last Q R) : g < W.heap.size := by
  obtain ⟨va, vb, h1, _⟩ := h
  exact h1.lt
theorem GAt.le {W : World} {g B : Nat} {me last : Int} {Q R : List (Int × List Int)} (h : GAt W g B me last Q R) : B ≤ g := by
  obtain ⟨va, vb, _, _, _, h4⟩ := h
  exact h4
/-- The other queue, behind a turn of this one. -/
theorem N_follow {e : TypeId} {W W' : World} {g B : Nat} {v u u' : Value} {R : List (Int × List Int)} (h : Kd.N DQ e W B (fun k => k ≠ g ∧ some k ≠ u.ownBlock) v R) (hk : KeepBut W W' g u.ownBlock)
    (hat : u'.ownBlock = u.ownBlock ∨ u'.ownBlock = none ∨ ∃ b, u'.ownBlock = some b ∧ W.heap.size ≤ b) : Kd.N DQ e W' B (fun k => k ≠ g ∧ some k ≠ u'.ownBlock) v R := by
  refine Kd.N_mono (Kd.N_step (Kd.N_bound h) (fun k hk' hlt => hk.2 k hlt hk'.1.1 hk'.1.2)) (fun k hk' => ⟨hk'.1.1, fun e1 => ?_⟩)
  rcases hat with h1 | h1 | ⟨b, h1, h2⟩
  · exact hk'.1.2 (e1.trans h1)
  · rw [h1] at e1; cases e1
  · rw [h1] at e1
    injection e1 with e1
    have := hk'.2
    omega
theorem gNew_calls (me : Int) (w : World) (h1 : 1 ≤ me) (h2 : me ≤ 3) :
    Calls Try.prog 10 #[.int .i64 me] w fun e w' => ∃ g, e = .returned (.tuple #[.pointer (some ⟨g, 0, none⟩), .int .i64 0]) ∧ GAt w' g w.heap.size me 0 [] [] ∧ Below w.heap.size w w' := by
  have n1 : ¬ me < 1 := by omega
  have n2 : ¬ 3 < me := by omega
  clear h1 h2
  go_enter Try.func10, Try.ntmps10
  go_wp2_with fail
  go_ret2
  exact ⟨w.heap.size, rfl, ⟨.slice none 0 0, .slice none 0 0, Blk.new rfl, Kd.N_nil _ _ _ _ _, Kd.N_nil _ _ _ _ _, Nat.le_refl _⟩, below_alloc (Below.refl _ _) _⟩
theorem gNew_bad (me : Int) (w : World) (h1 : me < 1 ∨ 3 < me) :
    Calls Try.prog 10 #[.int .i64 me] w fun e w' => e = .returned (.tuple #[.pointer none, .int .i64 1]) ∧ w = w' := by
  by_cases h2 : me < 1
  · clear h1
    go_enter Try.func10, Try.ntmps10
    go_wp2_with fail
    go_ret2
    exact ⟨rfl, rfl⟩
  · have h3 : 3 < me := by omega
    clear h1
    go_enter Try.func10, Try.ntmps10
    go_wp2_with fail
    go_ret2
    exact ⟨rfl, rfl⟩
theorem Queue_calls (g B : Nat) (me last : Int) (Q R : List (Int × List Int)) (w : World) (h : GAt w g B me last Q R) :
    Calls Try.prog 21 #[.pointer (some ⟨g, 0, none⟩)] w fun e w' => e = .returned (.int .i64 Q.length) ∧ w = w' := by
  obtain ⟨va, vb, h1, h2, _⟩ := h
  obtain ⟨A1, k1, ev⟩ := Kd.N_slice h2
  subst ev
  have c2 := h1.cell 2
  simp at c2
  clear h1 h2
  go_enter Try.func21, Try.ntmps21
  go_wp2_with fail
  go_ret
  exact ⟨rfl, rfl⟩
end Go.Proofs.Ytpadajkdpldliaa.Ext
