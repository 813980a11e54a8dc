/- What hearing and telling leave as it was, the answers' row named. -/
import Derived.Test.YtpadajkdpldliaaNil2
import Derived.Test.YtpadajkdpldliaaBack2
namespace Go.Proofs.Ytpadajkdpldliaa.Ext
open Go.RowKit Go.Proofs.YtpadajkdpldliaaW.PrintWords Go.Proofs.YtpadajkdpldliaaW.PrintLast Go.Proofs.YtpadajkdpldliaaW.PrintMore Go.Proofs.YtpadajkdpldliaaW.Hand
set_option linter.unusedVariables false
/-- A gateway whose answers stand in a known row, and whose blocks are all such as P says. -/
def GV (W : World) (g B : Nat) (P : Nat → Prop) (me last : Int) (Q R : List Rq) (vb : Value) : Prop :=
  ∃ va, Blk W g (.cells #[.int .i64 me, .int .u64 last, va, vb] 68) ∧ Kd.N DQ 71 W B (fun k => P k ∧ k ≠ g ∧ some k ≠ vb.ownBlock) va Q ∧ Kd.N DQ 51 W B (fun k => P k ∧ k ≠ g ∧ some k ≠ va.ownBlock) vb R ∧ B ≤ g
theorem GV.at {W : World} {g B : Nat} {P : Nat → Prop} {me last : Int} {Q R : List Rq} {vb : Value} (h : GV W g B P me last Q R vb) : GAt W g B me last Q R := by
  obtain ⟨va, h1, h2, h3, h4⟩ := h; exact ⟨va, vb, h1, Kd.N_mono h2 (fun _ hk => hk.2), Kd.N_mono h3 (fun _ hk => hk.2), h4⟩
theorem GAtP.v {W : World} {g B : Nat} {P : Nat → Prop} {me last : Int} {Q R : List Rq} (h : GAtP W g B P me last Q R) : ∃ vb, GV W g B P me last Q R vb := by
  obtain ⟨va, vb, h⟩ := h; exact ⟨vb, va, h⟩
theorem GV.mono {W : World} {g B : Nat} {P P' : Nat → Prop} {me last : Int} {Q R : List Rq} {vb : Value} (h : GV W g B P me last Q R vb) (hP : ∀ k, P k → k < W.heap.size → P' k) : GV W g B P' me last Q R vb := by
  obtain ⟨va, h1, h2, h3, h4⟩ := h
  exact ⟨va, h1, Kd.N_mono (Kd.N_bound h2) (fun _ hk => ⟨hP _ hk.1.1 hk.2, hk.1.2⟩), Kd.N_mono (Kd.N_bound h3) (fun _ hk => ⟨hP _ hk.1.1 hk.2, hk.1.2⟩), h4⟩
theorem GV.below {W W' : World} {g B : Nat} {P : Nat → Prop} {me last : Int} {Q R : List Rq} {vb : Value} (h : GV W g B P me last Q R vb) (hb : Below W.heap.size W W') : GV W' g B P me last Q R vb := by
  obtain ⟨va, h1, h2, h3, h4⟩ := h
  exact ⟨va, h1.below hb, Kd.N_below h2 hb, Kd.N_below h3 hb, h4⟩
/-- A row that is none of its blocks is written. -/
theorem GV.row {W W' : World} {g B : Nat} {P : Nat → Prop} {me last : Int} {Q R : List Rq} {vb : Value} (h : GV W g B P me last Q R vb) {row : Option Nat} (hg : W.grownBy W' row) (hr : some g ≠ row) (hP : ∀ k, P k → some k ≠ row) : GV W' g B P me last Q R vb := by
  obtain ⟨va, h1, h2, h3, h4⟩ := h
  exact ⟨va, ⟨(hg.block g h1.lt hr).trans h1.out⟩, Kd.N_step h2 (fun k hk hlt => hg.block k hlt (hP k hk.1)), Kd.N_step h3 (fun k hk hlt => hg.block k hlt (hP k hk.1)), h4⟩
theorem keep_of_below {a b : World} {g : Nat} {row : Option Nat} (h : Below a.heap.size a b) : KeepBut a b g row := ⟨h.size, fun i hi _ _ => h.block i hi⟩
theorem AnswersV (g B : Nat) (me last : Int) (Q R : List (Int × List Int)) (w : World) (vb : Value) (P : Nat → Prop) (h : GV w g B P me last Q R vb) :
    Calls Try.prog 20 #[.pointer (some ⟨g, 0, none⟩)] w fun e w' => ∃ v, e = .returned v ∧ Kd.N DQ 51 w' B (fun k => P k ∧ k ≠ g) v R ∧ GV w' g B P me last Q [] (.slice none 0 0) ∧ KeepBut w w' g none ∧ Below B w w' := by
  obtain ⟨va, hb, hQ, hR, hBg⟩ := h
  have k1 := Aside0.mk (all_calls g _ _ _ _ w hb (by obtain ⟨A, c, e⟩ := Kd.N_slice hR; exact ⟨A, _, c, e⟩))
  have hQ' := Aside0.mk (Kd.N_far hQ (p := ⟨g, 3, none⟩) (fun k hk => hk.2.1) (.slice none 0 0))
  have hR' := Aside0.mk (Kd.N_far hR (p := ⟨g, 3, none⟩) (fun k hk => hk.2.1) (.slice none 0 0))
  have hb' := Aside0.mk (show Blk (w.setCell ⟨g, 3, none⟩ (.slice none 0 0)) g (.cells #[.int .i64 me, .int .u64 last, va, .slice none 0 0] 68) from hb.put 3 _ rfl)
  have HK := Aside0.mk (KeepBut.set_ (KeepBut.refl w g none) 3 (.slice none 0 0))
  have HB := Aside0.mk ((Below.refl B w).setCell (p := ⟨g, 3, none⟩) hBg (.slice none 0 0))
  clear hb hQ hR
  go_enter Try.func20, Try.ntmps20
  go_wp2_with fail
  refine k1.out.mono ?_
  rintro e w1 ⟨rfl, rfl⟩
  go_wp2_with fail
  go_ret
  exact ⟨vb, rfl, Kd.N_mono hR'.out (fun k hk => ⟨hk.1, hk.2.1⟩), ⟨va, hb'.out, Kd.N_mono (Kd.N_bound hQ'.out) (fun k hk => ⟨hk.1.1, hk.1.2.1, by simp [Value.ownBlock]⟩), Kd.N_nil _ _ _ _ _, hBg⟩, HK.out, HB.out⟩
set_option maxRecDepth 100000 in
set_option maxHeartbeats 3200000 in
theorem HearV_take (g B : Nat) (me last : Int) (Q R : List Rq) (A : Option Addr) (c : Nat) (b : List Int) (w : World) (p q : Rq) (vb : Value) (P : Nat → Prop) (hP : ∀ k, w.heap.size ≤ k → P k) (h : GV w g B P me last (q :: Q) R vb) (hr : Kd.C (Kd.int .u8) w A b.length b) (hby : ∀ x ∈ b, IsByte x) (hm : b.length ≤ 140737488350000) (hg : gGet b = some p) (hne : q.1 = p.1) (hlQ : Q.length ≤ 1000000) (hlR : R.length ≤ 1000000) :
    Calls Try.prog 16 #[.pointer (some ⟨g, 0, none⟩), .slice A b.length c] w fun e w' => e = .returned (.tuple #[]) ∧ (∃ vb', GV w' g B P me last Q (R ++ [p]) vb') ∧ KeepBut w w' g vb.ownBlock ∧ Below B w w' := by
  have kg := Aside0.mk (gGet_calls A c b w hr hby hm)
  rw [hg] at kg
  obtain ⟨va, hb, hQ, hR, hBg⟩ := h
  have HP := Aside0.mk hP
  clear hP
  have Hb := Aside0.mk hb
  have HQ := Aside0.mk hQ
  have HR := Aside0.mk hR
  have hlt := Aside0.mk hb.lt
  clear hb hQ hR hr hby hg
  go_enter Try.func16, Try.ntmps16
  go_wp2_with fail
  refine kg.out.mono ?_
  rintro e w1 ⟨hbl, v, rfl, hv⟩
  have k1 := Aside0.mk (first_calls g B _ _ _ _ _ _ w1 (Hb.out.below hbl) (Kd.N_below HQ.out hbl))
  have HB := Aside0.mk hbl
  obtain ⟨A2, k2, ev⟩ := Kd.R_slice hv
  subst ev
  have HV := Aside0.mk hv
  clear hbl hv
  go_wp2_with fail
  refine k1.out.mono ?_
  rintro e w2 ⟨⟨A1, c1, rfl, hc1, hF⟩, hbl⟩
  have HBa := Aside0.mk (below_alloc hbl (.cells #[.int .u64 p.1, .slice A1 q.2.length c1] 71))
  clear hbl hF hc1
  go_wp2_with fail
  have hbW := Aside0.mk ((Hb.out.below HB.out).below HBa.out)
  have HQW := Aside0.mk (Kd.N_below (Kd.N_below HQ.out HB.out) HBa.out)
  have HRW := Aside0.mk (Kd.N_below (Kd.N_below HR.out HB.out) HBa.out)
  have hsz := Aside0.mk (Nat.le_trans HB.out.size HBa.out.size)
  have HVF := Aside0.mk (Kd.F_below (Kd.F_mono (ok' := fun k => w.heap.size ≤ k ∧ k < w1.heap.size) (Kd.R_F (Kd.R_bound HV.out)) (fun k hk => ⟨hk.2.1, hk.2.2.1⟩)) HBa.out)
  have hc2 := Aside0.mk (Kd.R_reads' HV.out).2.1
  have hwW := Aside0.mk HBa.out.size
  generalize w2.alloc (.cells #[.int .u64 p.1, .slice A1 q.2.length c1] 71) = W at hbW HQW HRW hsz HVF hwW HBa ⊢
  have hv0 := Aside0.mk (own_old (Kd.N_typed HR.out))
  refine (drop_calls g B (fun k => P k ∧ k ≠ g ∧ some k ≠ vb.ownBlock) _ _ va vb q Q W hbW.out HQW.out (fun k hk => hk.2.1) (fun k hk => ⟨HP.out k (Nat.le_trans hsz.out hk), by have := hlt.out; have := hsz.out; omega, hv0.out k (Nat.le_trans hsz.out hk)⟩) hBg hlQ).mono ?_
  rintro e w3 ⟨rfl, va2, hb3, hQ3, hat3, hk3, hbl3⟩
  have Hb3 := Aside0.mk hb3
  have HQ3 := Aside0.mk hQ3
  have HAT3 := Aside0.mk hat3
  have HK3 := Aside0.mk hk3
  have HB3 := Aside0.mk hbl3
  have HR3 := Aside0.mk (N_followP HRW.out (⟨hk3.1, fun i hi h1 _ => hk3.2 i hi h1 (by simp)⟩ : KeepBut W w3 g va.ownBlock) (.inr hat3))
  have HVF3 := Aside0.mk (Kd.F_step HVF.out (W1 := w3) (fun k hk hlt' => hk3.2 k hlt' (by have := hlt.out; omega) (by simp)))
  clear hb3 hQ3 hat3 hk3 hbl3
  go_wp2_with fail
  refine (aput_calls g B (fun k => P k ∧ k ≠ g ∧ some k ≠ va2.ownBlock) (fun k => w.heap.size ≤ k ∧ k < w1.heap.size) _ _ _ vb R p.1 A2 k2 p.2 w3 Hb3.out HR3.out (fun k hk => hk.2.1) (fun k hk => ⟨HP.out k (by have := hsz.out; have := HK3.out.1; omega), by have := hlt.out; have := hsz.out; have := HK3.out.1; omega, own_old (Kd.N_typed HQ3.out) k hk⟩) HVF3.out hc2.out (fun k hk => ⟨⟨HP.out k hk.1, by have := hlt.out; omega, fun e1 => ?_⟩, hv0.out k hk.1⟩) hBg hlR).mono ?_
  · rcases HAT3.out with h1 | ⟨b, h1, h2⟩
    · rw [h1] at e1; cases e1
    · rw [h1] at e1
      injection e1 with e1
      have := hwW.out
      omega
  rintro e w4 ⟨rfl, vb2, hb4, hR4, hat4, hk4, hbl4⟩
  have Hb4 := Aside0.mk hb4
  have HR4 := Aside0.mk hR4
  have HAT4 := Aside0.mk hat4
  have HK4 := Aside0.mk hk4
  have HB4 := Aside0.mk hbl4
  clear hb4 hR4 hat4 hk4 hbl4
  go_wp2_with fail
  go_end0
  have hBw : B ≤ w.heap.size := by have := hlt.out; omega
  refine ⟨rfl, ⟨vb2, va2, Hb4.out, N_followP HQ3.out HK4.out (HAT4.out.imp id .inr), HR4.out, hBg⟩, ⟨Nat.le_trans hsz.out (Nat.le_trans HK3.out.1 HK4.out.1), fun k hk h1 h2 => ?_⟩, ?_⟩
  · have e1 := HB.out.block k hk
    have e2 := HBa.out.block k (Nat.lt_of_lt_of_le hk HB.out.size)
    have e3 := HK3.out.2 k (Nat.lt_of_lt_of_le hk hsz.out) h1 (by simp)
    have e4 := HK4.out.2 k (Nat.lt_of_lt_of_le hk (Nat.le_trans hsz.out HK3.out.1)) h1 h2
    exact e4.trans (e3.trans (e2.trans e1))
  · exact ((below_weak HB.out hBw).trans (below_weak HBa.out (Nat.le_trans hBw HB.out.size))).trans (HB3.out.trans HB4.out)
theorem HearV (g B : Nat) (me last : Int) (Q R : List Rq) (A : Option Addr) (c : Nat) (b : List Int) (w : World) (vb : Value) (P : Nat → Prop) (hP : ∀ k, w.heap.size ≤ k → P k) (h : GV w g B P me last Q R vb) (hr : Kd.C (Kd.int .u8) w A b.length b) (hby : ∀ x ∈ b, IsByte x) (hm : b.length ≤ 140737488350000) (hlQ : Q.length ≤ 1000000) (hlR : R.length ≤ 1000000) :
    Calls Try.prog 16 #[.pointer (some ⟨g, 0, none⟩), .slice A b.length c] w fun e w' => e = .returned (.tuple #[]) ∧ (∃ vb', GV w' g B P me last (hear (gGet b) Q R).1 (hear (gGet b) Q R).2 vb') ∧ KeepBut w w' g vb.ownBlock ∧ Below B w w' := by
  have hBw : B ≤ w.heap.size := Nat.le_of_lt (Nat.lt_of_le_of_lt h.at.le h.at.lt)
  cases hg : gGet b with
  | none =>
    refine (Hear_none g B me last Q R A c b w h.at hr hby hm hg).mono ?_
    rintro e w' ⟨rfl, hb⟩
    rw [hear_none]
    exact ⟨rfl, ⟨vb, h.below hb⟩, keep_of_below hb, below_weak hb hBw⟩
  | some p =>
    cases Q with
    | nil =>
      refine (Hear_empty g B me last R A c b w p h.at hr hby hm hg).mono ?_
      rintro e w' ⟨rfl, hb⟩
      rw [hear_empty]
      exact ⟨rfl, ⟨vb, h.below hb⟩, keep_of_below hb, below_weak hb hBw⟩
    | cons q Q =>
      by_cases hne : q.1 = p.1
      · rw [hear_take p q Q R hne]
        exact HearV_take g B me last Q R A c b w p q vb P hP h hr hby hm hg hne (by simp at hlQ; omega) hlR
      · rw [hear_other p q Q R hne]
        refine (Hear_other g B me last Q R A c b w p q h.at hr hby hm hg hne).mono ?_
        rintro e w' ⟨rfl, hb⟩
        exact ⟨rfl, ⟨vb, h.below hb⟩, keep_of_below hb, below_weak hb hBw⟩
/-- A string's bytes are asked. -/
theorem F_str (W : World) (s : ByteArray) (h : s.size ≤ 1000) : Kd.F (Kd.int .u8) (Lib.bytesWorld W 5 s) (fun k => k = W.heap.size) (some ⟨W.heap.size, 0, none⟩) (bytesOf s).length (bytesOf s) := fun W' hW => by
  have hb := hW W.heap.size rfl (by rw [Lib.bytesWorld_size]; omega)
  have hr : ReadsInt W' .u8 (some ⟨W.heap.size, 0, none⟩) (bytesOf s).length (bytesOf s) := by
    refine ⟨rfl, by rw [bytesOf_length]; omega, fun _ => ⟨_, rfl, fun j hj => ?_⟩⟩
    rw [add_plain, World.cell?_of_block (a := ⟨W.heap.size, j, none⟩) hb, Lib.bytesWorld_cell W 5 s j (by rw [← bytesOf_length]; exact hj)]
    have h1 := (bytes_reads W 5 s (by omega)).2.2 (by rw [bytesOf_length] at hj; omega)
    obtain ⟨ad, e, h2⟩ := h1
    injection e with e
    subst e
    have h3 := h2 j (by rw [← bytesOf_length]; exact hj)
    rw [add_plain, Lib.bytesWorld_cell W 5 s j (by rw [← bytesOf_length]; exact hj)] at h3
    exact h3
  exact Kd.C_of_reads (d := (0 : Int)) (h1 := fun _ => rfl) hr
theorem Ask_str (g B : Nat) (me last : Int) (Q R : List Rq) (c : Nat) (s : ByteArray) (w : World) (h : GAt w g B me last Q R) (hs : s.size ≤ 1000) (hq : Q.length < 32) (h0 : 0 ≤ last) (h1 : last + 1 < 18446744073709551616) :
    Calls Try.prog 12 #[.pointer (some ⟨g, 0, none⟩), .slice (some ⟨w.heap.size, 0, none⟩) s.size c] (Lib.bytesWorld w 5 s) fun e w' => e = .returned (.tuple #[.int .u64 (last + 1), .int .i64 0]) ∧ GAt w' g B me (last + 1) (Q ++ [(last + 1, bytesOf s)]) R ∧ Below B w w' := by
  have hk := Ask_ok g B me last Q R _ c (bytesOf s) _ (h.below (str_below w 5 s)) (fun k => k = w.heap.size) (F_str w s hs) (fun k hk => by have := h.lt; omega) hq (by rw [bytesOf_length]; exact hs) h0 h1
  rw [bytesOf_length] at hk
  refine hk.mono ?_
  rintro e w' ⟨rfl, hG, _, hb⟩
  exact ⟨rfl, hG, (below_weak (str_below w 5 s) (Nat.le_of_lt (Nat.lt_of_le_of_lt h.le h.lt))).trans hb⟩
theorem gGet_lett2 (n : Int) (s : List Int) (h0 : 0 ≤ n) (h1 : n < 18446744073709551616) (hs : s.length ≤ 4000000) : gGet (lett n s) = some (n, s) := by
  unfold gGet lett
  rw [uint_app n _ h0 h1]
  have := text_app s [] (by omega)
  rw [List.append_nil] at this
  simp only [this]
  rfl
/-- The requests with their numbers. -/
def Qs (rs : List ByteArray) (j : Nat) : List Rq := (List.range j).map fun k => (((k : Nat) : Int) + 1, bytesOf (rs.getD k ByteArray.empty))
theorem Qs_succ (rs : List ByteArray) (j : Nat) : Qs rs (j + 1) = Qs rs j ++ [((j : Int) + 1, bytesOf (rs.getD j ByteArray.empty))] := by simp [Qs, List.range_succ]
theorem Qs_length (rs : List ByteArray) (j : Nat) : (Qs rs j).length = j := by simp [Qs]
theorem Qs_drop (rs : List ByteArray) (n d : Nat) (h : d < n) : (Qs rs n).drop d = ((d : Int) + 1, bytesOf (rs.getD d ByteArray.empty)) :: (Qs rs n).drop (d + 1) := by
  rw [List.drop_eq_getElem_cons (by rw [Qs_length]; exact h)]
  simp [Qs]
theorem Qs_req (rs : List ByteArray) (n d : Nat) (hn : n ≤ 30) (h : ∀ k, k < n → (rs.getD k ByteArray.empty).size ≤ 1000) : ∀ p ∈ (Qs rs n).drop d, Req p := by
  intro p hp
  have hp := List.mem_of_mem_drop hp
  unfold Qs at hp
  rw [List.mem_map] at hp
  obtain ⟨k, hk, rfl⟩ := hp
  rw [List.mem_range] at hk
  exact ⟨by dsimp only; omega, by dsimp only; omega, by dsimp only; rw [bytesOf_length]; have := h k hk; omega⟩
end Go.Proofs.Ytpadajkdpldliaa.Ext
