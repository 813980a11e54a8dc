/- PlanBack, proved by walking its code. -/
import Derived.Test.YtifacclmfjmilaaOpenP
import Derived.Test.YtifacclmfjmilaaPMath2
import Derived.Test.YtifacclmfjmilaaPGoes
import Derived.Deep.RegionHeld3
namespace Go.Proofs.Ytifacclmfjmilaa.Ext
open Go.RowKit Go.Shelf Go.ChangeShapes Go.WideShapes Go.Proofs.YtifacclmfjmilaaW.PrintWords Go.Proofs.YtifacclmfjmilaaW.PrintLast Go.Proofs.YtifacclmfjmilaaW.PrintMore Go.Proofs.YtifacclmfjmilaaW.Hand Go.Proofs.Ytifacclmfjmilaa.PZ
set_option linter.unusedVariables false
def BH (w : World) (b : Nat) (a0 a1 a2 a3 a4 a5 : Int) (A : Option Addr) (c : Nat) (L : List S55) (W : World) : Prop := Below w.heap.size w W ∧ W.heap[b]? = some (Obj.cells #[.int .u32 a0, .int .i64 a1, .int .i64 a2, .int .i64 a3, .int .i64 a4, .int .i64 a5, .slice A L.length c] 25 (0, 0)) ∧ Kd.C k55 W A L.length L
theorem BH.step {w W W' : World} {b : Nat} {a0 a1 a2 a3 a4 a5 : Int} {A : Option Addr} {c : Nat} {L : List S55} (h : BH w b a0 a1 a2 a3 a4 a5 A c L W) (hb : Below W.heap.size W W') : BH w b a0 a1 a2 a3 a4 a5 A c L W' :=
  ⟨below_step h.1 hb, (hb.block b (Array.getElem?_eq_some_iff.1 h.2.1).1).trans h.2.1, Kd.C_below h.2.2 hb⟩
theorem BH.all {w W : World} {b : Nat} {a0 a1 a2 a3 a4 a5 : Int} {A : Option Addr} {c : Nat} {L : List S55} (h : BH w b a0 a1 a2 a3 a4 a5 A c L W) : W.cell? ⟨b, 0, none⟩ = some (.int .u32 a0) ∧ W.cell? ⟨b, 1, none⟩ = some (.int .i64 a1) ∧ W.cell? ⟨b, 2, none⟩ = some (.int .i64 a2) ∧ W.cell? ⟨b, 3, none⟩ = some (.int .i64 a3) ∧ W.cell? ⟨b, 4, none⟩ = some (.int .i64 a4) ∧ W.cell? ⟨b, 5, none⟩ = some (.int .i64 a5) ∧ W.cell? ⟨b, 6, none⟩ = some (.slice A L.length c) ∧ BH w b a0 a1 a2 a3 a4 a5 A c L W :=
  ⟨(cell_of_row W b 0 _ _ _ h.2.1).trans rfl, (cell_of_row W b 1 _ _ _ h.2.1).trans rfl, (cell_of_row W b 2 _ _ _ h.2.1).trans rfl, (cell_of_row W b 3 _ _ _ h.2.1).trans rfl, (cell_of_row W b 4 _ _ _ h.2.1).trans rfl, (cell_of_row W b 5 _ _ _ h.2.1).trans rfl, (cell_of_row W b 6 _ _ _ h.2.1).trans rfl, h⟩
theorem BH.start {w : World} {a0 a1 a2 a3 a4 a5 : Int} {A : Option Addr} {c : Nat} {L : List S55} (hC : Kd.C k55 w A L.length L) : BH w w.heap.size a0 a1 a2 a3 a4 a5 A c L (w.alloc (Obj.cells #[.int .u32 a0, .int .i64 a1, .int .i64 a2, .int .i64 a3, .int .i64 a4, .int .i64 a5, .slice A L.length c] 25)) := by
  have hB := below_alloc (Below.refl w.heap.size w) (Obj.cells #[.int .u32 a0, .int .i64 a1, .int .i64 a2, .int .i64 a3, .int .i64 a4, .int .i64 a5, .slice A L.length c] 25)
  exact ⟨hB, heap_alloc_new w _, Kd.C_below hC hB⟩
theorem back_check (a0 a1 a2 a3 a4 a5 : Int) (A : Option Addr) (c : Nat) (L : List S55) (w : World) (hC : Kd.C k55 w A L.length L) (hc : L.length ≤ c) (hk : pchk a0 a1 a2 a3 a4 a5 L = false) :
    Calls Try.prog 11 #[.agg #[.int .u32 a0, .int .i64 a1, .int .i64 a2, .int .i64 a3, .int .i64 a4, .int .i64 a5, .slice A L.length c]] w fun e w' => e = .returned (.bool false) ∧ Below w.heap.size w w' := by
  have h := plan_Check_go a0 a1 a2 a3 a4 a5 A c L w hC hc
  rw [hk] at h
  exact h
theorem back_bad (a0 a1 a2 a3 a4 a5 : Int) (A : Option Addr) (c : Nat) (L : List S55) (more : Int) (w : World) (hC : Kd.C k55 w A L.length L) (hc : L.length ≤ c) (hk : pchk a0 a1 a2 a3 a4 a5 L = false) :
    Calls Try.prog 5 #[.agg #[.int .u32 a0, .int .i64 a1, .int .i64 a2, .int .i64 a3, .int .i64 a4, .int .i64 a5, .slice A L.length c], .int .u8 more] w fun e w' => e = .returned (.bool true) ∧ Below w.heap.size w w' := by
  have HK := Aside0.mk hk
  have Hc := Aside0.mk hc
  have H1 := BH.start (a0 := a0) (a1 := a1) (a2 := a2) (a3 := a3) (a4 := a4) (a5 := a5) (c := c) hC
  obtain ⟨w1, hw1⟩ : ∃ W, w.alloc (Obj.cells #[.int .u32 a0, .int .i64 a1, .int .i64 a2, .int .i64 a3, .int .i64 a4, .int .i64 a5, .slice A L.length c] 25) = W := ⟨_, rfl⟩
  obtain ⟨b, hb⟩ : ∃ b, w.heap.size = b := ⟨_, rfl⟩
  rw [hw1] at H1
  have kp := Aside0.mk (plan_Put_go a0 a1 a2 a3 a4 a5 A c L w1 H1.2.2 hc)
  rw [show pput a0 a1 a2 a3 a4 a5 L = ([], 1) by unfold pput; rw [if_neg (by rw [hk]; decide)]] at kp
  have K1 := Aside0.mk H1
  clear hC hk hc H1
  have hw1' := Aside0.mk hw1
  have hb' := Aside0.mk hb
  clear hw1 hb
  go_enter Try.func5, Try.ntmps5
  go_wp2_with fail
  rw [hw1'.out, hb'.out]
  rw [hb'.out] at K1
  refine kp.out.mono ?_
  rintro e w2 ⟨v2, rfl, hr2, hb2⟩
  obtain ⟨A2, c2, ev⟩ := Kd.R_slice hr2
  subst ev
  have K2 := Aside0.mk (K1.out.step hb2)
  have K2d := Aside0.mk (K2.out.step (below_drew (Below.refl w2.heap.size w2)))
  clear kp hr2 hb2 K1
  obtain ⟨s0, s1, s2, s3, s4, s5, s6, _⟩ := K2.out.all
  by_cases h20 : (L.length : Int) > 20
  · have d20 : decide ((L.length : Int) > 20) = true := decide_eq_true h20
    clear h20
    go_wp2_with fail
    refine (goes_true _).mono ?_
    rintro e w3 ⟨rfl, hb⟩
    have K3 := Aside0.mk (K2.out.step hb)
    clear hb
    go_wp2_with fail
    go_ret
    exact ⟨rfl, K3.out.1⟩
  · have d20 : decide ((L.length : Int) > 20) = false := decide_eq_false h20
    clear h20
    go_wp2_with fail
    refine (back_check a0 a1 a2 a3 a4 a5 A c L _ K2.out.2.2 Hc.out HK.out).mono ?_
    rintro e w3 ⟨rfl, hb⟩
    have K3 := Aside0.mk (K2.out.step hb)
    clear hb
    go_wp2_with fail
    refine (goes_true _).mono ?_
    rintro e w4 ⟨rfl, hb⟩
    have K4 := Aside0.mk (K3.out.step hb)
    clear hb
    go_wp2_with fail
    go_ret
    exact ⟨rfl, K4.out.1⟩
/-- What a plan's bytes are, without the last one, and with one more. -/
structure BackFacts (a0 a1 a2 a3 a4 a5 : Int) (L : List S55) (more : Int) (B : List Int) (m : Nat) : Prop where
  len : B.length = m
  low : 56 ≤ m
  top : m ≤ 1000
  bytes : ∀ x ∈ B, IsByte x
  mbyte : IsByte more
  got : pget B = (a0, a1, a2, a3, a4, a5, L, 0)
  less : pget (B.take (m - 1)) = (0, 0, 0, 0, 0, 0, [], 21)
  more : pget (B ++ [more]) = (0, 0, 0, 0, 0, 0, [], 21)
theorem back_facts (a0 a1 a2 a3 a4 a5 : Int) (L : List S55) (more : Int) (h0 : a0 ≤ 4294967295) (hm : IsByte more) (hk : pchk a0 a1 a2 a3 a4 a5 L = true) :
    BackFacts a0 a1 a2 a3 a4 a5 L more (bytes8 (planNums a0 a1 a2 a3 a4 a5 L)) (8 * (7 + 2 * L.length)) := by
  have hk' := hk
  unfold pchk at hk'
  rw [Bool.and_eq_true, Bool.and_eq_true, decide_eq_true_eq] at hk'
  obtain ⟨hl4, ht⟩ := chk_range hk'.2.2
  have hlen : (planNums a0 a1 a2 a3 a4 a5 L).length = 7 + 2 * L.length := by unfold planNums; rw [List.length_append, tierNums_length]; rfl
  have hl : (bytes8 (planNums a0 a1 a2 a3 a4 a5 L)).length = 8 * (7 + 2 * L.length) := by rw [bytes8_length, hlen]
  refine ⟨hl, by omega, by omega, bytes8_bytes _, hm, ?_, ?_, ?_⟩
  · have := pget_rest a0 a1 a2 a3 a4 a5 L [] h0 hk
    rwa [List.append_nil, if_pos rfl] at this
  · exact pget_off _ (fun x hx => bytes8_bytes _ x (List.mem_of_mem_take hx)) (by rw [List.length_take, hl]; omega)
  · have := pget_rest a0 a1 a2 a3 a4 a5 L [more] h0 hk
    rwa [if_neg (by simp)] at this
theorem bsame_l0 (a0 a1 a2 a3 a4 a5 b0 b1 b2 b3 b4 b5 : Int) (ls : List S55) (hl : ls.length ≤ 100) (K : Nat) : ∀ (d i : Nat), i + d = ls.length →
    p_quitrentref13_Same.l0 (K + d + 1) (i : Int) a0 a1 a2 a3 a4 a5 ls b0 b1 b2 b3 b4 b5 ls = some true := by
  intro d
  induction d with
  | zero => intro i h; simp only [p_quitrentref13_Same.l0]; rw [if_neg (by omega)]
  | succ d ih =>
    intro i h
    rw [show K + (d + 1) + 1 = (K + d + 1) + 1 by omega]
    simp only [p_quitrentref13_Same.l0]
    rw [if_pos (by omega), if_pos (by omega), if_pos (by omega), if_neg (by simp), show wrap64 ((i : Int) + 1) = ((i + 1 : Nat) : Int) by rw [wrap_i _ (by omega) (by omega)]; omega]
    exact ih (i + 1) (by omega)
theorem bsame_self (a0 a1 a2 a3 a4 a5 : Int) (ls : List S55) (hl : ls.length ≤ 100) : p_quitrentref13_Same.f 200 a0 a1 a2 a3 a4 a5 ls a0 a1 a2 a3 a4 a5 ls = some true := by
  unfold p_quitrentref13_Same.f
  simp only [if_true, bne_self_eq_false]
  rw [show 200 = ((198 - ls.length) + ls.length + 1) + 1 by omega]
  simp only [p_quitrentref13_Same.j0]
  rw [if_neg (by decide)]
  exact bsame_l0 _ _ _ _ _ _ _ _ _ _ _ _ ls hl _ ls.length 0 (by omega)
theorem back_same (a0 a1 a2 a3 a4 a5 : Int) (A3 A6 : Option Addr) (c3 c6 : Nat) (L : List S55) (hl : L.length ≤ 100) (w : World) (h3 : Kd.C k55 w A3 L.length L) (l3 : L.length ≤ c3) (h6 : Kd.C k55 w A6 L.length L) (l6 : L.length ≤ c6) :
    Calls Try.prog 16 #[.agg #[.int .u32 a0, .int .i64 a1, .int .i64 a2, .int .i64 a3, .int .i64 a4, .int .i64 a5, .slice A3 L.length c3], .agg #[.int .u32 a0, .int .i64 a1, .int .i64 a2, .int .i64 a3, .int .i64 a4, .int .i64 a5, .slice A6 L.length c6]] w fun e w' => e = .returned (.bool true) ∧ Below w.heap.size w w' :=
  p_quitrentref13_Same.calls 200 a0 a1 a2 a3 a4 a5 A3 c3 L a0 a1 a2 a3 a4 a5 A6 c6 L true w h3 l3 h6 l6 (bsame_self a0 a1 a2 a3 a4 a5 L hl)
theorem back_get (a0 a1 a2 a3 a4 a5 : Int) (L : List S55) (A : Option Addr) (c : Nat) (l : List Int) (m : Nat) (hm : l.length = m) (t7 : Int) (w : World) (hC : Kd.C (Kd.int .u8) w A l.length l) (hb : ∀ x ∈ l, IsByte x) (hl : m ≤ 2000) (hg : pget l = (a0, a1, a2, a3, a4, a5, L, t7)) :
    Calls Try.prog 14 #[.slice A m c] w fun e w' => ∃ v : Value, e = .returned (.tuple #[.agg #[.int .u32 a0, .int .i64 a1, .int .i64 a2, .int .i64 a3, .int .i64 a4, .int .i64 a5, v], .int .i64 t7]) ∧ Kd.R k55 55 w' w.heap.size (fun _ => True) v L ∧ Below w.heap.size w w' := by
  have := plan_Get_go A c l w hC hb (by omega)
  rw [hg, hm] at this
  exact this
set_option maxHeartbeats 1600000 in
theorem back_good (a0 a1 a2 a3 a4 a5 : Int) (A : Option Addr) (c : Nat) (L : List S55) (more : Int) (w : World) (hC : Kd.C k55 w A L.length L) (hc : L.length ≤ c) (h0 : a0 ≤ 4294967295) (hmo : IsByte more) (hk : pchk a0 a1 a2 a3 a4 a5 L = true) :
    Calls Try.prog 5 #[.agg #[.int .u32 a0, .int .i64 a1, .int .i64 a2, .int .i64 a3, .int .i64 a4, .int .i64 a5, .slice A L.length c], .int .u8 more] w fun e w' => e = .returned (.bool true) ∧ Below w.heap.size w w' := by
  have HF := Aside0.mk (back_facts a0 a1 a2 a3 a4 a5 L more h0 hmo hk)
  have hl4 : L.length ≤ 4 := by
    have hk' := hk
    unfold pchk at hk'
    rw [Bool.and_eq_true, Bool.and_eq_true, decide_eq_true_eq] at hk'
    exact (chk_range hk'.2.2).1
  have Hl := Aside0.mk hl4
  have Hc := Aside0.mk hc
  have H1 := BH.start (a0 := a0) (a1 := a1) (a2 := a2) (a3 := a3) (a4 := a4) (a5 := a5) (c := c) hC
  obtain ⟨w1, hw1⟩ : ∃ W, w.alloc (Obj.cells #[.int .u32 a0, .int .i64 a1, .int .i64 a2, .int .i64 a3, .int .i64 a4, .int .i64 a5, .slice A L.length c] 25) = W := ⟨_, rfl⟩
  obtain ⟨b, hb⟩ : ∃ b, w.heap.size = b := ⟨_, rfl⟩
  rw [hw1] at H1
  have kp := plan_Put_go a0 a1 a2 a3 a4 a5 A c L w1 H1.2.2 hc
  rw [show pput a0 a1 a2 a3 a4 a5 L = (bytes8 (planNums a0 a1 a2 a3 a4 a5 L), 0) by unfold pput; rw [if_pos hk]] at kp
  obtain ⟨B, hB⟩ : ∃ B, bytes8 (planNums a0 a1 a2 a3 a4 a5 L) = B := ⟨_, rfl⟩
  obtain ⟨m, hm⟩ : ∃ m, 8 * (7 + 2 * L.length) = m := ⟨_, rfl⟩
  rw [hB] at kp HF
  rw [hm] at HF
  have kp' := Aside0.mk kp
  clear kp
  have kp := kp'
  clear kp'
  have K1 := Aside0.mk H1
  have d20 : decide ((L.length : Int) > 20) = false := decide_eq_false (by omega)
  clear hC hk hc H1 hB hm hl4 h0 hmo
  have hw1' := Aside0.mk hw1
  have hb' := Aside0.mk hb
  clear hw1 hb
  go_enter Try.func5, Try.ntmps5
  go_wp2_with fail
  rw [hw1'.out, hb'.out]
  rw [hb'.out] at K1
  refine kp.out.mono ?_
  rintro e w2 ⟨v2, rfl, hr2, hb2⟩
  replace hr2 : Kd.R (Kd.int .u8) 5 w2 w1.heap.size (fun _ => True) v2 B := hr2
  obtain ⟨A2, c2, ev⟩ := Kd.R_slice hr2
  subst ev
  have K2 := Aside0.mk (K1.out.step hb2)
  have C2 := Aside0.mk (Kd.R_reads' hr2).2.2
  have L2 := Aside0.mk (Kd.R_reads' hr2).2.1
  rw [HF.out.len] at L2 C2 ⊢
  clear kp hr2 hb2 K1
  obtain ⟨s0, s1, s2, s3, s4, s5, s6, _⟩ := K2.out.all
  go_wp2_with fail
  have C2' : Aside0 (Kd.C (Kd.int .u8) w2 A2 B.length B) := ⟨by rw [HF.out.len]; exact C2.out⟩
  refine (back_get a0 a1 a2 a3 a4 a5 L A2 c2 B m HF.out.len 0 w2 C2'.out HF.out.bytes (by have := HF.out.top; omega) HF.out.got).mono ?_
  clear C2'
  rintro e w3 ⟨v3, rfl, hr3, hb3⟩
  obtain ⟨A3, c3, ev⟩ := Kd.R_slice hr3
  subst ev
  have K3 := Aside0.mk (K2.out.step hb3)
  have C3 := Aside0.mk (Kd.C_below C2.out hb3)
  have R3 := Aside0.mk (Kd.R_reads' hr3).2.2
  have L3 := Aside0.mk (Kd.R_reads' hr3).2.1
  clear hr3 hb3 s0 s1 s2 s3 s4 s5 s6 K2 C2
  have m1 : ¬ (m : Int) < 1 := by have := HF.out.low; omega
  have hal := below_alloc (Below.refl w3.heap.size w3) (Obj.cells #[.int .u32 a0, .int .i64 a1, .int .i64 a2, .int .i64 a3, .int .i64 a4, .int .i64 a5, .slice A3 L.length c3] 25)
  have K4 := Aside0.mk (K3.out.step hal)
  have Q4 := Aside0.mk (BH.start (a0 := a0) (a1 := a1) (a2 := a2) (a3 := a3) (a4 := a4) (a5 := a5) (c := c3) R3.out)
  have C4 := Aside0.mk (Kd.C_below C3.out hal)
  obtain ⟨s0, s1, s2, s3, s4, s5, s6, _⟩ := K4.out.all
  obtain ⟨u0, u1, u2, u3, u4, u5, u6, _⟩ := Q4.out.all
  clear hal K3 C3
  go_wp2_with fail
  refine (back_same a0 a1 a2 a3 a4 a5 A A3 c c3 L (by have := Hl.out; omega) _ K4.out.2.2 Hc.out Q4.out.2.2 L3.out).mono ?_
  rintro e w5 ⟨rfl, hb⟩
  have K5 := Aside0.mk (K4.out.step hb)
  have C5 := Aside0.mk (Kd.C_below C4.out hb)
  clear hb s0 s1 s2 s3 s4 s5 s6 u0 u1 u2 u3 u4 u5 u6 K4 Q4 C4 R3 L3
  obtain ⟨e1, t2⟩ := cut_to .i64 (A := A2) (c := c2) (xs := B) (b := m - 1) (by rw [HF.out.len]; omega) (by rw [HF.out.len]; exact L2.out) ((m : Int) - 1) (by have := HF.out.low; omega)
  have hw : IntKind.i64.wrap ((m : Int) - 1) = (m : Int) - 1 := by have := HF.out.low; have := HF.out.top; rw [IntKind.wrap_i64]; omega
  have hl1 : (B.take (m - 1)).length = m - 1 := by rw [List.length_take, HF.out.len]; omega
  have C5' : Aside0 (Kd.C (Kd.int .u8) w5 A2 (B.take (m - 1)).length (B.take (m - 1))) := ⟨t2 w5 (by rw [HF.out.len]; exact C5.out)⟩
  have Hl1 := Aside0.mk hl1
  rw [HF.out.len] at e1
  clear t2 hl1
  go_wp2_with fail
  refine (back_get 0 0 0 0 0 0 [] A2 c2 (B.take (m - 1)) (m - 1) Hl1.out 21 w5 C5'.out (fun x hx => HF.out.bytes x (List.mem_of_mem_take hx)) (by have := HF.out.top; omega) HF.out.less).mono ?_
  rintro e w6 ⟨v6, rfl, hr6, hb6⟩
  obtain ⟨A6, c6, ev⟩ := Kd.R_slice hr6
  subst ev
  have K6 := Aside0.mk (K5.out.step hb6)
  have C6 := Aside0.mk (Kd.C_below C5.out hb6)
  clear hr6 hb6 K5 C5 C5' hw e1
  have hal := below_alloc (Below.refl w6.heap.size w6) (Obj.cells #[.int .u32 0, .int .i64 0, .int .i64 0, .int .i64 0, .int .i64 0, .int .i64 0, .slice A6 0 c6] 25)
  have K7 := Aside0.mk (K6.out.step hal)
  have C7' : Aside0 (Kd.C (Kd.int .u8) (w6.alloc (Obj.cells #[.int .u32 0, .int .i64 0, .int .i64 0, .int .i64 0, .int .i64 0, .int .i64 0, .slice A6 0 c6] 25)) A2 B.length B) := ⟨by rw [HF.out.len]; exact Kd.C_below C6.out hal⟩
  have HM := Aside0.mk HF.out.len
  have HT := Aside0.mk HF.out.top
  clear hal K6 C6
  go_wp2_with (first
    | (at_builtin; rw [← size_alloc w6 (Obj.cells #[.int .u32 0, .int .i64 0, .int .i64 0, .int .i64 0, .int .i64 0, .int .i64 0, .slice A6 0 c6] 25)]; generalize w6.alloc (Obj.cells #[.int .u32 0, .int .i64 0, .int .i64 0, .int .i64 0, .int .i64 0, .int .i64 0, .slice A6 0 c6] 25) = w7 at K7 C7' ⊢; refine Kd.R_append_row (Value.int .u8) (0 : Int) (w0 := w7) w7.heap.size rfl (.tmp 66) (.tmp 67) 26 5 (.int .u8 0) 1 rfl Try.underlying26 infoU8 rfl (by decide) (.slice (some ⟨w7.heap.size, 0, none⟩) 0 0) [] B A2 m c2 (fun k => w7.heap.size ≤ k) rfl rfl (fun k hk => by simp at hk; omega) (R_empty w7 _ _ (Nat.le_refl _) (Nat.le_refl _)) (by have := Kd.C_alloc C7'.out (Obj.cells #[] 5); rw [HM.out] at this; exact this) (below_alloc (Below.refl _ _) _) (by simp) (by have := HT.out; have := HM.out; simp; omega) ?_; intro v8 w8 ho hb hg hat; simp only [List.nil_append] at ho; obtain ⟨Av, cv, ev⟩ := Kd.R_slice ho; subst ev; have HO := Aside0.mk ho; have HB := Aside0.mk hb; clear ho hb hg hat)
    | (at_builtin; refine Kd.R_append_row (Value.int .u8) (0 : Int) (w0 := w7) w7.heap.size rfl (.tmp 68) (.tmp 70) 26 5 (.int .u8 0) 1 rfl Try.underlying26 infoU8 rfl (by decide) (.slice Av B.length cv) B [more] (some ⟨w8.heap.size, 0, none⟩) 1 1 (fun k => w7.heap.size ≤ k) rfl rfl (fun k hk => Nat.le_trans HB.out.size (by rw [size_alloc] at hk; omega)) (Kd.R_below HO.out (below_alloc (Below.refl _ _) _)) (C_block (xs := [more]) (heap_new _ _) rfl (by simp)) (below_alloc HB.out _) (Nat.le_trans HB.out.size (by rw [size_alloc]; omega)) (by have := HT.out; have := HM.out; simp; omega) ?_; intro v9 w9 ho hb hg hat; obtain ⟨Ai, ci, ev⟩ := Kd.R_slice ho; subst ev; have HI := Aside0.mk (Kd.R_reads' ho); have HB2 := Aside0.mk hb; clear ho hb hg hat))
  have hl9 : (B ++ [more]).length = B.length + 1 := by simp
  have C9 := Aside0.mk HI.out.2.2
  have B9 : ∀ x ∈ B ++ [more], IsByte x := fun x hx => by
    rcases List.mem_append.1 hx with h | h
    · exact HF.out.bytes x h
    · rw [List.mem_singleton.1 h]; exact HF.out.mbyte
  have K9 := Aside0.mk (K7.out.step HB2.out)
  refine (back_get 0 0 0 0 0 0 [] Ai ci (B ++ [more]) (B.length + 1) hl9 21 w9 C9.out B9 (by have := HF.out.top; have := HM.out; omega) HF.out.more).mono ?_
  rintro e w10 ⟨v10, rfl, hr10, hb10⟩
  obtain ⟨A10, c10, ev⟩ := Kd.R_slice hr10
  subst ev
  have K10 := Aside0.mk (K9.out.step hb10)
  clear hr10 hb10 K9 K7 C9 HI HB HB2 HO C7'
  go_wp2_with fail
  refine (goes_true _).mono ?_
  rintro e w11 ⟨rfl, hb⟩
  have HB11 := Aside0.mk (below_step (below_step K10.out.1 (below_alloc (Below.refl _ _) _)) hb)
  clear hb
  go_wp2_with fail
  go_ret
  exact ⟨rfl, HB11.out⟩
theorem wf_u8 (a : Int) (h : (Lit.int .u8 a).wf = true) : IsByte a := by
  have h1 : IntKind.u8.min = 0 := rfl
  have h2 : IntKind.u8.max = 255 := rfl
  simp only [Lit.wf, Bool.and_eq_true, decide_eq_true_eq, h1, h2] at h
  unfold IsByte
  omega
theorem PlanBack.walk {H : Type} {enc : TypeId × Value → H} {W : World} {v : Value} {d : DataW H} {p : List MemPlace} {base : Nat} (more : Int) (hv : Value.okWide Try.prog W .any base 25 v)
    (h : DataW.Trod enc Try.prog W 0 (fun _ => true) true 25 v d p) (w1 : (Lit.int .u8 more).wf = true) : Calls Try.prog 5 #[v, .int .u8 more] W fun e w' => e = .returned (.bool true) ∧ Below W.heap.size W w' := by
  obtain ⟨a0, a1, a2, a3, a4, a5, A, c, L, rfl, h0, _, hc, _, hC⟩ := plan_come hv h
  cases hk : pchk a0 a1 a2 a3 a4 a5 L
  · exact back_bad a0 a1 a2 a3 a4 a5 A c L more W hC hc hk
  · exact back_good a0 a1 a2 a3 a4 a5 A c L more W hC hc (by omega) (wf_u8 more w1) hk
end Go.Proofs.Ytifacclmfjmilaa.Ext
