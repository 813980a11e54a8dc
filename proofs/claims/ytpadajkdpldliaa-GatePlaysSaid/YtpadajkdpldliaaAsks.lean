/- quitrentlaw27.asks, walked. -/
import Derived.Test.YtpadajkdpldliaaGate4
import Derived.Test.YtpadajkdpldliaaGoes
import Derived.Deep.RegionHeld3
namespace Go.Proofs.Ytpadajkdpldliaa.Ext
open Go.RowKit Go.Proofs.YtpadajkdpldliaaW.PrintWords Go.Proofs.YtpadajkdpldliaaW.PrintLast Go.Proofs.YtpadajkdpldliaaW.PrintMore Go.Proofs.YtpadajkdpldliaaW.Hand
set_option linter.unusedVariables false
/-- Bytes of the call's own stay through what a gateway does. -/
theorem KT_R {g : Nat} {w w' : World} (h : KT g w w') {base : Nat} {ok : Nat → Prop} {v : Value} {xs : List Int} (hr : Kd.R (Kd.int .u8) 5 w base ok v xs) (hg : g < base) : Kd.R (Kd.int .u8) 5 w' base ok v xs := by
  refine Kd.R_mono (Kd.R_step (Kd.R_bound hr) (fun k hk hlt => ?_)) (fun k hk => hk.1)
  obtain ⟨h0, hb, _, q, hq, cells, hc⟩ := hk
  have hq : q = 5 := by
    rcases List.mem_cons.1 hq with h1 | h1
    · exact h1
    · cases h1
  subst hq
  exact h.2 k cells _ _ hc (by omega) (by decide) (by decide)
theorem KT_blk {g : Nat} {w w' : World} (h : KT g w w') {x t : Nat} {cs : Array Value} {fr : Nat × Nat} (hb : Blk w x (.cells cs t fr)) (hg : x ≠ g) (h1 : t ≠ 71) (h2 : t ≠ 51) : Blk w' x (.cells cs t fr) := ⟨(h.2 x cs t fr hb.out hg h1 h2).trans hb.out⟩
theorem str_came {W : World} {A : Option Addr} {n c : Nat} {xs : List Int} {S : ByteArray} (h : Kd.C (Kd.int .u8) W A n xs) (hS : strOfNums xs = S) : (convert 39 9 (.slice A n c)).run Try.prog W = .ok (.string S) W :=
  hS ▸ Kd.C_string (P := Try.prog) (c := c) Try.underlying39 Try.underlying5 Try.underlying9 h
/-- Ask of a constant's bytes, laid at once. -/
theorem Ask_at (g B : Nat) (me last n : Int) (Q Q' R : List Rq) (k : Nat) (cs : Array Value) (fr : Nat × Nat) (b : List Int) (w : World) (h : GAt w g B me last Q R) (hcs : cs.toList = nums .u8 b) (hk : w.heap.size = k) {m c : Nat} (hl : b.length = m) (hq : Q.length < 32) (hn : b.length ≤ 1000) (h0 : 0 ≤ last) (h1 : last + 1 = n) (h2 : n < 18446744073709551616) (hQ : Q' = Q ++ [(n, b)]) (hB : B ≤ w.heap.size) :
    Calls Try.prog 12 #[.pointer (some ⟨g, 0, none⟩), .slice (some ⟨k, 0, none⟩) m c] (w.alloc (.cells cs 5 fr)) fun e w' => e = .returned (.tuple #[.int .u64 n, .int .i64 0]) ∧ GAt w' g B me n Q' R ∧ KT g w w' ∧ Below B w w' := by
  subst hl; subst hk; subst h1; subst hQ
  refine (Ask_ok g B me last Q R _ c b _ (h.below (below_alloc (Below.refl _ _) _)) (fun k => k = w.heap.size) (F_block (heap_new _ _) hcs (by omega)) (fun k hk => by have := h.lt; omega) hq hn h0 h2).mono ?_
  rintro e w' ⟨rfl, hG, hK, hb⟩
  exact ⟨rfl, hG, (KT.of_below (below_alloc (Below.refl _ _) _)).trans hK, (below_weak (below_alloc (Below.refl _ _) _) hB).trans hb⟩
theorem keep_cell_ {a b : World} {g : Nat} {p : Addr} {v : Value} (h : KeepBut a b g none) (hc : a.cell? p = some v) (hg : p.block ≠ g) : b.cell? p = some v := by
  have h1 := h.2 p.block (World.block_lt_of_cell? a p hc) hg (by simp)
  unfold World.cell? at hc ⊢
  rw [h1]
  exact hc
/-- Put of a constant's bytes, laid at once: what it makes, as a string. -/
theorem Put_lit (n : Int) (b : List Int) (cs : Array Value) (fr : Nat × Nat) {m c k : Nat} {S : ByteArray} (hcs : cs.toList = nums .u8 b) (hm : b.length = m) (hk : (lett n b).length = k) (hS : strOfNums (lett n b) = S) (hl : b.length ≤ 1000) (h0 : 0 ≤ n) (h1 : n < 18446744073709551616) (W : World) (h : Nat) (hh : W.heap.size = h) :
    Calls Try.prog 17 #[.int .u64 n, .slice (some ⟨h, 0, none⟩) m c] (W.alloc (.cells cs 5 fr)) fun e w' => ∃ A k', e = .returned (.slice A k k') ∧ (convert 39 9 (.slice A k k')).run Try.prog w' = .ok (.string S) w' ∧ Below W.heap.size W w' := by
  subst hm; subst hh
  refine (gPut_calls n (some ⟨W.heap.size, 0, none⟩) c b _ (C_block (heap_new _ _) hcs (by omega)) (by omega) h0 h1).mono ?_
  rintro e w' ⟨v, rfl, hV, hb⟩
  obtain ⟨A, k', ev⟩ := Kd.R_slice hV
  subst ev
  have hc := str_own hV
  rw [hS] at hc
  rw [hk] at hc ⊢
  exact ⟨A, k', rfl, hc, below_step (below_alloc (Below.refl _ _) _) hb⟩
set_option maxRecDepth 100000 in
set_option maxHeartbeats 6400000 in
theorem asks_true (w : World) : Calls Try.prog 11 #[] w fun e w' => e = .returned (.bool true) ∧ Below w.heap.size w w' := by
  have kc := fun (w : World) (C : Array Value) (n c : Nat) => Lib.run_convert_bytes_const (P := Try.prog) w 39 5 C n c Try.underlying39 Try.underlying5
  go_enter Try.func11, Try.ntmps11
  go_wp2_with fail
  refine (gNew_calls 1 w (by decide) (by decide)).mono ?_
  rintro e w1 ⟨g, rfl, hG, hb⟩
  have HG := Aside0.mk hG
  have HB := Aside0.mk hb
  have hg1 := Aside0.mk hG.lt
  have hg0 := Aside0.mk hG.le
  clear hG hb
  go_wp2_with fail
  refine (Ask_at (m := 1) (c := 1) g w.heap.size 1 0 1 [] [(1, [120])] [] w1.heap.size #[.int .u8 120] (1, 2) [120] w1 HG.out rfl rfl rfl (by decide) (by decide) (by decide) rfl (by decide) rfl HB.out.size).mono ?_
  rintro e w2 ⟨rfl, hG, hK, hb⟩
  have HG2 := Aside0.mk hG
  have HB2 := Aside0.mk (HB.out.trans hb)
  clear hG hK hb HG HB
  go_wp2_with fail
  refine (Ask_at (m := 1) (c := 1) g w.heap.size 1 1 2 [(1, [120])] [(1, [120]), (2, [121])] [] w2.heap.size #[.int .u8 121] (1, 2) [121] w2 HG2.out rfl rfl rfl (by decide) (by decide) (by decide) rfl (by decide) rfl HB2.out.size).mono ?_
  rintro e w3 ⟨rfl, hG, hK, hb⟩
  have HG3 := Aside0.mk hG
  have HB3 := Aside0.mk (HB2.out.trans hb)
  have hg3 := Aside0.mk hG.lt
  clear hG hK hb HG2 HB2 hg1
  go_wp2_with fail
  refine (Tick_calls g w.heap.size 1 2 [(1, [120]), (2, [121])] [] w3 HG3.out (by intro p hp; simp at hp; rcases hp with rfl | rfl <;> (refine ⟨?_, ?_, ?_⟩ <;> decide))).mono ?_
  rintro e w4 ⟨⟨x1, A1, c1, rfl, hx, hle, hV⟩, hb⟩
  rw [show lett 1 [120] = [0, 0, 0, 0, 0, 0, 0, 1, 0, 0, 0, 1, 120] from by kernel_rfl] at hx hV
  have HX4 := Aside0.mk hx
  have HV4 := Aside0.mk hV
  have hx1 := Aside0.mk (show g < x1 from Nat.lt_of_lt_of_le hg3.out hle)
  have HG4 := Aside0.mk (HG3.out.below hb)
  have HB4 := Aside0.mk (below_then HB3.out HB3.out.size hb)
  have h34 := Aside0.mk hb.size
  clear hx hle hV hb HG3 HB3
  go_wp2_with fail
  refine (gPut_calls 1 (some ⟨w4.heap.size, 0, none⟩) 1 [114] (w4.alloc (.cells #[.int .u8 114] 5 (1, 2))) (C_block (xs := [114]) (heap_new _ _) rfl (by decide)) (by decide) (by decide) (by decide)).mono ?_
  rintro e w5 ⟨v5, rfl, hV, hb⟩
  rw [show lett 1 [114] = [0, 0, 0, 0, 0, 0, 0, 1, 0, 0, 0, 1, 114] from by kernel_rfl] at hV
  obtain ⟨A5, c5, ev⟩ := Kd.R_slice hV
  subst ev
  have h45 := Aside0.mk (below_step (below_alloc (Below.refl w4.heap.size w4) (.cells #[.int .u8 114] 5 (1, 2))) hb)
  have HV5 := Aside0.mk (Kd.R_reads' hV).2.2
  have HG5 := Aside0.mk (HG4.out.below h45.out)
  clear hV hb
  go_wp2_with fail
  refine (Hear_calls g w.heap.size 1 2 [(1, [120]), (2, [121])] [] A5 c5 [0, 0, 0, 0, 0, 0, 0, 1, 0, 0, 0, 1, 114] w5 HG5.out HV5.out (by intro x hx; simp at hx; unfold IsByte; omega) (by decide) (by decide) (by decide)).mono ?_
  rw [show hear (gGet [0, 0, 0, 0, 0, 0, 0, 1, 0, 0, 0, 1, 114]) [(1, [120]), (2, [121])] [] = ([(2, [121])], [(1, [114])]) from by kernel_rfl]
  rintro e w6 ⟨rfl, hG, hK, hb⟩
  have HG6 := Aside0.mk (show GAt w6 g w.heap.size 1 2 [(2, [121])] [(1, [114])] from hG)
  have HB6 := Aside0.mk ((below_then HB4.out HB4.out.size h45.out).trans hb)
  have HX6 := Aside0.mk (KT_blk hK (HX4.out.below h45.out) (by have := hx1.out; omega) (by decide) (by decide))
  have HV6 := Aside0.mk (KT_R hK (Kd.R_below HV4.out h45.out) hg3.out)
  have h36 := Aside0.mk (Nat.le_trans (Nat.le_trans h34.out h45.out.size) hK.1)
  clear hG hK hb HG5 HV5 HX4 HV4 HG4 HB4 h45 h34
  go_wp2_with fail
  refine (Tick_calls g w.heap.size 1 2 [(2, [121])] [(1, [114])] w6 HG6.out (by intro p hp; simp at hp; subst hp; (refine ⟨?_, ?_, ?_⟩ <;> decide))).mono ?_
  rintro e w7 ⟨⟨x2, A2, c2, rfl, hx, hle, hV⟩, hb⟩
  rw [show lett 2 [121] = [0, 0, 0, 0, 0, 0, 0, 2, 0, 0, 0, 1, 121] from by kernel_rfl] at hx hV
  have HY7 := Aside0.mk hx
  have HW7 := Aside0.mk (Kd.R_lower hV h36.out)
  have hx2 := Aside0.mk (show g < x2 by have := h36.out; have := hg3.out; omega)
  have HX7 := Aside0.mk (HX6.out.below hb)
  have HV7 := Aside0.mk (Kd.R_below HV6.out hb)
  have HG7 := Aside0.mk (HG6.out.below hb)
  have HB7 := Aside0.mk (below_then HB6.out HB6.out.size hb)
  clear hx hle hV hb HX6 HV6 HG6 HB6
  go_wp2_with fail
  refine (gPut_calls 1 (some ⟨w7.heap.size, 0, none⟩) 1 [115] (w7.alloc (.cells #[.int .u8 115] 5 (1, 2))) (C_block (xs := [115]) (heap_new _ _) rfl (by decide)) (by decide) (by decide) (by decide)).mono ?_
  rintro e w8 ⟨v8, rfl, hV, hb⟩
  rw [show lett 1 [115] = [0, 0, 0, 0, 0, 0, 0, 1, 0, 0, 0, 1, 115] from by kernel_rfl] at hV
  obtain ⟨A8, c8, ev⟩ := Kd.R_slice hV
  subst ev
  have h78 := Aside0.mk (below_step (below_alloc (Below.refl w7.heap.size w7) (.cells #[.int .u8 115] 5 (1, 2))) hb)
  have HV8 := Aside0.mk (Kd.R_reads' hV).2.2
  have HG8 := Aside0.mk (HG7.out.below h78.out)
  clear hV hb
  go_wp2_with fail
  refine (Hear_calls g w.heap.size 1 2 [(2, [121])] [(1, [114])] A8 c8 [0, 0, 0, 0, 0, 0, 0, 1, 0, 0, 0, 1, 115] w8 HG8.out HV8.out (by intro x hx; simp at hx; unfold IsByte; omega) (by decide) (by decide) (by decide)).mono ?_
  rw [show hear (gGet [0, 0, 0, 0, 0, 0, 0, 1, 0, 0, 0, 1, 115]) [(2, [121])] [(1, [114])] = ([(2, [121])], [(1, [114])]) from by kernel_rfl]
  rintro e w9 ⟨rfl, hG, hK, hb⟩
  have HG9 := Aside0.mk (show GAt w9 g w.heap.size 1 2 [(2, [121])] [(1, [114])] from hG)
  have HB9 := Aside0.mk ((below_then HB7.out HB7.out.size h78.out).trans hb)
  have HX9 := Aside0.mk (KT_blk hK (HX7.out.below h78.out) (by have := hx1.out; omega) (by decide) (by decide))
  have HV9 := Aside0.mk (KT_R hK (Kd.R_below HV7.out h78.out) hg3.out)
  have HY9 := Aside0.mk (KT_blk hK (HY7.out.below h78.out) (by have := hx2.out; omega) (by decide) (by decide))
  have HW9 := Aside0.mk (KT_R hK (Kd.R_below HW7.out h78.out) hg3.out)
  clear hG hK hb HG8 HV8 HX7 HV7 HG7 HB7 h78 HY7 HW7
  go_wp2_with fail
  refine (Answers_calls g w.heap.size 1 2 [(2, [121])] [(1, [114])] w9 HG9.out).mono ?_
  rintro e w10 ⟨v10, rfl, hN, hG, hK, hb⟩
  obtain ⟨g1, k1, rfl, hg1, hg1l, _⟩ := Kd.N_form hN (by simp)
  obtain ⟨cc, hcl, hfk, hcc, _⟩ := Kd.N_elem hN (0, []) 0 (by decide) (by simp)
  obtain ⟨A3, c3, rfl, hk3, hF⟩ := fk_open hfk
  have d0 := hcc 0 _ rfl
  have d1 := hcc 1 _ rfl
  simp at d0 d1 hF
  have HG10 := Aside0.mk hG
  have HB10 := Aside0.mk (HB9.out.trans hb)
  have HX10 := Aside0.mk (keep_blk_ hK HX9.out (by have := hx1.out; omega))
  have HV10 := Aside0.mk (keep_R_ hK HV9.out hg3.out)
  have HY10 := Aside0.mk (keep_blk_ hK HY9.out (by have := hx2.out; omega))
  have HW10 := Aside0.mk (keep_R_ hK HW9.out hg3.out)
  have HF10 := Aside0.mk hF
  have hgg := Aside0.mk (show g1 ≠ g from fun e1 => Kd.N_away hN (fun k hk => hk) (by rw [e1]; rfl))
  have D0 := Aside0.mk d0
  have D1 := Aside0.mk d1
  have HL : Aside0 (Held w w10 g 1 2 [(2, [121])] w10) := ⟨⟨KeepBut.refl _ _ _, HG10.out, HB10.out⟩⟩
  clear hF hfk hcc hcl hN hG hK hb HG9 HB9 HX9 HV9 HY9 HW9 d0 d1 hg1 hg1l hk3 kc
  have Sall : Aside0 (∀ W : World, Held w w10 g 1 2 [(2, [121])] W →
      W.cell? ⟨x1, 2, none⟩ = some (.slice A1 13 c1) ∧ (convert 39 9 (.slice A1 13 c1)).run Try.prog W = .ok (.string ⟨#[0, 0, 0, 0, 0, 0, 0, 1, 0, 0, 0, 1, 120]⟩) W ∧
      W.cell? ⟨x2, 2, none⟩ = some (.slice A2 13 c2) ∧ (convert 39 9 (.slice A2 13 c2)).run Try.prog W = .ok (.string ⟨#[0, 0, 0, 0, 0, 0, 0, 2, 0, 0, 0, 1, 121]⟩) W ∧
      W.cell? ⟨x2, 0, none⟩ = some (.int .i64 1) ∧ W.cell? ⟨x2, 1, none⟩ = some (.int .i64 0) ∧
      W.cell? ⟨g1, 0, none⟩ = some (.int .u64 1) ∧ W.cell? ⟨g1, 1, none⟩ = some (.slice A3 1 c3) ∧ (convert 39 9 (.slice A3 1 c3)).run Try.prog W = .ok (.string ⟨#[114]⟩) W ∧
      Held w w10 g 1 2 [(2, [121])] W) := ⟨fun W hW => by
    have hx := (keep_blk_ hW.keep HX10.out (by have := hx1.out; omega)).cell 2
    have hy0 := (keep_blk_ hW.keep HY10.out (by have := hx2.out; omega)).cell 0
    have hy1 := (keep_blk_ hW.keep HY10.out (by have := hx2.out; omega)).cell 1
    have hy2 := (keep_blk_ hW.keep HY10.out (by have := hx2.out; omega)).cell 2
    have cx := str_own (keep_R_ hW.keep HV10.out hg3.out)
    have cy := str_own (keep_R_ hW.keep HW10.out hg3.out)
    have cz := str_came (c := c3) (Kd.F_now (keep_F_ hW.keep HF10.out (fun k hk => hk.1))) (S := ⟨#[114]⟩) (by kernel_rfl)
    rw [show strOfNums [0, 0, 0, 0, 0, 0, 0, 1, 0, 0, 0, 1, 120] = ⟨#[0, 0, 0, 0, 0, 0, 0, 1, 0, 0, 0, 1, 120]⟩ from by kernel_rfl] at cx
    rw [show strOfNums [0, 0, 0, 0, 0, 0, 0, 2, 0, 0, 0, 1, 121] = ⟨#[0, 0, 0, 0, 0, 0, 0, 2, 0, 0, 0, 1, 121]⟩ from by kernel_rfl] at cy
    exact ⟨hx, cx, hy2, cy, hy0, hy1, keep_cell_ hW.keep D0.out hgg.out, keep_cell_ hW.keep D1.out hgg.out, cz, hW⟩⟩
  have kp1 : Aside0 (Calls Try.prog 17 #[.int .u64 1, .slice (some ⟨w10.heap.size, 0, none⟩) 1 1] (w10.alloc (.cells #[.int .u8 120] 5 (1, 2))).drew fun e w' => ∃ A k', e = .returned (.slice A 13 k') ∧ (convert 39 9 (.slice A 13 k')).run Try.prog w' = .ok (.string ⟨#[0, 0, 0, 0, 0, 0, 0, 1, 0, 0, 0, 1, 120]⟩) w' ∧ Below w10.drew.heap.size w10.drew w') :=
    ⟨Put_lit (c := 1) 1 [120] #[.int .u8 120] (1, 2) (m := 1) (k := 13) (S := ⟨#[0, 0, 0, 0, 0, 0, 0, 1, 0, 0, 0, 1, 120]⟩) rfl rfl rfl (by kernel_rfl) (by decide) (by decide) (by decide) w10.drew w10.heap.size rfl⟩
  have kcd : ∀ (w : World) (C : Array Value) (n c : Nat), (convert 39 39 (.slice (some ⟨w.heap.size, 0, none⟩) n c)).run Try.prog (w.alloc (.cells C 5)).drew = .ok (.slice (some ⟨w.heap.size, 0, none⟩) n c) (w.alloc (.cells C 5 (C.size, C.size + 1))).drew :=
    fun w C n c => Lib.run_convert_bytes_const (P := Try.prog) w.drew 39 5 C n c Try.underlying39 Try.underlying5
  have kp2 := Aside0.mk (Put_lit (c := 1) 2 [121] #[.int .u8 121] (1, 2) (m := 1) (k := 13) (S := ⟨#[0, 0, 0, 0, 0, 0, 0, 2, 0, 0, 0, 1, 121]⟩) rfl rfl rfl (by kernel_rfl) (by decide) (by decide) (by decide))
  have kc := fun (w : World) (C : Array Value) (n c : Nat) => Lib.run_convert_bytes_const (P := Try.prog) w 39 5 C n c Try.underlying39 Try.underlying5
  clear HX10 HY10 HV10 HW10 HF10 HG10 HB10 D0 D1
  have K0 := Aside0.mk HL.out.drew
  go_wp2_with fail
  simp only [List.append_eq, List.cons_append, List.nil_append]
  refine wp_region_noPanic ?_
  go_region_held (fun W : World =>
      W.cell? ⟨x1, 2, none⟩ = some (.slice A1 13 c1) ∧ (convert 39 9 (.slice A1 13 c1)).run Try.prog W = .ok (.string ⟨#[0, 0, 0, 0, 0, 0, 0, 1, 0, 0, 0, 1, 120]⟩) W ∧
      W.cell? ⟨x2, 2, none⟩ = some (.slice A2 13 c2) ∧ (convert 39 9 (.slice A2 13 c2)).run Try.prog W = .ok (.string ⟨#[0, 0, 0, 0, 0, 0, 0, 2, 0, 0, 0, 1, 121]⟩) W ∧
      W.cell? ⟨x2, 0, none⟩ = some (.int .i64 1) ∧ W.cell? ⟨x2, 1, none⟩ = some (.int .i64 0) ∧
      W.cell? ⟨g1, 0, none⟩ = some (.int .u64 1) ∧ W.cell? ⟨g1, 1, none⟩ = some (.slice A3 1 c3) ∧ (convert 39 9 (.slice A3 1 c3)).run Try.prog W = .ok (.string ⟨#[114]⟩) W ∧
      Held w w10 g 1 2 [(2, [121])] W)
    (first
      | exact Sall.out _ K0.out
      | exact Sall.out _ (K0.out.alloc _)
      | exact Sall.out _ K1.out
      | exact Sall.out _ (K1.out.alloc _)
      | exact Sall.out _ K2.out
      | exact Sall.out _ K3.out)
    (first
      | (go_at_call 17; (with_reducible refine kp1.out.mono ?_); rintro e w11 ⟨A11, k11, rfl, cv11, hb⟩; (have K1 := Aside0.mk (K0.out.step hb)); clear hb)
      | (go_at_call 17; (with_reducible refine (kp2.out _ _ ?_).mono ?_); (rfl); rintro e w12 ⟨A12, k12, rfl, cv12, hb⟩; (have K2 := Aside0.mk (K1.out.step hb)); clear hb)
      | (go_at_call 20; (with_reducible refine (Answers_calls g w.heap.size 1 2 [(2, [121])] [] _ K2.out.at_).mono ?_); rintro e w13 ⟨v13, rfl, hN, hG, hK, hb⟩; (obtain ⟨A13, c13, ev⟩ := Kd.N_slice hN); subst ev; (have K3 : Aside0 (Held w w10 g 1 2 [(2, [121])] w13) := ⟨⟨K2.out.keep.trans hK (.inl rfl), hG, K2.out.below.trans hb⟩⟩); clear hN hG hK hb))
  all_goals
    refine NoPanic.normal ?_
    go_wp2_with fail
    go_ret
    exact ⟨rfl, K3.out.below⟩
end Go.Proofs.Ytpadajkdpldliaa.Ext
