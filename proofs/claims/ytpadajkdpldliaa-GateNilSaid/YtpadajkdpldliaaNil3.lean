/- GateNil, walked. -/
import Derived.Test.YtpadajkdpldliaaNil2
import Derived.Deep.RegionHeld3
namespace Go.Proofs.Ytpadajkdpldliaa.Ext
open Go.RowKit Go.Proofs.YtpadajkdpldliaaW.PrintWords Go.Proofs.YtpadajkdpldliaaW.PrintLast Go.Proofs.YtpadajkdpldliaaW.PrintMore Go.Proofs.YtpadajkdpldliaaW.Hand
set_option linter.unusedVariables false
theorem blk_freeC {W : World} {g t : Nat} {cs : Array Value} {a b : Nat} (h : Blk W g (.cells cs t (a, b))) (j : Nat) (hj : j < a) : W.frozen? ⟨g, j, none⟩ = false := by
  simp [World.frozen?, h.out]; omega
/-- Ask of a constant's bytes: the gateway does not lean on them. -/
theorem Ask_atP (g B : Nat) (me last n : Int) (Q Q' R : List Rq) (k : Nat) (cs : Array Value) (fr : Nat × Nat) (b : List Int) (w : World) (h : GAt w g B me last Q R) (hcs : cs.toList = nums .u8 b) (hk : w.heap.size = k) {m c : Nat} (hl : b.length = m) (hq : Q.length < 32) (hn : b.length ≤ 1000) (h0 : 0 ≤ last) (h1 : last + 1 = n) (h2 : n < 18446744073709551616) (hQ : Q' = Q ++ [(n, b)]) (hB : B ≤ w.heap.size) :
    Calls Try.prog 12 #[.pointer (some ⟨g, 0, none⟩), .slice (some ⟨k, 0, none⟩) m c] (w.alloc (.cells cs 5 fr)) fun e w' => e = .returned (.tuple #[.int .u64 n, .int .i64 0]) ∧ GAtP w' g B (fun j => j ≠ k) me n Q' R ∧ KT g (w.alloc (.cells cs 5 fr)) w' ∧ Below B w w' := by
  subst hl; subst hk; subst h1; subst hQ
  refine (Ask_okP g B (fun j => j ≠ w.heap.size) me last Q R _ c b _ ((h.bound.mono (fun j hj => by omega)).below (below_alloc (Below.refl _ _) _)) (fun j hj => by rw [size_alloc] at hj; omega) (fun k => k = w.heap.size) (F_block (heap_new _ _) hcs (by omega)) (fun k hk => by have := h.lt; omega) hq hn h0 h2).mono ?_
  rintro e w' ⟨rfl, hG, hK, hb⟩
  exact ⟨rfl, hG, hK, (below_weak (below_alloc (Below.refl _ _) _) hB).trans hb⟩
set_option maxRecDepth 100000 in
set_option maxHeartbeats 3200000 in
theorem GateNil.walk (A : Option Addr) (n c : Nat) (w : World) :
    Calls Try.prog 7 #[.slice A n c] w fun e w' => e = .returned (.bool true) ∧ Below w.heap.size w w' := by
  have kc := fun (w : World) (C : Array Value) (n c : Nat) => Lib.run_convert_bytes_const (P := Try.prog) w 39 5 C n c Try.underlying39 Try.underlying5
  go_enter Try.func7, Try.ntmps7
  go_wp2_with fail
  refine (Ask_nil A n c w).mono ?_
  rintro e w1 ⟨rfl, rfl⟩
  go_wp2_with fail
  refine (Hear_nil A n c w).mono ?_
  rintro e w1 ⟨rfl, rfl⟩
  go_wp2_with fail
  refine (Tick_nil w).mono ?_
  rintro e w1 ⟨rfl, rfl⟩
  go_wp2_with fail
  refine (Answers_nil w).mono ?_
  rintro e w1 ⟨rfl, rfl⟩
  go_wp2_with fail
  refine (Queue_nil w).mono ?_
  rintro e w1 ⟨rfl, rfl⟩
  go_wp2_with fail
  refine (gNew_calls 3 w (by decide) (by decide)).mono ?_
  rintro e w1 ⟨g, rfl, hG, hb⟩
  have HG := Aside0.mk hG
  have HB := Aside0.mk hb
  have hg1 := Aside0.mk hG.lt
  have hg0 := Aside0.mk hG.le
  clear hG hb
  go_wp2_with fail
  have hbx := Aside0.mk (Blk.new_ (W := w1) (o := .cells #[.int .u8 120, .int .u8 121] 5 (2, 3)))
  refine (Ask_atP (m := 2) (c := 2) g w.heap.size 3 0 1 [] [(1, [120, 121])] [] w1.heap.size #[.int .u8 120, .int .u8 121] (2, 3) [120, 121] w1 HG.out rfl rfl rfl (by decide) (by decide) (by decide) rfl (by decide) rfl HB.out.size).mono ?_
  rintro e w2 ⟨rfl, hG, hK, hb⟩
  have HB2 := Aside0.mk (HB.out.trans hb)
  have hbx2 := Aside0.mk (KT_blk hK hbx.out (by have := hg1.out; omega) (by decide) (by decide))
  have hw1 := Aside0.mk HB.out.size
  obtain ⟨hx, hhx⟩ : ∃ x, w1.heap.size = x := ⟨_, rfl⟩
  rw [hhx] at hbx2 hG hw1 hg1 ⊢
  have HGP := Aside0.mk hG
  have c0 := hbx2.out.cell 0
  have f0 := blk_freeC hbx2.out 0 (by decide)
  simp at c0
  clear hG hb HG HB hbx hK hhx
  go_wp2_with fail
  have HG3 := Aside0.mk (HGP.out.set (p := ⟨hx, 0, none⟩) (by have := hg1.out; show g ≠ hx; omega) (fun k hk => hk) (.int .u8 122))
  have HB3 := Aside0.mk (HB2.out.setCell (p := ⟨hx, 0, none⟩) (by have := hw1.out; show w.heap.size ≤ hx; omega) (.int .u8 122))
  clear HGP HB2 c0 f0 hbx2
  generalize w2.setCell ⟨hx, 0, none⟩ (.int .u8 122) = w3 at HG3 HB3 ⊢
  go_wp2_with fail
  refine (Tick_calls g w.heap.size 3 1 [(1, [120, 121])] [] w3 HG3.out (by intro p hp; simp at hp; subst hp; (refine ⟨?_, ?_, ?_⟩ <;> decide))).mono ?_
  rintro e w4 ⟨⟨x1, A1, c1, rfl, hbl, hle, hV⟩, hb⟩
  rw [show lett 1 [120, 121] = [0, 0, 0, 0, 0, 0, 0, 1, 0, 0, 0, 2, 120, 121] from by kernel_rfl] at hbl hV
  have c2 := hbl.cell 2
  simp at c2
  have cv := str_own hV
  rw [show strOfNums [0, 0, 0, 0, 0, 0, 0, 1, 0, 0, 0, 2, 120, 121] = ⟨#[0, 0, 0, 0, 0, 0, 0, 1, 0, 0, 0, 2, 120, 121]⟩ from by kernel_rfl] at cv
  obtain ⟨g1, k1, ev, hg1b, hg1l, _⟩ := Kd.R_form hV (by decide)
  simp only [Value.slice.injEq] at ev
  obtain ⟨rfl, _, rfl⟩ := ev
  obtain ⟨q1, q2⟩ := Kd.R_celln (enc := Value.int .u8) (h1 := fun _ => rfl) (0 : Int) hV 0 (by decide) (by decide)
  simp [rdOf] at q1 q2
  have cv : (convert 39 9 (.slice (some ⟨g1, 0, none⟩) 14 c1)).run Try.prog w4 = .ok (.string ⟨#[0, 0, 0, 0, 0, 0, 0, 1, 0, 0, 0, 2, 120, 121]⟩) w4 := cv
  have h34 := Aside0.mk (hb.setCell (p := ⟨g1, 0, none⟩) hg1b (.int .u8 1))
  have HG4 := Aside0.mk (HG3.out.below h34.out)
  have HB4 := Aside0.mk (below_then HB3.out HB3.out.size h34.out)
  clear hV hb hbl hle hg1b hg1l HG3 HB3 h34
  go_wp2_with fail
  generalize w4.setCell ⟨g1, 0, none⟩ (.int .u8 1) = w5 at HG4 HB4 ⊢
  clear q1 q2 c2 cv
  go_wp2_with fail
  refine (Tick_calls g w.heap.size 3 1 [(1, [120, 121])] [] w5 HG4.out (by intro p hp; simp at hp; subst hp; (refine ⟨?_, ?_, ?_⟩ <;> decide))).mono ?_
  rintro e w6 ⟨⟨x2, A2, c2, rfl, hbl, hle, hV⟩, hb⟩
  rw [show lett 1 [120, 121] = [0, 0, 0, 0, 0, 0, 0, 1, 0, 0, 0, 2, 120, 121] from by kernel_rfl] at hbl hV
  have d2 := hbl.cell 2
  simp at d2
  have cv := str_own hV
  rw [show strOfNums [0, 0, 0, 0, 0, 0, 0, 1, 0, 0, 0, 2, 120, 121] = ⟨#[0, 0, 0, 0, 0, 0, 0, 1, 0, 0, 0, 2, 120, 121]⟩ from by kernel_rfl] at cv
  have cv : (convert 39 9 (.slice A2 14 c2)).run Try.prog w6 = .ok (.string ⟨#[0, 0, 0, 0, 0, 0, 0, 1, 0, 0, 0, 2, 120, 121]⟩) w6 := cv
  have HB6 := Aside0.mk (below_then HB4.out HB4.out.size hb)
  clear hV hb hbl hle HG4 HB4
  go_wp2_with fail
  refine (Put_lit (c := 2) 1 [120, 121] #[.int .u8 120, .int .u8 121] (2, 3) (m := 2) (k := 14) (S := ⟨#[0, 0, 0, 0, 0, 0, 0, 1, 0, 0, 0, 2, 120, 121]⟩) rfl rfl rfl (by kernel_rfl) (by decide) (by decide) (by decide) w6 w6.heap.size rfl).mono ?_
  rintro e w7 ⟨A7, k7, rfl, cv7, hb⟩
  have HB7 := Aside0.mk (below_then HB6.out HB6.out.size hb)
  clear hb
  go_wp2_with fail
  refine (asks_true _).mono ?_
  rintro e w8 ⟨rfl, hb⟩
  have HB8 := Aside0.mk (below_then HB7.out HB7.out.size hb)
  clear hb
  go_wp2_with fail
  go_ret
  exact ⟨rfl, HB8.out⟩
end Go.Proofs.Ytpadajkdpldliaa.Ext
