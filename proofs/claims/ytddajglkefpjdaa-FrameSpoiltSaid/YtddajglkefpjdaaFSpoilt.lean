/- FrameSpoilt, proved by walking its code. -/
import Derived.Test.YtddajglkefpjdaaFTorn
import Derived.Test.YtddajglkefpjdaaFLaw3
import Derived.Laws.IdiomArrays
import Derived.OpenShut
namespace Go.Proofs.Ytddajglkefpjdaa.Ext
open Go.RowKit Go.ChangeShapes Go.WideShapes Go.Proofs.YtddajglkefpjdaaW.PrintWords Go.Proofs.YtddajglkefpjdaaW.PrintLast Go.Proofs.YtddajglkefpjdaaW.PrintMore Go.Proofs.YtddajglkefpjdaaW.Hand
set_option linter.unusedVariables false
set_option maxRecDepth 100000 in
set_option maxHeartbeats 3200000 in
theorem spoilt_out (at_ kind s place x0 x1 x2 x3 : Int) (A : Option Addr) (c : Nat) (b x : List Int) (e1 : Int) (w : World) (hC : Kd.C (Kd.int .u8) w A b.length b) (hc : b.length ≤ c) (hk : 0 ≤ kind ∧ kind < 256) (hs : 0 ≤ s ∧ s < top64) (hx : fputv at_ kind s b = (x, e1)) (h : e1 ≠ 0) :
    Calls Try.prog 6 #[.int .i64 at_, .int .u8 kind, .int .u64 s, .slice A b.length c, .int .u16 place, .agg #[.int .u8 x0, .int .u8 x1, .int .u8 x2, .int .u8 x3]] w fun e w' => e = .returned (.bool true) ∧ Below w.heap.size w w' := by
  have d1 : (e1 != 0) = true := bne_iff_ne.2 h
  have kx := Aside0.mk (fun w (hC : Kd.C (Kd.int .u8) w A b.length b) => fPut_all at_ kind s A c b w hC hc hs.1 hs.2 hk)
  rw [hx] at kx
  have HC := Aside0.mk hC
  clear hx hC hc hk hs h
  go_enter Try.func6, Try.ntmps6
  go_wp2_with fail
  have hb0 := below_alloc (Below.refl w.heap.size w) (Obj.cells #[.int .u8 x0, .int .u8 x1, .int .u8 x2, .int .u8 x3] 37)
  refine (kx.out _ (Kd.C_below HC.out hb0)).mono ?_
  rintro e w1 ⟨v1, rfl, hr1, hb1⟩
  obtain ⟨X1, k1, ev⟩ := Kd.R_slice hr1
  subst ev
  have HB1 := Aside0.mk (below_step hb0 hb1)
  clear hr1 hb1 hb0
  go_wp2_with fail
  refine (goes_true _).mono ?_
  rintro e w3 ⟨rfl, hb3⟩
  have HB3 := Aside0.mk (below_step HB1.out hb3)
  clear hb3
  go_wp2_with fail
  go_ret
  exact ⟨rfl, HB3.out⟩
structure SI (w W : World) (q p : Nat) (z : List Int) (x0 x1 x2 x3 : Int) : Prop where
  below : Below q w W
  box : W.heap[q]? = some (Obj.cells #[.int .u8 x0, .int .u8 x1, .int .u8 x2, .int .u8 x3] 37 (0, 0))
  row : RowAt W p z
  lt : q < p
theorem SI.step {w W W' : World} {q p : Nat} {z : List Int} {x0 x1 x2 x3 : Int} (h : SI w W q p z x0 x1 x2 x3) (hb : Below W.heap.size W W') : SI w W' q p z x0 x1 x2 x3 :=
  ⟨h.below.trans (below_weak_ hb (by have := (Array.getElem?_eq_some_iff.1 h.box).1; omega)), (hb.block q (Array.getElem?_eq_some_iff.1 h.box).1).trans h.box, h.row.below hb, h.lt⟩
theorem SI.copied {w W W' : World} {q p : Nat} {z z' : List Int} {x0 x1 x2 x3 : Int} (h : SI w W q p z x0 x1 x2 x3) (hg : W.grownBy W' (some p)) (hr : RowAt W' p z') : SI w W' q p z' x0 x1 x2 x3 :=
  ⟨h.below.grown hg (by have := (Array.getElem?_eq_some_iff.1 h.box).1; omega) (fun k e => by injection e with e; have := h.lt; omega), (hg.block q (Array.getElem?_eq_some_iff.1 h.box).1 (fun e => by injection e with e; have := h.lt; omega)).trans h.box, hr, h.lt⟩
theorem SI.C {w W : World} {q p : Nat} {z : List Int} {x0 x1 x2 x3 : Int} (h : SI w W q p z x0 x1 x2 x3) : Kd.C (Kd.int .u8) W (some ⟨q, 0, none⟩) 4 [x0, x1, x2, x3] := C_block (xs := [x0, x1, x2, x3]) h.box rfl (by simp)
theorem RowAt.part {W : World} {g : Nat} {xs : List Int} (h : RowAt W g xs) (a n : Nat) (hl : a + n ≤ xs.length) (hm : n ≤ 1000000) : Kd.C (Kd.int .u8) W (some ⟨g, a, none⟩) n ((xs.drop a).take n) := by
  have hlen : ((xs.drop a).take n).length = n := by rw [List.length_take, List.length_drop]; omega
  have := Kd.C_of_reads (w := W) (enc := Value.int .u8) (A := some ⟨g, a, none⟩) (n := n) (xs := (xs.drop a).take n) (d := (0 : Int)) (h1 := fun _ => rfl) ⟨hlen, by omega, fun _ => ⟨_, rfl, fun j hj => by
    have e1 : (nums .u8 xs).toArray[a + j]? = some (.int .u8 (((xs.drop a).take n).getD j 0)) := by
      have h2 : ((xs.drop a).take n)[j]? = xs[a + j]? := part_get xs a n j hj
      have h3 : a + j < xs.length := by omega
      rw [List.getD_eq_getElem?_getD, h2, List.getElem?_eq_getElem h3]
      simp [nums, List.getElem?_eq_getElem h3]
    rw [show (⟨g, a, none⟩ : Addr).add j = ⟨g, a + j, none⟩ by unfold Addr.add; split <;> simp_all]
    exact (cell_of_row W g (a + j) _ _ _ h).trans e1⟩⟩
  exact this
set_option maxRecDepth 100000 in
set_option maxHeartbeats 6400000 in
theorem spoilt_in (at_ kind s place x0 x1 x2 x3 : Int) (A : Option Addr) (c : Nat) (b : List Int) (w : World) (hC : Kd.C (Kd.int .u8) w A b.length b) (hc : b.length ≤ c) (hbb : ∀ x ∈ b, IsByte x) (hb : b.length ≤ 4011) (hat : 0 ≤ at_ ∧ at_ < 4096) (hk : 0 ≤ kind ∧ kind < 256) (hs : 0 < s ∧ s < top64) (hp : 0 ≤ place ∧ place < 65536) (hw : ∀ x ∈ [x0, x1, x2, x3], IsByte x) :
    Calls Try.prog 6 #[.int .i64 at_, .int .u8 kind, .int .u64 s, .slice A b.length c, .int .u16 place, .agg #[.int .u8 x0, .int .u8 x1, .int .u8 x2, .int .u8 x3]] w fun e w' => e = .returned (.bool true) ∧ Below w.heap.size w w' := by
  have kx := Aside0.mk (fun w (hC : Kd.C (Kd.int .u8) w A b.length b) => fPut_row at_ kind s A c b w hC hc hat.1 hat.2 hs.1 hs.2 hk hb)
  have HPL := Aside0.mk (fframe_length at_ kind s b hb)
  have HPB := Aside0.mk (fframe_bytes at_ kind s b hbb)
  have HG := Aside0.mk ((fgetv_frame at_ at_ kind kind s b hb hat hk hk hs).trans (if_pos ⟨rfl, rfl⟩))
  have HSP := Aside0.mk (fun k hk hne => spoilt at_ kind s b [x0, x1, x2, x3] hb hbb hs rfl hw k hk hne)
  have HC := Aside0.mk hC
  have HBB := Aside0.mk hbb
  have HK := Aside0.mk hk
  have HW := Aside0.mk hw
  obtain ⟨P, hP⟩ : ∃ l, fframe at_ kind s b = l := ⟨_, rfl⟩
  rw [hP] at kx HPL HPB HG HSP
  obtain ⟨k, hkk⟩ : ∃ k : Nat, place % 4093 = (k : Int) := ⟨(place % 4093).toNat, by omega⟩
  have hk92 : k ≤ 4092 := by omega
  clear hC hc hbb hb hat hk hs hw hP
  go_enter Try.func6, Try.ntmps6
  go_wp2_with fail
  have hb0 := below_alloc (Below.refl w.heap.size w) (Obj.cells #[.int .u8 x0, .int .u8 x1, .int .u8 x2, .int .u8 x3] 37)
  refine (kx.out _ (Kd.C_below HC.out hb0)).mono ?_
  rintro e w1 ⟨p, rfl, hr1, hp1, hb1⟩
  have S1 : Aside0 (SI w w1 w.heap.size p P x0 x1 x2 x3) := ⟨⟨below_step hb0 hb1, (hb1.block w.heap.size (by simp)).trans (heap_new w _), hr1, by rw [size_alloc] at hp1; omega⟩⟩
  clear hr1 hp1 hb1 hb0 kx
  have e9 : ∀ W : World, (Instr.slice 23 (.slice (some ⟨p, 0, none⟩) 4096 4096) (some (.int .i64 (k : Int))) (some (.int .i64 ((k : Int) + 4))) none).run Try.prog W = .ok (.slice (some ⟨p, k, none⟩) 4 (4096 - k)) W := fun W => by
    have := slice_midoff p 4096 k (k + 4) (by omega) (by omega) (by omega) (k : Int) ((k : Int) + 4) rfl (by omega) W
    rwa [show k + 4 - k = 4 by omega] at this
  have ew : IntKind.i64.wrap ((k : Int) + 4) = (k : Int) + 4 := by rw [IntKind.wrap_i64]; omega
  have kst := Kd.C_string (P := Try.prog) (c := 4096 - k) Try.underlying23 Try.underlying5 Try.underlying9 (S1.out.row.part k 4 (by rw [HPL.out]; omega) (by decide))
  obtain ⟨was, hwas⟩ : ∃ l, (P.drop k).take 4 = l := ⟨_, rfl⟩
  have hwl : was.length = 4 := by rw [← hwas, List.length_take, List.length_drop, HPL.out]; omega
  have HWB : Aside0 (∀ x ∈ was, IsByte x) := ⟨fun x hx => HPB.out x (by rw [← hwas] at hx; exact List.mem_of_mem_drop (List.mem_of_mem_take hx))⟩
  have HSM : Aside0 (isplice P k was = P) := ⟨by rw [← hwas]; exact isplice_same P k (by rw [HPL.out]; omega)⟩
  have HSK := Aside0.mk (HSP.out k hk92)
  rw [hwas] at kst HSK
  clear hwas HSP
  obtain ⟨WS, hWS⟩ : ∃ S, strOfNums was = S := ⟨_, rfl⟩
  rw [hWS] at kst
  have HWS := Aside0.mk hWS
  clear hWS
  have S1d := Aside0.mk (S1.out.step (below_drew (Below.refl _ _)))
  go_wp2_with fail
  refine wp_region_noPanic ?_
  go_region_held_law (fun w' => True) (exact trivial) (first | (refine copy_u8_step rfl (.tmp 53) (.tmp 54) rfl p k 4 (4096 - k) (some ⟨w.heap.size, 0, none⟩) 4 4 P [x0, x1, x2, x3] rfl rfl rfl (Nat.le_refl _) (by rw [HPL.out]; omega) S1d.out.row S1d.out.C ?_; intro w5 hr5 hg5 hs5; have S5 := Aside0.mk (S1d.out.copied hg5 hr5.out); clear hr5 hg5 hs5))
  refine NoPanic.normal ?_
  have HZL : Aside0 ((isplice P k [x0, x1, x2, x3]).length = 4096) := ⟨by rw [isplice_length _ _ _ (by rw [HPL.out]; show k + 4 ≤ 4096; omega), HPL.out]⟩
  have HZB : Aside0 (∀ x ∈ isplice P k [x0, x1, x2, x3], IsByte x) := ⟨isplice_mem HPB.out HW.out⟩
  have HEQ := strOf_same was [x0, x1, x2, x3] HWB.out HW.out
  rw [HWS.out] at HEQ
  obtain ⟨Z, hZ⟩ : ∃ l, isplice P k [x0, x1, x2, x3] = l := ⟨_, rfl⟩
  have HZ := Aside0.mk hZ
  rw [hZ] at S5 HZL HZB HSK
  have CZ : Aside0 (Kd.C (Kd.int .u8) w5 (some ⟨p, 0, none⟩) 4096 Z) := ⟨by have := S5.out.row.C (by rw [HZL.out]; decide); rwa [HZL.out] at this⟩
  clear hZ e9 ew kst S1 S1d
  obtain ⟨XS, hXS⟩ : ∃ S, strOfNums [x0, x1, x2, x3] = S := ⟨_, rfl⟩
  rw [hXS] at HEQ
  by_cases hsame : was = [x0, x1, x2, x3]
  · rw [decide_eq_true hsame] at HEQ
    have HZP : Aside0 (Z = P) := ⟨by rw [← HZ.out, ← hsame]; exact HSM.out⟩
    have kg := fGet_at (some ⟨p, 0, none⟩) 4096 4096 Z HZL.out HZB.out at_ kind s b true HK.out w5 CZ.out (Nat.le_refl _) (by rw [HZP.out]; exact HG.out)
    have KG := Aside0.mk kg
    clear kg hsame
    go_wp2_with fail
    refine KG.out.mono ?_
    rintro e w6 ⟨A6, c6, rfl, hr6, hb6⟩
    have S6 := Aside0.mk (S5.out.step hb6)
    have k1 := own_string (P := Try.prog) Try.underlying23 Try.underlying5 Try.underlying9 (Kd.own_of_R hr6)
    have k2 := Kd.C_string (P := Try.prog) (c := c) Try.underlying23 Try.underlying5 Try.underlying9 (Kd.C_below HC.out S6.out.below)
    have k3 := Kd.C_string (P := Try.prog) (c := 4) Try.underlying23 Try.underlying5 Try.underlying9 S6.out.C
    rw [hXS] at k3
    obtain ⟨BS, hBS⟩ : ∃ S, strOfNums b = S := ⟨_, rfl⟩
    rw [hBS] at k1 k2
    clear hr6 hb6 hBS KG hXS
    go_wp2_with fail
    refine (goes_true _).mono ?_
    rintro e w7 ⟨rfl, hb7⟩
    have S7 := Aside0.mk (S6.out.step hb7)
    clear hb7
    go_wp2_with fail
    go_ret
    exact ⟨rfl, S7.out.below⟩
  · rw [decide_eq_false hsame] at HEQ
    have kg := fGet_at (some ⟨p, 0, none⟩) 4096 4096 Z HZL.out HZB.out at_ kind 0 [] false HK.out w5 CZ.out (Nat.le_refl _) (HSK.out (fun e => hsame e.symm))
    have KG := Aside0.mk kg
    clear kg hsame
    go_wp2_with fail
    refine KG.out.mono ?_
    rintro e w6 ⟨A6, c6, rfl, _, hb6⟩
    have S6 := Aside0.mk (S5.out.step hb6)
    have k3 := Kd.C_string (P := Try.prog) (c := 4) Try.underlying23 Try.underlying5 Try.underlying9 S6.out.C
    rw [hXS] at k3
    clear hb6 KG hXS
    go_wp2_with fail
    refine (goes_true _).mono ?_
    rintro e w7 ⟨rfl, hb7⟩
    have S7 := Aside0.mk (S6.out.step hb7)
    clear hb7
    go_wp2_with fail
    go_ret
    exact ⟨rfl, S7.out.below⟩
theorem arr_come {H : Type} {enc : TypeId × Value → H} {W : World} {v : Value} {d : DataW H} {p : List MemPlace} {base : Nat} (hv : Value.okWide Try.prog W .any base 37 v)
    (h : DataW.Trod enc Try.prog W 0 (fun _ => true) true 37 v d p) : ∃ x0 x1 x2 x3, v = .agg #[.int .u8 x0, .int .u8 x1, .int .u8 x2, .int .u8 x3] ∧ ∀ x ∈ [x0, x1, x2, x3], IsByte x := by
  have ht := Try.underlying37
  have hcs : ∃ cs, v = .agg cs ∧ cs.size = Try.prog.cellsOf 37 := by
    simp only [Value.okWide, ht] at hv
    obtain ⟨cs, h1, h2, _⟩ := hv
    exact ⟨cs, h1, h2⟩
  obtain ⟨cs, rfl, hsz⟩ := hcs
  have h4 : Try.prog.cellsOf 37 = 4 := by kernel_rfl
  rw [h4] at hsz
  obtain ⟨fuel, hf⟩ := h
  obtain ⟨l, rfl⟩ : ∃ l : List Value, cs = l.toArray := ⟨cs.toList, by simp⟩
  have hll : l.length = 4 := by simpa using hsz
  match l, hll with
  | [c0, c1, c2, c3], _ =>
    have hf' : DataW.trod enc Try.prog W 0 (fun _ => true) true fuel 37 [c0, c1, c2, c3] = some (d, p) := hf
    obtain ⟨y0, y1, y2, y3, n, _, t0, t1, t2, t3⟩ := trod_array4 (e := 5) ht (by kernel_rfl) hf'
    obtain ⟨a0, g0, _, w0⟩ := DataW.trod_int Try.underlying5 t0
    obtain ⟨a1, g1, _, w1⟩ := DataW.trod_int Try.underlying5 t1
    obtain ⟨a2, g2, _, w2⟩ := DataW.trod_int Try.underlying5 t2
    obtain ⟨a3, g3, _, w3⟩ := DataW.trod_int Try.underlying5 t3
    simp only [List.cons.injEq, and_true] at g0 g1 g2 g3
    subst g0; subst g1; subst g2; subst g3
    refine ⟨a0, a1, a2, a3, rfl, fun x hx => ?_⟩
    simp only [List.mem_cons, List.not_mem_nil, or_false] at hx
    rcases hx with rfl | rfl | rfl | rfl
    · exact wf_byteO _ w0
    · exact wf_byteO _ w1
    · exact wf_byteO _ w2
    · exact wf_byteO _ w3
theorem FrameSpoilt.walk {H : Type} {enc : TypeId × Value → H} (at_ kind s place : Int) (A : Option Addr) (n c : Nat) (v : Value) (w : World) {base : Nat} (w0 : (Lit.int .i64 at_).wf = true) (w1 : (Lit.int .u8 kind).wf = true) (w2 : (Lit.int .u64 s).wf = true) (w4 : (Lit.int .u16 place).wf = true)
    {d3 d5 : DataW H} {p3 p5 : List MemPlace} (k3 : DataW.Trod enc Try.prog w 0 (fun _ => true) true 23 (.slice A n c) d3 p3) (hv : Value.okWide Try.prog w .any base 37 v) (k5 : DataW.Trod enc Try.prog w 0 (fun _ => true) true 37 v d5 p5) :
    Calls Try.prog 6 #[.int .i64 at_, .int .u8 kind, .int .u64 s, .slice A n c, .int .u16 place, v] w fun e w' => e = .returned (.bool true) ∧ Below w.heap.size w w' := by
  obtain ⟨b, rfl, hr, hc, hb⟩ := bytes_come k3
  obtain ⟨x0, x1, x2, x3, rfl, hx⟩ := arr_come hv k5
  have hk := fwf_u8 w1
  have hs := fwf_u64 w2
  have hp : 0 ≤ place ∧ place < 65536 := by
    have h1 : IntKind.u16.min = 0 := rfl
    have h2 : IntKind.u16.max = 65535 := rfl
    simp only [Lit.wf, Bool.and_eq_true, decide_eq_true_eq, h1, h2] at w4
    omega
  obtain ⟨⟨x, e1⟩, hfx⟩ : ∃ p, fputv at_ kind s b = p := ⟨_, rfl⟩
  by_cases h : e1 ≠ 0
  · exact spoilt_out at_ kind s place x0 x1 x2 x3 A c b x e1 w hr hc hk hs hfx h
  · obtain ⟨h1, h2⟩ := fputv_ok hfx (by omega)
    exact spoilt_in at_ kind s place x0 x1 x2 x3 A c b w hr hc hb h2 ⟨h1.1, h1.2.1⟩ hk ⟨by omega, hs.2⟩ hp hx
end Go.Proofs.Ytddajglkefpjdaa.Ext
