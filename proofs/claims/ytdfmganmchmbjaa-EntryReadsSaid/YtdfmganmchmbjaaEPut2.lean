/- entry's other Puts, proved by walking their code (printed by mkput.py). -/
import Derived.Test.YtdfmganmchmbjaaEPut
namespace Go.Proofs.Ytdfmganmchmbjaa.Ext
open Go.RowKit Go.Proofs.YtdfmganmchmbjaaW.PrintWords Go.Proofs.YtdfmganmchmbjaaW.PrintLast Go.Proofs.YtdfmganmchmbjaaW.PrintMore Go.Proofs.YtdfmganmchmbjaaW.Hand Go.Proofs.Ytdfmganmchmbjaa.PZ
set_option linter.unusedVariables false
set_option linter.unusedSimpArgs false
def eleaseb (a0 a1 a2 a3 a4 : Int) : List Int := beN 8 (a0 % top64) ++ beN 8 (a1 % top64) ++ beN 8 (a2 % top64) ++ beN 8 (a3 % top64) ++ beN 8 (a4 % top64)
set_option maxRecDepth 100000 in
set_option maxHeartbeats 1600000 in
theorem elease_all (a0 a1 a2 a3 a4 : Int) (w : World) : Calls Try.prog 16 #[.agg #[.int .u32 a0, .int .i64 a1, .int .i64 a2, .int .i64 a3, .int .i64 a4]] w fun e w' => ∃ v : Value, e = .returned v ∧ Kd.R (Kd.int .u8) 5 w' w.heap.size (fun _ => True) v (eleaseb a0 a1 a2 a3 a4) ∧ Below w.heap.size w w' := by
  have ec0 := u64_conv a0
  go_enter Try.func16, Try.ntmps16
  go_wp2_with fail
  have HX : Aside0 (Blk (w.alloc (Obj.cells #[.int .u32 a0, .int .i64 a1, .int .i64 a2, .int .i64 a3, .int .i64 a4] 40)) w.heap.size (Obj.cells #[.int .u32 a0, .int .i64 a1, .int .i64 a2, .int .i64 a3, .int .i64 a4] 40 (0, 0))) := ⟨Blk.new_⟩
  have HB : Aside0 (Below w.heap.size w (w.alloc (Obj.cells #[.int .u32 a0, .int .i64 a1, .int .i64 a2, .int .i64 a3, .int .i64 a4] 40))) := ⟨below_alloc (Below.refl _ _) _⟩
  obtain ⟨wa, hwa⟩ : ∃ W, w.alloc (Obj.cells #[.int .u32 a0, .int .i64 a1, .int .i64 a2, .int .i64 a3, .int .i64 a4] 40) = W := ⟨_, rfl⟩
  obtain ⟨q, hq⟩ : ∃ q, w.heap.size = q := ⟨_, rfl⟩
  rw [hwa] at HX HB ⊢
  rw [hq] at HX HB ⊢
  clear hwa
  have K0 := Aside0.mk (below_drew (Below.refl wa.heap.size wa))
  have Sall : Aside0 (∀ W : World, Below wa.heap.size wa W → W.cell? ⟨q, 0, none⟩ = some (.int .u32 a0) ∧ W.cell? ⟨q, 1, none⟩ = some (.int .i64 a1) ∧ W.cell? ⟨q, 2, none⟩ = some (.int .i64 a2) ∧ W.cell? ⟨q, 3, none⟩ = some (.int .i64 a3) ∧ W.cell? ⟨q, 4, none⟩ = some (.int .i64 a4)) := ⟨fun W hW => by
    have HX := HX.out.below hW
    exact ⟨(HX.cell 0).trans rfl, (HX.cell 1).trans rfl, (HX.cell 2).trans rfl, (HX.cell 3).trans rfl, (HX.cell 4).trans rfl⟩⟩
  refine wp_region_noPanic ?_
  go_region_held (fun W : World => W.cell? ⟨q, 0, none⟩ = some (.int .u32 a0) ∧ W.cell? ⟨q, 1, none⟩ = some (.int .i64 a1) ∧ W.cell? ⟨q, 2, none⟩ = some (.int .i64 a2) ∧ W.cell? ⟨q, 3, none⟩ = some (.int .i64 a3) ∧ W.cell? ⟨q, 4, none⟩ = some (.int .i64 a4))
    (first
      | exact Sall.out _ K0.out
      | exact Sall.out _ Kc1.out
      | exact Sall.out _ Kc2.out
      | exact Sall.out _ Kc3.out
      | exact Sall.out _ Kc4.out
      | exact Sall.out _ Kc5.out)
    (first
      | (go_at_call 28; (with_reducible refine (Uint_v (.slice none 0 0) [] (a0 % top64) _ (base := 0) (ok := fun _ => True) (Kd.R_nil _ _ _ _ _) (by simp [beN_length]) (top_pos a0).1 (top_pos a0).2).mono ?_); rintro e wc1 ⟨vc1, rfl, hV, hb⟩; (have Kc1 := Aside0.mk (below_step K0.out hb)); (have Vc1 := Aside0.mk hV); clear hV hb)
      | (go_at_call 29; (with_reducible refine (Int_v vc1 _ a1 _ Vc1.out (by simp [beN_length])).mono ?_); rintro e wc2 ⟨vc2, rfl, hV, hb⟩; (have Kc2 := Aside0.mk (below_step Kc1.out hb)); (have Vc2 := Aside0.mk hV); clear hV hb)
      | (go_at_call 29; (with_reducible refine (Int_v vc2 _ a2 _ Vc2.out (by simp [beN_length])).mono ?_); rintro e wc3 ⟨vc3, rfl, hV, hb⟩; (have Kc3 := Aside0.mk (below_step Kc2.out hb)); (have Vc3 := Aside0.mk hV); clear hV hb)
      | (go_at_call 29; (with_reducible refine (Int_v vc3 _ a3 _ Vc3.out (by simp [beN_length])).mono ?_); rintro e wc4 ⟨vc4, rfl, hV, hb⟩; (have Kc4 := Aside0.mk (below_step Kc3.out hb)); (have Vc4 := Aside0.mk hV); clear hV hb)
      | (go_at_call 29; (with_reducible refine (Int_v vc4 _ a4 _ Vc4.out (by simp [beN_length])).mono ?_); rintro e wc5 ⟨vc5, rfl, hV, hb⟩; (have Kc5 := Aside0.mk (below_step Kc4.out hb)); (have Vc5 := Aside0.mk hV); clear hV hb))
  refine NoPanic.normal ?_
  go_wp2_with fail
  go_ret
  exact ⟨_, rfl, by rw [hq]; exact Kd.R_lower Vc5.out (by have := HB.out.size; have := Kc4.out.size; omega), by rw [hq]; exact HB.out.trans (below_weak_ Kc5.out (by have := HB.out.size; omega))⟩
def epackb (a0 a1 : Int) : List Int := beN 8 (a0 % top64) ++ beN 8 (a1 % top64)
set_option maxRecDepth 100000 in
set_option maxHeartbeats 1600000 in
theorem epack_all (a0 a1 : Int) (w : World) : Calls Try.prog 18 #[.agg #[.int .u32 a0, .int .i64 a1]] w fun e w' => ∃ v : Value, e = .returned v ∧ Kd.R (Kd.int .u8) 5 w' w.heap.size (fun _ => True) v (epackb a0 a1) ∧ Below w.heap.size w w' := by
  have ec0 := u64_conv a0
  go_enter Try.func18, Try.ntmps18
  go_wp2_with fail
  have HX : Aside0 (Blk (w.alloc (Obj.cells #[.int .u32 a0, .int .i64 a1] 42)) w.heap.size (Obj.cells #[.int .u32 a0, .int .i64 a1] 42 (0, 0))) := ⟨Blk.new_⟩
  have HB : Aside0 (Below w.heap.size w (w.alloc (Obj.cells #[.int .u32 a0, .int .i64 a1] 42))) := ⟨below_alloc (Below.refl _ _) _⟩
  obtain ⟨wa, hwa⟩ : ∃ W, w.alloc (Obj.cells #[.int .u32 a0, .int .i64 a1] 42) = W := ⟨_, rfl⟩
  obtain ⟨q, hq⟩ : ∃ q, w.heap.size = q := ⟨_, rfl⟩
  rw [hwa] at HX HB ⊢
  rw [hq] at HX HB ⊢
  clear hwa
  have K0 := Aside0.mk (below_drew (Below.refl wa.heap.size wa))
  have Sall : Aside0 (∀ W : World, Below wa.heap.size wa W → W.cell? ⟨q, 0, none⟩ = some (.int .u32 a0) ∧ W.cell? ⟨q, 1, none⟩ = some (.int .i64 a1)) := ⟨fun W hW => by
    have HX := HX.out.below hW
    exact ⟨(HX.cell 0).trans rfl, (HX.cell 1).trans rfl⟩⟩
  refine wp_region_noPanic ?_
  go_region_held (fun W : World => W.cell? ⟨q, 0, none⟩ = some (.int .u32 a0) ∧ W.cell? ⟨q, 1, none⟩ = some (.int .i64 a1))
    (first
      | exact Sall.out _ K0.out
      | exact Sall.out _ Kc1.out
      | exact Sall.out _ Kc2.out)
    (first
      | (go_at_call 28; (with_reducible refine (Uint_v (.slice none 0 0) [] (a0 % top64) _ (base := 0) (ok := fun _ => True) (Kd.R_nil _ _ _ _ _) (by simp [beN_length]) (top_pos a0).1 (top_pos a0).2).mono ?_); rintro e wc1 ⟨vc1, rfl, hV, hb⟩; (have Kc1 := Aside0.mk (below_step K0.out hb)); (have Vc1 := Aside0.mk hV); clear hV hb)
      | (go_at_call 29; (with_reducible refine (Int_v vc1 _ a1 _ Vc1.out (by simp [beN_length])).mono ?_); rintro e wc2 ⟨vc2, rfl, hV, hb⟩; (have Kc2 := Aside0.mk (below_step Kc1.out hb)); (have Vc2 := Aside0.mk hV); clear hV hb))
  refine NoPanic.normal ?_
  go_wp2_with fail
  go_ret
  exact ⟨_, rfl, by rw [hq]; exact Kd.R_lower Vc2.out (by have := HB.out.size; have := Kc1.out.size; omega), by rw [hq]; exact HB.out.trans (below_weak_ Kc2.out (by have := HB.out.size; omega))⟩
def lbytes (x : S53) : List Int := beN 1 x.f0 ++ beN 8 (x.f1 % top64) ++ beN 8 (x.f2 % top64) ++ beN 8 (x.f3 % top64) ++ beN 8 (x.f4 % top64)
def ihead (a0 a1 a2 a4 a5 n : Int) : List Int := beN 8 (a0 % top64) ++ beN 8 (a1 % top64) ++ beN 8 (a2 % top64) ++ beN 8 (a4 % top64) ++ beN 8 (a5 % top64) ++ beN 8 (n % top64)
def einv (a0 a1 a2 a4 a5 : Int) (l : List S53) : List Int := ihead a0 a1 a2 a4 a5 l.length ++ (l.map lbytes).flatten
def einvput (a0 a1 a2 a4 a5 : Int) (l : List S53) : List Int × Int := if ebills a0 a1 a4 a5 l = true then (einv a0 a1 a2 a4 a5 l, 0) else ([], 1)
theorem lbytes_length (x : S53) : (lbytes x).length = 33 := by unfold lbytes; simp only [List.length_append, beN_length]
theorem lines_length (l : List S53) : ((l.map lbytes).flatten).length = 33 * l.length := by
  induction l with
  | nil => rfl
  | cons x l ih => simp only [List.map_cons, List.flatten_cons, List.length_append, List.length_cons, lbytes_length, ih]; omega
theorem ihead_length (a0 a1 a2 a4 a5 n : Int) : (ihead a0 a1 a2 a4 a5 n).length = 48 := by unfold ihead; simp only [List.length_append, beN_length]
theorem lbad_good {x : S53} (h : lbad x = false) : 1 ≤ x.f0 ∧ x.f0 ≤ 3 ∧ 0 ≤ x.f2 ∧ 0 ≤ x.f3 ∧ 0 ≤ x.f4 := by
  unfold lbad at h
  simp only [Bool.or_eq_false_iff, decide_eq_false_iff_not] at h
  omega
theorem putinvoice_no (a0 a1 a2 a4 a5 : Int) (A : Option Addr) (c : Nat) (l : List S53) (w : World) (hC : Kd.C k53 w A l.length l) (hno : ebills a0 a1 a4 a5 l = false) :
    Calls Try.prog 11 #[.agg #[.int .u32 a0, .int .u32 a1, .int .i64 a2, .slice A l.length c, .int .i64 a4, .int .i64 a5]] w fun e w' => e = .returned (.tuple #[.slice none 0 0, .int .i64 1]) ∧ Below w.heap.size w w' := by
  have kp := Aside0.mk (fun w hC => bills_calls a0 a1 a2 a4 a5 A c l w hC)
  rw [hno] at kp
  have HC := Aside0.mk hC
  clear hC hno
  go_enter Try.func11, Try.ntmps11
  go_wp2_with fail
  refine (kp.out _ (Kd.C_below HC.out (below_alloc (Below.refl _ _) _))).mono ?_
  rintro e w2 ⟨rfl, hb⟩
  have HB := Aside0.mk (below_step (below_alloc (Below.refl _ _) _) hb)
  clear hb
  go_wp2_with fail
  go_ret2
  exact ⟨rfl, HB.out⟩
set_option maxRecDepth 100000 in
set_option maxHeartbeats 6400000 in
theorem putinvoice_yes (a0 a1 a2 a4 a5 : Int) (A : Option Addr) (c : Nat) (l : List S53) (w : World) (hC : Kd.C k53 w A l.length l) (hyes : ebills a0 a1 a4 a5 l = true) :
    Calls Try.prog 11 #[.agg #[.int .u32 a0, .int .u32 a1, .int .i64 a2, .slice A l.length c, .int .i64 a4, .int .i64 a5]] w fun e w' => ∃ v : Value, e = .returned (.tuple #[v, .int .i64 0]) ∧ Kd.R (Kd.int .u8) 5 w' w.heap.size (fun _ => True) v (einv a0 a1 a2 a4 a5 l) ∧ Below w.heap.size w w' := by
  have kp := Aside0.mk (fun w hC => bills_calls a0 a1 a2 a4 a5 A c l w hC)
  rw [hyes] at kp
  have HC := Aside0.mk hC
  have e0 := u64_conv a0
  have e1 := u64_conv a1
  have e3 := u64_conv (l.length : Int)
  have hlen : l.length ≤ 28 ∧ l.any lbad = false := by
    unfold ebills at hyes
    simp only [Bool.and_eq_true, decide_eq_true_eq, Bool.not_eq_true'] at hyes
    exact ⟨by omega, hyes.2⟩
  have HLEN := Aside0.mk hlen
  have hl28 := hlen.1
  clear hC hyes hlen
  go_enter Try.func11, Try.ntmps11
  go_wp2_with fail
  refine (kp.out _ (Kd.C_below HC.out (below_alloc (Below.refl _ _) _))).mono ?_
  rintro e w2 ⟨rfl, hb⟩
  have hb1 := below_alloc (Below.refl w.heap.size w) (Obj.cells #[.int .u32 a0, .int .u32 a1, .int .i64 a2, .slice A l.length c, .int .i64 a4, .int .i64 a5] 30)
  have HB2 := Aside0.mk (below_step hb1 hb)
  obtain ⟨q, hq⟩ : ∃ q, w.heap.size = q := ⟨_, rfl⟩
  have HX2 : Aside0 (Blk w2 q (Obj.cells #[.int .u32 a0, .int .u32 a1, .int .i64 a2, .slice A l.length c, .int .i64 a4, .int .i64 a5] 30 (0, 0))) := ⟨(Blk.new (W := w) hq.symm).below hb⟩
  rw [hq] at HB2 ⊢
  clear hb hb1 kp
  go_wp2_with fail
  have K0 := Aside0.mk (below_drew (Below.refl w2.heap.size w2))
  have Sall : Aside0 (∀ W : World, Below w2.heap.size w2 W → W.cell? ⟨q, 0, none⟩ = some (.int .u32 a0) ∧ W.cell? ⟨q, 1, none⟩ = some (.int .u32 a1) ∧ W.cell? ⟨q, 2, none⟩ = some (.int .i64 a2)) := ⟨fun W hW => by
    have HX := HX2.out.below hW
    exact ⟨(HX.cell 0).trans rfl, (HX.cell 1).trans rfl, (HX.cell 2).trans rfl⟩⟩
  refine wp_region_noPanic ?_
  go_region_held (fun W : World => W.cell? ⟨q, 0, none⟩ = some (.int .u32 a0) ∧ W.cell? ⟨q, 1, none⟩ = some (.int .u32 a1) ∧ W.cell? ⟨q, 2, none⟩ = some (.int .i64 a2))
    (first
      | exact Sall.out _ K0.out
      | exact Sall.out _ Kc1.out
      | exact Sall.out _ Kc2.out
      | exact Sall.out _ Kc3.out)
    (first
      | (go_at_call 28; (with_reducible refine (Uint_v (.slice none 0 0) [] (a0 % top64) _ (base := 0) (ok := fun _ => True) (Kd.R_nil _ _ _ _ _) (by simp [beN_length]) (top_pos a0).1 (top_pos a0).2).mono ?_); rintro e wc1 ⟨vc1, rfl, hV, hb⟩; (have Kc1 := Aside0.mk (below_step K0.out hb)); (have Vc1 := Aside0.mk hV); clear hV hb)
      | (go_at_call 28; (with_reducible refine (Uint_v vc1 _ (a1 % top64) _ Vc1.out (by simp [beN_length]) (top_pos a1).1 (top_pos a1).2).mono ?_); rintro e wc2 ⟨vc2, rfl, hV, hb⟩; (have Kc2 := Aside0.mk (below_step Kc1.out hb)); (have Vc2 := Aside0.mk hV); clear hV hb)
      | (go_at_call 29; (with_reducible refine (Int_v vc2 _ a2 _ Vc2.out (by simp [beN_length])).mono ?_); rintro e wc3 ⟨vc3, rfl, hV, hb⟩; (have Kc3 := Aside0.mk (below_step Kc2.out hb)); (have Vc3 := Aside0.mk hV); clear hV hb))
  refine NoPanic.normal ?_
  have HX3 := Aside0.mk (HX2.out.below Kc3.out)
  have HB3 := Aside0.mk (HB2.out.trans (below_weak_ Kc3.out (Nat.le_of_lt HX2.out.lt)))
  clear HX2 HB2 K0 Kc1 Kc2 Kc3 Vc1 Vc2 Sall
  go_wp2_with fail
  have K3 := Aside0.mk (below_drew (Below.refl wc3.heap.size wc3))
  have Sall : Aside0 (∀ W : World, Below wc3.heap.size wc3 W → W.cell? ⟨q, 4, none⟩ = some (.int .i64 a4) ∧ W.cell? ⟨q, 5, none⟩ = some (.int .i64 a5) ∧ W.cell? ⟨q, 3, none⟩ = some (.slice A l.length c)) := ⟨fun W hW => by
    have HX := HX3.out.below hW
    exact ⟨(HX.cell 4).trans rfl, (HX.cell 5).trans rfl, (HX.cell 3).trans rfl⟩⟩
  refine wp_region_noPanic ?_
  go_region_held (fun W : World => W.cell? ⟨q, 4, none⟩ = some (.int .i64 a4) ∧ W.cell? ⟨q, 5, none⟩ = some (.int .i64 a5) ∧ W.cell? ⟨q, 3, none⟩ = some (.slice A l.length c))
    (first
      | exact Sall.out _ K3.out
      | exact Sall.out _ Kc4.out
      | exact Sall.out _ Kc5.out
      | exact Sall.out _ Kc6.out)
    (first
      | (go_at_call 29; (with_reducible refine (Int_v vc3 _ a4 _ (Kd.R_drew Vc3.out) (by simp [beN_length])).mono ?_); rintro e wc4 ⟨vc4, rfl, hV, hb⟩; (have Kc4 := Aside0.mk (below_step K3.out hb)); (have Vc4 := Aside0.mk hV); clear hV hb)
      | (go_at_call 29; (with_reducible refine (Int_v vc4 _ a5 _ Vc4.out (by simp [beN_length])).mono ?_); rintro e wc5 ⟨vc5, rfl, hV, hb⟩; (have Kc5 := Aside0.mk (below_step Kc4.out hb)); (have Vc5 := Aside0.mk hV); clear hV hb)
      | (go_at_call 28; (with_reducible refine (Uint_v vc5 _ ((l.length : Int) % top64) _ Vc5.out (by simp [beN_length]) (top_pos _).1 (top_pos _).2).mono ?_); rintro e wc6 ⟨vc6, rfl, hV, hb⟩; (have Kc6 := Aside0.mk (below_step Kc5.out hb)); (have Vc6 := Aside0.mk hV); clear hV hb))
  refine NoPanic.normal ?_
  have HX6 := Aside0.mk (HX3.out.below Kc6.out)
  have HB6 := Aside0.mk (HB3.out.trans (below_weak_ Kc6.out (Nat.le_of_lt HX3.out.lt)))
  have V6 : Aside0 (Kd.R (Kd.int .u8) 5 wc6 q (fun _ => True) vc6 (ihead a0 a1 a2 a4 a5 l.length ++ ((l.take 0).map lbytes).flatten)) := ⟨by
    have h1 := Kd.R_lower Vc6.out (by have := HB3.out.size; have := Kc5.out.size; have := HX3.out.lt; omega : q ≤ wc5.heap.size)
    simpa [ihead] using h1⟩
  have x3 := (HX6.out.cell 3).trans (rfl : _ = some (Value.slice A l.length c))
  clear HX3 HB3 K3 Kc4 Kc5 Kc6 Vc3 Vc4 Vc5 Vc6 Sall
  go_wp2_with fail
  go_loopw [4, 36] (fun b i wr => ∃ j : Nat, j ≤ l.length ∧ i = .int .i64 j ∧ Aside0 (Kd.R (Kd.int .u8) 5 wr q (fun _ => True) b (ihead a0 a1 a2 a4 a5 l.length ++ ((l.take j).map lbytes).flatten)) ∧ Aside0 (Below q w wr)) (fun _ i _ => l.length - (intOf i).toNat)
  case atStart => exact ⟨0, by omega, by rfl, V6, HB6⟩
  case round =>
    obtain ⟨j, hj, rfl, HVj, HBj⟩ := hrel
    by_cases hlt : j < l.length
    · obtain ⟨ad, e1, hx0, hx1, hx2, hx3, hx4⟩ := at_T53 (Kd.C_below HC.out (hq ▸ HBj.out)) j (by omega) (by omega)
      cases e1
      have hst := map_take l z53 lbytes j hlt
      have hrd : rd_T53 l (j : Int) = l.getD j z53 := rfl
      have hgood : lbad (rd_T53 l (j : Int)) = false := by
        rw [hrd, List.getD_eq_getElem?_getD, List.getElem?_eq_getElem hlt]
        exact any_mem HLEN.out.2 (List.getElem_mem hlt)
      rw [← hrd] at hst
      obtain ⟨⟨f0, f1, f2, f3, f4⟩, ht⟩ : ∃ t, rd_T53 l (j : Int) = t := ⟨_, rfl⟩
      rw [ht] at hx0 hx1 hx2 hx3 hx4 hst hgood
      have hf0 : 0 ≤ f0 ∧ f0 < 256 := by have h1 := (lbad_good hgood).1; have h2 := (lbad_good hgood).2.1; simp only at h1 h2; omega
      simp only [Int.toNat_natCast] at hx0 hx1 hx2 hx3 hx4
      have HL : Aside0 ((ihead a0 a1 a2 a4 a5 l.length ++ ((l.take j).map lbytes).flatten).length ≤ 10000) := ⟨by rw [List.length_append, ihead_length, lines_length, List.length_take]; omega⟩
      have HST := Aside0.mk hst
      have HF0 := Aside0.mk hf0
      have ec1 := u64_conv f1
      have ew9 : IntKind.i64.wrap ((j : Int) + 1) = (j : Int) + 1 := by rw [IntKind.wrap_i64]; omega
      have hj1 : (j : Int) < (l.length : Int) := by omega
      clear ht hrd hst hgood hf0
      go_wp2_with fail
      have hbx : Aside0 (Blk (wr.alloc (Obj.cells #[.int .u8 f0, .int .u32 f1, .int .i64 f2, .int .i64 f3, .int .i64 f4] 53)) wr.heap.size (Obj.cells #[.int .u8 f0, .int .u32 f1, .int .i64 f2, .int .i64 f3, .int .i64 f4] 53 (0, 0))) := ⟨Blk.new_⟩
      have HBa := Aside0.mk (HBj.out.trans (below_weak_ (below_alloc (Below.refl wr.heap.size wr) (Obj.cells #[.int .u8 f0, .int .u32 f1, .int .i64 f2, .int .i64 f3, .int .i64 f4] 53)) (by have := HBj.out.size; omega : q ≤ wr.heap.size)))
      have HVa := Aside0.mk (Kd.R_alloc HVj.out (Obj.cells #[.int .u8 f0, .int .u32 f1, .int .i64 f2, .int .i64 f3, .int .i64 f4] 53))
      obtain ⟨wa, hwa⟩ : ∃ W, wr.alloc (Obj.cells #[.int .u8 f0, .int .u32 f1, .int .i64 f2, .int .i64 f3, .int .i64 f4] 53) = W := ⟨_, rfl⟩
      obtain ⟨t, ht⟩ : ∃ t, wr.heap.size = t := ⟨_, rfl⟩
      rw [hwa] at hbx HBa HVa ⊢
      rw [ht] at hbx ⊢
      clear hx0 hx1 hx2 hx3 hx4 hwa ht
      have K0 := Aside0.mk (below_drew (Below.refl wa.heap.size wa))
      have Sall : Aside0 (∀ W : World, Below wa.heap.size wa W → W.cell? ⟨t, 0, none⟩ = some (.int .u8 f0) ∧ W.cell? ⟨t, 1, none⟩ = some (.int .u32 f1) ∧ W.cell? ⟨t, 2, none⟩ = some (.int .i64 f2) ∧ W.cell? ⟨t, 3, none⟩ = some (.int .i64 f3) ∧ W.cell? ⟨t, 4, none⟩ = some (.int .i64 f4)) := ⟨fun W hW => by
        have HX := hbx.out.below hW
        exact ⟨(HX.cell 0).trans rfl, (HX.cell 1).trans rfl, (HX.cell 2).trans rfl, (HX.cell 3).trans rfl, (HX.cell 4).trans rfl⟩⟩
      refine wp_region_noPanic ?_
      go_region_held (fun W : World => W.cell? ⟨t, 0, none⟩ = some (.int .u8 f0) ∧ W.cell? ⟨t, 1, none⟩ = some (.int .u32 f1) ∧ W.cell? ⟨t, 2, none⟩ = some (.int .i64 f2) ∧ W.cell? ⟨t, 3, none⟩ = some (.int .i64 f3) ∧ W.cell? ⟨t, 4, none⟩ = some (.int .i64 f4))
        (first
          | exact Sall.out _ K0.out
          | exact Sall.out _ Kc1.out
          | exact Sall.out _ Kc2.out
          | exact Sall.out _ Kc3.out
          | exact Sall.out _ Kc4.out
          | exact Sall.out _ Kc5.out)
        (first
          | (go_at_call 32; (with_reducible refine (Byte_v u4 _ f0 _ (Kd.R_drew HVa.out) (by have := HL.out; simp only [List.length_append, beN_length] at this ⊢; omega) HF0.out.1 HF0.out.2).mono ?_); rintro e wc1 ⟨vc1, rfl, hV, hb⟩; (have Kc1 := Aside0.mk (below_step K0.out hb)); (have Vc1 := Aside0.mk hV); clear hV hb)
          | (go_at_call 28; (with_reducible refine (Uint_v vc1 _ (f1 % top64) _ Vc1.out (by have := HL.out; simp only [List.length_append, beN_length] at this ⊢; omega) (top_pos f1).1 (top_pos f1).2).mono ?_); rintro e wc2 ⟨vc2, rfl, hV, hb⟩; (have Kc2 := Aside0.mk (below_step Kc1.out hb)); (have Vc2 := Aside0.mk hV); clear hV hb)
          | (go_at_call 29; (with_reducible refine (Int_v vc2 _ f2 _ Vc2.out (by have := HL.out; simp only [List.length_append, beN_length] at this ⊢; omega)).mono ?_); rintro e wc3 ⟨vc3, rfl, hV, hb⟩; (have Kc3 := Aside0.mk (below_step Kc2.out hb)); (have Vc3 := Aside0.mk hV); clear hV hb)
          | (go_at_call 29; (with_reducible refine (Int_v vc3 _ f3 _ Vc3.out (by have := HL.out; simp only [List.length_append, beN_length] at this ⊢; omega)).mono ?_); rintro e wc4 ⟨vc4, rfl, hV, hb⟩; (have Kc4 := Aside0.mk (below_step Kc3.out hb)); (have Vc4 := Aside0.mk hV); clear hV hb)
          | (go_at_call 29; (with_reducible refine (Int_v vc4 _ f4 _ Vc4.out (by have := HL.out; simp only [List.length_append, beN_length] at this ⊢; omega)).mono ?_); rintro e wc5 ⟨vc5, rfl, hV, hb⟩; (have Kc5 := Aside0.mk (below_step Kc4.out hb)); (have Vc5 := Aside0.mk hV); clear hV hb))
      refine NoPanic.normal ?_
      have HB8 : Aside0 (Below q w wc5) := ⟨HBa.out.trans (below_weak_ Kc5.out (by have := HBa.out.size; omega))⟩
      have HV8 : Aside0 (Kd.R (Kd.int .u8) 5 wc5 q (fun _ => True) vc5 (ihead a0 a1 a2 a4 a5 l.length ++ ((l.take (j + 1)).map lbytes).flatten)) := ⟨by
        have h1 := Kd.R_lower Vc5.out (by have := HBa.out.size; have := Kc4.out.size; omega : q ≤ wc4.heap.size)
        rw [HST.out, show lbytes ⟨f0, f1, f2, f3, f4⟩ = beN 1 f0 ++ beN 8 (f1 % top64) ++ beN 8 (f2 % top64) ++ beN 8 (f3 % top64) ++ beN 8 (f4 % top64) from rfl]
        simpa only [List.append_assoc] using h1⟩
      clear Vc1 Vc2 Vc3 Vc4 Vc5 K0 Kc1 Kc2 Kc3 Kc4 Kc5 HVa HBa HST HL hbx Sall
      go_wp2_with fail
      exact ⟨⟨j + 1, by omega, by simp, HV8, HB8⟩, by simp [intOf]; omega⟩
    · obtain rfl : j = l.length := by omega
      rw [List.take_length] at HVj
      go_wp2_with fail
      go_ret2
      exact ⟨_, rfl, by rw [hq]; exact HVj.out, by rw [hq]; exact HBj.out⟩
theorem PutInvoice_all (a0 a1 a2 a4 a5 : Int) (A : Option Addr) (c : Nat) (l : List S53) (w : World) (hC : Kd.C k53 w A l.length l) :
    Calls Try.prog 11 #[.agg #[.int .u32 a0, .int .u32 a1, .int .i64 a2, .slice A l.length c, .int .i64 a4, .int .i64 a5]] w fun e w' => ∃ v : Value, e = .returned (.tuple #[v, .int .i64 (einvput a0 a1 a2 a4 a5 l).2]) ∧ Kd.R (Kd.int .u8) 5 w' w.heap.size (fun _ => True) v (einvput a0 a1 a2 a4 a5 l).1 ∧ Below w.heap.size w w' := by
  cases hq : ebills a0 a1 a4 a5 l with
  | true =>
    have e : einvput a0 a1 a2 a4 a5 l = (einv a0 a1 a2 a4 a5 l, 0) := by unfold einvput; rw [if_pos hq]
    rw [e]
    exact putinvoice_yes a0 a1 a2 a4 a5 A c l w hC hq
  | false =>
    have e : einvput a0 a1 a2 a4 a5 l = ([], 1) := by unfold einvput; rw [if_neg (by rw [hq]; decide)]
    rw [e]
    refine (putinvoice_no a0 a1 a2 a4 a5 A c l w hC hq).mono ?_
    rintro e w' ⟨rfl, hb⟩
    exact ⟨_, rfl, Kd.R_nil _ _ _ _ _, hb⟩
end Go.Proofs.Ytdfmganmchmbjaa.Ext
