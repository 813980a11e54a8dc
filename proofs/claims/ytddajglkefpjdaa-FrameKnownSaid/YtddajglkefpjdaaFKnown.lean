/- FrameKnown, proved by walking its code. -/
import Derived.Test.YtddajglkefpjdaaFExt
namespace Go.Proofs.Ytddajglkefpjdaa.Ext
open Go.RowKit Go.Proofs.YtddajglkefpjdaaW.PrintWords Go.Proofs.YtddajglkefpjdaaW.PrintLast Go.Proofs.YtddajglkefpjdaaW.PrintMore Go.Proofs.YtddajglkefpjdaaW.Hand
set_option linter.unusedVariables false
theorem beVal_zs : ∀ n, beVal (zs n) = 0 := by
  intro n
  induction n with
  | zero => rfl
  | succ n ih => rw [zs_add]; rw [show zs 1 = [0] from rfl, beVal_snoc, ih]; rfl
theorem zs_take (n m : Nat) (h : m ≤ n) : (zs n).take m = zs m := by unfold zs; rw [List.take_replicate, Nat.min_eq_left h]
theorem zs_get (at_ kind : Int) : fgetv (zs 4096) at_ kind = ([], 0, false) := by
  have hu : (⟨zs 4096, false⟩ : Rs).uint.1 = 0 := by
    rw [uint_of _ (by rw [zs_length]; decide)]
    show beVal ((zs 4096).take 8) = 0
    rw [zs_take _ _ (by decide), beVal_zs]
  unfold fgetv
  rw [if_neg (fun h => h.2.1.2.2 hu)]
theorem zs_new : fnewv (zs 4096) = 0 := by
  have hs : ∀ k, k < 8 → fsec (zs 4096) k = 0 := by
    intro k hk
    unfold fsec
    rw [zs_drop, zs_take _ _ (by omega), uint_of _ (by rw [zs_length]; decide)]
    show beVal ((zs 8).take 8) = 0
    rw [zs_take _ _ (by decide), beVal_zs]
  unfold fnewv
  rw [if_pos (zs_length _)]
  have e : List.range 8 = [0, 1, 2, 3, 4, 5, 6, 7] := rfl
  unfold fnewest
  rw [e]
  simp only [List.foldl_cons, List.foldl_nil, hs 0 (by decide), hs 1 (by decide), hs 2 (by decide), hs 3 (by decide), hs 4 (by decide), hs 5 (by decide), hs 6 (by decide), hs 7 (by decide)]
  rfl
theorem known_put : fputv 0 255 18446744073709551615 (zs 4011) = (fframe 0 255 18446744073709551615 (zs 4011), 0) := by
  unfold fputv; rw [if_neg (by omega), if_neg (by rw [zs_length]; decide)]
theorem known_len : (fframe 0 255 18446744073709551615 (zs 4011)).length = 4096 := fframe_length _ _ _ _ (by rw [zs_length]; decide)
theorem known_get : fgetv (fframe 0 255 18446744073709551615 (zs 4011)) 0 255 = (zs 4011, 18446744073709551615, true) :=
  (fgetv_frame 0 0 255 255 18446744073709551615 (zs 4011) (by rw [zs_length]; decide) (by decide) (by decide) (by decide) (by unfold top64; decide)).trans (if_pos ⟨rfl, rfl⟩)
theorem known_bytes : ∀ x ∈ fframe 0 255 18446744073709551615 (zs 4011), IsByte x := fframe_bytes _ _ _ _ (zs_mem _)
theorem made_C (w : World) (n : Nat) (hn : n ≤ 9223372036854775807) : Kd.C (Kd.int .u8) (w.alloc (Obj.cells (nums .u8 (zs n)).toArray 5)) (some ⟨w.heap.size, 0, none⟩) n (zs n) := by
  have := C_block (w := w.alloc (Obj.cells (nums .u8 (zs n)).toArray 5)) (k := .u8) (xs := zs n) (heap_new w _) (by simp) (by rw [zs_length]; exact hn)
  rwa [zs_length] at this
set_option maxRecDepth 100000 in
set_option maxHeartbeats 3200000 in
theorem FrameKnown.walk (w : World) : Calls Try.prog 7 #[] w fun e w' => e = .returned (.bool true) ∧ Below w.heap.size w w' := by
  have m1 : ∀ W : World, (Instr.makeSlice 23 (.int .i64 4011) (.int .i64 4011)).run Try.prog W = .ok (.slice (some ⟨W.heap.size, 0, none⟩) 4011 4011) (W.alloc (Obj.cells (nums .u8 (zs 4011)).toArray 5)) := make_zs 4011 (by decide)
  have m2 : ∀ W : World, (Instr.makeSlice 23 (.int .i64 4012) (.int .i64 4012)).run Try.prog W = .ok (.slice (some ⟨W.heap.size, 0, none⟩) 4012 4012) (W.alloc (Obj.cells (nums .u8 (zs 4012)).toArray 5)) := make_zs 4012 (by decide)
  have m3 : ∀ W : World, (Instr.makeSlice 23 (.int .i64 4096) (.int .i64 4096)).run Try.prog W = .ok (.slice (some ⟨W.heap.size, 0, none⟩) 4096 4096) (W.alloc (Obj.cells (nums .u8 (zs 4096)).toArray 5)) := make_zs 4096 (by decide)
  have c1 := Aside0.mk (fun w => made_C w 4011 (by decide))
  have c3 := Aside0.mk (fun w => made_C w 4096 (by decide))
  obtain ⟨Z1, hZ1⟩ : ∃ o : Obj, Obj.cells (nums .u8 (zs 4011)).toArray 5 = o := ⟨_, rfl⟩
  obtain ⟨Z2, hZ2⟩ : ∃ o : Obj, Obj.cells (nums .u8 (zs 4012)).toArray 5 = o := ⟨_, rfl⟩
  obtain ⟨Z3, hZ3⟩ : ∃ o : Obj, Obj.cells (nums .u8 (zs 4096)).toArray 5 = o := ⟨_, rfl⟩
  rw [hZ1] at m1 c1
  rw [hZ2] at m2
  rw [hZ3] at m3 c3
  clear hZ1 hZ2 hZ3
  have kp := known_put
  have kl := known_len
  have kg := known_get
  have kb := Aside0.mk known_bytes
  obtain ⟨F, hF⟩ : ∃ l, fframe 0 255 18446744073709551615 (zs 4011) = l := ⟨_, rfl⟩
  rw [hF] at kp kl kg kb
  clear hF
  have KP := Aside0.mk kp
  have KL := Aside0.mk kl
  have KG := Aside0.mk kg
  clear kp kl kg
  go_enter Try.func7, Try.ntmps7
  go_wp2_with fail
  refine (fPut_at 0 255 18446744073709551615 _ 4011 4011 (zs 4011) (zs_length _) F 0 4096 KL.out _ (c1.out w) (Nat.le_refl _) (by decide) (by unfold top64; decide) (by decide) KP.out).mono ?_
  rintro e w1 ⟨A1, k1, rfl, hl1, hc1, _, hb1⟩
  have C1 := Aside0.mk hc1
  have L1 := Aside0.mk hl1
  have HB1 := Aside0.mk (below_step (below_alloc (Below.refl w.heap.size w) Z1) hb1)
  clear hc1 hl1 hb1
  go_wp2_with fail
  refine (fGet_at A1 k1 4096 F KL.out kb.out 0 255 18446744073709551615 (zs 4011) true (by decide) w1 C1.out L1.out KG.out).mono ?_
  rw [zs_length]
  rintro e w2 ⟨A2, k2, rfl, _, hb2⟩
  have HB2 := Aside0.mk (below_step HB1.out hb2)
  clear hb2
  go_wp2_with fail
  refine (fPut_long 0 1 1 _ 4012 4012 _ (by decide) (by decide) (by decide) (by decide)).mono ?_
  rintro e w3 ⟨rfl, hb3⟩
  have HB3 := Aside0.mk (below_step (below_alloc HB2.out Z2) hb3)
  clear hb3
  go_wp2_with fail
  refine (fPut_bad 4096 1 1 none 0 0 _ (.inr (.inl (by decide)))).mono ?_
  rintro e w4 ⟨rfl, hb4⟩
  have HB4 := Aside0.mk (below_step HB3.out hb4)
  clear hb4
  go_wp2_with fail
  refine (fPut_bad (-1) 1 1 none 0 0 _ (.inl (by decide))).mono ?_
  rintro e w5 ⟨rfl, hb5⟩
  have HB5 := Aside0.mk (below_step HB4.out hb5)
  clear hb5
  go_wp2_with fail
  refine (fGet_at _ 4096 4096 (zs 4096) (zs_length _) (zs_mem _) 0 0 0 [] false (by decide) _ (c3.out w5) (Nat.le_refl _) (zs_get 0 0)).mono ?_
  rintro e w6 ⟨A6, k6, rfl, _, hb6⟩
  have HB6 := Aside0.mk (below_step (below_alloc HB5.out Z3) hb6)
  clear hb6
  go_wp2_with fail
  refine (fGet_short none 0 0 0 0 _ (by decide)).mono ?_
  rintro e w7 ⟨rfl, hb7⟩
  have HB7 := Aside0.mk (below_step HB6.out hb7)
  clear hb7
  go_wp2_with fail
  refine (fNew_at _ 4096 4096 (zs 4096) (zs_length _) (zs_mem _) 0 _ (c3.out w7) (Nat.le_refl _) zs_new).mono ?_
  rintro e w8 ⟨rfl, hb8⟩
  have HB8 := Aside0.mk (below_step (below_alloc HB7.out Z3) hb8)
  clear hb8
  go_wp2_with fail
  refine (fNew_short none 0 0 _ (by decide)).mono ?_
  rintro e w9 ⟨rfl, hb9⟩
  have HB9 := Aside0.mk (below_step HB8.out hb9)
  clear hb9
  go_wp2_with fail
  refine (goes_true _).mono ?_
  rintro e w10 ⟨rfl, hb10⟩
  have HB10 := Aside0.mk (below_step HB9.out hb10)
  clear hb10
  go_wp2_with fail
  go_ret
  exact ⟨rfl, HB10.out⟩
end Go.Proofs.Ytddajglkefpjdaa.Ext
