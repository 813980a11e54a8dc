/- EntryPuts, one of its cases (printed by mkputs.py). -/
import Derived.Test.YtdfmganmchmbjaaEPuts0
namespace Go.Proofs.Ytdfmganmchmbjaa.Ext
open Go.RowKit Go.Proofs.YtdfmganmchmbjaaW.PrintWords Go.Proofs.YtdfmganmchmbjaaW.PrintLast Go.Proofs.YtdfmganmchmbjaaW.PrintMore Go.Proofs.YtdfmganmchmbjaaW.Hand Go.Proofs.Ytdfmganmchmbjaa.PZ Go.Proofs.Ytdfmganmchmbjaa.PY
set_option linter.unusedVariables false
set_option linter.unusedSimpArgs false
set_option maxRecDepth 100000 in
set_option maxHeartbeats 6400000 in
theorem puts_ff (a0 a1 a2 b0 b1 b2 b4 b5 l0 l1 l2 l3 l4 k0 k1 : Int) (A B : Option Addr) (c d : Nat) (L : List S37) (M : List S53) (w : World) (hC : Kd.C k37 w A L.length L) (hc : L.length ≤ c) (hD : Kd.C k53 w B M.length M) (hd : M.length ≤ d) (ha : 0 ≤ a0 ∧ a0 < top64) (hb0 : 0 ≤ b0) (hb1 : 0 ≤ b1) (hg : PZ.quitrentlaw14_great.f 60 a0 a1 a2 L b0 b1 b2 M b4 b5 = some false) (hP : eposts a0 a1 L = false) (hI : ebills b0 b1 b4 b5 M = false) :
    Calls Try.prog 4 #[.agg #[.int .u64 a0, .int .i64 a1, .int .u32 a2, .slice A L.length c], .agg #[.int .u32 b0, .int .u32 b1, .int .i64 b2, .slice B M.length d, .int .i64 b4, .int .i64 b5], .agg #[.int .u32 l0, .int .i64 l1, .int .i64 l2, .int .i64 l3, .int .i64 l4], .agg #[.int .u32 k0, .int .i64 k1]] w fun e w' => e = .returned (.bool true) ∧ Below w.heap.size w w' := by
  have kg := Aside0.mk (fun w hC hD => PZ.quitrentlaw14_great.calls 60 a0 a1 a2 A c L b0 b1 b2 B d M b4 b5 false w hC hc hD hd hg)
  have hpr := posts_ref a0 a1 a2 L ha.1
  rw [hP] at hpr
  have hbr := bills_ref b0 b1 b2 b4 b5 M hb0 hb1
  rw [hI] at hbr
  have k12 := Aside0.mk (fun w hC => PY.quitrentref14_Posts.calls 60 a0 a1 a2 A c L _ w hC hc hpr)
  have k13 := Aside0.mk (fun w hD => PY.quitrentref14_Bills.calls 60 b0 b1 b2 B d M b4 b5 _ w hD hd hbr)
  have kp := Aside0.mk (fun w hC => putposting_no a0 a1 a2 A c L w hC hP)
  have ki := Aside0.mk (fun w hD => putinvoice_no b0 b1 b2 b4 b5 B d M w hD hI)
  have kl := Aside0.mk (fun w => elease_all l0 l1 l2 l3 l4 w)
  have kk := Aside0.mk (fun w => epack_all k0 k1 w)
  have kL := Aside0.mk (fun w => PY.quitrentref14_Lease.calls 60 l0 l1 l2 l3 l4 _ w (lease_ref l0 l1 l2 l3 l4))
  have kK := Aside0.mk (fun w => PY.quitrentref14_Pack.calls k0 k1 _ w (pack_ref k0 k1))
  have kgo := Aside0.mk (fun w => PZ.quitrentlaw14_goes.calls true w goes_is)
  obtain ⟨SL, hSL⟩ : ∃ s, strOfNums (eleaseb l0 l1 l2 l3 l4) = s := ⟨_, rfl⟩
  have HSL := Aside0.mk hSL
  obtain ⟨SK, hSK⟩ : ∃ s, strOfNums (epackb k0 k1) = s := ⟨_, rfl⟩
  have HSK := Aside0.mk hSK
  have HC := Aside0.mk hC
  have HD := Aside0.mk hD
  clear hC hD hc hd ha hb0 hb1 hg hP hI hpr hbr hSL hSK
  go_enter Try.func4, Try.ntmps4
  go_wp2_with fail
  have X0 : Aside0 (Blk ((((w.alloc (Obj.cells #[.int .u64 a0, .int .i64 a1, .int .u32 a2, .slice A L.length c] 26)).alloc (Obj.cells #[.int .u32 b0, .int .u32 b1, .int .i64 b2, .slice B M.length d, .int .i64 b4, .int .i64 b5] 30)).alloc (Obj.cells #[.int .u32 l0, .int .i64 l1, .int .i64 l2, .int .i64 l3, .int .i64 l4] 40)).alloc (Obj.cells #[.int .u32 k0, .int .i64 k1] 42)) w.heap.size (Obj.cells #[.int .u64 a0, .int .i64 a1, .int .u32 a2, .slice A L.length c] 26 (0, 0))) := ⟨Blk.new_.alloc.alloc.alloc⟩
  have X1 : Aside0 (Blk ((((w.alloc (Obj.cells #[.int .u64 a0, .int .i64 a1, .int .u32 a2, .slice A L.length c] 26)).alloc (Obj.cells #[.int .u32 b0, .int .u32 b1, .int .i64 b2, .slice B M.length d, .int .i64 b4, .int .i64 b5] 30)).alloc (Obj.cells #[.int .u32 l0, .int .i64 l1, .int .i64 l2, .int .i64 l3, .int .i64 l4] 40)).alloc (Obj.cells #[.int .u32 k0, .int .i64 k1] 42)) (w.heap.size + 1) (Obj.cells #[.int .u32 b0, .int .u32 b1, .int .i64 b2, .slice B M.length d, .int .i64 b4, .int .i64 b5] 30 (0, 0))) := ⟨(Blk.new (by rw [size_alloc])).alloc.alloc⟩
  have X2 : Aside0 (Blk ((((w.alloc (Obj.cells #[.int .u64 a0, .int .i64 a1, .int .u32 a2, .slice A L.length c] 26)).alloc (Obj.cells #[.int .u32 b0, .int .u32 b1, .int .i64 b2, .slice B M.length d, .int .i64 b4, .int .i64 b5] 30)).alloc (Obj.cells #[.int .u32 l0, .int .i64 l1, .int .i64 l2, .int .i64 l3, .int .i64 l4] 40)).alloc (Obj.cells #[.int .u32 k0, .int .i64 k1] 42)) (w.heap.size + 2) (Obj.cells #[.int .u32 l0, .int .i64 l1, .int .i64 l2, .int .i64 l3, .int .i64 l4] 40 (0, 0))) := ⟨(Blk.new (by rw [size_alloc, size_alloc])).alloc⟩
  have X3 : Aside0 (Blk ((((w.alloc (Obj.cells #[.int .u64 a0, .int .i64 a1, .int .u32 a2, .slice A L.length c] 26)).alloc (Obj.cells #[.int .u32 b0, .int .u32 b1, .int .i64 b2, .slice B M.length d, .int .i64 b4, .int .i64 b5] 30)).alloc (Obj.cells #[.int .u32 l0, .int .i64 l1, .int .i64 l2, .int .i64 l3, .int .i64 l4] 40)).alloc (Obj.cells #[.int .u32 k0, .int .i64 k1] 42)) (w.heap.size + 3) (Obj.cells #[.int .u32 k0, .int .i64 k1] 42 (0, 0))) := ⟨Blk.new (by rw [size_alloc, size_alloc, size_alloc])⟩
  have HW : Aside0 (Below w.heap.size w ((((w.alloc (Obj.cells #[.int .u64 a0, .int .i64 a1, .int .u32 a2, .slice A L.length c] 26)).alloc (Obj.cells #[.int .u32 b0, .int .u32 b1, .int .i64 b2, .slice B M.length d, .int .i64 b4, .int .i64 b5] 30)).alloc (Obj.cells #[.int .u32 l0, .int .i64 l1, .int .i64 l2, .int .i64 l3, .int .i64 l4] 40)).alloc (Obj.cells #[.int .u32 k0, .int .i64 k1] 42))) := ⟨below_alloc (below_alloc (below_alloc (below_alloc (Below.refl _ _) _) _) _) _⟩
  obtain ⟨wa, hwa⟩ : ∃ W, ((((w.alloc (Obj.cells #[.int .u64 a0, .int .i64 a1, .int .u32 a2, .slice A L.length c] 26)).alloc (Obj.cells #[.int .u32 b0, .int .u32 b1, .int .i64 b2, .slice B M.length d, .int .i64 b4, .int .i64 b5] 30)).alloc (Obj.cells #[.int .u32 l0, .int .i64 l1, .int .i64 l2, .int .i64 l3, .int .i64 l4] 40)).alloc (Obj.cells #[.int .u32 k0, .int .i64 k1] 42)) = W := ⟨_, rfl⟩
  rw [hwa] at X0 X1 X2 X3 HW ⊢
  have HCa := Aside0.mk (Kd.C_below HC.out HW.out)
  have HDa := Aside0.mk (Kd.C_below HD.out HW.out)
  obtain ⟨q, hq⟩ : ∃ q, w.heap.size = q := ⟨_, rfl⟩
  rw [hq] at X0 X1 X2 X3 HW ⊢
  have hqa : q ≤ wa.heap.size := Nat.le_of_lt X0.out.lt
  have HQA := Aside0.mk hqa
  have XB : Aside0 (∀ W : World, Below wa.heap.size wa W → (W.cell? ⟨q, 0, none⟩ = some (.int .u64 a0) ∧ W.cell? ⟨q, 1, none⟩ = some (.int .i64 a1) ∧ W.cell? ⟨q, 2, none⟩ = some (.int .u32 a2) ∧ W.cell? ⟨q, 3, none⟩ = some (.slice A L.length c) ∧ W.cell? ⟨q + 1, 0, none⟩ = some (.int .u32 b0) ∧ W.cell? ⟨q + 1, 1, none⟩ = some (.int .u32 b1) ∧ W.cell? ⟨q + 1, 2, none⟩ = some (.int .i64 b2) ∧ W.cell? ⟨q + 1, 3, none⟩ = some (.slice B M.length d) ∧ W.cell? ⟨q + 1, 4, none⟩ = some (.int .i64 b4) ∧ W.cell? ⟨q + 1, 5, none⟩ = some (.int .i64 b5)) ∧ (W.cell? ⟨q + 2, 0, none⟩ = some (.int .u32 l0) ∧ W.cell? ⟨q + 2, 1, none⟩ = some (.int .i64 l1) ∧ W.cell? ⟨q + 2, 2, none⟩ = some (.int .i64 l2) ∧ W.cell? ⟨q + 2, 3, none⟩ = some (.int .i64 l3) ∧ W.cell? ⟨q + 2, 4, none⟩ = some (.int .i64 l4) ∧ W.cell? ⟨q + 3, 0, none⟩ = some (.int .u32 k0) ∧ W.cell? ⟨q + 3, 1, none⟩ = some (.int .i64 k1))) := ⟨fun W hW => by
    have Y0 := X0.out.below hW
    have Y1 := X1.out.below hW
    have Y2 := X2.out.below hW
    have Y3 := X3.out.below hW
    exact ⟨⟨(Y0.cell 0).trans rfl, (Y0.cell 1).trans rfl, (Y0.cell 2).trans rfl, (Y0.cell 3).trans rfl, (Y1.cell 0).trans rfl, (Y1.cell 1).trans rfl, (Y1.cell 2).trans rfl, (Y1.cell 3).trans rfl, (Y1.cell 4).trans rfl, (Y1.cell 5).trans rfl⟩, ⟨(Y2.cell 0).trans rfl, (Y2.cell 1).trans rfl, (Y2.cell 2).trans rfl, (Y2.cell 3).trans rfl, (Y2.cell 4).trans rfl, (Y3.cell 0).trans rfl, (Y3.cell 1).trans rfl⟩⟩⟩
  have FIN : Aside0 (∀ W : World, Below wa.heap.size wa W → Below q w W) := ⟨fun W hW => HW.out.trans (below_weak_ hW HQA.out)⟩
  clear hwa X0 X1 X2 X3 HC HD hqa
  refine (kg.out wa HCa.out HDa.out).mono ?_
  rintro e w1 ⟨rfl, hb⟩
  have HB1 := Aside0.mk (hb)
  clear hb
  obtain ⟨⟨cp0, cp1, cp2, cp3, cv0, cv1, cv2, cv3, cv4, cv5⟩, ⟨cl0, cl1, cl2, cl3, cl4, ck0, ck1⟩⟩ := XB.out w1 HB1.out
  go_wp2_with fail
  clear cp0 cp1 cp2 cp3 cv0 cv1 cv2 cv3 cv4 cv5 cl0 cl1 cl2 cl3 cl4 ck0 ck1
  refine (kp.out w1 (Kd.C_below HCa.out HB1.out)).mono ?_
  rintro e w2 ⟨rfl, hb⟩
  have HB2 := Aside0.mk (below_step HB1.out hb)
  clear hb
  obtain ⟨⟨cp0, cp1, cp2, cp3, cv0, cv1, cv2, cv3, cv4, cv5⟩, ⟨cl0, cl1, cl2, cl3, cl4, ck0, ck1⟩⟩ := XB.out w2 HB2.out
  go_wp2_with fail
  clear cp0 cp1 cp2 cp3 cv0 cv1 cv2 cv3 cv4 cv5 cl0 cl1 cl2 cl3 cl4 ck0 ck1
  refine (ki.out w2 (Kd.C_below HDa.out HB2.out)).mono ?_
  rintro e w3 ⟨rfl, hb⟩
  have HB3 := Aside0.mk (below_step HB2.out hb)
  clear hb
  obtain ⟨⟨cp0, cp1, cp2, cp3, cv0, cv1, cv2, cv3, cv4, cv5⟩, ⟨cl0, cl1, cl2, cl3, cl4, ck0, ck1⟩⟩ := XB.out w3 HB3.out
  go_wp2_with fail
  clear cp0 cp1 cp2 cp3 cv0 cv1 cv2 cv3 cv4 cv5 cl0 cl1 cl2 cl3 cl4 ck0 ck1
  refine (k12.out w3 (Kd.C_below HCa.out HB3.out)).mono ?_
  rintro e w4 ⟨rfl, hb⟩
  have HB4 := Aside0.mk (below_step HB3.out hb)
  clear hb
  obtain ⟨⟨cp0, cp1, cp2, cp3, cv0, cv1, cv2, cv3, cv4, cv5⟩, ⟨cl0, cl1, cl2, cl3, cl4, ck0, ck1⟩⟩ := XB.out w4 HB4.out
  go_wp2_with fail
  clear cp0 cp1 cp2 cp3 cv0 cv1 cv2 cv3 cv4 cv5 cl0 cl1 cl2 cl3 cl4 ck0 ck1
  refine (k13.out w4 (Kd.C_below HDa.out HB4.out)).mono ?_
  rintro e w5 ⟨rfl, hb⟩
  have HB5 := Aside0.mk (below_step HB4.out hb)
  clear hb
  go_wp2_with fail
  refine wp_region_noPanic ?_
  refine wp_region_held_drew (S := fun W : World => True) (by kernel_rfl) ?_ (fun hHeld => ?_)
  · exact trivial
  refine wpAnyH_take (i := 0) (oi := { dst := some 38, op := Go.Op.move (Go.Operand.tmp 10), type := 32, pos := "law.go:44", after := #[], guard := none }) (v := ?v38_0) rfl (by kernel_rfl) (by kernel_rfl) (by kernel_rfl) (fun _ _ _ h => h) (Or.inl ⟨by rfl, ?hy38_0⟩) hHeld ?rest38_0
  case hy38_0 => (intro w hSw; (try dsimp only at hSw); go_simp <;> with_reducible rfl)
  try simp only [Act.put, List.setIfInBounds_toArray, List.set_cons_zero, List.set_cons_succ]
  refine wpAnyH_take (i := 1) (oi := { dst := some 39, op := Go.Op.binOp Go.BinOp.eql 32 (Go.Operand.tmp 38) (Go.Operand.const (Go.Value.int Go.IntKind.i64 0)) 32, type := 4, pos := "law.go:44", after := #[{ on := 0, ground := Go.Ground.data }], guard := none }) (v := ?v39_1) rfl (by kernel_rfl) (by kernel_rfl) (by kernel_rfl) (fun _ _ _ h => h) (Or.inl ⟨by rfl, ?hy39_1⟩) hHeld ?rest39_1
  case hy39_1 => (intro w hSw; (try dsimp only at hSw); go_simp <;> with_reducible rfl)
  try simp only [Act.put, List.setIfInBounds_toArray, List.set_cons_zero, List.set_cons_succ]
  refine wpAnyH_take (i := 2) (oi := { dst := some 40, op := Go.Op.move (Go.Operand.tmp 39), type := 4, pos := "law.go:44", after := #[{ on := 1, ground := Go.Ground.data }], guard := none }) (v := ?v40_2) rfl (by kernel_rfl) (by kernel_rfl) (by kernel_rfl) (fun _ _ _ h => h) (Or.inl ⟨by rfl, ?hy40_2⟩) hHeld ?rest40_2
  case hy40_2 => (intro w hSw; (try dsimp only at hSw); go_simp <;> with_reducible rfl)
  try simp only [Act.put, List.setIfInBounds_toArray, List.set_cons_zero, List.set_cons_succ]
  refine wpAnyH_take (i := 3) (oi := { dst := some 41, op := Go.Op.move (Go.Operand.tmp 9), type := 31, pos := "law.go:44", after := #[{ on := 2, ground := Go.Ground.guard }], guard := some (2, true) }) (v := undef) rfl (by kernel_rfl) (by kernel_rfl) (by kernel_rfl) (fun _ _ _ h => h) (Or.inr ⟨by rfl, rfl⟩) hHeld ?_
  try simp only [Act.put, List.setIfInBounds_toArray, List.set_cons_zero, List.set_cons_succ]
  refine wpAnyH_take (i := 4) (oi := { dst := some 42, op := Go.Op.convert 31 9 (Go.Operand.tmp 41), type := 9, pos := "law.go:44", after := #[{ on := 3, ground := Go.Ground.data }, { on := 2, ground := Go.Ground.guard }], guard := some (2, true) }) (v := undef) rfl (by kernel_rfl) (by kernel_rfl) (by kernel_rfl) (fun _ _ _ h => h) (Or.inr ⟨by rfl, rfl⟩) hHeld ?_
  try simp only [Act.put, List.setIfInBounds_toArray, List.set_cons_zero, List.set_cons_succ]
  refine wpAnyH_take (i := 5) (oi := { dst := some 43, op := Go.Op.load 26 (Go.Operand.tmp 4), type := 26, pos := "law.go:44", after := #[{ on := 2, ground := Go.Ground.guard }], guard := some (2, true) }) (v := undef) rfl (by kernel_rfl) (by kernel_rfl) (by kernel_rfl) (fun _ _ _ h => h) (Or.inr ⟨by rfl, rfl⟩) hHeld ?_
  try simp only [Act.put, List.setIfInBounds_toArray, List.set_cons_zero, List.set_cons_succ]
  refine wpAnyH_take (i := 6) (oi := { dst := some 44, op := Go.Op.call { callee := Go.Callee.value (Go.Operand.func 14), args := #[Go.Operand.tmp 43], argTypes := #[26] }, type := 31, pos := "law.go:44", after := #[{ on := 5, ground := Go.Ground.data }, { on := 2, ground := Go.Ground.chain }, { on := 2, ground := Go.Ground.guard }], guard := some (2, true) }) (v := undef) rfl (by kernel_rfl) (by kernel_rfl) (by kernel_rfl) (fun _ _ _ h => h) (Or.inr ⟨by rfl, rfl⟩) hHeld ?_
  try simp only [Act.put, List.setIfInBounds_toArray, List.set_cons_zero, List.set_cons_succ]
  refine wpAnyH_take (i := 7) (oi := { dst := some 45, op := Go.Op.convert 31 9 (Go.Operand.tmp 44), type := 9, pos := "law.go:44", after := #[{ on := 6, ground := Go.Ground.data }, { on := 2, ground := Go.Ground.guard }], guard := some (2, true) }) (v := undef) rfl (by kernel_rfl) (by kernel_rfl) (by kernel_rfl) (fun _ _ _ h => h) (Or.inr ⟨by rfl, rfl⟩) hHeld ?_
  try simp only [Act.put, List.setIfInBounds_toArray, List.set_cons_zero, List.set_cons_succ]
  refine wpAnyH_take (i := 8) (oi := { dst := some 46, op := Go.Op.binOp Go.BinOp.neq 9 (Go.Operand.tmp 42) (Go.Operand.tmp 45) 9, type := 4, pos := "law.go:44", after := #[{ on := 4, ground := Go.Ground.data }, { on := 7, ground := Go.Ground.data }, { on := 2, ground := Go.Ground.guard }], guard := some (2, true) }) (v := undef) rfl (by kernel_rfl) (by kernel_rfl) (by kernel_rfl) (fun _ _ _ h => h) (Or.inr ⟨by rfl, rfl⟩) hHeld ?_
  try simp only [Act.put, List.setIfInBounds_toArray, List.set_cons_zero, List.set_cons_succ]
  refine wpAnyH_take (i := 9) (oi := { dst := some 47, op := Go.Op.pick (Go.Operand.tmp 40) (Go.Operand.tmp 46) (Go.Operand.const (Go.Value.bool false)), type := 4, pos := "law.go:44", after := #[{ on := 2, ground := Go.Ground.data }, { on := 8, ground := Go.Ground.data }], guard := none }) (v := ?v47_9) rfl (by kernel_rfl) (by kernel_rfl) (by kernel_rfl) (fun _ _ _ h => h) (Or.inl ⟨by rfl, ?hy47_9⟩) hHeld ?rest47_9
  case hy47_9 => (intro w hSw; (try dsimp only at hSw); go_simp <;> with_reducible rfl)
  try simp only [Act.put, List.setIfInBounds_toArray, List.set_cons_zero, List.set_cons_succ]
  refine wpAnyH_take (i := 10) (oi := { dst := some 48, op := Go.Op.move (Go.Operand.tmp 47), type := 4, pos := "law.go:44", after := #[{ on := 9, ground := Go.Ground.data }, { on := 6, ground := Go.Ground.chain }], guard := none }) (v := ?v48_10) rfl (by kernel_rfl) (by kernel_rfl) (by kernel_rfl) (fun _ _ _ h => h) (Or.inl ⟨by rfl, ?hy48_10⟩) hHeld ?rest48_10
  case hy48_10 => (intro w hSw; (try dsimp only at hSw); go_simp <;> with_reducible rfl)
  try simp only [Act.put, List.setIfInBounds_toArray, List.set_cons_zero, List.set_cons_succ]
  refine wpAnyH_take (i := 11) (oi := { dst := some 49, op := Go.Op.move (Go.Operand.tmp 10), type := 32, pos := "law.go:44", after := #[{ on := 10, ground := Go.Ground.guard }], guard := some (10, false) }) (v := ?v49_11) rfl (by kernel_rfl) (by kernel_rfl) (by kernel_rfl) (fun _ _ _ h => h) (Or.inl ⟨by rfl, ?hy49_11⟩) hHeld ?rest49_11
  case hy49_11 => (intro w hSw; (try dsimp only at hSw); go_simp <;> with_reducible rfl)
  try simp only [Act.put, List.setIfInBounds_toArray, List.set_cons_zero, List.set_cons_succ]
  refine wpAnyH_take (i := 12) (oi := { dst := some 50, op := Go.Op.binOp Go.BinOp.neq 32 (Go.Operand.tmp 49) (Go.Operand.const (Go.Value.int Go.IntKind.i64 0)) 32, type := 4, pos := "law.go:44", after := #[{ on := 11, ground := Go.Ground.data }, { on := 10, ground := Go.Ground.guard }], guard := some (10, false) }) (v := ?v50_12) rfl (by kernel_rfl) (by kernel_rfl) (by kernel_rfl) (fun _ _ _ h => h) (Or.inl ⟨by rfl, ?hy50_12⟩) hHeld ?rest50_12
  case hy50_12 => (intro w hSw; (try dsimp only at hSw); go_simp <;> with_reducible rfl)
  try simp only [Act.put, List.setIfInBounds_toArray, List.set_cons_zero, List.set_cons_succ]
  refine wpAnyH_take (i := 13) (oi := { dst := some 51, op := Go.Op.move (Go.Operand.tmp 50), type := 4, pos := "law.go:44", after := #[{ on := 12, ground := Go.Ground.data }, { on := 10, ground := Go.Ground.chain }, { on := 10, ground := Go.Ground.guard }], guard := some (10, false) }) (v := ?v51_13) rfl (by kernel_rfl) (by kernel_rfl) (by kernel_rfl) (fun _ _ _ h => h) (Or.inl ⟨by rfl, ?hy51_13⟩) hHeld ?rest51_13
  case hy51_13 => (intro w hSw; (try dsimp only at hSw); go_simp <;> with_reducible rfl)
  try simp only [Act.put, List.setIfInBounds_toArray, List.set_cons_zero, List.set_cons_succ]
  refine wpAnyH_take (i := 14) (oi := { dst := some 52, op := Go.Op.move (Go.Operand.tmp 10), type := 32, pos := "law.go:44", after := #[{ on := 13, ground := Go.Ground.guard }], guard := some (13, true) }) (v := ?v52_14) rfl (by kernel_rfl) (by kernel_rfl) (by kernel_rfl) (fun _ _ _ h => h) (Or.inl ⟨by rfl, ?hy52_14⟩) hHeld ?rest52_14
  case hy52_14 => (intro w hSw; (try dsimp only at hSw); go_simp <;> with_reducible rfl)
  try simp only [Act.put, List.setIfInBounds_toArray, List.set_cons_zero, List.set_cons_succ]
  refine wpAnyH_take (i := 15) (oi := { dst := some 53, op := Go.Op.binOp Go.BinOp.neq 32 (Go.Operand.tmp 52) (Go.Operand.const (Go.Value.int Go.IntKind.i64 1)) 32, type := 4, pos := "law.go:44", after := #[{ on := 14, ground := Go.Ground.data }, { on := 13, ground := Go.Ground.guard }], guard := some (13, true) }) (v := ?v53_15) rfl (by kernel_rfl) (by kernel_rfl) (by kernel_rfl) (fun _ _ _ h => h) (Or.inl ⟨by rfl, ?hy53_15⟩) hHeld ?rest53_15
  case hy53_15 => (intro w hSw; (try dsimp only at hSw); go_simp <;> with_reducible rfl)
  try simp only [Act.put, List.setIfInBounds_toArray, List.set_cons_zero, List.set_cons_succ]
  refine wpAnyH_take (i := 16) (oi := { dst := some 54, op := Go.Op.move (Go.Operand.tmp 53), type := 4, pos := "law.go:44", after := #[{ on := 15, ground := Go.Ground.data }, { on := 13, ground := Go.Ground.chain }, { on := 13, ground := Go.Ground.guard }], guard := some (13, true) }) (v := ?v54_16) rfl (by kernel_rfl) (by kernel_rfl) (by kernel_rfl) (fun _ _ _ h => h) (Or.inl ⟨by rfl, ?hy54_16⟩) hHeld ?rest54_16
  case hy54_16 => (intro w hSw; (try dsimp only at hSw); go_simp <;> with_reducible rfl)
  try simp only [Act.put, List.setIfInBounds_toArray, List.set_cons_zero, List.set_cons_succ]
  refine wpAnyH_take (i := 17) (oi := { dst := some 55, op := Go.Op.move (Go.Operand.tmp 9), type := 31, pos := "law.go:44", after := #[{ on := 16, ground := Go.Ground.guard }], guard := some (16, false) }) (v := ?v55_17) rfl (by kernel_rfl) (by kernel_rfl) (by kernel_rfl) (fun _ _ _ h => h) (Or.inl ⟨by rfl, ?hy55_17⟩) hHeld ?rest55_17
  case hy55_17 => (intro w hSw; (try dsimp only at hSw); go_simp <;> with_reducible rfl)
  try simp only [Act.put, List.setIfInBounds_toArray, List.set_cons_zero, List.set_cons_succ]
  refine wpAnyH_take (i := 18) (oi := { dst := some 56, op := Go.Op.call { callee := Go.Callee.builtin Go.Builtin.len, args := #[Go.Operand.tmp 55], argTypes := #[31] }, type := 3, pos := "law.go:44", after := #[{ on := 17, ground := Go.Ground.data }, { on := 16, ground := Go.Ground.guard }], guard := some (16, false) }) (v := ?v56_18) rfl (by kernel_rfl) (by kernel_rfl) (by kernel_rfl) (fun _ _ _ h => h) (Or.inl ⟨by rfl, ?hy56_18⟩) hHeld ?rest56_18
  case hy56_18 => (intro w hSw; (try dsimp only at hSw); go_simp <;> with_reducible rfl)
  try simp only [Act.put, List.setIfInBounds_toArray, List.set_cons_zero, List.set_cons_succ]
  refine wpAnyH_take (i := 19) (oi := { dst := some 57, op := Go.Op.binOp Go.BinOp.neq 3 (Go.Operand.tmp 56) (Go.Operand.const (Go.Value.int Go.IntKind.i64 0)) 3, type := 4, pos := "law.go:44", after := #[{ on := 18, ground := Go.Ground.data }, { on := 16, ground := Go.Ground.guard }], guard := some (16, false) }) (v := ?v57_19) rfl (by kernel_rfl) (by kernel_rfl) (by kernel_rfl) (fun _ _ _ h => h) (Or.inl ⟨by rfl, ?hy57_19⟩) hHeld ?rest57_19
  case hy57_19 => (intro w hSw; (try dsimp only at hSw); go_simp <;> with_reducible rfl)
  try simp only [Act.put, List.setIfInBounds_toArray, List.set_cons_zero, List.set_cons_succ]
  refine wpAnyH_take (i := 20) (oi := { dst := some 58, op := Go.Op.pick (Go.Operand.tmp 54) (Go.Operand.const (Go.Value.bool true)) (Go.Operand.tmp 57), type := 4, pos := "law.go:44", after := #[{ on := 16, ground := Go.Ground.data }, { on := 19, ground := Go.Ground.data }, { on := 13, ground := Go.Ground.guard }], guard := some (13, true) }) (v := ?v58_20) rfl (by kernel_rfl) (by kernel_rfl) (by kernel_rfl) (fun _ _ _ h => h) (Or.inl ⟨by rfl, ?hy58_20⟩) hHeld ?rest58_20
  case hy58_20 => (intro w hSw; (try dsimp only at hSw); go_simp <;> with_reducible rfl)
  try simp only [Act.put, List.setIfInBounds_toArray, List.set_cons_zero, List.set_cons_succ]
  refine wpAnyH_take (i := 21) (oi := { dst := some 59, op := Go.Op.pick (Go.Operand.tmp 51) (Go.Operand.tmp 58) (Go.Operand.const (Go.Value.bool false)), type := 4, pos := "law.go:44", after := #[{ on := 13, ground := Go.Ground.data }, { on := 20, ground := Go.Ground.data }, { on := 10, ground := Go.Ground.guard }], guard := some (10, false) }) (v := ?v59_21) rfl (by kernel_rfl) (by kernel_rfl) (by kernel_rfl) (fun _ _ _ h => h) (Or.inl ⟨by rfl, ?hy59_21⟩) hHeld ?rest59_21
  case hy59_21 => (intro w hSw; (try dsimp only at hSw); go_simp <;> with_reducible rfl)
  try simp only [Act.put, List.setIfInBounds_toArray, List.set_cons_zero, List.set_cons_succ]
  refine wpAnyH_take (i := 22) (oi := { dst := some 60, op := Go.Op.pick (Go.Operand.tmp 48) (Go.Operand.const (Go.Value.bool true)) (Go.Operand.tmp 59), type := 4, pos := "law.go:44", after := #[{ on := 10, ground := Go.Ground.data }, { on := 21, ground := Go.Ground.data }], guard := none }) (v := ?v60_22) rfl (by kernel_rfl) (by kernel_rfl) (by kernel_rfl) (fun _ _ _ h => h) (Or.inl ⟨by rfl, ?hy60_22⟩) hHeld ?rest60_22
  case hy60_22 => (intro w hSw; (try dsimp only at hSw); go_simp <;> with_reducible rfl)
  try simp only [Act.put, List.setIfInBounds_toArray, List.set_cons_zero, List.set_cons_succ]
  refine wpAnyH_done (by kernel_rfl) ?_ _
  refine NoPanic.normal ?_
  have HB6 := Aside0.mk (HB5.out.trans (below_weak_ (below_drew (Below.refl w5.heap.size w5)) HB5.out.size))
  obtain ⟨w6, hw6⟩ : ∃ W, w5.drew = W := ⟨_, rfl⟩
  rw [hw6] at HB6 ⊢
  clear hw6
  go_wp2_with fail
  refine wp_region_noPanic ?_
  refine wp_region_held_drew (S := fun W : World => True) (by kernel_rfl) ?_ (fun hHeld => ?_)
  · exact trivial
  refine wpAnyH_take (i := 0) (oi := { dst := some 61, op := Go.Op.move (Go.Operand.tmp 12), type := 32, pos := "law.go:47", after := #[], guard := none }) (v := ?v61_0) rfl (by kernel_rfl) (by kernel_rfl) (by kernel_rfl) (fun _ _ _ h => h) (Or.inl ⟨by rfl, ?hy61_0⟩) hHeld ?rest61_0
  case hy61_0 => (intro w hSw; (try dsimp only at hSw); go_simp <;> with_reducible rfl)
  try simp only [Act.put, List.setIfInBounds_toArray, List.set_cons_zero, List.set_cons_succ]
  refine wpAnyH_take (i := 1) (oi := { dst := some 62, op := Go.Op.binOp Go.BinOp.eql 32 (Go.Operand.tmp 61) (Go.Operand.const (Go.Value.int Go.IntKind.i64 0)) 32, type := 4, pos := "law.go:47", after := #[{ on := 0, ground := Go.Ground.data }], guard := none }) (v := ?v62_1) rfl (by kernel_rfl) (by kernel_rfl) (by kernel_rfl) (fun _ _ _ h => h) (Or.inl ⟨by rfl, ?hy62_1⟩) hHeld ?rest62_1
  case hy62_1 => (intro w hSw; (try dsimp only at hSw); go_simp <;> with_reducible rfl)
  try simp only [Act.put, List.setIfInBounds_toArray, List.set_cons_zero, List.set_cons_succ]
  refine wpAnyH_take (i := 2) (oi := { dst := some 63, op := Go.Op.move (Go.Operand.tmp 62), type := 4, pos := "law.go:47", after := #[{ on := 1, ground := Go.Ground.data }], guard := none }) (v := ?v63_2) rfl (by kernel_rfl) (by kernel_rfl) (by kernel_rfl) (fun _ _ _ h => h) (Or.inl ⟨by rfl, ?hy63_2⟩) hHeld ?rest63_2
  case hy63_2 => (intro w hSw; (try dsimp only at hSw); go_simp <;> with_reducible rfl)
  try simp only [Act.put, List.setIfInBounds_toArray, List.set_cons_zero, List.set_cons_succ]
  refine wpAnyH_take (i := 3) (oi := { dst := some 64, op := Go.Op.move (Go.Operand.tmp 11), type := 31, pos := "law.go:47", after := #[{ on := 2, ground := Go.Ground.guard }], guard := some (2, true) }) (v := undef) rfl (by kernel_rfl) (by kernel_rfl) (by kernel_rfl) (fun _ _ _ h => h) (Or.inr ⟨by rfl, rfl⟩) hHeld ?_
  try simp only [Act.put, List.setIfInBounds_toArray, List.set_cons_zero, List.set_cons_succ]
  refine wpAnyH_take (i := 4) (oi := { dst := some 65, op := Go.Op.convert 31 9 (Go.Operand.tmp 64), type := 9, pos := "law.go:47", after := #[{ on := 3, ground := Go.Ground.data }, { on := 2, ground := Go.Ground.guard }], guard := some (2, true) }) (v := undef) rfl (by kernel_rfl) (by kernel_rfl) (by kernel_rfl) (fun _ _ _ h => h) (Or.inr ⟨by rfl, rfl⟩) hHeld ?_
  try simp only [Act.put, List.setIfInBounds_toArray, List.set_cons_zero, List.set_cons_succ]
  refine wpAnyH_take (i := 5) (oi := { dst := some 66, op := Go.Op.load 30 (Go.Operand.tmp 5), type := 30, pos := "law.go:47", after := #[{ on := 2, ground := Go.Ground.guard }], guard := some (2, true) }) (v := undef) rfl (by kernel_rfl) (by kernel_rfl) (by kernel_rfl) (fun _ _ _ h => h) (Or.inr ⟨by rfl, rfl⟩) hHeld ?_
  try simp only [Act.put, List.setIfInBounds_toArray, List.set_cons_zero, List.set_cons_succ]
  refine wpAnyH_take (i := 6) (oi := { dst := some 67, op := Go.Op.call { callee := Go.Callee.value (Go.Operand.func 15), args := #[Go.Operand.tmp 66], argTypes := #[30] }, type := 31, pos := "law.go:47", after := #[{ on := 5, ground := Go.Ground.data }, { on := 2, ground := Go.Ground.chain }, { on := 2, ground := Go.Ground.guard }], guard := some (2, true) }) (v := undef) rfl (by kernel_rfl) (by kernel_rfl) (by kernel_rfl) (fun _ _ _ h => h) (Or.inr ⟨by rfl, rfl⟩) hHeld ?_
  try simp only [Act.put, List.setIfInBounds_toArray, List.set_cons_zero, List.set_cons_succ]
  refine wpAnyH_take (i := 7) (oi := { dst := some 68, op := Go.Op.convert 31 9 (Go.Operand.tmp 67), type := 9, pos := "law.go:47", after := #[{ on := 6, ground := Go.Ground.data }, { on := 2, ground := Go.Ground.guard }], guard := some (2, true) }) (v := undef) rfl (by kernel_rfl) (by kernel_rfl) (by kernel_rfl) (fun _ _ _ h => h) (Or.inr ⟨by rfl, rfl⟩) hHeld ?_
  try simp only [Act.put, List.setIfInBounds_toArray, List.set_cons_zero, List.set_cons_succ]
  refine wpAnyH_take (i := 8) (oi := { dst := some 69, op := Go.Op.binOp Go.BinOp.neq 9 (Go.Operand.tmp 65) (Go.Operand.tmp 68) 9, type := 4, pos := "law.go:47", after := #[{ on := 4, ground := Go.Ground.data }, { on := 7, ground := Go.Ground.data }, { on := 2, ground := Go.Ground.guard }], guard := some (2, true) }) (v := undef) rfl (by kernel_rfl) (by kernel_rfl) (by kernel_rfl) (fun _ _ _ h => h) (Or.inr ⟨by rfl, rfl⟩) hHeld ?_
  try simp only [Act.put, List.setIfInBounds_toArray, List.set_cons_zero, List.set_cons_succ]
  refine wpAnyH_take (i := 9) (oi := { dst := some 70, op := Go.Op.pick (Go.Operand.tmp 63) (Go.Operand.tmp 69) (Go.Operand.const (Go.Value.bool false)), type := 4, pos := "law.go:47", after := #[{ on := 2, ground := Go.Ground.data }, { on := 8, ground := Go.Ground.data }], guard := none }) (v := ?v70_9) rfl (by kernel_rfl) (by kernel_rfl) (by kernel_rfl) (fun _ _ _ h => h) (Or.inl ⟨by rfl, ?hy70_9⟩) hHeld ?rest70_9
  case hy70_9 => (intro w hSw; (try dsimp only at hSw); go_simp <;> with_reducible rfl)
  try simp only [Act.put, List.setIfInBounds_toArray, List.set_cons_zero, List.set_cons_succ]
  refine wpAnyH_take (i := 10) (oi := { dst := some 71, op := Go.Op.move (Go.Operand.tmp 70), type := 4, pos := "law.go:47", after := #[{ on := 9, ground := Go.Ground.data }, { on := 6, ground := Go.Ground.chain }], guard := none }) (v := ?v71_10) rfl (by kernel_rfl) (by kernel_rfl) (by kernel_rfl) (fun _ _ _ h => h) (Or.inl ⟨by rfl, ?hy71_10⟩) hHeld ?rest71_10
  case hy71_10 => (intro w hSw; (try dsimp only at hSw); go_simp <;> with_reducible rfl)
  try simp only [Act.put, List.setIfInBounds_toArray, List.set_cons_zero, List.set_cons_succ]
  refine wpAnyH_take (i := 11) (oi := { dst := some 72, op := Go.Op.move (Go.Operand.tmp 12), type := 32, pos := "law.go:47", after := #[{ on := 10, ground := Go.Ground.guard }], guard := some (10, false) }) (v := ?v72_11) rfl (by kernel_rfl) (by kernel_rfl) (by kernel_rfl) (fun _ _ _ h => h) (Or.inl ⟨by rfl, ?hy72_11⟩) hHeld ?rest72_11
  case hy72_11 => (intro w hSw; (try dsimp only at hSw); go_simp <;> with_reducible rfl)
  try simp only [Act.put, List.setIfInBounds_toArray, List.set_cons_zero, List.set_cons_succ]
  refine wpAnyH_take (i := 12) (oi := { dst := some 73, op := Go.Op.binOp Go.BinOp.neq 32 (Go.Operand.tmp 72) (Go.Operand.const (Go.Value.int Go.IntKind.i64 0)) 32, type := 4, pos := "law.go:47", after := #[{ on := 11, ground := Go.Ground.data }, { on := 10, ground := Go.Ground.guard }], guard := some (10, false) }) (v := ?v73_12) rfl (by kernel_rfl) (by kernel_rfl) (by kernel_rfl) (fun _ _ _ h => h) (Or.inl ⟨by rfl, ?hy73_12⟩) hHeld ?rest73_12
  case hy73_12 => (intro w hSw; (try dsimp only at hSw); go_simp <;> with_reducible rfl)
  try simp only [Act.put, List.setIfInBounds_toArray, List.set_cons_zero, List.set_cons_succ]
  refine wpAnyH_take (i := 13) (oi := { dst := some 74, op := Go.Op.move (Go.Operand.tmp 73), type := 4, pos := "law.go:47", after := #[{ on := 12, ground := Go.Ground.data }, { on := 10, ground := Go.Ground.chain }, { on := 10, ground := Go.Ground.guard }], guard := some (10, false) }) (v := ?v74_13) rfl (by kernel_rfl) (by kernel_rfl) (by kernel_rfl) (fun _ _ _ h => h) (Or.inl ⟨by rfl, ?hy74_13⟩) hHeld ?rest74_13
  case hy74_13 => (intro w hSw; (try dsimp only at hSw); go_simp <;> with_reducible rfl)
  try simp only [Act.put, List.setIfInBounds_toArray, List.set_cons_zero, List.set_cons_succ]
  refine wpAnyH_take (i := 14) (oi := { dst := some 75, op := Go.Op.move (Go.Operand.tmp 12), type := 32, pos := "law.go:47", after := #[{ on := 13, ground := Go.Ground.guard }], guard := some (13, true) }) (v := ?v75_14) rfl (by kernel_rfl) (by kernel_rfl) (by kernel_rfl) (fun _ _ _ h => h) (Or.inl ⟨by rfl, ?hy75_14⟩) hHeld ?rest75_14
  case hy75_14 => (intro w hSw; (try dsimp only at hSw); go_simp <;> with_reducible rfl)
  try simp only [Act.put, List.setIfInBounds_toArray, List.set_cons_zero, List.set_cons_succ]
  refine wpAnyH_take (i := 15) (oi := { dst := some 76, op := Go.Op.binOp Go.BinOp.neq 32 (Go.Operand.tmp 75) (Go.Operand.const (Go.Value.int Go.IntKind.i64 1)) 32, type := 4, pos := "law.go:47", after := #[{ on := 14, ground := Go.Ground.data }, { on := 13, ground := Go.Ground.guard }], guard := some (13, true) }) (v := ?v76_15) rfl (by kernel_rfl) (by kernel_rfl) (by kernel_rfl) (fun _ _ _ h => h) (Or.inl ⟨by rfl, ?hy76_15⟩) hHeld ?rest76_15
  case hy76_15 => (intro w hSw; (try dsimp only at hSw); go_simp <;> with_reducible rfl)
  try simp only [Act.put, List.setIfInBounds_toArray, List.set_cons_zero, List.set_cons_succ]
  refine wpAnyH_take (i := 16) (oi := { dst := some 77, op := Go.Op.move (Go.Operand.tmp 76), type := 4, pos := "law.go:47", after := #[{ on := 15, ground := Go.Ground.data }, { on := 13, ground := Go.Ground.chain }, { on := 13, ground := Go.Ground.guard }], guard := some (13, true) }) (v := ?v77_16) rfl (by kernel_rfl) (by kernel_rfl) (by kernel_rfl) (fun _ _ _ h => h) (Or.inl ⟨by rfl, ?hy77_16⟩) hHeld ?rest77_16
  case hy77_16 => (intro w hSw; (try dsimp only at hSw); go_simp <;> with_reducible rfl)
  try simp only [Act.put, List.setIfInBounds_toArray, List.set_cons_zero, List.set_cons_succ]
  refine wpAnyH_take (i := 17) (oi := { dst := some 78, op := Go.Op.move (Go.Operand.tmp 11), type := 31, pos := "law.go:47", after := #[{ on := 16, ground := Go.Ground.guard }], guard := some (16, false) }) (v := ?v78_17) rfl (by kernel_rfl) (by kernel_rfl) (by kernel_rfl) (fun _ _ _ h => h) (Or.inl ⟨by rfl, ?hy78_17⟩) hHeld ?rest78_17
  case hy78_17 => (intro w hSw; (try dsimp only at hSw); go_simp <;> with_reducible rfl)
  try simp only [Act.put, List.setIfInBounds_toArray, List.set_cons_zero, List.set_cons_succ]
  refine wpAnyH_take (i := 18) (oi := { dst := some 79, op := Go.Op.call { callee := Go.Callee.builtin Go.Builtin.len, args := #[Go.Operand.tmp 78], argTypes := #[31] }, type := 3, pos := "law.go:47", after := #[{ on := 17, ground := Go.Ground.data }, { on := 16, ground := Go.Ground.guard }], guard := some (16, false) }) (v := ?v79_18) rfl (by kernel_rfl) (by kernel_rfl) (by kernel_rfl) (fun _ _ _ h => h) (Or.inl ⟨by rfl, ?hy79_18⟩) hHeld ?rest79_18
  case hy79_18 => (intro w hSw; (try dsimp only at hSw); go_simp <;> with_reducible rfl)
  try simp only [Act.put, List.setIfInBounds_toArray, List.set_cons_zero, List.set_cons_succ]
  refine wpAnyH_take (i := 19) (oi := { dst := some 80, op := Go.Op.binOp Go.BinOp.neq 3 (Go.Operand.tmp 79) (Go.Operand.const (Go.Value.int Go.IntKind.i64 0)) 3, type := 4, pos := "law.go:47", after := #[{ on := 18, ground := Go.Ground.data }, { on := 16, ground := Go.Ground.guard }], guard := some (16, false) }) (v := ?v80_19) rfl (by kernel_rfl) (by kernel_rfl) (by kernel_rfl) (fun _ _ _ h => h) (Or.inl ⟨by rfl, ?hy80_19⟩) hHeld ?rest80_19
  case hy80_19 => (intro w hSw; (try dsimp only at hSw); go_simp <;> with_reducible rfl)
  try simp only [Act.put, List.setIfInBounds_toArray, List.set_cons_zero, List.set_cons_succ]
  refine wpAnyH_take (i := 20) (oi := { dst := some 81, op := Go.Op.pick (Go.Operand.tmp 77) (Go.Operand.const (Go.Value.bool true)) (Go.Operand.tmp 80), type := 4, pos := "law.go:47", after := #[{ on := 16, ground := Go.Ground.data }, { on := 19, ground := Go.Ground.data }, { on := 13, ground := Go.Ground.guard }], guard := some (13, true) }) (v := ?v81_20) rfl (by kernel_rfl) (by kernel_rfl) (by kernel_rfl) (fun _ _ _ h => h) (Or.inl ⟨by rfl, ?hy81_20⟩) hHeld ?rest81_20
  case hy81_20 => (intro w hSw; (try dsimp only at hSw); go_simp <;> with_reducible rfl)
  try simp only [Act.put, List.setIfInBounds_toArray, List.set_cons_zero, List.set_cons_succ]
  refine wpAnyH_take (i := 21) (oi := { dst := some 82, op := Go.Op.pick (Go.Operand.tmp 74) (Go.Operand.tmp 81) (Go.Operand.const (Go.Value.bool false)), type := 4, pos := "law.go:47", after := #[{ on := 13, ground := Go.Ground.data }, { on := 20, ground := Go.Ground.data }, { on := 10, ground := Go.Ground.guard }], guard := some (10, false) }) (v := ?v82_21) rfl (by kernel_rfl) (by kernel_rfl) (by kernel_rfl) (fun _ _ _ h => h) (Or.inl ⟨by rfl, ?hy82_21⟩) hHeld ?rest82_21
  case hy82_21 => (intro w hSw; (try dsimp only at hSw); go_simp <;> with_reducible rfl)
  try simp only [Act.put, List.setIfInBounds_toArray, List.set_cons_zero, List.set_cons_succ]
  refine wpAnyH_take (i := 22) (oi := { dst := some 83, op := Go.Op.pick (Go.Operand.tmp 71) (Go.Operand.const (Go.Value.bool true)) (Go.Operand.tmp 82), type := 4, pos := "law.go:47", after := #[{ on := 10, ground := Go.Ground.data }, { on := 21, ground := Go.Ground.data }], guard := none }) (v := ?v83_22) rfl (by kernel_rfl) (by kernel_rfl) (by kernel_rfl) (fun _ _ _ h => h) (Or.inl ⟨by rfl, ?hy83_22⟩) hHeld ?rest83_22
  case hy83_22 => (intro w hSw; (try dsimp only at hSw); go_simp <;> with_reducible rfl)
  try simp only [Act.put, List.setIfInBounds_toArray, List.set_cons_zero, List.set_cons_succ]
  refine wpAnyH_done (by kernel_rfl) ?_ _
  refine NoPanic.normal ?_
  have HB7 := Aside0.mk (HB6.out.trans (below_weak_ (below_drew (Below.refl w6.heap.size w6)) HB6.out.size))
  obtain ⟨w7, hw6⟩ : ∃ W, w6.drew = W := ⟨_, rfl⟩
  rw [hw6] at HB7 ⊢
  clear hw6
  go_wp2_with fail
  have Sall : Aside0 (∀ W : World, Below w7.heap.size w7 W → W.cell? ⟨q + 2, 0, none⟩ = some (.int .u32 l0) ∧ W.cell? ⟨q + 2, 1, none⟩ = some (.int .i64 l1) ∧ W.cell? ⟨q + 2, 2, none⟩ = some (.int .i64 l2) ∧ W.cell? ⟨q + 2, 3, none⟩ = some (.int .i64 l3) ∧ W.cell? ⟨q + 2, 4, none⟩ = some (.int .i64 l4) ∧ W.cell? ⟨q + 3, 0, none⟩ = some (.int .u32 k0) ∧ W.cell? ⟨q + 3, 1, none⟩ = some (.int .i64 k1)) := ⟨fun W hW => (XB.out W (below_step HB7.out hW)).2⟩
  have K0 := Aside0.mk (below_drew (Below.refl w7.heap.size w7))
  refine wp_region_noPanic ?_
  first | (go_region_held (fun W : World => W.cell? ⟨q + 2, 0, none⟩ = some (.int .u32 l0) ∧ W.cell? ⟨q + 2, 1, none⟩ = some (.int .i64 l1) ∧ W.cell? ⟨q + 2, 2, none⟩ = some (.int .i64 l2) ∧ W.cell? ⟨q + 2, 3, none⟩ = some (.int .i64 l3) ∧ W.cell? ⟨q + 2, 4, none⟩ = some (.int .i64 l4) ∧ W.cell? ⟨q + 3, 0, none⟩ = some (.int .u32 k0) ∧ W.cell? ⟨q + 3, 1, none⟩ = some (.int .i64 k1))
    (first
      | exact Sall.out _ K0.out
      | exact Sall.out _ K1.out
      | exact Sall.out _ K2.out
      | exact Sall.out _ K3.out
      | exact Sall.out _ K4.out
      | exact Sall.out _ K5.out)
    (first
      | (go_at_call 16; (with_reducible refine (kl.out _).mono ?_); rintro e wz0 ⟨vz0, rfl, hV, hb⟩; (have K1 := Aside0.mk (below_step K0.out hb)); (have cz0_0 := str_own hV); rw [HSL.out] at cz0_0; (have VZ0_0 := Aside0.mk hV); clear hV hb)
      | (go_at_call 17; (with_reducible refine (kL.out _).mono ?_); rintro e wz1 ⟨vz1, rfl, hV, hb⟩; (have K2 := Aside0.mk (below_step K1.out hb)); (have VZ0_1 := Aside0.mk (Kd.R_below VZ0_0.out hb)); (have cz0_1 := str_own VZ0_1.out); rw [HSL.out] at cz0_1; (have cz1_1 := str_own hV); rw [HSL.out] at cz1_1; (have VZ1_1 := Aside0.mk hV); clear hV hb)
      | (go_at_call 18; (with_reducible refine (kk.out _).mono ?_); rintro e wz2 ⟨vz2, rfl, hV, hb⟩; (have K3 := Aside0.mk (below_step K2.out hb)); (have VZ0_2 := Aside0.mk (Kd.R_below VZ0_1.out hb)); (have cz0_2 := str_own VZ0_2.out); rw [HSL.out] at cz0_2; (have VZ1_2 := Aside0.mk (Kd.R_below VZ1_1.out hb)); (have cz1_2 := str_own VZ1_2.out); rw [HSL.out] at cz1_2; (have cz2_2 := str_own hV); rw [HSK.out] at cz2_2; (have VZ2_2 := Aside0.mk hV); clear hV hb)
      | (go_at_call 19; (with_reducible refine (kK.out _).mono ?_); rintro e wz3 ⟨vz3, rfl, hV, hb⟩; (have K4 := Aside0.mk (below_step K3.out hb)); (have VZ0_3 := Aside0.mk (Kd.R_below VZ0_2.out hb)); (have cz0_3 := str_own VZ0_3.out); rw [HSL.out] at cz0_3; (have VZ1_3 := Aside0.mk (Kd.R_below VZ1_2.out hb)); (have cz1_3 := str_own VZ1_3.out); rw [HSL.out] at cz1_3; (have VZ2_3 := Aside0.mk (Kd.R_below VZ2_2.out hb)); (have cz2_3 := str_own VZ2_3.out); rw [HSK.out] at cz2_3; (have cz3_3 := str_own hV); rw [HSK.out] at cz3_3; (have VZ3_3 := Aside0.mk hV); clear hV hb)
      | (go_at_call 10; (with_reducible refine (kgo.out _).mono ?_); rintro e wz4 ⟨rfl, hb⟩; (have K5 := Aside0.mk (below_step K4.out hb)); (have cz0_4 := str_own (Kd.R_below VZ0_3.out hb)); rw [HSL.out] at cz0_4; (have cz1_4 := str_own (Kd.R_below VZ1_3.out hb)); rw [HSL.out] at cz1_4; (have cz2_4 := str_own (Kd.R_below VZ2_3.out hb)); rw [HSK.out] at cz2_4; (have cz3_4 := str_own (Kd.R_below VZ3_3.out hb)); rw [HSK.out] at cz3_4; clear hb))) | fail
  all_goals
    refine NoPanic.normal ?_
    go_wp2_with fail
    go_ret
    exact ⟨rfl, by rw [hq]; exact FIN.out _ (below_step HB7.out K5.out)⟩
end Go.Proofs.Ytdfmganmchmbjaa.Ext
