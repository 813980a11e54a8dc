/- entry's GetInvoice: what the reader's closure takes (printed by mkget5.py). -/
import Derived.Test.YtdfmganmchmbjaaEGet3
import Derived.Deep.RegionLaw
namespace Go.Proofs.Ytdfmganmchmbjaa.Ext
open Go.RowKit Go.Proofs.YtdfmganmchmbjaaW.PrintWords Go.Proofs.YtdfmganmchmbjaaW.PrintLast Go.Proofs.YtdfmganmchmbjaaW.PrintMore Go.Proofs.YtdfmganmchmbjaaW.Hand Go.Proofs.Ytdfmganmchmbjaa.PZ
set_option linter.unusedVariables false
set_option linter.unusedSimpArgs false
theorem p1_ {α : Type} {l : List α} {i : Nat} {a : α} : l.toArray.setIfInBounds i a = (l.set i a).toArray := List.setIfInBounds_toArray ..
theorem p2_ {α : Type} {x a : α} {l : List α} : (x :: l).set 0 a = a :: l := List.set_cons_zero ..
theorem p3_ {α : Type} {x a : α} {l : List α} {i : Nat} : (x :: l).set (i + 1) a = x :: l.set i a := List.set_cons_succ ..
theorem tk_ {P : Program} {md : Region.Mode} {ops : Array Oper} {Q : Exit → Act → World → Prop} {S : World → Prop} {i : Nat} {oi : Oper} {v : Value} {fuel : Nat} {listed : Array Bool} {a : Act} {w : World} (hy : YieldsIf P ops S oi v a) (hS : S w)
    (h : wpAnyH P md ops Q S fuel (listed.setIfInBounds i true) (a.put oi.dst v) w) (hi : ops[i]? = some oi := by rfl) (hs : Region.noSelect ops = true := by kernel_rfl) (hf : Region.free md ops listed i = true := by kernel_rfl) (hr : (Region.ready md ops listed).contains i = true := by kernel_rfl) (hQ : ∀ c a w, Q (.panic c) (a.put oi.dst v) w → Q (.panic c) a w := by exact fun _ _ _ h => h) : wpAnyH P md ops Q S (fuel + 1) listed a w := wpAnyH_take hi hs hf hr hQ hy hS h
abbrev o46_1_0 : Oper := { dst := some 4, op := Go.Op.load 78 (Go.Operand.tmp 1), type := 78, pos := "entry.go:93", after := #[], guard := none }
abbrev o46_1_1 : Oper := { dst := some 5, op := Go.Op.call { callee := Go.Callee.value (Go.Operand.func 37), args := #[Go.Operand.tmp 4], argTypes := #[78] }, type := 23, pos := "entry.go:93", after := #[{ on := 0, ground := Go.Ground.data }], guard := none }
abbrev o46_1_2 : Oper := { dst := some 6, op := Go.Op.load 78 (Go.Operand.tmp 1), type := 78, pos := "entry.go:93", after := #[], guard := none }
abbrev o46_1_3 : Oper := { dst := some 7, op := Go.Op.call { callee := Go.Callee.value (Go.Operand.func 37), args := #[Go.Operand.tmp 6], argTypes := #[78] }, type := 23, pos := "entry.go:93", after := #[{ on := 2, ground := Go.Ground.data }, { on := 1, ground := Go.Ground.chain }], guard := none }
abbrev o46_1_4 : Oper := { dst := some 8, op := Go.Op.fieldAddr 78 (Go.Operand.tmp 1) 0, type := 0, pos := "entry.go:93", after := #[], guard := none }
abbrev o46_1_5 : Oper := { dst := some 9, op := Go.Op.load 76 (Go.Operand.tmp 8), type := 76, pos := "entry.go:93", after := #[{ on := 4, ground := Go.Ground.data }], guard := none }
abbrev o46_1_6 : Oper := { dst := some 10, op := Go.Op.call { callee := Go.Callee.value (Go.Operand.func 38), args := #[Go.Operand.tmp 9], argTypes := #[76] }, type := 2, pos := "entry.go:93", after := #[{ on := 5, ground := Go.Ground.data }, { on := 3, ground := Go.Ground.chain }], guard := none }
abbrev o46_1_7 : Oper := { dst := some 11, op := Go.Op.fieldAddr 78 (Go.Operand.tmp 1) 0, type := 0, pos := "entry.go:93", after := #[], guard := none }
abbrev o46_1_8 : Oper := { dst := some 12, op := Go.Op.load 76 (Go.Operand.tmp 11), type := 76, pos := "entry.go:93", after := #[{ on := 7, ground := Go.Ground.data }], guard := none }
abbrev o46_1_9 : Oper := { dst := some 13, op := Go.Op.call { callee := Go.Callee.value (Go.Operand.func 38), args := #[Go.Operand.tmp 12], argTypes := #[76] }, type := 2, pos := "entry.go:93", after := #[{ on := 8, ground := Go.Ground.data }, { on := 6, ground := Go.Ground.chain }], guard := none }
abbrev o46_1_10 : Oper := { dst := some 14, op := Go.Op.fieldAddr 78 (Go.Operand.tmp 1) 0, type := 0, pos := "entry.go:93", after := #[], guard := none }
abbrev o46_1_11 : Oper := { dst := some 15, op := Go.Op.load 76 (Go.Operand.tmp 14), type := 76, pos := "entry.go:93", after := #[{ on := 10, ground := Go.Ground.data }], guard := none }
abbrev o46_1_12 : Oper := { dst := some 16, op := Go.Op.call { callee := Go.Callee.value (Go.Operand.func 38), args := #[Go.Operand.tmp 15], argTypes := #[76] }, type := 2, pos := "entry.go:93", after := #[{ on := 11, ground := Go.Ground.data }, { on := 9, ground := Go.Ground.chain }], guard := none }
abbrev o46_1_13 : Oper := { dst := some 17, op := Go.Op.build 30 #[(0, Go.Operand.tmp 5), (1, Go.Operand.tmp 7), (2, Go.Operand.tmp 10), (4, Go.Operand.tmp 13), (5, Go.Operand.tmp 16)], type := 30, pos := "entry.go:93", after := #[{ on := 1, ground := Go.Ground.data }, { on := 3, ground := Go.Ground.data }, { on := 6, ground := Go.Ground.data }, { on := 9, ground := Go.Ground.data }, { on := 12, ground := Go.Ground.data }], guard := none }
abbrev o46_1_14 : Oper := { dst := some 3, op := Go.Op.alloc 30, type := 0, pos := "entry.go:93", after := #[], guard := none }
abbrev o46_1_15 : Oper := { dst := none, op := Go.Op.store 30 (Go.Operand.tmp 3) (Go.Operand.tmp 17), type := 0, pos := "entry.go:93", after := #[{ on := 14, ground := Go.Ground.data }, { on := 13, ground := Go.Ground.data }, { on := 12, ground := Go.Ground.chain }, { on := 0, ground := Go.Ground.phase }, { on := 1, ground := Go.Ground.phase }, { on := 2, ground := Go.Ground.phase }, { on := 3, ground := Go.Ground.phase }, { on := 4, ground := Go.Ground.phase }, { on := 5, ground := Go.Ground.phase }, { on := 6, ground := Go.Ground.phase }, { on := 7, ground := Go.Ground.phase }, { on := 8, ground := Go.Ground.phase }, { on := 9, ground := Go.Ground.phase }, { on := 10, ground := Go.Ground.phase }, { on := 11, ground := Go.Ground.phase }, { on := 12, ground := Go.Ground.phase }, { on := 13, ground := Go.Ground.phase }, { on := 14, ground := Go.Ground.phase }], guard := none }
abbrev o46_4_0 : Oper := { dst := some 23, op := Go.Op.fieldAddr 30 (Go.Operand.tmp 3) 3, type := 0, pos := "entry.go:95", after := #[], guard := none }
abbrev o46_4_1 : Oper := { dst := some 24, op := Go.Op.load 28 (Go.Operand.tmp 23), type := 28, pos := "entry.go:95", after := #[{ on := 0, ground := Go.Ground.data }], guard := none }
abbrev o46_4_2 : Oper := { dst := some 25, op := Go.Op.fieldAddr 78 (Go.Operand.tmp 1) 0, type := 0, pos := "entry.go:95", after := #[], guard := none }
abbrev o46_4_3 : Oper := { dst := some 26, op := Go.Op.load 76 (Go.Operand.tmp 25), type := 76, pos := "entry.go:95", after := #[{ on := 2, ground := Go.Ground.data }], guard := none }
abbrev o46_4_4 : Oper := { dst := some 27, op := Go.Op.call { callee := Go.Callee.value (Go.Operand.func 47), args := #[Go.Operand.tmp 26], argTypes := #[76] }, type := 5, pos := "entry.go:95", after := #[{ on := 3, ground := Go.Ground.data }], guard := none }
abbrev o46_4_5 : Oper := { dst := some 28, op := Go.Op.load 78 (Go.Operand.tmp 1), type := 78, pos := "entry.go:95", after := #[], guard := none }
abbrev o46_4_6 : Oper := { dst := some 29, op := Go.Op.call { callee := Go.Callee.value (Go.Operand.func 37), args := #[Go.Operand.tmp 28], argTypes := #[78] }, type := 23, pos := "entry.go:95", after := #[{ on := 5, ground := Go.Ground.data }, { on := 4, ground := Go.Ground.chain }], guard := none }
abbrev o46_4_7 : Oper := { dst := some 30, op := Go.Op.fieldAddr 78 (Go.Operand.tmp 1) 0, type := 0, pos := "entry.go:95", after := #[], guard := none }
abbrev o46_4_8 : Oper := { dst := some 31, op := Go.Op.load 76 (Go.Operand.tmp 30), type := 76, pos := "entry.go:95", after := #[{ on := 7, ground := Go.Ground.data }], guard := none }
abbrev o46_4_9 : Oper := { dst := some 32, op := Go.Op.call { callee := Go.Callee.value (Go.Operand.func 38), args := #[Go.Operand.tmp 31], argTypes := #[76] }, type := 2, pos := "entry.go:95", after := #[{ on := 8, ground := Go.Ground.data }, { on := 6, ground := Go.Ground.chain }], guard := none }
abbrev o46_4_10 : Oper := { dst := some 33, op := Go.Op.fieldAddr 78 (Go.Operand.tmp 1) 0, type := 0, pos := "entry.go:95", after := #[], guard := none }
abbrev o46_4_11 : Oper := { dst := some 34, op := Go.Op.load 76 (Go.Operand.tmp 33), type := 76, pos := "entry.go:95", after := #[{ on := 10, ground := Go.Ground.data }], guard := none }
abbrev o46_4_12 : Oper := { dst := some 35, op := Go.Op.call { callee := Go.Callee.value (Go.Operand.func 38), args := #[Go.Operand.tmp 34], argTypes := #[76] }, type := 2, pos := "entry.go:95", after := #[{ on := 11, ground := Go.Ground.data }, { on := 9, ground := Go.Ground.chain }], guard := none }
abbrev o46_4_13 : Oper := { dst := some 36, op := Go.Op.fieldAddr 78 (Go.Operand.tmp 1) 0, type := 0, pos := "entry.go:95", after := #[], guard := none }
abbrev o46_4_14 : Oper := { dst := some 37, op := Go.Op.load 76 (Go.Operand.tmp 36), type := 76, pos := "entry.go:95", after := #[{ on := 13, ground := Go.Ground.data }], guard := none }
abbrev o46_4_15 : Oper := { dst := some 38, op := Go.Op.call { callee := Go.Callee.value (Go.Operand.func 38), args := #[Go.Operand.tmp 37], argTypes := #[76] }, type := 2, pos := "entry.go:95", after := #[{ on := 14, ground := Go.Ground.data }, { on := 12, ground := Go.Ground.chain }], guard := none }
abbrev o46_4_16 : Oper := { dst := some 39, op := Go.Op.build 53 #[(0, Go.Operand.tmp 27), (1, Go.Operand.tmp 29), (2, Go.Operand.tmp 32), (3, Go.Operand.tmp 35), (4, Go.Operand.tmp 38)], type := 53, pos := "entry.go:95", after := #[{ on := 4, ground := Go.Ground.data }, { on := 6, ground := Go.Ground.data }, { on := 9, ground := Go.Ground.data }, { on := 12, ground := Go.Ground.data }, { on := 15, ground := Go.Ground.data }], guard := none }
abbrev o46_4_17 : Oper := { dst := some 40, op := Go.Op.buildSlice 28 1 #[(0, Go.Operand.tmp 39)], type := 28, pos := "entry.go:95", after := #[{ on := 16, ground := Go.Ground.data }], guard := none }
abbrev o46_4_18 : Oper := { dst := some 41, op := Go.Op.call { callee := Go.Callee.builtin Go.Builtin.append, args := #[Go.Operand.tmp 24, Go.Operand.tmp 40], argTypes := #[28, 28] }, type := 28, pos := "entry.go:95", after := #[{ on := 1, ground := Go.Ground.data }, { on := 17, ground := Go.Ground.data }, { on := 15, ground := Go.Ground.chain }], guard := none }
abbrev o46_4_19 : Oper := { dst := some 42, op := Go.Op.fieldAddr 30 (Go.Operand.tmp 3) 3, type := 0, pos := "entry.go:95", after := #[{ on := 0, ground := Go.Ground.phase }, { on := 1, ground := Go.Ground.phase }, { on := 2, ground := Go.Ground.phase }, { on := 3, ground := Go.Ground.phase }, { on := 4, ground := Go.Ground.phase }, { on := 5, ground := Go.Ground.phase }, { on := 6, ground := Go.Ground.phase }, { on := 7, ground := Go.Ground.phase }, { on := 8, ground := Go.Ground.phase }, { on := 9, ground := Go.Ground.phase }, { on := 10, ground := Go.Ground.phase }, { on := 11, ground := Go.Ground.phase }, { on := 12, ground := Go.Ground.phase }, { on := 13, ground := Go.Ground.phase }, { on := 14, ground := Go.Ground.phase }, { on := 15, ground := Go.Ground.phase }, { on := 16, ground := Go.Ground.phase }, { on := 17, ground := Go.Ground.phase }, { on := 18, ground := Go.Ground.phase }], guard := none }
abbrev o46_4_20 : Oper := { dst := none, op := Go.Op.store 28 (Go.Operand.tmp 42) (Go.Operand.tmp 41), type := 0, pos := "entry.go:95", after := #[{ on := 19, ground := Go.Ground.data }, { on := 18, ground := Go.Ground.data }, { on := 18, ground := Go.Ground.chain }, { on := 0, ground := Go.Ground.phase }, { on := 1, ground := Go.Ground.phase }, { on := 2, ground := Go.Ground.phase }, { on := 3, ground := Go.Ground.phase }, { on := 4, ground := Go.Ground.phase }, { on := 5, ground := Go.Ground.phase }, { on := 6, ground := Go.Ground.phase }, { on := 7, ground := Go.Ground.phase }, { on := 8, ground := Go.Ground.phase }, { on := 9, ground := Go.Ground.phase }, { on := 10, ground := Go.Ground.phase }, { on := 11, ground := Go.Ground.phase }, { on := 12, ground := Go.Ground.phase }, { on := 13, ground := Go.Ground.phase }, { on := 14, ground := Go.Ground.phase }, { on := 15, ground := Go.Ground.phase }, { on := 16, ground := Go.Ground.phase }, { on := 17, ground := Go.Ground.phase }, { on := 18, ground := Go.Ground.phase }], guard := none }
def rline (r : Rs) : S53 × Rs :=
  let t0 := r.byte
  let t1 := t0.2.small
  let t2 := t1.2.int
  let t3 := t2.2.int
  let t4 := t3.2.int
  (⟨t0.1, t1.1, t2.1, t3.1, t4.1⟩, t4.2)
theorem rline_len (r : Rs) : (rline r).2.xs.length ≤ r.xs.length := (Nat.le_trans (Rs.int_len r.byte.2.small.2.int.2.int.2) (Nat.le_trans (Rs.int_len r.byte.2.small.2.int.2) (Nat.le_trans (Rs.int_len r.byte.2.small.2) (Nat.le_trans (Rs.small_len r.byte.2) (Rs.byte_len r)))))
def rinvoice (r : Rs) : (Int × Int × Int × Int × Int × List S53) × Rs :=
  let s0 := r.small
  let s1 := s0.2.small
  let s2 := s1.2.int
  let s3 := s2.2.int
  let s4 := s3.2.int
  let c := s4.2.count 28
  let p := relems rline c.2 c.1.toNat
  ((s0.1, s1.1, s2.1, s3.1, s4.1, p.1), p.2)
theorem rinvoice_len (r : Rs) : (rinvoice r).2.xs.length ≤ r.xs.length := (Nat.le_trans (relems_len rline_len (r.small.2.small.2.int.2.int.2.int.2.count 28).2 (r.small.2.small.2.int.2.int.2.int.2.count 28).1.toNat) (Nat.le_trans (Rs.count_len r.small.2.small.2.int.2.int.2.int.2 28) (Nat.le_trans (Rs.int_len r.small.2.small.2.int.2.int.2) (Nat.le_trans (Rs.int_len r.small.2.small.2.int.2) (Nat.le_trans (Rs.int_len r.small.2.small.2) (Nat.le_trans (Rs.small_len r.small.2) (Rs.small_len r)))))))
set_option maxRecDepth 100000 in
set_option maxHeartbeats 6400000 in
theorem rinvoice_calls (g : Nat) (B : Nat → Prop) (r r' : Rs) (n0 n1 n2 n3 n4 : Int) (L : List S53) (he : rinvoice r = ((n0, n1, n2, n3, n4, L), r')) (w : World) (h : RdrS w g B r) (hB : ∀ k, B k → k < w.heap.size) (hm : r.xs.length ≤ 140737488355000) :
    Calls Try.prog 46 #[.agg #[.pointer (some ⟨g, 0, none⟩)]] w fun e w' => ∃ v : Value, e = .returned (.agg #[.int .u32 n0, .int .u32 n1, .int .i64 n2, v, .int .i64 n3, .int .i64 n4]) ∧ Kd.R k53 53 w' w.heap.size (fun _ => True) v L ∧ RdrS w' g B r' ∧ w.grownBy w' (some g) := by
  have HH := Aside0.mk h
  have HB := Aside0.mk hB
  have hgl : g < w.heap.size := by obtain ⟨A, c, h1, _⟩ := h; exact h1.lt
  unfold rinvoice at he
  simp only at he
  have kc0 := Aside0.mk (fun w h => small_calls g B r w h (by exact hm))
  have hm1 := Nat.le_trans (Rs.small_len r) hm
  obtain ⟨⟨m0, r1⟩, hu0⟩ : ∃ u, r.small = u := ⟨_, rfl⟩
  rw [hu0] at kc0 he hm1
  have kc1 := Aside0.mk (fun w h => small_calls g B r1 w h (by exact hm1))
  have hm2 := Nat.le_trans (Rs.small_len r1) hm1
  obtain ⟨⟨m1, r2⟩, hu1⟩ : ∃ u, r1.small = u := ⟨_, rfl⟩
  rw [hu1] at kc1 he hm2
  have kc2 := Aside0.mk (fun w h => Int_calls g B r2 w h (by exact hm2))
  have hm3 := Nat.le_trans (Rs.int_len r2) hm2
  obtain ⟨⟨m2, r3⟩, hu2⟩ : ∃ u, r2.int = u := ⟨_, rfl⟩
  rw [hu2] at kc2 he hm3
  have kc3 := Aside0.mk (fun w h => Int_calls g B r3 w h (by exact hm3))
  have hm4 := Nat.le_trans (Rs.int_len r3) hm3
  obtain ⟨⟨m3, r4⟩, hu3⟩ : ∃ u, r3.int = u := ⟨_, rfl⟩
  rw [hu3] at kc3 he hm4
  have kc4 := Aside0.mk (fun w h => Int_calls g B r4 w h (by exact hm4))
  have hm5 := Nat.le_trans (Rs.int_len r4) hm4
  obtain ⟨⟨m4, r5⟩, hu4⟩ : ∃ u, r4.int = u := ⟨_, rfl⟩
  rw [hu4] at kc4 he hm5
  have kcc := Aside0.mk (fun w h => Count_calls g B r5 28 w h (by exact hm5) (by omega) (by omega))
  have hmc := Nat.le_trans (Rs.count_len r5 28) hm5
  have hcl := Aside0.mk (fun hb => Rs.count_le r5 28 (by omega) hb)
  obtain ⟨⟨cn, rc⟩, huc⟩ : ∃ u, r5.count 28 = u := ⟨_, rfl⟩
  rw [huc] at kcc he hmc hcl
  have HMC := Aside0.mk hmc
  simp only [Prod.mk.injEq] at he
  obtain ⟨⟨e0, e1, e2, e3, e4, eL⟩, er⟩ := he
  subst e0
  subst e1
  subst e2
  subst e3
  subst e4
  subst eL
  subst er
  obtain ⟨n, hcn⟩ : ∃ n, cn.toNat = n := ⟨_, rfl⟩
  rw [hcn]
  have HCN := Aside0.mk hcn
  clear hcn
  clear h hB hm hmc huc hu0 hu1 hu2 hu3 hu4 hm1 hm2 hm3 hm4 hm5
  go_enter Try.func46, Try.ntmps46
  go_wp2_with fail
  have X1 : Aside0 (Blk ((w.alloc (Obj.cells #[.pointer (some ⟨g, 0, none⟩)] 78)).alloc (Obj.cells #[.int .u32 0, .int .u32 0, .int .i64 0, .slice none 0 0, .int .i64 0, .int .i64 0] 30)) w.heap.size (Obj.cells #[.pointer (some ⟨g, 0, none⟩)] 78 (0, 0))) := ⟨Blk.new_.alloc⟩
  have X2 : Aside0 (Blk ((w.alloc (Obj.cells #[.pointer (some ⟨g, 0, none⟩)] 78)).alloc (Obj.cells #[.int .u32 0, .int .u32 0, .int .i64 0, .slice none 0 0, .int .i64 0, .int .i64 0] 30)) (w.heap.size + 1) (Obj.cells #[.int .u32 0, .int .u32 0, .int .i64 0, .slice none 0 0, .int .i64 0, .int .i64 0] 30 (0, 0))) := ⟨Blk.new (by rw [size_alloc])⟩
  have HW : Aside0 (Below w.heap.size w ((w.alloc (Obj.cells #[.pointer (some ⟨g, 0, none⟩)] 78)).alloc (Obj.cells #[.int .u32 0, .int .u32 0, .int .i64 0, .slice none 0 0, .int .i64 0, .int .i64 0] 30))) := ⟨below_alloc (below_alloc (Below.refl _ _) _) _⟩
  obtain ⟨wa, hwa⟩ : ∃ W, (w.alloc (Obj.cells #[.pointer (some ⟨g, 0, none⟩)] 78)).alloc (Obj.cells #[.int .u32 0, .int .u32 0, .int .i64 0, .slice none 0 0, .int .i64 0, .int .i64 0] 30) = W := ⟨_, rfl⟩
  rw [hwa] at X1 X2 HW ⊢
  have R0 : Aside0 (RdrS wa.drew g B r) := ⟨RdrAt.drew (RdrAt.below HH.out HW.out)⟩
  clear hwa
  obtain ⟨q, hq⟩ : ∃ q, w.heap.size = q := ⟨_, rfl⟩
  have HQ := Aside0.mk hq
  rw [hq] at X1 X2 hgl HB ⊢
  have HGL := Aside0.mk hgl
  have A0 : Aside0 (Blk wa.drew q (Obj.cells #[.pointer (some ⟨g, 0, none⟩)] 78 (0, 0))) := ⟨X1.out.drew⟩
  have B0 : Aside0 (Blk wa.drew (q + 1) (Obj.cells #[.int .u32 0, .int .u32 0, .int .i64 0, .slice none 0 0, .int .i64 0, .int .i64 0] 30 (0, 0))) := ⟨X2.out.drew⟩
  have G0 : Aside0 (w.grownBy wa.drew (some g)) := ⟨grown_below (below_drew HW.out)⟩
  clear X1 X2 HW HH hgl hq
  have s0 : wa.drew.cell? ⟨q, 0, none⟩ = some (.pointer (some ⟨g, 0, none⟩)) := (A0.out.cell 0).trans rfl
  refine region_once (fun a W => ∃ p x4 x5 x6 x7 x8 x9 x10 x11 x12 x13 x14 x15 x16 x17, q + 1 < p ∧ a = ⟨#[.agg #[.pointer (some ⟨g, 0, none⟩)], .pointer (some ⟨q, 0, none⟩), .pointer (some ⟨q + 1, 0, none⟩), .pointer (some ⟨p, 0, none⟩), x4, x5, x6, x7, x8, x9, x10, x11, x12, x13, x14, x15, x16, x17, undef, undef, undef, undef, undef, undef, undef, undef, undef, undef, undef, undef, undef, undef, undef, undef, undef, undef, undef, undef, undef, undef, undef, undef, undef, undef, undef], []⟩ ∧ Blk W q (Obj.cells #[.pointer (some ⟨g, 0, none⟩)] 78 (0, 0)) ∧ Blk W (q + 1) (Obj.cells #[.int .u32 0, .int .u32 0, .int .i64 0, .slice none 0 0, .int .i64 0, .int .i64 0] 30 (0, 0)) ∧ Blk W p (Obj.cells #[.int .u32 m0, .int .u32 m1, .int .i64 m2, .slice none 0 0, .int .i64 m3, .int .i64 m4] 30 (0, 0)) ∧ RdrS W g B r5 ∧ w.grownBy W (some g)) ?_ ?_
  · refine wp_region_held_drew (S := fun W : World => W.cell? ⟨q, 0, none⟩ = some (.pointer (some ⟨g, 0, none⟩))) (by kernel_rfl) ?_ (fun hHeld => ?_)
    · exact s0
    generalize wa.drew = wd at hHeld R0 A0 B0 G0 s0 ⊢
    refine tk_ (i := 0) (oi := o46_1_0) (v := ?vh0) (Or.inl ⟨by rfl, ?hyh0⟩) hHeld ?resth0
    case hyh0 => (intro w hSw; (try dsimp only at hSw); unfold o46_1_0; go_simp <;> with_reducible rfl)
    try simp only [o46_1_0, Act.put, p1_, p2_, p3_]
    refine tk_ (i := 2) (oi := o46_1_2) (v := ?vh2) (Or.inl ⟨by rfl, ?hyh2⟩) hHeld ?resth2
    case hyh2 => (intro w hSw; (try dsimp only at hSw); unfold o46_1_2; go_simp <;> with_reducible rfl)
    try simp only [o46_1_2, Act.put, p1_, p2_, p3_]
    refine tk_ (i := 4) (oi := o46_1_4) (v := ?vh4) (Or.inl ⟨by rfl, ?hyh4⟩) hHeld ?resth4
    case hyh4 => (intro w hSw; (try dsimp only at hSw); unfold o46_1_4; go_simp <;> with_reducible rfl)
    try simp only [o46_1_4, Act.put, p1_, p2_, p3_]
    refine tk_ (i := 5) (oi := o46_1_5) (v := ?vh5) (Or.inl ⟨by rfl, ?hyh5⟩) hHeld ?resth5
    case hyh5 => (intro w hSw; (try dsimp only at hSw); unfold o46_1_5; go_simp <;> with_reducible rfl)
    try simp only [o46_1_5, Act.put, p1_, p2_, p3_]
    refine tk_ (i := 7) (oi := o46_1_7) (v := ?vh7) (Or.inl ⟨by rfl, ?hyh7⟩) hHeld ?resth7
    case hyh7 => (intro w hSw; (try dsimp only at hSw); unfold o46_1_7; go_simp <;> with_reducible rfl)
    try simp only [o46_1_7, Act.put, p1_, p2_, p3_]
    refine tk_ (i := 8) (oi := o46_1_8) (v := ?vh8) (Or.inl ⟨by rfl, ?hyh8⟩) hHeld ?resth8
    case hyh8 => (intro w hSw; (try dsimp only at hSw); unfold o46_1_8; go_simp <;> with_reducible rfl)
    try simp only [o46_1_8, Act.put, p1_, p2_, p3_]
    refine tk_ (i := 10) (oi := o46_1_10) (v := ?vh10) (Or.inl ⟨by rfl, ?hyh10⟩) hHeld ?resth10
    case hyh10 => (intro w hSw; (try dsimp only at hSw); unfold o46_1_10; go_simp <;> with_reducible rfl)
    try simp only [o46_1_10, Act.put, p1_, p2_, p3_]
    refine tk_ (i := 11) (oi := o46_1_11) (v := ?vh11) (Or.inl ⟨by rfl, ?hyh11⟩) hHeld ?resth11
    case hyh11 => (intro w hSw; (try dsimp only at hSw); unfold o46_1_11; go_simp <;> with_reducible rfl)
    try simp only [o46_1_11, Act.put, p1_, p2_, p3_]
    refine wpAnyH_ready (rs := [1, 14]) (by kernel_rfl) (by simp) ?_
    refine AllReadyH.cons (o := o46_1_1) rfl (fun K hK => ?_) (AllReadyH.cons (o := o46_1_14) rfl (fun K hK => ?_) AllReadyH.nil)
    · unfold o46_1_1; go_simp
      go_wp2_with (first | (go_at_call 37; (with_reducible refine (kc0.out _ R0.out).mono ?_); rintro e wr1 ⟨rfl, hr, hg⟩; (have R1 := Aside0.mk hr); (have A1 := Aside0.mk (blk_grown A0.out hg (fun e => by injection e with e; have := HGL.out; omega))); (have B1 := Aside0.mk (blk_grown B0.out hg (fun e => by injection e with e; have := HGL.out; omega))); (have G1 := Aside0.mk (grown_trans G0.out hg)); (have s1 : wr1.cell? ⟨q, 0, none⟩ = some (.pointer (some ⟨g, 0, none⟩)) := (A1.out.cell 0).trans rfl); clear hr hg R0 A0 B0 G0 s0))
      refine hK.out _ _ s1 (fun hHeld' => ?_)
      clear hK K hHeld
      have hHeld := hHeld'
      clear hHeld'
      try simp only [Act.put, p1_, p2_, p3_]
      refine wpAnyH_ready (rs := [3, 14]) (by kernel_rfl) (by simp) ?_
      refine AllReadyH.cons (o := o46_1_3) rfl (fun K hK => ?_) (AllReadyH.cons (o := o46_1_14) rfl (fun K hK => ?_) AllReadyH.nil)
      · unfold o46_1_3; go_simp
        go_wp2_with (first | (go_at_call 37; (with_reducible refine (kc1.out _ R1.out).mono ?_); rintro e wr2 ⟨rfl, hr, hg⟩; (have R2 := Aside0.mk hr); (have A2 := Aside0.mk (blk_grown A1.out hg (fun e => by injection e with e; have := HGL.out; omega))); (have B2 := Aside0.mk (blk_grown B1.out hg (fun e => by injection e with e; have := HGL.out; omega))); (have G2 := Aside0.mk (grown_trans G1.out hg)); (have s2 : wr2.cell? ⟨q, 0, none⟩ = some (.pointer (some ⟨g, 0, none⟩)) := (A2.out.cell 0).trans rfl); clear hr hg R1 A1 B1 G1 s1))
        refine hK.out _ _ s2 (fun hHeld' => ?_)
        clear hK K hHeld
        have hHeld := hHeld'
        clear hHeld'
        try simp only [Act.put, p1_, p2_, p3_]
        refine wpAnyH_ready (rs := [6, 14]) (by kernel_rfl) (by simp) ?_
        refine AllReadyH.cons (o := o46_1_6) rfl (fun K hK => ?_) (AllReadyH.cons (o := o46_1_14) rfl (fun K hK => ?_) AllReadyH.nil)
        · unfold o46_1_6; go_simp
          go_wp2_with (first | (go_at_call 38; (with_reducible refine (kc2.out _ R2.out).mono ?_); rintro e wr3 ⟨rfl, hr, hg⟩; (have R3 := Aside0.mk hr); (have A3 := Aside0.mk (blk_grown A2.out hg (fun e => by injection e with e; have := HGL.out; omega))); (have B3 := Aside0.mk (blk_grown B2.out hg (fun e => by injection e with e; have := HGL.out; omega))); (have G3 := Aside0.mk (grown_trans G2.out hg)); (have s3 : wr3.cell? ⟨q, 0, none⟩ = some (.pointer (some ⟨g, 0, none⟩)) := (A3.out.cell 0).trans rfl); clear hr hg R2 A2 B2 G2 s2))
          refine hK.out _ _ s3 (fun hHeld' => ?_)
          clear hK K hHeld
          have hHeld := hHeld'
          clear hHeld'
          try simp only [Act.put, p1_, p2_, p3_]
          refine wpAnyH_ready (rs := [9, 14]) (by kernel_rfl) (by simp) ?_
          refine AllReadyH.cons (o := o46_1_9) rfl (fun K hK => ?_) (AllReadyH.cons (o := o46_1_14) rfl (fun K hK => ?_) AllReadyH.nil)
          · unfold o46_1_9; go_simp
            go_wp2_with (first | (go_at_call 38; (with_reducible refine (kc3.out _ R3.out).mono ?_); rintro e wr4 ⟨rfl, hr, hg⟩; (have R4 := Aside0.mk hr); (have A4 := Aside0.mk (blk_grown A3.out hg (fun e => by injection e with e; have := HGL.out; omega))); (have B4 := Aside0.mk (blk_grown B3.out hg (fun e => by injection e with e; have := HGL.out; omega))); (have G4 := Aside0.mk (grown_trans G3.out hg)); (have s4 : wr4.cell? ⟨q, 0, none⟩ = some (.pointer (some ⟨g, 0, none⟩)) := (A4.out.cell 0).trans rfl); clear hr hg R3 A3 B3 G3 s3))
            refine hK.out _ _ s4 (fun hHeld' => ?_)
            clear hK K hHeld
            have hHeld := hHeld'
            clear hHeld'
            try simp only [Act.put, p1_, p2_, p3_]
            refine wpAnyH_ready (rs := [12, 14]) (by kernel_rfl) (by simp) ?_
            refine AllReadyH.cons (o := o46_1_12) rfl (fun K hK => ?_) (AllReadyH.cons (o := o46_1_14) rfl (fun K hK => ?_) AllReadyH.nil)
            · unfold o46_1_12; go_simp
              go_wp2_with (first | (go_at_call 38; (with_reducible refine (kc4.out _ R4.out).mono ?_); rintro e wr5 ⟨rfl, hr, hg⟩; (have R5 := Aside0.mk hr); (have A5 := Aside0.mk (blk_grown A4.out hg (fun e => by injection e with e; have := HGL.out; omega))); (have B5 := Aside0.mk (blk_grown B4.out hg (fun e => by injection e with e; have := HGL.out; omega))); (have G5 := Aside0.mk (grown_trans G4.out hg)); (have s5 : wr5.cell? ⟨q, 0, none⟩ = some (.pointer (some ⟨g, 0, none⟩)) := (A5.out.cell 0).trans rfl); clear hr hg R4 A4 B4 G4 s4))
              refine hK.out _ _ s5 (fun hHeld' => ?_)
              clear hK K hHeld
              have hHeld := hHeld'
              clear hHeld'
              try simp only [Act.put, p1_, p2_, p3_]
              refine tk_ (i := 13) (oi := o46_1_13) (v := ?vb1) (Or.inl ⟨by rfl, ?hyb1⟩) hHeld ?restb1
              case hyb1 => (intro w hSw; (try dsimp only at hSw); unfold o46_1_13; go_simp <;> with_reducible rfl)
              try simp only [o46_1_13, Act.put, p1_, p2_, p3_]
              refine wpAnyH_ready (rs := [14]) (by kernel_rfl) (by simp) ?_
              refine AllReadyH.cons (o := o46_1_14) rfl (fun K hK => ?_) AllReadyH.nil
              unfold o46_1_14; go_simp
              have P6 : Aside0 (Blk (wr5.alloc (Obj.cells #[.int .u32 0, .int .u32 0, .int .i64 0, .slice none 0 0, .int .i64 0, .int .i64 0] 30)) wr5.heap.size (Obj.cells #[.int .u32 0, .int .u32 0, .int .i64 0, .slice none 0 0, .int .i64 0, .int .i64 0] 30 (0, 0))) := ⟨Blk.new_⟩
              have A6 : Aside0 (Blk (wr5.alloc (Obj.cells #[.int .u32 0, .int .u32 0, .int .i64 0, .slice none 0 0, .int .i64 0, .int .i64 0] 30)) q (Obj.cells #[.pointer (some ⟨g, 0, none⟩)] 78 (0, 0))) := ⟨A5.out.alloc⟩
              have B6 : Aside0 (Blk (wr5.alloc (Obj.cells #[.int .u32 0, .int .u32 0, .int .i64 0, .slice none 0 0, .int .i64 0, .int .i64 0] 30)) (q + 1) (Obj.cells #[.int .u32 0, .int .u32 0, .int .i64 0, .slice none 0 0, .int .i64 0, .int .i64 0] 30 (0, 0))) := ⟨B5.out.alloc⟩
              have R6 : Aside0 (RdrS (wr5.alloc (Obj.cells #[.int .u32 0, .int .u32 0, .int .i64 0, .slice none 0 0, .int .i64 0, .int .i64 0] 30)) g B r5) := ⟨RdrAt.alloc R5.out _⟩
              have G6 : Aside0 (w.grownBy (wr5.alloc (Obj.cells #[.int .u32 0, .int .u32 0, .int .i64 0, .slice none 0 0, .int .i64 0, .int .i64 0] 30)) (some g)) := ⟨grown_trans G5.out (grown_below (below_alloc (Below.refl _ _) _))⟩
              have hp : q + 1 < wr5.heap.size := B5.out.lt
              obtain ⟨wr6, hwr⟩ : ∃ W', wr5.alloc (Obj.cells #[.int .u32 0, .int .u32 0, .int .i64 0, .slice none 0 0, .int .i64 0, .int .i64 0] 30) = W' := ⟨_, rfl⟩
              obtain ⟨p, hpe⟩ : ∃ p, wr5.heap.size = p := ⟨_, rfl⟩
              rw [hwr] at P6 A6 B6 R6 G6 ⊢
              rw [hpe] at P6 hp ⊢
              have HP := Aside0.mk hp
              have s6 : wr6.cell? ⟨q, 0, none⟩ = some (.pointer (some ⟨g, 0, none⟩)) := (A6.out.cell 0).trans rfl
              clear hwr hpe hp R5 A5 B5 G5 s5
              refine hK.out _ _ s6 (fun hHeld' => ?_)
              clear hK K hHeld
              have hHeld := hHeld'
              clear hHeld'
              try simp only [Act.put, p1_, p2_, p3_]
              refine wpAnyH_ready (rs := [15]) (by kernel_rfl) (by simp) ?_
              refine AllReadyH.cons (o := o46_1_15) rfl (fun K hK => ?_) AllReadyH.nil
              have y0 := (P6.out.cell 0).trans (rfl : _ = some (Value.int .u32 0))
              have yf0 := P6.out.free 0
              have y1 := (P6.out.cell 1).trans (rfl : _ = some (Value.int .u32 0))
              have yf1 := P6.out.free 1
              have y2 := (P6.out.cell 2).trans (rfl : _ = some (Value.int .i64 0))
              have yf2 := P6.out.free 2
              have y3 := (P6.out.cell 3).trans (rfl : _ = some (Value.slice none 0 0))
              have yf3 := P6.out.free 3
              have y4 := (P6.out.cell 4).trans (rfl : _ = some (Value.int .i64 0))
              have yf4 := P6.out.free 4
              have y5 := (P6.out.cell 5).trans (rfl : _ = some (Value.int .i64 0))
              have yf5 := P6.out.free 5
              have FA : Aside0 (Blk ((((((wr6.setCell ⟨p, 0, none⟩ (.int .u32 m0)).setCell ⟨p, 1, none⟩ (.int .u32 m1)).setCell ⟨p, 2, none⟩ (.int .i64 m2)).setCell ⟨p, 3, none⟩ (.slice none 0 0)).setCell ⟨p, 4, none⟩ (.int .i64 m3)).setCell ⟨p, 5, none⟩ (.int .i64 m4)) q (Obj.cells #[.pointer (some ⟨g, 0, none⟩)] 78 (0, 0))) := ⟨(blk_set (blk_set (blk_set (blk_set (blk_set (blk_set A6.out ⟨p, 0, none⟩ (.int .u32 m0) (by have := HP.out; show q ≠ p; omega)) ⟨p, 1, none⟩ (.int .u32 m1) (by have := HP.out; show q ≠ p; omega)) ⟨p, 2, none⟩ (.int .i64 m2) (by have := HP.out; show q ≠ p; omega)) ⟨p, 3, none⟩ (.slice none 0 0) (by have := HP.out; show q ≠ p; omega)) ⟨p, 4, none⟩ (.int .i64 m3) (by have := HP.out; show q ≠ p; omega)) ⟨p, 5, none⟩ (.int .i64 m4) (by have := HP.out; show q ≠ p; omega))⟩
              have FB : Aside0 (Blk ((((((wr6.setCell ⟨p, 0, none⟩ (.int .u32 m0)).setCell ⟨p, 1, none⟩ (.int .u32 m1)).setCell ⟨p, 2, none⟩ (.int .i64 m2)).setCell ⟨p, 3, none⟩ (.slice none 0 0)).setCell ⟨p, 4, none⟩ (.int .i64 m3)).setCell ⟨p, 5, none⟩ (.int .i64 m4)) (q + 1) (Obj.cells #[.int .u32 0, .int .u32 0, .int .i64 0, .slice none 0 0, .int .i64 0, .int .i64 0] 30 (0, 0))) := ⟨(blk_set (blk_set (blk_set (blk_set (blk_set (blk_set B6.out ⟨p, 0, none⟩ (.int .u32 m0) (by have := HP.out; show q + 1 ≠ p; omega)) ⟨p, 1, none⟩ (.int .u32 m1) (by have := HP.out; show q + 1 ≠ p; omega)) ⟨p, 2, none⟩ (.int .i64 m2) (by have := HP.out; show q + 1 ≠ p; omega)) ⟨p, 3, none⟩ (.slice none 0 0) (by have := HP.out; show q + 1 ≠ p; omega)) ⟨p, 4, none⟩ (.int .i64 m3) (by have := HP.out; show q + 1 ≠ p; omega)) ⟨p, 5, none⟩ (.int .i64 m4) (by have := HP.out; show q + 1 ≠ p; omega))⟩
              have FP : Aside0 (Blk ((((((wr6.setCell ⟨p, 0, none⟩ (.int .u32 m0)).setCell ⟨p, 1, none⟩ (.int .u32 m1)).setCell ⟨p, 2, none⟩ (.int .i64 m2)).setCell ⟨p, 3, none⟩ (.slice none 0 0)).setCell ⟨p, 4, none⟩ (.int .i64 m3)).setCell ⟨p, 5, none⟩ (.int .i64 m4)) p (Obj.cells #[.int .u32 m0, .int .u32 m1, .int .i64 m2, .slice none 0 0, .int .i64 m3, .int .i64 m4] 30 (0, 0))) := ⟨((((((P6.out.put 0 (.int .u32 m0) rfl).put 1 (.int .u32 m1) rfl).put 2 (.int .i64 m2) rfl).put 3 (.slice none 0 0) rfl).put 4 (.int .i64 m3) rfl).put 5 (.int .i64 m4) rfl)⟩
              have FR : Aside0 (RdrS ((((((wr6.setCell ⟨p, 0, none⟩ (.int .u32 m0)).setCell ⟨p, 1, none⟩ (.int .u32 m1)).setCell ⟨p, 2, none⟩ (.int .i64 m2)).setCell ⟨p, 3, none⟩ (.slice none 0 0)).setCell ⟨p, 4, none⟩ (.int .i64 m3)).setCell ⟨p, 5, none⟩ (.int .i64 m4)) g B r5) := ⟨(rdr_set (rdr_set (rdr_set (rdr_set (rdr_set (rdr_set R6.out ⟨p, 0, none⟩ (.int .u32 m0) (fun k hk => by have := HB.out k hk; have := HP.out; show k ≠ p; omega)) ⟨p, 1, none⟩ (.int .u32 m1) (fun k hk => by have := HB.out k hk; have := HP.out; show k ≠ p; omega)) ⟨p, 2, none⟩ (.int .i64 m2) (fun k hk => by have := HB.out k hk; have := HP.out; show k ≠ p; omega)) ⟨p, 3, none⟩ (.slice none 0 0) (fun k hk => by have := HB.out k hk; have := HP.out; show k ≠ p; omega)) ⟨p, 4, none⟩ (.int .i64 m3) (fun k hk => by have := HB.out k hk; have := HP.out; show k ≠ p; omega)) ⟨p, 5, none⟩ (.int .i64 m4) (fun k hk => by have := HB.out k hk; have := HP.out; show k ≠ p; omega))⟩
              have FG : Aside0 (w.grownBy ((((((wr6.setCell ⟨p, 0, none⟩ (.int .u32 m0)).setCell ⟨p, 1, none⟩ (.int .u32 m1)).setCell ⟨p, 2, none⟩ (.int .i64 m2)).setCell ⟨p, 3, none⟩ (.slice none 0 0)).setCell ⟨p, 4, none⟩ (.int .i64 m3)).setCell ⟨p, 5, none⟩ (.int .i64 m4)) (some g)) := ⟨(grown_set (grown_set (grown_set (grown_set (grown_set (grown_set G6.out p 0 (.int .u32 m0) (by have := HP.out; have := HQ.out; omega)) p 1 (.int .u32 m1) (by have := HP.out; have := HQ.out; omega)) p 2 (.int .i64 m2) (by have := HP.out; have := HQ.out; omega)) p 3 (.slice none 0 0) (by have := HP.out; have := HQ.out; omega)) p 4 (.int .i64 m3) (by have := HP.out; have := HQ.out; omega)) p 5 (.int .i64 m4) (by have := HP.out; have := HQ.out; omega))⟩
              have sF : ((((((wr6.setCell ⟨p, 0, none⟩ (.int .u32 m0)).setCell ⟨p, 1, none⟩ (.int .u32 m1)).setCell ⟨p, 2, none⟩ (.int .i64 m2)).setCell ⟨p, 3, none⟩ (.slice none 0 0)).setCell ⟨p, 4, none⟩ (.int .i64 m3)).setCell ⟨p, 5, none⟩ (.int .i64 m4)).cell? ⟨q, 0, none⟩ = some (.pointer (some ⟨g, 0, none⟩)) := (FA.out.cell 0).trans rfl
              unfold o46_1_15; go_simp
              refine hK.out _ _ sF (fun hHeld' => ?_)
              try simp only [Act.put, p1_, p2_, p3_]
              refine wpAnyH_done (by kernel_rfl) ?_ _
              exact NoPanic.normal ⟨p, _, _, _, _, _, _, _, _, _, _, _, _, _, _, HP.out, rfl, FA.out, FB.out, FP.out, FR.out, FG.out⟩
            · unfold o46_1_14; go_simp
              have P5 : Aside0 (Blk (wr4.alloc (Obj.cells #[.int .u32 0, .int .u32 0, .int .i64 0, .slice none 0 0, .int .i64 0, .int .i64 0] 30)) wr4.heap.size (Obj.cells #[.int .u32 0, .int .u32 0, .int .i64 0, .slice none 0 0, .int .i64 0, .int .i64 0] 30 (0, 0))) := ⟨Blk.new_⟩
              have A5 : Aside0 (Blk (wr4.alloc (Obj.cells #[.int .u32 0, .int .u32 0, .int .i64 0, .slice none 0 0, .int .i64 0, .int .i64 0] 30)) q (Obj.cells #[.pointer (some ⟨g, 0, none⟩)] 78 (0, 0))) := ⟨A4.out.alloc⟩
              have B5 : Aside0 (Blk (wr4.alloc (Obj.cells #[.int .u32 0, .int .u32 0, .int .i64 0, .slice none 0 0, .int .i64 0, .int .i64 0] 30)) (q + 1) (Obj.cells #[.int .u32 0, .int .u32 0, .int .i64 0, .slice none 0 0, .int .i64 0, .int .i64 0] 30 (0, 0))) := ⟨B4.out.alloc⟩
              have R5 : Aside0 (RdrS (wr4.alloc (Obj.cells #[.int .u32 0, .int .u32 0, .int .i64 0, .slice none 0 0, .int .i64 0, .int .i64 0] 30)) g B r4) := ⟨RdrAt.alloc R4.out _⟩
              have G5 : Aside0 (w.grownBy (wr4.alloc (Obj.cells #[.int .u32 0, .int .u32 0, .int .i64 0, .slice none 0 0, .int .i64 0, .int .i64 0] 30)) (some g)) := ⟨grown_trans G4.out (grown_below (below_alloc (Below.refl _ _) _))⟩
              have hp : q + 1 < wr4.heap.size := B4.out.lt
              obtain ⟨wr5, hwr⟩ : ∃ W', wr4.alloc (Obj.cells #[.int .u32 0, .int .u32 0, .int .i64 0, .slice none 0 0, .int .i64 0, .int .i64 0] 30) = W' := ⟨_, rfl⟩
              obtain ⟨p, hpe⟩ : ∃ p, wr4.heap.size = p := ⟨_, rfl⟩
              rw [hwr] at P5 A5 B5 R5 G5 ⊢
              rw [hpe] at P5 hp ⊢
              have HP := Aside0.mk hp
              have s5 : wr5.cell? ⟨q, 0, none⟩ = some (.pointer (some ⟨g, 0, none⟩)) := (A5.out.cell 0).trans rfl
              clear hwr hpe hp R4 A4 B4 G4 s4
              refine hK.out _ _ s5 (fun hHeld' => ?_)
              clear hK K hHeld
              have hHeld := hHeld'
              clear hHeld'
              try simp only [Act.put, p1_, p2_, p3_]
              refine wpAnyH_ready (rs := [12]) (by kernel_rfl) (by simp) ?_
              refine AllReadyH.cons (o := o46_1_12) rfl (fun K hK => ?_) AllReadyH.nil
              unfold o46_1_12; go_simp
              go_wp2_with (first | (go_at_call 38; (with_reducible refine (kc4.out _ R5.out).mono ?_); rintro e wr6 ⟨rfl, hr, hg⟩; (have R6 := Aside0.mk hr); (have A6 := Aside0.mk (blk_grown A5.out hg (fun e => by injection e with e; have := HGL.out; omega))); (have B6 := Aside0.mk (blk_grown B5.out hg (fun e => by injection e with e; have := HGL.out; omega))); (have P6 := Aside0.mk (blk_grown P5.out hg (fun e => by injection e with e; have := HGL.out; have := HP.out; omega))); (have G6 := Aside0.mk (grown_trans G5.out hg)); (have s6 : wr6.cell? ⟨q, 0, none⟩ = some (.pointer (some ⟨g, 0, none⟩)) := (A6.out.cell 0).trans rfl); clear hr hg R5 A5 B5 G5 s5 P5))
              refine hK.out _ _ s6 (fun hHeld' => ?_)
              clear hK K hHeld
              have hHeld := hHeld'
              clear hHeld'
              try simp only [Act.put, p1_, p2_, p3_]
              refine tk_ (i := 13) (oi := o46_1_13) (v := ?vb2) (Or.inl ⟨by rfl, ?hyb2⟩) hHeld ?restb2
              case hyb2 => (intro w hSw; (try dsimp only at hSw); unfold o46_1_13; go_simp <;> with_reducible rfl)
              try simp only [o46_1_13, Act.put, p1_, p2_, p3_]
              refine wpAnyH_ready (rs := [15]) (by kernel_rfl) (by simp) ?_
              refine AllReadyH.cons (o := o46_1_15) rfl (fun K hK => ?_) AllReadyH.nil
              have y0 := (P6.out.cell 0).trans (rfl : _ = some (Value.int .u32 0))
              have yf0 := P6.out.free 0
              have y1 := (P6.out.cell 1).trans (rfl : _ = some (Value.int .u32 0))
              have yf1 := P6.out.free 1
              have y2 := (P6.out.cell 2).trans (rfl : _ = some (Value.int .i64 0))
              have yf2 := P6.out.free 2
              have y3 := (P6.out.cell 3).trans (rfl : _ = some (Value.slice none 0 0))
              have yf3 := P6.out.free 3
              have y4 := (P6.out.cell 4).trans (rfl : _ = some (Value.int .i64 0))
              have yf4 := P6.out.free 4
              have y5 := (P6.out.cell 5).trans (rfl : _ = some (Value.int .i64 0))
              have yf5 := P6.out.free 5
              have FA : Aside0 (Blk ((((((wr6.setCell ⟨p, 0, none⟩ (.int .u32 m0)).setCell ⟨p, 1, none⟩ (.int .u32 m1)).setCell ⟨p, 2, none⟩ (.int .i64 m2)).setCell ⟨p, 3, none⟩ (.slice none 0 0)).setCell ⟨p, 4, none⟩ (.int .i64 m3)).setCell ⟨p, 5, none⟩ (.int .i64 m4)) q (Obj.cells #[.pointer (some ⟨g, 0, none⟩)] 78 (0, 0))) := ⟨(blk_set (blk_set (blk_set (blk_set (blk_set (blk_set A6.out ⟨p, 0, none⟩ (.int .u32 m0) (by have := HP.out; show q ≠ p; omega)) ⟨p, 1, none⟩ (.int .u32 m1) (by have := HP.out; show q ≠ p; omega)) ⟨p, 2, none⟩ (.int .i64 m2) (by have := HP.out; show q ≠ p; omega)) ⟨p, 3, none⟩ (.slice none 0 0) (by have := HP.out; show q ≠ p; omega)) ⟨p, 4, none⟩ (.int .i64 m3) (by have := HP.out; show q ≠ p; omega)) ⟨p, 5, none⟩ (.int .i64 m4) (by have := HP.out; show q ≠ p; omega))⟩
              have FB : Aside0 (Blk ((((((wr6.setCell ⟨p, 0, none⟩ (.int .u32 m0)).setCell ⟨p, 1, none⟩ (.int .u32 m1)).setCell ⟨p, 2, none⟩ (.int .i64 m2)).setCell ⟨p, 3, none⟩ (.slice none 0 0)).setCell ⟨p, 4, none⟩ (.int .i64 m3)).setCell ⟨p, 5, none⟩ (.int .i64 m4)) (q + 1) (Obj.cells #[.int .u32 0, .int .u32 0, .int .i64 0, .slice none 0 0, .int .i64 0, .int .i64 0] 30 (0, 0))) := ⟨(blk_set (blk_set (blk_set (blk_set (blk_set (blk_set B6.out ⟨p, 0, none⟩ (.int .u32 m0) (by have := HP.out; show q + 1 ≠ p; omega)) ⟨p, 1, none⟩ (.int .u32 m1) (by have := HP.out; show q + 1 ≠ p; omega)) ⟨p, 2, none⟩ (.int .i64 m2) (by have := HP.out; show q + 1 ≠ p; omega)) ⟨p, 3, none⟩ (.slice none 0 0) (by have := HP.out; show q + 1 ≠ p; omega)) ⟨p, 4, none⟩ (.int .i64 m3) (by have := HP.out; show q + 1 ≠ p; omega)) ⟨p, 5, none⟩ (.int .i64 m4) (by have := HP.out; show q + 1 ≠ p; omega))⟩
              have FP : Aside0 (Blk ((((((wr6.setCell ⟨p, 0, none⟩ (.int .u32 m0)).setCell ⟨p, 1, none⟩ (.int .u32 m1)).setCell ⟨p, 2, none⟩ (.int .i64 m2)).setCell ⟨p, 3, none⟩ (.slice none 0 0)).setCell ⟨p, 4, none⟩ (.int .i64 m3)).setCell ⟨p, 5, none⟩ (.int .i64 m4)) p (Obj.cells #[.int .u32 m0, .int .u32 m1, .int .i64 m2, .slice none 0 0, .int .i64 m3, .int .i64 m4] 30 (0, 0))) := ⟨((((((P6.out.put 0 (.int .u32 m0) rfl).put 1 (.int .u32 m1) rfl).put 2 (.int .i64 m2) rfl).put 3 (.slice none 0 0) rfl).put 4 (.int .i64 m3) rfl).put 5 (.int .i64 m4) rfl)⟩
              have FR : Aside0 (RdrS ((((((wr6.setCell ⟨p, 0, none⟩ (.int .u32 m0)).setCell ⟨p, 1, none⟩ (.int .u32 m1)).setCell ⟨p, 2, none⟩ (.int .i64 m2)).setCell ⟨p, 3, none⟩ (.slice none 0 0)).setCell ⟨p, 4, none⟩ (.int .i64 m3)).setCell ⟨p, 5, none⟩ (.int .i64 m4)) g B r5) := ⟨(rdr_set (rdr_set (rdr_set (rdr_set (rdr_set (rdr_set R6.out ⟨p, 0, none⟩ (.int .u32 m0) (fun k hk => by have := HB.out k hk; have := HP.out; show k ≠ p; omega)) ⟨p, 1, none⟩ (.int .u32 m1) (fun k hk => by have := HB.out k hk; have := HP.out; show k ≠ p; omega)) ⟨p, 2, none⟩ (.int .i64 m2) (fun k hk => by have := HB.out k hk; have := HP.out; show k ≠ p; omega)) ⟨p, 3, none⟩ (.slice none 0 0) (fun k hk => by have := HB.out k hk; have := HP.out; show k ≠ p; omega)) ⟨p, 4, none⟩ (.int .i64 m3) (fun k hk => by have := HB.out k hk; have := HP.out; show k ≠ p; omega)) ⟨p, 5, none⟩ (.int .i64 m4) (fun k hk => by have := HB.out k hk; have := HP.out; show k ≠ p; omega))⟩
              have FG : Aside0 (w.grownBy ((((((wr6.setCell ⟨p, 0, none⟩ (.int .u32 m0)).setCell ⟨p, 1, none⟩ (.int .u32 m1)).setCell ⟨p, 2, none⟩ (.int .i64 m2)).setCell ⟨p, 3, none⟩ (.slice none 0 0)).setCell ⟨p, 4, none⟩ (.int .i64 m3)).setCell ⟨p, 5, none⟩ (.int .i64 m4)) (some g)) := ⟨(grown_set (grown_set (grown_set (grown_set (grown_set (grown_set G6.out p 0 (.int .u32 m0) (by have := HP.out; have := HQ.out; omega)) p 1 (.int .u32 m1) (by have := HP.out; have := HQ.out; omega)) p 2 (.int .i64 m2) (by have := HP.out; have := HQ.out; omega)) p 3 (.slice none 0 0) (by have := HP.out; have := HQ.out; omega)) p 4 (.int .i64 m3) (by have := HP.out; have := HQ.out; omega)) p 5 (.int .i64 m4) (by have := HP.out; have := HQ.out; omega))⟩
              have sF : ((((((wr6.setCell ⟨p, 0, none⟩ (.int .u32 m0)).setCell ⟨p, 1, none⟩ (.int .u32 m1)).setCell ⟨p, 2, none⟩ (.int .i64 m2)).setCell ⟨p, 3, none⟩ (.slice none 0 0)).setCell ⟨p, 4, none⟩ (.int .i64 m3)).setCell ⟨p, 5, none⟩ (.int .i64 m4)).cell? ⟨q, 0, none⟩ = some (.pointer (some ⟨g, 0, none⟩)) := (FA.out.cell 0).trans rfl
              unfold o46_1_15; go_simp
              refine hK.out _ _ sF (fun hHeld' => ?_)
              try simp only [Act.put, p1_, p2_, p3_]
              refine wpAnyH_done (by kernel_rfl) ?_ _
              exact NoPanic.normal ⟨p, _, _, _, _, _, _, _, _, _, _, _, _, _, _, HP.out, rfl, FA.out, FB.out, FP.out, FR.out, FG.out⟩
          · unfold o46_1_14; go_simp
            have P4 : Aside0 (Blk (wr3.alloc (Obj.cells #[.int .u32 0, .int .u32 0, .int .i64 0, .slice none 0 0, .int .i64 0, .int .i64 0] 30)) wr3.heap.size (Obj.cells #[.int .u32 0, .int .u32 0, .int .i64 0, .slice none 0 0, .int .i64 0, .int .i64 0] 30 (0, 0))) := ⟨Blk.new_⟩
            have A4 : Aside0 (Blk (wr3.alloc (Obj.cells #[.int .u32 0, .int .u32 0, .int .i64 0, .slice none 0 0, .int .i64 0, .int .i64 0] 30)) q (Obj.cells #[.pointer (some ⟨g, 0, none⟩)] 78 (0, 0))) := ⟨A3.out.alloc⟩
            have B4 : Aside0 (Blk (wr3.alloc (Obj.cells #[.int .u32 0, .int .u32 0, .int .i64 0, .slice none 0 0, .int .i64 0, .int .i64 0] 30)) (q + 1) (Obj.cells #[.int .u32 0, .int .u32 0, .int .i64 0, .slice none 0 0, .int .i64 0, .int .i64 0] 30 (0, 0))) := ⟨B3.out.alloc⟩
            have R4 : Aside0 (RdrS (wr3.alloc (Obj.cells #[.int .u32 0, .int .u32 0, .int .i64 0, .slice none 0 0, .int .i64 0, .int .i64 0] 30)) g B r3) := ⟨RdrAt.alloc R3.out _⟩
            have G4 : Aside0 (w.grownBy (wr3.alloc (Obj.cells #[.int .u32 0, .int .u32 0, .int .i64 0, .slice none 0 0, .int .i64 0, .int .i64 0] 30)) (some g)) := ⟨grown_trans G3.out (grown_below (below_alloc (Below.refl _ _) _))⟩
            have hp : q + 1 < wr3.heap.size := B3.out.lt
            obtain ⟨wr4, hwr⟩ : ∃ W', wr3.alloc (Obj.cells #[.int .u32 0, .int .u32 0, .int .i64 0, .slice none 0 0, .int .i64 0, .int .i64 0] 30) = W' := ⟨_, rfl⟩
            obtain ⟨p, hpe⟩ : ∃ p, wr3.heap.size = p := ⟨_, rfl⟩
            rw [hwr] at P4 A4 B4 R4 G4 ⊢
            rw [hpe] at P4 hp ⊢
            have HP := Aside0.mk hp
            have s4 : wr4.cell? ⟨q, 0, none⟩ = some (.pointer (some ⟨g, 0, none⟩)) := (A4.out.cell 0).trans rfl
            clear hwr hpe hp R3 A3 B3 G3 s3
            refine hK.out _ _ s4 (fun hHeld' => ?_)
            clear hK K hHeld
            have hHeld := hHeld'
            clear hHeld'
            try simp only [Act.put, p1_, p2_, p3_]
            refine wpAnyH_ready (rs := [9]) (by kernel_rfl) (by simp) ?_
            refine AllReadyH.cons (o := o46_1_9) rfl (fun K hK => ?_) AllReadyH.nil
            unfold o46_1_9; go_simp
            go_wp2_with (first | (go_at_call 38; (with_reducible refine (kc3.out _ R4.out).mono ?_); rintro e wr5 ⟨rfl, hr, hg⟩; (have R5 := Aside0.mk hr); (have A5 := Aside0.mk (blk_grown A4.out hg (fun e => by injection e with e; have := HGL.out; omega))); (have B5 := Aside0.mk (blk_grown B4.out hg (fun e => by injection e with e; have := HGL.out; omega))); (have P5 := Aside0.mk (blk_grown P4.out hg (fun e => by injection e with e; have := HGL.out; have := HP.out; omega))); (have G5 := Aside0.mk (grown_trans G4.out hg)); (have s5 : wr5.cell? ⟨q, 0, none⟩ = some (.pointer (some ⟨g, 0, none⟩)) := (A5.out.cell 0).trans rfl); clear hr hg R4 A4 B4 G4 s4 P4))
            refine hK.out _ _ s5 (fun hHeld' => ?_)
            clear hK K hHeld
            have hHeld := hHeld'
            clear hHeld'
            try simp only [Act.put, p1_, p2_, p3_]
            refine wpAnyH_ready (rs := [12]) (by kernel_rfl) (by simp) ?_
            refine AllReadyH.cons (o := o46_1_12) rfl (fun K hK => ?_) AllReadyH.nil
            unfold o46_1_12; go_simp
            go_wp2_with (first | (go_at_call 38; (with_reducible refine (kc4.out _ R5.out).mono ?_); rintro e wr6 ⟨rfl, hr, hg⟩; (have R6 := Aside0.mk hr); (have A6 := Aside0.mk (blk_grown A5.out hg (fun e => by injection e with e; have := HGL.out; omega))); (have B6 := Aside0.mk (blk_grown B5.out hg (fun e => by injection e with e; have := HGL.out; omega))); (have P6 := Aside0.mk (blk_grown P5.out hg (fun e => by injection e with e; have := HGL.out; have := HP.out; omega))); (have G6 := Aside0.mk (grown_trans G5.out hg)); (have s6 : wr6.cell? ⟨q, 0, none⟩ = some (.pointer (some ⟨g, 0, none⟩)) := (A6.out.cell 0).trans rfl); clear hr hg R5 A5 B5 G5 s5 P5))
            refine hK.out _ _ s6 (fun hHeld' => ?_)
            clear hK K hHeld
            have hHeld := hHeld'
            clear hHeld'
            try simp only [Act.put, p1_, p2_, p3_]
            refine tk_ (i := 13) (oi := o46_1_13) (v := ?vb3) (Or.inl ⟨by rfl, ?hyb3⟩) hHeld ?restb3
            case hyb3 => (intro w hSw; (try dsimp only at hSw); unfold o46_1_13; go_simp <;> with_reducible rfl)
            try simp only [o46_1_13, Act.put, p1_, p2_, p3_]
            refine wpAnyH_ready (rs := [15]) (by kernel_rfl) (by simp) ?_
            refine AllReadyH.cons (o := o46_1_15) rfl (fun K hK => ?_) AllReadyH.nil
            have y0 := (P6.out.cell 0).trans (rfl : _ = some (Value.int .u32 0))
            have yf0 := P6.out.free 0
            have y1 := (P6.out.cell 1).trans (rfl : _ = some (Value.int .u32 0))
            have yf1 := P6.out.free 1
            have y2 := (P6.out.cell 2).trans (rfl : _ = some (Value.int .i64 0))
            have yf2 := P6.out.free 2
            have y3 := (P6.out.cell 3).trans (rfl : _ = some (Value.slice none 0 0))
            have yf3 := P6.out.free 3
            have y4 := (P6.out.cell 4).trans (rfl : _ = some (Value.int .i64 0))
            have yf4 := P6.out.free 4
            have y5 := (P6.out.cell 5).trans (rfl : _ = some (Value.int .i64 0))
            have yf5 := P6.out.free 5
            have FA : Aside0 (Blk ((((((wr6.setCell ⟨p, 0, none⟩ (.int .u32 m0)).setCell ⟨p, 1, none⟩ (.int .u32 m1)).setCell ⟨p, 2, none⟩ (.int .i64 m2)).setCell ⟨p, 3, none⟩ (.slice none 0 0)).setCell ⟨p, 4, none⟩ (.int .i64 m3)).setCell ⟨p, 5, none⟩ (.int .i64 m4)) q (Obj.cells #[.pointer (some ⟨g, 0, none⟩)] 78 (0, 0))) := ⟨(blk_set (blk_set (blk_set (blk_set (blk_set (blk_set A6.out ⟨p, 0, none⟩ (.int .u32 m0) (by have := HP.out; show q ≠ p; omega)) ⟨p, 1, none⟩ (.int .u32 m1) (by have := HP.out; show q ≠ p; omega)) ⟨p, 2, none⟩ (.int .i64 m2) (by have := HP.out; show q ≠ p; omega)) ⟨p, 3, none⟩ (.slice none 0 0) (by have := HP.out; show q ≠ p; omega)) ⟨p, 4, none⟩ (.int .i64 m3) (by have := HP.out; show q ≠ p; omega)) ⟨p, 5, none⟩ (.int .i64 m4) (by have := HP.out; show q ≠ p; omega))⟩
            have FB : Aside0 (Blk ((((((wr6.setCell ⟨p, 0, none⟩ (.int .u32 m0)).setCell ⟨p, 1, none⟩ (.int .u32 m1)).setCell ⟨p, 2, none⟩ (.int .i64 m2)).setCell ⟨p, 3, none⟩ (.slice none 0 0)).setCell ⟨p, 4, none⟩ (.int .i64 m3)).setCell ⟨p, 5, none⟩ (.int .i64 m4)) (q + 1) (Obj.cells #[.int .u32 0, .int .u32 0, .int .i64 0, .slice none 0 0, .int .i64 0, .int .i64 0] 30 (0, 0))) := ⟨(blk_set (blk_set (blk_set (blk_set (blk_set (blk_set B6.out ⟨p, 0, none⟩ (.int .u32 m0) (by have := HP.out; show q + 1 ≠ p; omega)) ⟨p, 1, none⟩ (.int .u32 m1) (by have := HP.out; show q + 1 ≠ p; omega)) ⟨p, 2, none⟩ (.int .i64 m2) (by have := HP.out; show q + 1 ≠ p; omega)) ⟨p, 3, none⟩ (.slice none 0 0) (by have := HP.out; show q + 1 ≠ p; omega)) ⟨p, 4, none⟩ (.int .i64 m3) (by have := HP.out; show q + 1 ≠ p; omega)) ⟨p, 5, none⟩ (.int .i64 m4) (by have := HP.out; show q + 1 ≠ p; omega))⟩
            have FP : Aside0 (Blk ((((((wr6.setCell ⟨p, 0, none⟩ (.int .u32 m0)).setCell ⟨p, 1, none⟩ (.int .u32 m1)).setCell ⟨p, 2, none⟩ (.int .i64 m2)).setCell ⟨p, 3, none⟩ (.slice none 0 0)).setCell ⟨p, 4, none⟩ (.int .i64 m3)).setCell ⟨p, 5, none⟩ (.int .i64 m4)) p (Obj.cells #[.int .u32 m0, .int .u32 m1, .int .i64 m2, .slice none 0 0, .int .i64 m3, .int .i64 m4] 30 (0, 0))) := ⟨((((((P6.out.put 0 (.int .u32 m0) rfl).put 1 (.int .u32 m1) rfl).put 2 (.int .i64 m2) rfl).put 3 (.slice none 0 0) rfl).put 4 (.int .i64 m3) rfl).put 5 (.int .i64 m4) rfl)⟩
            have FR : Aside0 (RdrS ((((((wr6.setCell ⟨p, 0, none⟩ (.int .u32 m0)).setCell ⟨p, 1, none⟩ (.int .u32 m1)).setCell ⟨p, 2, none⟩ (.int .i64 m2)).setCell ⟨p, 3, none⟩ (.slice none 0 0)).setCell ⟨p, 4, none⟩ (.int .i64 m3)).setCell ⟨p, 5, none⟩ (.int .i64 m4)) g B r5) := ⟨(rdr_set (rdr_set (rdr_set (rdr_set (rdr_set (rdr_set R6.out ⟨p, 0, none⟩ (.int .u32 m0) (fun k hk => by have := HB.out k hk; have := HP.out; show k ≠ p; omega)) ⟨p, 1, none⟩ (.int .u32 m1) (fun k hk => by have := HB.out k hk; have := HP.out; show k ≠ p; omega)) ⟨p, 2, none⟩ (.int .i64 m2) (fun k hk => by have := HB.out k hk; have := HP.out; show k ≠ p; omega)) ⟨p, 3, none⟩ (.slice none 0 0) (fun k hk => by have := HB.out k hk; have := HP.out; show k ≠ p; omega)) ⟨p, 4, none⟩ (.int .i64 m3) (fun k hk => by have := HB.out k hk; have := HP.out; show k ≠ p; omega)) ⟨p, 5, none⟩ (.int .i64 m4) (fun k hk => by have := HB.out k hk; have := HP.out; show k ≠ p; omega))⟩
            have FG : Aside0 (w.grownBy ((((((wr6.setCell ⟨p, 0, none⟩ (.int .u32 m0)).setCell ⟨p, 1, none⟩ (.int .u32 m1)).setCell ⟨p, 2, none⟩ (.int .i64 m2)).setCell ⟨p, 3, none⟩ (.slice none 0 0)).setCell ⟨p, 4, none⟩ (.int .i64 m3)).setCell ⟨p, 5, none⟩ (.int .i64 m4)) (some g)) := ⟨(grown_set (grown_set (grown_set (grown_set (grown_set (grown_set G6.out p 0 (.int .u32 m0) (by have := HP.out; have := HQ.out; omega)) p 1 (.int .u32 m1) (by have := HP.out; have := HQ.out; omega)) p 2 (.int .i64 m2) (by have := HP.out; have := HQ.out; omega)) p 3 (.slice none 0 0) (by have := HP.out; have := HQ.out; omega)) p 4 (.int .i64 m3) (by have := HP.out; have := HQ.out; omega)) p 5 (.int .i64 m4) (by have := HP.out; have := HQ.out; omega))⟩
            have sF : ((((((wr6.setCell ⟨p, 0, none⟩ (.int .u32 m0)).setCell ⟨p, 1, none⟩ (.int .u32 m1)).setCell ⟨p, 2, none⟩ (.int .i64 m2)).setCell ⟨p, 3, none⟩ (.slice none 0 0)).setCell ⟨p, 4, none⟩ (.int .i64 m3)).setCell ⟨p, 5, none⟩ (.int .i64 m4)).cell? ⟨q, 0, none⟩ = some (.pointer (some ⟨g, 0, none⟩)) := (FA.out.cell 0).trans rfl
            unfold o46_1_15; go_simp
            refine hK.out _ _ sF (fun hHeld' => ?_)
            try simp only [Act.put, p1_, p2_, p3_]
            refine wpAnyH_done (by kernel_rfl) ?_ _
            exact NoPanic.normal ⟨p, _, _, _, _, _, _, _, _, _, _, _, _, _, _, HP.out, rfl, FA.out, FB.out, FP.out, FR.out, FG.out⟩
        · unfold o46_1_14; go_simp
          have P3 : Aside0 (Blk (wr2.alloc (Obj.cells #[.int .u32 0, .int .u32 0, .int .i64 0, .slice none 0 0, .int .i64 0, .int .i64 0] 30)) wr2.heap.size (Obj.cells #[.int .u32 0, .int .u32 0, .int .i64 0, .slice none 0 0, .int .i64 0, .int .i64 0] 30 (0, 0))) := ⟨Blk.new_⟩
          have A3 : Aside0 (Blk (wr2.alloc (Obj.cells #[.int .u32 0, .int .u32 0, .int .i64 0, .slice none 0 0, .int .i64 0, .int .i64 0] 30)) q (Obj.cells #[.pointer (some ⟨g, 0, none⟩)] 78 (0, 0))) := ⟨A2.out.alloc⟩
          have B3 : Aside0 (Blk (wr2.alloc (Obj.cells #[.int .u32 0, .int .u32 0, .int .i64 0, .slice none 0 0, .int .i64 0, .int .i64 0] 30)) (q + 1) (Obj.cells #[.int .u32 0, .int .u32 0, .int .i64 0, .slice none 0 0, .int .i64 0, .int .i64 0] 30 (0, 0))) := ⟨B2.out.alloc⟩
          have R3 : Aside0 (RdrS (wr2.alloc (Obj.cells #[.int .u32 0, .int .u32 0, .int .i64 0, .slice none 0 0, .int .i64 0, .int .i64 0] 30)) g B r2) := ⟨RdrAt.alloc R2.out _⟩
          have G3 : Aside0 (w.grownBy (wr2.alloc (Obj.cells #[.int .u32 0, .int .u32 0, .int .i64 0, .slice none 0 0, .int .i64 0, .int .i64 0] 30)) (some g)) := ⟨grown_trans G2.out (grown_below (below_alloc (Below.refl _ _) _))⟩
          have hp : q + 1 < wr2.heap.size := B2.out.lt
          obtain ⟨wr3, hwr⟩ : ∃ W', wr2.alloc (Obj.cells #[.int .u32 0, .int .u32 0, .int .i64 0, .slice none 0 0, .int .i64 0, .int .i64 0] 30) = W' := ⟨_, rfl⟩
          obtain ⟨p, hpe⟩ : ∃ p, wr2.heap.size = p := ⟨_, rfl⟩
          rw [hwr] at P3 A3 B3 R3 G3 ⊢
          rw [hpe] at P3 hp ⊢
          have HP := Aside0.mk hp
          have s3 : wr3.cell? ⟨q, 0, none⟩ = some (.pointer (some ⟨g, 0, none⟩)) := (A3.out.cell 0).trans rfl
          clear hwr hpe hp R2 A2 B2 G2 s2
          refine hK.out _ _ s3 (fun hHeld' => ?_)
          clear hK K hHeld
          have hHeld := hHeld'
          clear hHeld'
          try simp only [Act.put, p1_, p2_, p3_]
          refine wpAnyH_ready (rs := [6]) (by kernel_rfl) (by simp) ?_
          refine AllReadyH.cons (o := o46_1_6) rfl (fun K hK => ?_) AllReadyH.nil
          unfold o46_1_6; go_simp
          go_wp2_with (first | (go_at_call 38; (with_reducible refine (kc2.out _ R3.out).mono ?_); rintro e wr4 ⟨rfl, hr, hg⟩; (have R4 := Aside0.mk hr); (have A4 := Aside0.mk (blk_grown A3.out hg (fun e => by injection e with e; have := HGL.out; omega))); (have B4 := Aside0.mk (blk_grown B3.out hg (fun e => by injection e with e; have := HGL.out; omega))); (have P4 := Aside0.mk (blk_grown P3.out hg (fun e => by injection e with e; have := HGL.out; have := HP.out; omega))); (have G4 := Aside0.mk (grown_trans G3.out hg)); (have s4 : wr4.cell? ⟨q, 0, none⟩ = some (.pointer (some ⟨g, 0, none⟩)) := (A4.out.cell 0).trans rfl); clear hr hg R3 A3 B3 G3 s3 P3))
          refine hK.out _ _ s4 (fun hHeld' => ?_)
          clear hK K hHeld
          have hHeld := hHeld'
          clear hHeld'
          try simp only [Act.put, p1_, p2_, p3_]
          refine wpAnyH_ready (rs := [9]) (by kernel_rfl) (by simp) ?_
          refine AllReadyH.cons (o := o46_1_9) rfl (fun K hK => ?_) AllReadyH.nil
          unfold o46_1_9; go_simp
          go_wp2_with (first | (go_at_call 38; (with_reducible refine (kc3.out _ R4.out).mono ?_); rintro e wr5 ⟨rfl, hr, hg⟩; (have R5 := Aside0.mk hr); (have A5 := Aside0.mk (blk_grown A4.out hg (fun e => by injection e with e; have := HGL.out; omega))); (have B5 := Aside0.mk (blk_grown B4.out hg (fun e => by injection e with e; have := HGL.out; omega))); (have P5 := Aside0.mk (blk_grown P4.out hg (fun e => by injection e with e; have := HGL.out; have := HP.out; omega))); (have G5 := Aside0.mk (grown_trans G4.out hg)); (have s5 : wr5.cell? ⟨q, 0, none⟩ = some (.pointer (some ⟨g, 0, none⟩)) := (A5.out.cell 0).trans rfl); clear hr hg R4 A4 B4 G4 s4 P4))
          refine hK.out _ _ s5 (fun hHeld' => ?_)
          clear hK K hHeld
          have hHeld := hHeld'
          clear hHeld'
          try simp only [Act.put, p1_, p2_, p3_]
          refine wpAnyH_ready (rs := [12]) (by kernel_rfl) (by simp) ?_
          refine AllReadyH.cons (o := o46_1_12) rfl (fun K hK => ?_) AllReadyH.nil
          unfold o46_1_12; go_simp
          go_wp2_with (first | (go_at_call 38; (with_reducible refine (kc4.out _ R5.out).mono ?_); rintro e wr6 ⟨rfl, hr, hg⟩; (have R6 := Aside0.mk hr); (have A6 := Aside0.mk (blk_grown A5.out hg (fun e => by injection e with e; have := HGL.out; omega))); (have B6 := Aside0.mk (blk_grown B5.out hg (fun e => by injection e with e; have := HGL.out; omega))); (have P6 := Aside0.mk (blk_grown P5.out hg (fun e => by injection e with e; have := HGL.out; have := HP.out; omega))); (have G6 := Aside0.mk (grown_trans G5.out hg)); (have s6 : wr6.cell? ⟨q, 0, none⟩ = some (.pointer (some ⟨g, 0, none⟩)) := (A6.out.cell 0).trans rfl); clear hr hg R5 A5 B5 G5 s5 P5))
          refine hK.out _ _ s6 (fun hHeld' => ?_)
          clear hK K hHeld
          have hHeld := hHeld'
          clear hHeld'
          try simp only [Act.put, p1_, p2_, p3_]
          refine tk_ (i := 13) (oi := o46_1_13) (v := ?vb4) (Or.inl ⟨by rfl, ?hyb4⟩) hHeld ?restb4
          case hyb4 => (intro w hSw; (try dsimp only at hSw); unfold o46_1_13; go_simp <;> with_reducible rfl)
          try simp only [o46_1_13, Act.put, p1_, p2_, p3_]
          refine wpAnyH_ready (rs := [15]) (by kernel_rfl) (by simp) ?_
          refine AllReadyH.cons (o := o46_1_15) rfl (fun K hK => ?_) AllReadyH.nil
          have y0 := (P6.out.cell 0).trans (rfl : _ = some (Value.int .u32 0))
          have yf0 := P6.out.free 0
          have y1 := (P6.out.cell 1).trans (rfl : _ = some (Value.int .u32 0))
          have yf1 := P6.out.free 1
          have y2 := (P6.out.cell 2).trans (rfl : _ = some (Value.int .i64 0))
          have yf2 := P6.out.free 2
          have y3 := (P6.out.cell 3).trans (rfl : _ = some (Value.slice none 0 0))
          have yf3 := P6.out.free 3
          have y4 := (P6.out.cell 4).trans (rfl : _ = some (Value.int .i64 0))
          have yf4 := P6.out.free 4
          have y5 := (P6.out.cell 5).trans (rfl : _ = some (Value.int .i64 0))
          have yf5 := P6.out.free 5
          have FA : Aside0 (Blk ((((((wr6.setCell ⟨p, 0, none⟩ (.int .u32 m0)).setCell ⟨p, 1, none⟩ (.int .u32 m1)).setCell ⟨p, 2, none⟩ (.int .i64 m2)).setCell ⟨p, 3, none⟩ (.slice none 0 0)).setCell ⟨p, 4, none⟩ (.int .i64 m3)).setCell ⟨p, 5, none⟩ (.int .i64 m4)) q (Obj.cells #[.pointer (some ⟨g, 0, none⟩)] 78 (0, 0))) := ⟨(blk_set (blk_set (blk_set (blk_set (blk_set (blk_set A6.out ⟨p, 0, none⟩ (.int .u32 m0) (by have := HP.out; show q ≠ p; omega)) ⟨p, 1, none⟩ (.int .u32 m1) (by have := HP.out; show q ≠ p; omega)) ⟨p, 2, none⟩ (.int .i64 m2) (by have := HP.out; show q ≠ p; omega)) ⟨p, 3, none⟩ (.slice none 0 0) (by have := HP.out; show q ≠ p; omega)) ⟨p, 4, none⟩ (.int .i64 m3) (by have := HP.out; show q ≠ p; omega)) ⟨p, 5, none⟩ (.int .i64 m4) (by have := HP.out; show q ≠ p; omega))⟩
          have FB : Aside0 (Blk ((((((wr6.setCell ⟨p, 0, none⟩ (.int .u32 m0)).setCell ⟨p, 1, none⟩ (.int .u32 m1)).setCell ⟨p, 2, none⟩ (.int .i64 m2)).setCell ⟨p, 3, none⟩ (.slice none 0 0)).setCell ⟨p, 4, none⟩ (.int .i64 m3)).setCell ⟨p, 5, none⟩ (.int .i64 m4)) (q + 1) (Obj.cells #[.int .u32 0, .int .u32 0, .int .i64 0, .slice none 0 0, .int .i64 0, .int .i64 0] 30 (0, 0))) := ⟨(blk_set (blk_set (blk_set (blk_set (blk_set (blk_set B6.out ⟨p, 0, none⟩ (.int .u32 m0) (by have := HP.out; show q + 1 ≠ p; omega)) ⟨p, 1, none⟩ (.int .u32 m1) (by have := HP.out; show q + 1 ≠ p; omega)) ⟨p, 2, none⟩ (.int .i64 m2) (by have := HP.out; show q + 1 ≠ p; omega)) ⟨p, 3, none⟩ (.slice none 0 0) (by have := HP.out; show q + 1 ≠ p; omega)) ⟨p, 4, none⟩ (.int .i64 m3) (by have := HP.out; show q + 1 ≠ p; omega)) ⟨p, 5, none⟩ (.int .i64 m4) (by have := HP.out; show q + 1 ≠ p; omega))⟩
          have FP : Aside0 (Blk ((((((wr6.setCell ⟨p, 0, none⟩ (.int .u32 m0)).setCell ⟨p, 1, none⟩ (.int .u32 m1)).setCell ⟨p, 2, none⟩ (.int .i64 m2)).setCell ⟨p, 3, none⟩ (.slice none 0 0)).setCell ⟨p, 4, none⟩ (.int .i64 m3)).setCell ⟨p, 5, none⟩ (.int .i64 m4)) p (Obj.cells #[.int .u32 m0, .int .u32 m1, .int .i64 m2, .slice none 0 0, .int .i64 m3, .int .i64 m4] 30 (0, 0))) := ⟨((((((P6.out.put 0 (.int .u32 m0) rfl).put 1 (.int .u32 m1) rfl).put 2 (.int .i64 m2) rfl).put 3 (.slice none 0 0) rfl).put 4 (.int .i64 m3) rfl).put 5 (.int .i64 m4) rfl)⟩
          have FR : Aside0 (RdrS ((((((wr6.setCell ⟨p, 0, none⟩ (.int .u32 m0)).setCell ⟨p, 1, none⟩ (.int .u32 m1)).setCell ⟨p, 2, none⟩ (.int .i64 m2)).setCell ⟨p, 3, none⟩ (.slice none 0 0)).setCell ⟨p, 4, none⟩ (.int .i64 m3)).setCell ⟨p, 5, none⟩ (.int .i64 m4)) g B r5) := ⟨(rdr_set (rdr_set (rdr_set (rdr_set (rdr_set (rdr_set R6.out ⟨p, 0, none⟩ (.int .u32 m0) (fun k hk => by have := HB.out k hk; have := HP.out; show k ≠ p; omega)) ⟨p, 1, none⟩ (.int .u32 m1) (fun k hk => by have := HB.out k hk; have := HP.out; show k ≠ p; omega)) ⟨p, 2, none⟩ (.int .i64 m2) (fun k hk => by have := HB.out k hk; have := HP.out; show k ≠ p; omega)) ⟨p, 3, none⟩ (.slice none 0 0) (fun k hk => by have := HB.out k hk; have := HP.out; show k ≠ p; omega)) ⟨p, 4, none⟩ (.int .i64 m3) (fun k hk => by have := HB.out k hk; have := HP.out; show k ≠ p; omega)) ⟨p, 5, none⟩ (.int .i64 m4) (fun k hk => by have := HB.out k hk; have := HP.out; show k ≠ p; omega))⟩
          have FG : Aside0 (w.grownBy ((((((wr6.setCell ⟨p, 0, none⟩ (.int .u32 m0)).setCell ⟨p, 1, none⟩ (.int .u32 m1)).setCell ⟨p, 2, none⟩ (.int .i64 m2)).setCell ⟨p, 3, none⟩ (.slice none 0 0)).setCell ⟨p, 4, none⟩ (.int .i64 m3)).setCell ⟨p, 5, none⟩ (.int .i64 m4)) (some g)) := ⟨(grown_set (grown_set (grown_set (grown_set (grown_set (grown_set G6.out p 0 (.int .u32 m0) (by have := HP.out; have := HQ.out; omega)) p 1 (.int .u32 m1) (by have := HP.out; have := HQ.out; omega)) p 2 (.int .i64 m2) (by have := HP.out; have := HQ.out; omega)) p 3 (.slice none 0 0) (by have := HP.out; have := HQ.out; omega)) p 4 (.int .i64 m3) (by have := HP.out; have := HQ.out; omega)) p 5 (.int .i64 m4) (by have := HP.out; have := HQ.out; omega))⟩
          have sF : ((((((wr6.setCell ⟨p, 0, none⟩ (.int .u32 m0)).setCell ⟨p, 1, none⟩ (.int .u32 m1)).setCell ⟨p, 2, none⟩ (.int .i64 m2)).setCell ⟨p, 3, none⟩ (.slice none 0 0)).setCell ⟨p, 4, none⟩ (.int .i64 m3)).setCell ⟨p, 5, none⟩ (.int .i64 m4)).cell? ⟨q, 0, none⟩ = some (.pointer (some ⟨g, 0, none⟩)) := (FA.out.cell 0).trans rfl
          unfold o46_1_15; go_simp
          refine hK.out _ _ sF (fun hHeld' => ?_)
          try simp only [Act.put, p1_, p2_, p3_]
          refine wpAnyH_done (by kernel_rfl) ?_ _
          exact NoPanic.normal ⟨p, _, _, _, _, _, _, _, _, _, _, _, _, _, _, HP.out, rfl, FA.out, FB.out, FP.out, FR.out, FG.out⟩
      · unfold o46_1_14; go_simp
        have P2 : Aside0 (Blk (wr1.alloc (Obj.cells #[.int .u32 0, .int .u32 0, .int .i64 0, .slice none 0 0, .int .i64 0, .int .i64 0] 30)) wr1.heap.size (Obj.cells #[.int .u32 0, .int .u32 0, .int .i64 0, .slice none 0 0, .int .i64 0, .int .i64 0] 30 (0, 0))) := ⟨Blk.new_⟩
        have A2 : Aside0 (Blk (wr1.alloc (Obj.cells #[.int .u32 0, .int .u32 0, .int .i64 0, .slice none 0 0, .int .i64 0, .int .i64 0] 30)) q (Obj.cells #[.pointer (some ⟨g, 0, none⟩)] 78 (0, 0))) := ⟨A1.out.alloc⟩
        have B2 : Aside0 (Blk (wr1.alloc (Obj.cells #[.int .u32 0, .int .u32 0, .int .i64 0, .slice none 0 0, .int .i64 0, .int .i64 0] 30)) (q + 1) (Obj.cells #[.int .u32 0, .int .u32 0, .int .i64 0, .slice none 0 0, .int .i64 0, .int .i64 0] 30 (0, 0))) := ⟨B1.out.alloc⟩
        have R2 : Aside0 (RdrS (wr1.alloc (Obj.cells #[.int .u32 0, .int .u32 0, .int .i64 0, .slice none 0 0, .int .i64 0, .int .i64 0] 30)) g B r1) := ⟨RdrAt.alloc R1.out _⟩
        have G2 : Aside0 (w.grownBy (wr1.alloc (Obj.cells #[.int .u32 0, .int .u32 0, .int .i64 0, .slice none 0 0, .int .i64 0, .int .i64 0] 30)) (some g)) := ⟨grown_trans G1.out (grown_below (below_alloc (Below.refl _ _) _))⟩
        have hp : q + 1 < wr1.heap.size := B1.out.lt
        obtain ⟨wr2, hwr⟩ : ∃ W', wr1.alloc (Obj.cells #[.int .u32 0, .int .u32 0, .int .i64 0, .slice none 0 0, .int .i64 0, .int .i64 0] 30) = W' := ⟨_, rfl⟩
        obtain ⟨p, hpe⟩ : ∃ p, wr1.heap.size = p := ⟨_, rfl⟩
        rw [hwr] at P2 A2 B2 R2 G2 ⊢
        rw [hpe] at P2 hp ⊢
        have HP := Aside0.mk hp
        have s2 : wr2.cell? ⟨q, 0, none⟩ = some (.pointer (some ⟨g, 0, none⟩)) := (A2.out.cell 0).trans rfl
        clear hwr hpe hp R1 A1 B1 G1 s1
        refine hK.out _ _ s2 (fun hHeld' => ?_)
        clear hK K hHeld
        have hHeld := hHeld'
        clear hHeld'
        try simp only [Act.put, p1_, p2_, p3_]
        refine wpAnyH_ready (rs := [3]) (by kernel_rfl) (by simp) ?_
        refine AllReadyH.cons (o := o46_1_3) rfl (fun K hK => ?_) AllReadyH.nil
        unfold o46_1_3; go_simp
        go_wp2_with (first | (go_at_call 37; (with_reducible refine (kc1.out _ R2.out).mono ?_); rintro e wr3 ⟨rfl, hr, hg⟩; (have R3 := Aside0.mk hr); (have A3 := Aside0.mk (blk_grown A2.out hg (fun e => by injection e with e; have := HGL.out; omega))); (have B3 := Aside0.mk (blk_grown B2.out hg (fun e => by injection e with e; have := HGL.out; omega))); (have P3 := Aside0.mk (blk_grown P2.out hg (fun e => by injection e with e; have := HGL.out; have := HP.out; omega))); (have G3 := Aside0.mk (grown_trans G2.out hg)); (have s3 : wr3.cell? ⟨q, 0, none⟩ = some (.pointer (some ⟨g, 0, none⟩)) := (A3.out.cell 0).trans rfl); clear hr hg R2 A2 B2 G2 s2 P2))
        refine hK.out _ _ s3 (fun hHeld' => ?_)
        clear hK K hHeld
        have hHeld := hHeld'
        clear hHeld'
        try simp only [Act.put, p1_, p2_, p3_]
        refine wpAnyH_ready (rs := [6]) (by kernel_rfl) (by simp) ?_
        refine AllReadyH.cons (o := o46_1_6) rfl (fun K hK => ?_) AllReadyH.nil
        unfold o46_1_6; go_simp
        go_wp2_with (first | (go_at_call 38; (with_reducible refine (kc2.out _ R3.out).mono ?_); rintro e wr4 ⟨rfl, hr, hg⟩; (have R4 := Aside0.mk hr); (have A4 := Aside0.mk (blk_grown A3.out hg (fun e => by injection e with e; have := HGL.out; omega))); (have B4 := Aside0.mk (blk_grown B3.out hg (fun e => by injection e with e; have := HGL.out; omega))); (have P4 := Aside0.mk (blk_grown P3.out hg (fun e => by injection e with e; have := HGL.out; have := HP.out; omega))); (have G4 := Aside0.mk (grown_trans G3.out hg)); (have s4 : wr4.cell? ⟨q, 0, none⟩ = some (.pointer (some ⟨g, 0, none⟩)) := (A4.out.cell 0).trans rfl); clear hr hg R3 A3 B3 G3 s3 P3))
        refine hK.out _ _ s4 (fun hHeld' => ?_)
        clear hK K hHeld
        have hHeld := hHeld'
        clear hHeld'
        try simp only [Act.put, p1_, p2_, p3_]
        refine wpAnyH_ready (rs := [9]) (by kernel_rfl) (by simp) ?_
        refine AllReadyH.cons (o := o46_1_9) rfl (fun K hK => ?_) AllReadyH.nil
        unfold o46_1_9; go_simp
        go_wp2_with (first | (go_at_call 38; (with_reducible refine (kc3.out _ R4.out).mono ?_); rintro e wr5 ⟨rfl, hr, hg⟩; (have R5 := Aside0.mk hr); (have A5 := Aside0.mk (blk_grown A4.out hg (fun e => by injection e with e; have := HGL.out; omega))); (have B5 := Aside0.mk (blk_grown B4.out hg (fun e => by injection e with e; have := HGL.out; omega))); (have P5 := Aside0.mk (blk_grown P4.out hg (fun e => by injection e with e; have := HGL.out; have := HP.out; omega))); (have G5 := Aside0.mk (grown_trans G4.out hg)); (have s5 : wr5.cell? ⟨q, 0, none⟩ = some (.pointer (some ⟨g, 0, none⟩)) := (A5.out.cell 0).trans rfl); clear hr hg R4 A4 B4 G4 s4 P4))
        refine hK.out _ _ s5 (fun hHeld' => ?_)
        clear hK K hHeld
        have hHeld := hHeld'
        clear hHeld'
        try simp only [Act.put, p1_, p2_, p3_]
        refine wpAnyH_ready (rs := [12]) (by kernel_rfl) (by simp) ?_
        refine AllReadyH.cons (o := o46_1_12) rfl (fun K hK => ?_) AllReadyH.nil
        unfold o46_1_12; go_simp
        go_wp2_with (first | (go_at_call 38; (with_reducible refine (kc4.out _ R5.out).mono ?_); rintro e wr6 ⟨rfl, hr, hg⟩; (have R6 := Aside0.mk hr); (have A6 := Aside0.mk (blk_grown A5.out hg (fun e => by injection e with e; have := HGL.out; omega))); (have B6 := Aside0.mk (blk_grown B5.out hg (fun e => by injection e with e; have := HGL.out; omega))); (have P6 := Aside0.mk (blk_grown P5.out hg (fun e => by injection e with e; have := HGL.out; have := HP.out; omega))); (have G6 := Aside0.mk (grown_trans G5.out hg)); (have s6 : wr6.cell? ⟨q, 0, none⟩ = some (.pointer (some ⟨g, 0, none⟩)) := (A6.out.cell 0).trans rfl); clear hr hg R5 A5 B5 G5 s5 P5))
        refine hK.out _ _ s6 (fun hHeld' => ?_)
        clear hK K hHeld
        have hHeld := hHeld'
        clear hHeld'
        try simp only [Act.put, p1_, p2_, p3_]
        refine tk_ (i := 13) (oi := o46_1_13) (v := ?vb5) (Or.inl ⟨by rfl, ?hyb5⟩) hHeld ?restb5
        case hyb5 => (intro w hSw; (try dsimp only at hSw); unfold o46_1_13; go_simp <;> with_reducible rfl)
        try simp only [o46_1_13, Act.put, p1_, p2_, p3_]
        refine wpAnyH_ready (rs := [15]) (by kernel_rfl) (by simp) ?_
        refine AllReadyH.cons (o := o46_1_15) rfl (fun K hK => ?_) AllReadyH.nil
        have y0 := (P6.out.cell 0).trans (rfl : _ = some (Value.int .u32 0))
        have yf0 := P6.out.free 0
        have y1 := (P6.out.cell 1).trans (rfl : _ = some (Value.int .u32 0))
        have yf1 := P6.out.free 1
        have y2 := (P6.out.cell 2).trans (rfl : _ = some (Value.int .i64 0))
        have yf2 := P6.out.free 2
        have y3 := (P6.out.cell 3).trans (rfl : _ = some (Value.slice none 0 0))
        have yf3 := P6.out.free 3
        have y4 := (P6.out.cell 4).trans (rfl : _ = some (Value.int .i64 0))
        have yf4 := P6.out.free 4
        have y5 := (P6.out.cell 5).trans (rfl : _ = some (Value.int .i64 0))
        have yf5 := P6.out.free 5
        have FA : Aside0 (Blk ((((((wr6.setCell ⟨p, 0, none⟩ (.int .u32 m0)).setCell ⟨p, 1, none⟩ (.int .u32 m1)).setCell ⟨p, 2, none⟩ (.int .i64 m2)).setCell ⟨p, 3, none⟩ (.slice none 0 0)).setCell ⟨p, 4, none⟩ (.int .i64 m3)).setCell ⟨p, 5, none⟩ (.int .i64 m4)) q (Obj.cells #[.pointer (some ⟨g, 0, none⟩)] 78 (0, 0))) := ⟨(blk_set (blk_set (blk_set (blk_set (blk_set (blk_set A6.out ⟨p, 0, none⟩ (.int .u32 m0) (by have := HP.out; show q ≠ p; omega)) ⟨p, 1, none⟩ (.int .u32 m1) (by have := HP.out; show q ≠ p; omega)) ⟨p, 2, none⟩ (.int .i64 m2) (by have := HP.out; show q ≠ p; omega)) ⟨p, 3, none⟩ (.slice none 0 0) (by have := HP.out; show q ≠ p; omega)) ⟨p, 4, none⟩ (.int .i64 m3) (by have := HP.out; show q ≠ p; omega)) ⟨p, 5, none⟩ (.int .i64 m4) (by have := HP.out; show q ≠ p; omega))⟩
        have FB : Aside0 (Blk ((((((wr6.setCell ⟨p, 0, none⟩ (.int .u32 m0)).setCell ⟨p, 1, none⟩ (.int .u32 m1)).setCell ⟨p, 2, none⟩ (.int .i64 m2)).setCell ⟨p, 3, none⟩ (.slice none 0 0)).setCell ⟨p, 4, none⟩ (.int .i64 m3)).setCell ⟨p, 5, none⟩ (.int .i64 m4)) (q + 1) (Obj.cells #[.int .u32 0, .int .u32 0, .int .i64 0, .slice none 0 0, .int .i64 0, .int .i64 0] 30 (0, 0))) := ⟨(blk_set (blk_set (blk_set (blk_set (blk_set (blk_set B6.out ⟨p, 0, none⟩ (.int .u32 m0) (by have := HP.out; show q + 1 ≠ p; omega)) ⟨p, 1, none⟩ (.int .u32 m1) (by have := HP.out; show q + 1 ≠ p; omega)) ⟨p, 2, none⟩ (.int .i64 m2) (by have := HP.out; show q + 1 ≠ p; omega)) ⟨p, 3, none⟩ (.slice none 0 0) (by have := HP.out; show q + 1 ≠ p; omega)) ⟨p, 4, none⟩ (.int .i64 m3) (by have := HP.out; show q + 1 ≠ p; omega)) ⟨p, 5, none⟩ (.int .i64 m4) (by have := HP.out; show q + 1 ≠ p; omega))⟩
        have FP : Aside0 (Blk ((((((wr6.setCell ⟨p, 0, none⟩ (.int .u32 m0)).setCell ⟨p, 1, none⟩ (.int .u32 m1)).setCell ⟨p, 2, none⟩ (.int .i64 m2)).setCell ⟨p, 3, none⟩ (.slice none 0 0)).setCell ⟨p, 4, none⟩ (.int .i64 m3)).setCell ⟨p, 5, none⟩ (.int .i64 m4)) p (Obj.cells #[.int .u32 m0, .int .u32 m1, .int .i64 m2, .slice none 0 0, .int .i64 m3, .int .i64 m4] 30 (0, 0))) := ⟨((((((P6.out.put 0 (.int .u32 m0) rfl).put 1 (.int .u32 m1) rfl).put 2 (.int .i64 m2) rfl).put 3 (.slice none 0 0) rfl).put 4 (.int .i64 m3) rfl).put 5 (.int .i64 m4) rfl)⟩
        have FR : Aside0 (RdrS ((((((wr6.setCell ⟨p, 0, none⟩ (.int .u32 m0)).setCell ⟨p, 1, none⟩ (.int .u32 m1)).setCell ⟨p, 2, none⟩ (.int .i64 m2)).setCell ⟨p, 3, none⟩ (.slice none 0 0)).setCell ⟨p, 4, none⟩ (.int .i64 m3)).setCell ⟨p, 5, none⟩ (.int .i64 m4)) g B r5) := ⟨(rdr_set (rdr_set (rdr_set (rdr_set (rdr_set (rdr_set R6.out ⟨p, 0, none⟩ (.int .u32 m0) (fun k hk => by have := HB.out k hk; have := HP.out; show k ≠ p; omega)) ⟨p, 1, none⟩ (.int .u32 m1) (fun k hk => by have := HB.out k hk; have := HP.out; show k ≠ p; omega)) ⟨p, 2, none⟩ (.int .i64 m2) (fun k hk => by have := HB.out k hk; have := HP.out; show k ≠ p; omega)) ⟨p, 3, none⟩ (.slice none 0 0) (fun k hk => by have := HB.out k hk; have := HP.out; show k ≠ p; omega)) ⟨p, 4, none⟩ (.int .i64 m3) (fun k hk => by have := HB.out k hk; have := HP.out; show k ≠ p; omega)) ⟨p, 5, none⟩ (.int .i64 m4) (fun k hk => by have := HB.out k hk; have := HP.out; show k ≠ p; omega))⟩
        have FG : Aside0 (w.grownBy ((((((wr6.setCell ⟨p, 0, none⟩ (.int .u32 m0)).setCell ⟨p, 1, none⟩ (.int .u32 m1)).setCell ⟨p, 2, none⟩ (.int .i64 m2)).setCell ⟨p, 3, none⟩ (.slice none 0 0)).setCell ⟨p, 4, none⟩ (.int .i64 m3)).setCell ⟨p, 5, none⟩ (.int .i64 m4)) (some g)) := ⟨(grown_set (grown_set (grown_set (grown_set (grown_set (grown_set G6.out p 0 (.int .u32 m0) (by have := HP.out; have := HQ.out; omega)) p 1 (.int .u32 m1) (by have := HP.out; have := HQ.out; omega)) p 2 (.int .i64 m2) (by have := HP.out; have := HQ.out; omega)) p 3 (.slice none 0 0) (by have := HP.out; have := HQ.out; omega)) p 4 (.int .i64 m3) (by have := HP.out; have := HQ.out; omega)) p 5 (.int .i64 m4) (by have := HP.out; have := HQ.out; omega))⟩
        have sF : ((((((wr6.setCell ⟨p, 0, none⟩ (.int .u32 m0)).setCell ⟨p, 1, none⟩ (.int .u32 m1)).setCell ⟨p, 2, none⟩ (.int .i64 m2)).setCell ⟨p, 3, none⟩ (.slice none 0 0)).setCell ⟨p, 4, none⟩ (.int .i64 m3)).setCell ⟨p, 5, none⟩ (.int .i64 m4)).cell? ⟨q, 0, none⟩ = some (.pointer (some ⟨g, 0, none⟩)) := (FA.out.cell 0).trans rfl
        unfold o46_1_15; go_simp
        refine hK.out _ _ sF (fun hHeld' => ?_)
        try simp only [Act.put, p1_, p2_, p3_]
        refine wpAnyH_done (by kernel_rfl) ?_ _
        exact NoPanic.normal ⟨p, _, _, _, _, _, _, _, _, _, _, _, _, _, _, HP.out, rfl, FA.out, FB.out, FP.out, FR.out, FG.out⟩
    · unfold o46_1_14; go_simp
      have P1 : Aside0 (Blk (wd.alloc (Obj.cells #[.int .u32 0, .int .u32 0, .int .i64 0, .slice none 0 0, .int .i64 0, .int .i64 0] 30)) wd.heap.size (Obj.cells #[.int .u32 0, .int .u32 0, .int .i64 0, .slice none 0 0, .int .i64 0, .int .i64 0] 30 (0, 0))) := ⟨Blk.new_⟩
      have A1 : Aside0 (Blk (wd.alloc (Obj.cells #[.int .u32 0, .int .u32 0, .int .i64 0, .slice none 0 0, .int .i64 0, .int .i64 0] 30)) q (Obj.cells #[.pointer (some ⟨g, 0, none⟩)] 78 (0, 0))) := ⟨A0.out.alloc⟩
      have B1 : Aside0 (Blk (wd.alloc (Obj.cells #[.int .u32 0, .int .u32 0, .int .i64 0, .slice none 0 0, .int .i64 0, .int .i64 0] 30)) (q + 1) (Obj.cells #[.int .u32 0, .int .u32 0, .int .i64 0, .slice none 0 0, .int .i64 0, .int .i64 0] 30 (0, 0))) := ⟨B0.out.alloc⟩
      have R1 : Aside0 (RdrS (wd.alloc (Obj.cells #[.int .u32 0, .int .u32 0, .int .i64 0, .slice none 0 0, .int .i64 0, .int .i64 0] 30)) g B r) := ⟨RdrAt.alloc R0.out _⟩
      have G1 : Aside0 (w.grownBy (wd.alloc (Obj.cells #[.int .u32 0, .int .u32 0, .int .i64 0, .slice none 0 0, .int .i64 0, .int .i64 0] 30)) (some g)) := ⟨grown_trans G0.out (grown_below (below_alloc (Below.refl _ _) _))⟩
      have hp : q + 1 < wd.heap.size := B0.out.lt
      obtain ⟨wr1, hwr⟩ : ∃ W', wd.alloc (Obj.cells #[.int .u32 0, .int .u32 0, .int .i64 0, .slice none 0 0, .int .i64 0, .int .i64 0] 30) = W' := ⟨_, rfl⟩
      obtain ⟨p, hpe⟩ : ∃ p, wd.heap.size = p := ⟨_, rfl⟩
      rw [hwr] at P1 A1 B1 R1 G1 ⊢
      rw [hpe] at P1 hp ⊢
      have HP := Aside0.mk hp
      have s1 : wr1.cell? ⟨q, 0, none⟩ = some (.pointer (some ⟨g, 0, none⟩)) := (A1.out.cell 0).trans rfl
      clear hwr hpe hp R0 A0 B0 G0 s0
      refine hK.out _ _ s1 (fun hHeld' => ?_)
      clear hK K hHeld
      have hHeld := hHeld'
      clear hHeld'
      try simp only [Act.put, p1_, p2_, p3_]
      refine wpAnyH_ready (rs := [1]) (by kernel_rfl) (by simp) ?_
      refine AllReadyH.cons (o := o46_1_1) rfl (fun K hK => ?_) AllReadyH.nil
      unfold o46_1_1; go_simp
      go_wp2_with (first | (go_at_call 37; (with_reducible refine (kc0.out _ R1.out).mono ?_); rintro e wr2 ⟨rfl, hr, hg⟩; (have R2 := Aside0.mk hr); (have A2 := Aside0.mk (blk_grown A1.out hg (fun e => by injection e with e; have := HGL.out; omega))); (have B2 := Aside0.mk (blk_grown B1.out hg (fun e => by injection e with e; have := HGL.out; omega))); (have P2 := Aside0.mk (blk_grown P1.out hg (fun e => by injection e with e; have := HGL.out; have := HP.out; omega))); (have G2 := Aside0.mk (grown_trans G1.out hg)); (have s2 : wr2.cell? ⟨q, 0, none⟩ = some (.pointer (some ⟨g, 0, none⟩)) := (A2.out.cell 0).trans rfl); clear hr hg R1 A1 B1 G1 s1 P1))
      refine hK.out _ _ s2 (fun hHeld' => ?_)
      clear hK K hHeld
      have hHeld := hHeld'
      clear hHeld'
      try simp only [Act.put, p1_, p2_, p3_]
      refine wpAnyH_ready (rs := [3]) (by kernel_rfl) (by simp) ?_
      refine AllReadyH.cons (o := o46_1_3) rfl (fun K hK => ?_) AllReadyH.nil
      unfold o46_1_3; go_simp
      go_wp2_with (first | (go_at_call 37; (with_reducible refine (kc1.out _ R2.out).mono ?_); rintro e wr3 ⟨rfl, hr, hg⟩; (have R3 := Aside0.mk hr); (have A3 := Aside0.mk (blk_grown A2.out hg (fun e => by injection e with e; have := HGL.out; omega))); (have B3 := Aside0.mk (blk_grown B2.out hg (fun e => by injection e with e; have := HGL.out; omega))); (have P3 := Aside0.mk (blk_grown P2.out hg (fun e => by injection e with e; have := HGL.out; have := HP.out; omega))); (have G3 := Aside0.mk (grown_trans G2.out hg)); (have s3 : wr3.cell? ⟨q, 0, none⟩ = some (.pointer (some ⟨g, 0, none⟩)) := (A3.out.cell 0).trans rfl); clear hr hg R2 A2 B2 G2 s2 P2))
      refine hK.out _ _ s3 (fun hHeld' => ?_)
      clear hK K hHeld
      have hHeld := hHeld'
      clear hHeld'
      try simp only [Act.put, p1_, p2_, p3_]
      refine wpAnyH_ready (rs := [6]) (by kernel_rfl) (by simp) ?_
      refine AllReadyH.cons (o := o46_1_6) rfl (fun K hK => ?_) AllReadyH.nil
      unfold o46_1_6; go_simp
      go_wp2_with (first | (go_at_call 38; (with_reducible refine (kc2.out _ R3.out).mono ?_); rintro e wr4 ⟨rfl, hr, hg⟩; (have R4 := Aside0.mk hr); (have A4 := Aside0.mk (blk_grown A3.out hg (fun e => by injection e with e; have := HGL.out; omega))); (have B4 := Aside0.mk (blk_grown B3.out hg (fun e => by injection e with e; have := HGL.out; omega))); (have P4 := Aside0.mk (blk_grown P3.out hg (fun e => by injection e with e; have := HGL.out; have := HP.out; omega))); (have G4 := Aside0.mk (grown_trans G3.out hg)); (have s4 : wr4.cell? ⟨q, 0, none⟩ = some (.pointer (some ⟨g, 0, none⟩)) := (A4.out.cell 0).trans rfl); clear hr hg R3 A3 B3 G3 s3 P3))
      refine hK.out _ _ s4 (fun hHeld' => ?_)
      clear hK K hHeld
      have hHeld := hHeld'
      clear hHeld'
      try simp only [Act.put, p1_, p2_, p3_]
      refine wpAnyH_ready (rs := [9]) (by kernel_rfl) (by simp) ?_
      refine AllReadyH.cons (o := o46_1_9) rfl (fun K hK => ?_) AllReadyH.nil
      unfold o46_1_9; go_simp
      go_wp2_with (first | (go_at_call 38; (with_reducible refine (kc3.out _ R4.out).mono ?_); rintro e wr5 ⟨rfl, hr, hg⟩; (have R5 := Aside0.mk hr); (have A5 := Aside0.mk (blk_grown A4.out hg (fun e => by injection e with e; have := HGL.out; omega))); (have B5 := Aside0.mk (blk_grown B4.out hg (fun e => by injection e with e; have := HGL.out; omega))); (have P5 := Aside0.mk (blk_grown P4.out hg (fun e => by injection e with e; have := HGL.out; have := HP.out; omega))); (have G5 := Aside0.mk (grown_trans G4.out hg)); (have s5 : wr5.cell? ⟨q, 0, none⟩ = some (.pointer (some ⟨g, 0, none⟩)) := (A5.out.cell 0).trans rfl); clear hr hg R4 A4 B4 G4 s4 P4))
      refine hK.out _ _ s5 (fun hHeld' => ?_)
      clear hK K hHeld
      have hHeld := hHeld'
      clear hHeld'
      try simp only [Act.put, p1_, p2_, p3_]
      refine wpAnyH_ready (rs := [12]) (by kernel_rfl) (by simp) ?_
      refine AllReadyH.cons (o := o46_1_12) rfl (fun K hK => ?_) AllReadyH.nil
      unfold o46_1_12; go_simp
      go_wp2_with (first | (go_at_call 38; (with_reducible refine (kc4.out _ R5.out).mono ?_); rintro e wr6 ⟨rfl, hr, hg⟩; (have R6 := Aside0.mk hr); (have A6 := Aside0.mk (blk_grown A5.out hg (fun e => by injection e with e; have := HGL.out; omega))); (have B6 := Aside0.mk (blk_grown B5.out hg (fun e => by injection e with e; have := HGL.out; omega))); (have P6 := Aside0.mk (blk_grown P5.out hg (fun e => by injection e with e; have := HGL.out; have := HP.out; omega))); (have G6 := Aside0.mk (grown_trans G5.out hg)); (have s6 : wr6.cell? ⟨q, 0, none⟩ = some (.pointer (some ⟨g, 0, none⟩)) := (A6.out.cell 0).trans rfl); clear hr hg R5 A5 B5 G5 s5 P5))
      refine hK.out _ _ s6 (fun hHeld' => ?_)
      clear hK K hHeld
      have hHeld := hHeld'
      clear hHeld'
      try simp only [Act.put, p1_, p2_, p3_]
      refine tk_ (i := 13) (oi := o46_1_13) (v := ?vb6) (Or.inl ⟨by rfl, ?hyb6⟩) hHeld ?restb6
      case hyb6 => (intro w hSw; (try dsimp only at hSw); unfold o46_1_13; go_simp <;> with_reducible rfl)
      try simp only [o46_1_13, Act.put, p1_, p2_, p3_]
      refine wpAnyH_ready (rs := [15]) (by kernel_rfl) (by simp) ?_
      refine AllReadyH.cons (o := o46_1_15) rfl (fun K hK => ?_) AllReadyH.nil
      have y0 := (P6.out.cell 0).trans (rfl : _ = some (Value.int .u32 0))
      have yf0 := P6.out.free 0
      have y1 := (P6.out.cell 1).trans (rfl : _ = some (Value.int .u32 0))
      have yf1 := P6.out.free 1
      have y2 := (P6.out.cell 2).trans (rfl : _ = some (Value.int .i64 0))
      have yf2 := P6.out.free 2
      have y3 := (P6.out.cell 3).trans (rfl : _ = some (Value.slice none 0 0))
      have yf3 := P6.out.free 3
      have y4 := (P6.out.cell 4).trans (rfl : _ = some (Value.int .i64 0))
      have yf4 := P6.out.free 4
      have y5 := (P6.out.cell 5).trans (rfl : _ = some (Value.int .i64 0))
      have yf5 := P6.out.free 5
      have FA : Aside0 (Blk ((((((wr6.setCell ⟨p, 0, none⟩ (.int .u32 m0)).setCell ⟨p, 1, none⟩ (.int .u32 m1)).setCell ⟨p, 2, none⟩ (.int .i64 m2)).setCell ⟨p, 3, none⟩ (.slice none 0 0)).setCell ⟨p, 4, none⟩ (.int .i64 m3)).setCell ⟨p, 5, none⟩ (.int .i64 m4)) q (Obj.cells #[.pointer (some ⟨g, 0, none⟩)] 78 (0, 0))) := ⟨(blk_set (blk_set (blk_set (blk_set (blk_set (blk_set A6.out ⟨p, 0, none⟩ (.int .u32 m0) (by have := HP.out; show q ≠ p; omega)) ⟨p, 1, none⟩ (.int .u32 m1) (by have := HP.out; show q ≠ p; omega)) ⟨p, 2, none⟩ (.int .i64 m2) (by have := HP.out; show q ≠ p; omega)) ⟨p, 3, none⟩ (.slice none 0 0) (by have := HP.out; show q ≠ p; omega)) ⟨p, 4, none⟩ (.int .i64 m3) (by have := HP.out; show q ≠ p; omega)) ⟨p, 5, none⟩ (.int .i64 m4) (by have := HP.out; show q ≠ p; omega))⟩
      have FB : Aside0 (Blk ((((((wr6.setCell ⟨p, 0, none⟩ (.int .u32 m0)).setCell ⟨p, 1, none⟩ (.int .u32 m1)).setCell ⟨p, 2, none⟩ (.int .i64 m2)).setCell ⟨p, 3, none⟩ (.slice none 0 0)).setCell ⟨p, 4, none⟩ (.int .i64 m3)).setCell ⟨p, 5, none⟩ (.int .i64 m4)) (q + 1) (Obj.cells #[.int .u32 0, .int .u32 0, .int .i64 0, .slice none 0 0, .int .i64 0, .int .i64 0] 30 (0, 0))) := ⟨(blk_set (blk_set (blk_set (blk_set (blk_set (blk_set B6.out ⟨p, 0, none⟩ (.int .u32 m0) (by have := HP.out; show q + 1 ≠ p; omega)) ⟨p, 1, none⟩ (.int .u32 m1) (by have := HP.out; show q + 1 ≠ p; omega)) ⟨p, 2, none⟩ (.int .i64 m2) (by have := HP.out; show q + 1 ≠ p; omega)) ⟨p, 3, none⟩ (.slice none 0 0) (by have := HP.out; show q + 1 ≠ p; omega)) ⟨p, 4, none⟩ (.int .i64 m3) (by have := HP.out; show q + 1 ≠ p; omega)) ⟨p, 5, none⟩ (.int .i64 m4) (by have := HP.out; show q + 1 ≠ p; omega))⟩
      have FP : Aside0 (Blk ((((((wr6.setCell ⟨p, 0, none⟩ (.int .u32 m0)).setCell ⟨p, 1, none⟩ (.int .u32 m1)).setCell ⟨p, 2, none⟩ (.int .i64 m2)).setCell ⟨p, 3, none⟩ (.slice none 0 0)).setCell ⟨p, 4, none⟩ (.int .i64 m3)).setCell ⟨p, 5, none⟩ (.int .i64 m4)) p (Obj.cells #[.int .u32 m0, .int .u32 m1, .int .i64 m2, .slice none 0 0, .int .i64 m3, .int .i64 m4] 30 (0, 0))) := ⟨((((((P6.out.put 0 (.int .u32 m0) rfl).put 1 (.int .u32 m1) rfl).put 2 (.int .i64 m2) rfl).put 3 (.slice none 0 0) rfl).put 4 (.int .i64 m3) rfl).put 5 (.int .i64 m4) rfl)⟩
      have FR : Aside0 (RdrS ((((((wr6.setCell ⟨p, 0, none⟩ (.int .u32 m0)).setCell ⟨p, 1, none⟩ (.int .u32 m1)).setCell ⟨p, 2, none⟩ (.int .i64 m2)).setCell ⟨p, 3, none⟩ (.slice none 0 0)).setCell ⟨p, 4, none⟩ (.int .i64 m3)).setCell ⟨p, 5, none⟩ (.int .i64 m4)) g B r5) := ⟨(rdr_set (rdr_set (rdr_set (rdr_set (rdr_set (rdr_set R6.out ⟨p, 0, none⟩ (.int .u32 m0) (fun k hk => by have := HB.out k hk; have := HP.out; show k ≠ p; omega)) ⟨p, 1, none⟩ (.int .u32 m1) (fun k hk => by have := HB.out k hk; have := HP.out; show k ≠ p; omega)) ⟨p, 2, none⟩ (.int .i64 m2) (fun k hk => by have := HB.out k hk; have := HP.out; show k ≠ p; omega)) ⟨p, 3, none⟩ (.slice none 0 0) (fun k hk => by have := HB.out k hk; have := HP.out; show k ≠ p; omega)) ⟨p, 4, none⟩ (.int .i64 m3) (fun k hk => by have := HB.out k hk; have := HP.out; show k ≠ p; omega)) ⟨p, 5, none⟩ (.int .i64 m4) (fun k hk => by have := HB.out k hk; have := HP.out; show k ≠ p; omega))⟩
      have FG : Aside0 (w.grownBy ((((((wr6.setCell ⟨p, 0, none⟩ (.int .u32 m0)).setCell ⟨p, 1, none⟩ (.int .u32 m1)).setCell ⟨p, 2, none⟩ (.int .i64 m2)).setCell ⟨p, 3, none⟩ (.slice none 0 0)).setCell ⟨p, 4, none⟩ (.int .i64 m3)).setCell ⟨p, 5, none⟩ (.int .i64 m4)) (some g)) := ⟨(grown_set (grown_set (grown_set (grown_set (grown_set (grown_set G6.out p 0 (.int .u32 m0) (by have := HP.out; have := HQ.out; omega)) p 1 (.int .u32 m1) (by have := HP.out; have := HQ.out; omega)) p 2 (.int .i64 m2) (by have := HP.out; have := HQ.out; omega)) p 3 (.slice none 0 0) (by have := HP.out; have := HQ.out; omega)) p 4 (.int .i64 m3) (by have := HP.out; have := HQ.out; omega)) p 5 (.int .i64 m4) (by have := HP.out; have := HQ.out; omega))⟩
      have sF : ((((((wr6.setCell ⟨p, 0, none⟩ (.int .u32 m0)).setCell ⟨p, 1, none⟩ (.int .u32 m1)).setCell ⟨p, 2, none⟩ (.int .i64 m2)).setCell ⟨p, 3, none⟩ (.slice none 0 0)).setCell ⟨p, 4, none⟩ (.int .i64 m3)).setCell ⟨p, 5, none⟩ (.int .i64 m4)).cell? ⟨q, 0, none⟩ = some (.pointer (some ⟨g, 0, none⟩)) := (FA.out.cell 0).trans rfl
      unfold o46_1_15; go_simp
      refine hK.out _ _ sF (fun hHeld' => ?_)
      try simp only [Act.put, p1_, p2_, p3_]
      refine wpAnyH_done (by kernel_rfl) ?_ _
      exact NoPanic.normal ⟨p, _, _, _, _, _, _, _, _, _, _, _, _, _, _, HP.out, rfl, FA.out, FB.out, FP.out, FR.out, FG.out⟩
  rintro a1 w1 ⟨p, x4, x5, x6, x7, x8, x9, x10, x11, x12, x13, x14, x15, x16, x17, hp, rfl, hA, hBb, hP, hR, hG⟩
  have x0 := (hA.cell 0).trans (rfl : _ = some (Value.pointer (some ⟨g, 0, none⟩)))
  have HP := Aside0.mk hp
  have R1 := Aside0.mk hR
  have HP0 : Aside0 (PP w w1 q g p w1.heap.size 30 #[.int .u32 0, .int .u32 0, .int .i64 0, .slice none 0 0, .int .i64 0, .int .i64 0] #[.int .u32 m0, .int .u32 m1, .int .i64 m2, .slice none 0 0, .int .i64 m3, .int .i64 m4] k53 53 (.slice none 0 0) []) := ⟨⟨hA, hBb, hP, hG, Nat.le_refl _, Kd.R_nil _ _ _ _ _⟩⟩
  have HPN : Aside0 (PPN w q g p w1.heap.size) := ⟨⟨HGL.out, HQ.out, hp, hP.lt⟩⟩
  have HCL := Aside0.mk (hcl.out hR.bytes)
  obtain ⟨L0, hL0⟩ : ∃ L, w1.heap.size = L := ⟨_, rfl⟩
  rw [hL0] at HP0 HPN
  clear hA hBb hP hR hG hp hL0 R0 A0 B0 G0 s0 hcl
  go_wp2_with fail
  refine (kcc.out w1 R1.out).mono ?_
  rintro e w2 ⟨rfl, hR, hG⟩
  have R2 := Aside0.mk hR
  have HP2 := Aside0.mk (HP0.out.grown hG HPN.out)
  clear hR hG R1 HP0 kcc x0
  have hcn : cn = (n : Int) := by have := HCL.out.1; have := HCN.out; omega
  have hn : n ≤ 28 := by have := HCL.out.2; omega
  clear HCL HCN
  subst hcn
  go_wp2_with fail
  go_loopw [21] (fun i wr => ∃ k : Nat, k ≤ n ∧ i = .int .i64 k ∧ Aside0 (RdrS wr g B (relems rline rc k).2) ∧ ∃ A' c', Aside0 (PP w wr q g p L0 30 #[.int .u32 0, .int .u32 0, .int .i64 0, .slice none 0 0, .int .i64 0, .int .i64 0] #[.int .u32 m0, .int .u32 m1, .int .i64 m2, .slice A' k c', .int .i64 m3, .int .i64 m4] k53 53 (.slice A' k c') (relems rline rc k).1))
    (fun i _ => n - (intOf i).toNat)
  case atStart => exact ⟨0, Nat.zero_le _, rfl, R2, none, 0, HP2⟩
  case round =>
    obtain ⟨k, hk, rfl, HRk, Ak, ck, HPk⟩ := hrel
    clear R2 HP2
    by_cases hlt : k < n
    · have ew : IntKind.i64.wrap ((k : Int) + 1) = (k : Int) + 1 := by rw [IntKind.wrap_i64]; omega
      have hlt1 : (k : Int) < (n : Int) := by omega
      have hst : relems rline rc (k + 1) = ((relems rline rc k).1 ++ [(rline (relems rline rc k).2).1], (rline (relems rline rc k).2).2) := rfl
      have hlk := relems_length rline rc k
      have hln := Nat.le_trans (relems_len rline_len rc k) HMC.out
      obtain ⟨⟨Lk, rk⟩, hLk⟩ : ∃ u, relems rline rc k = u := ⟨_, rfl⟩
      rw [hLk] at HRk HPk hlk hln hst
      simp only at HRk HPk hlk hln hst
      clear hLk
      unfold rline at hst
      simp only at hst
      have ke0 := Aside0.mk (fun w h => Byte_calls g B rk w h (by exact hln))
      have hl0 := Nat.le_trans (Rs.byte_len rk) hln
      obtain ⟨⟨f0, rk1⟩, hv0⟩ : ∃ u, rk.byte = u := ⟨_, rfl⟩
      rw [hv0] at ke0 hl0 hst
      simp only at hst
      have ke1 := Aside0.mk (fun w h => small_calls g B rk1 w h (by exact hl0))
      have hl1 := Nat.le_trans (Rs.small_len rk1) hl0
      obtain ⟨⟨f1, rk2⟩, hv1⟩ : ∃ u, rk1.small = u := ⟨_, rfl⟩
      rw [hv1] at ke1 hl1 hst
      simp only at hst
      have ke2 := Aside0.mk (fun w h => Int_calls g B rk2 w h (by exact hl1))
      have hl2 := Nat.le_trans (Rs.int_len rk2) hl1
      obtain ⟨⟨f2, rk3⟩, hv2⟩ : ∃ u, rk2.int = u := ⟨_, rfl⟩
      rw [hv2] at ke2 hl2 hst
      simp only at hst
      have ke3 := Aside0.mk (fun w h => Int_calls g B rk3 w h (by exact hl2))
      have hl3 := Nat.le_trans (Rs.int_len rk3) hl2
      obtain ⟨⟨f3, rk4⟩, hv3⟩ : ∃ u, rk3.int = u := ⟨_, rfl⟩
      rw [hv3] at ke3 hl3 hst
      simp only at hst
      have ke4 := Aside0.mk (fun w h => Int_calls g B rk4 w h (by exact hl3))
      have hl4 := Nat.le_trans (Rs.int_len rk4) hl3
      obtain ⟨⟨f4, rk5⟩, hv4⟩ : ∃ u, rk4.int = u := ⟨_, rfl⟩
      rw [hv4] at ke4 hl4 hst
      simp only at hst
      have HLK := Aside0.mk hlk
      have HST : Aside0 (relems rline rc (k + 1) = _) := ⟨hst⟩
      clear hst hln hl0 hv0 hl1 hv1 hl2 hv2 hl3 hv3 hl4 hv4 hlk
      have HPd : Aside0 (PP w wr.drew q g p L0 30 _ _ _ _ _ _) := ⟨HPk.out.grown (grown_below (below_drew (Below.refl _ _))) HPN.out⟩
      have Rd : Aside0 (RdrS wr.drew g B rk) := ⟨RdrAt.drew HRk.out⟩
      have HPo := HPk
      have c1 : wr.drew.cell? ⟨q, 0, none⟩ = some (.pointer (some ⟨g, 0, none⟩)) := (HPd.out.1.cell 0).trans rfl
      have c1a : wr.cell? ⟨q, 0, none⟩ = some (.pointer (some ⟨g, 0, none⟩)) := (HPk.out.1.cell 0).trans rfl
      have c6 : wr.drew.cell? ⟨p, 3, none⟩ = some (.slice Ak k ck) := (HPd.out.2.2.1.cell 3).trans rfl
      have c6a : wr.cell? ⟨p, 3, none⟩ = some (.slice Ak k ck) := (HPk.out.2.2.1.cell 3).trans rfl
      clear HRk HPk c6a c1a
      have c1a : wr.cell? ⟨q, 0, none⟩ = some (.pointer (some ⟨g, 0, none⟩)) := (HPo.out.1.cell 0).trans rfl
      go_wp2_with fail
      refine region_once (fun a W => ∃ A7 c7 y23 y24 y25 y26 y27 y28 y29 y30 y31 y32 y33 y34 y35 y36 y37 y38 y39 y40 y41 y42 y43, a = ⟨#[.agg #[.pointer (some ⟨g, 0, none⟩)], .pointer (some ⟨q, 0, none⟩), .pointer (some ⟨q + 1, 0, none⟩), .pointer (some ⟨p, 0, none⟩), x4, x5, x6, x7, x8, x9, x10, x11, x12, x13, x14, x15, x16, x17, .pointer (some ⟨q, 0, none⟩), .pointer (some ⟨g, 0, none⟩), .int .i64 (n : Int), .int .i64 (k : Int), .bool true, y23, y24, y25, y26, y27, y28, y29, y30, y31, y32, y33, y34, y35, y36, y37, y38, y39, y40, y41, y42, y43, undef], []⟩ ∧ RdrS W g B rk5 ∧ PP w W q g p L0 30 #[.int .u32 0, .int .u32 0, .int .i64 0, .slice none 0 0, .int .i64 0, .int .i64 0] #[.int .u32 m0, .int .u32 m1, .int .i64 m2, .slice A7 (k + 1) c7, .int .i64 m3, .int .i64 m4] k53 53 (.slice A7 (k + 1) c7) (Lk ++ [(⟨f0, f1, f2, f3, f4⟩ : S53)])) ?_ ?_
      · refine wp_region_held_drew (S := fun W : World => W.cell? ⟨q, 0, none⟩ = some (.pointer (some ⟨g, 0, none⟩))) (by kernel_rfl) ?_ (fun hHeld => ?_)
        · exact c1
        generalize wr.drew = wd at hHeld Rd HPd c1 c6 ⊢
        have R0 := Rd
        have P0 := HPd
        have s0 := c1
        have c0 := c6
        clear Rd HPd c1 c6 c1a
        refine tk_ (i := 0) (oi := o46_4_0) (v := ?vt1) (Or.inl ⟨by rfl, ?hyt1⟩) hHeld ?restt1
        case hyt1 => (intro w hSw; (try dsimp only at hSw); unfold o46_4_0; go_simp <;> with_reducible rfl)
        try simp only [o46_4_0, Act.put, p1_, p2_, p3_]
        refine tk_ (i := 2) (oi := o46_4_2) (v := ?vt2) (Or.inl ⟨by rfl, ?hyt2⟩) hHeld ?restt2
        case hyt2 => (intro w hSw; (try dsimp only at hSw); unfold o46_4_2; go_simp <;> with_reducible rfl)
        try simp only [o46_4_2, Act.put, p1_, p2_, p3_]
        refine tk_ (i := 3) (oi := o46_4_3) (v := ?vt3) (Or.inl ⟨by rfl, ?hyt3⟩) hHeld ?restt3
        case hyt3 => (intro w hSw; (try dsimp only at hSw); unfold o46_4_3; go_simp <;> with_reducible rfl)
        try simp only [o46_4_3, Act.put, p1_, p2_, p3_]
        refine tk_ (i := 5) (oi := o46_4_5) (v := ?vt4) (Or.inl ⟨by rfl, ?hyt4⟩) hHeld ?restt4
        case hyt4 => (intro w hSw; (try dsimp only at hSw); unfold o46_4_5; go_simp <;> with_reducible rfl)
        try simp only [o46_4_5, Act.put, p1_, p2_, p3_]
        refine tk_ (i := 7) (oi := o46_4_7) (v := ?vt5) (Or.inl ⟨by rfl, ?hyt5⟩) hHeld ?restt5
        case hyt5 => (intro w hSw; (try dsimp only at hSw); unfold o46_4_7; go_simp <;> with_reducible rfl)
        try simp only [o46_4_7, Act.put, p1_, p2_, p3_]
        refine tk_ (i := 8) (oi := o46_4_8) (v := ?vt6) (Or.inl ⟨by rfl, ?hyt6⟩) hHeld ?restt6
        case hyt6 => (intro w hSw; (try dsimp only at hSw); unfold o46_4_8; go_simp <;> with_reducible rfl)
        try simp only [o46_4_8, Act.put, p1_, p2_, p3_]
        refine tk_ (i := 10) (oi := o46_4_10) (v := ?vt7) (Or.inl ⟨by rfl, ?hyt7⟩) hHeld ?restt7
        case hyt7 => (intro w hSw; (try dsimp only at hSw); unfold o46_4_10; go_simp <;> with_reducible rfl)
        try simp only [o46_4_10, Act.put, p1_, p2_, p3_]
        refine tk_ (i := 11) (oi := o46_4_11) (v := ?vt8) (Or.inl ⟨by rfl, ?hyt8⟩) hHeld ?restt8
        case hyt8 => (intro w hSw; (try dsimp only at hSw); unfold o46_4_11; go_simp <;> with_reducible rfl)
        try simp only [o46_4_11, Act.put, p1_, p2_, p3_]
        refine tk_ (i := 13) (oi := o46_4_13) (v := ?vt9) (Or.inl ⟨by rfl, ?hyt9⟩) hHeld ?restt9
        case hyt9 => (intro w hSw; (try dsimp only at hSw); unfold o46_4_13; go_simp <;> with_reducible rfl)
        try simp only [o46_4_13, Act.put, p1_, p2_, p3_]
        refine tk_ (i := 14) (oi := o46_4_14) (v := ?vt10) (Or.inl ⟨by rfl, ?hyt10⟩) hHeld ?restt10
        case hyt10 => (intro w hSw; (try dsimp only at hSw); unfold o46_4_14; go_simp <;> with_reducible rfl)
        try simp only [o46_4_14, Act.put, p1_, p2_, p3_]
        refine wpAnyH_ready (rs := [1, 4]) (by kernel_rfl) (by simp) ?_
        refine (AllReadyH.cons (o := o46_4_1) rfl (fun K hK => ?_) (AllReadyH.cons (o := o46_4_4) rfl (fun K hK => ?_) AllReadyH.nil))
        · skip
          unfold o46_4_1; go_simp
          refine hK.out _ _ s0 (fun hHeld' => ?_)
          clear hK K hHeld
          have hHeld := hHeld'
          clear hHeld'
          try simp only [Act.put, p1_, p2_, p3_]
          refine wpAnyH_ready (rs := [4]) (by kernel_rfl) (by simp) ?_
          refine (AllReadyH.cons (o := o46_4_4) rfl (fun K hK => ?_) AllReadyH.nil)
          unfold o46_4_4; go_simp
          go_wp2_with (first | (go_at_call 47; (with_reducible refine (ke0.out _ R0.out).mono ?_); rintro e wq1 ⟨rfl, hr, hg⟩; (have R1 := Aside0.mk hr); (have P1 := Aside0.mk (P0.out.grown hg HPN.out)); (have s1 : wq1.cell? ⟨q, 0, none⟩ = some (.pointer (some ⟨g, 0, none⟩)) := (P1.out.1.cell 0).trans rfl); (have c1 : wq1.cell? ⟨p, 3, none⟩ = some (.slice Ak k ck) := (P1.out.2.2.1.cell 3).trans rfl); clear hr hg R0 P0 s0 c0))
          refine hK.out _ _ s1 (fun hHeld' => ?_)
          clear hK K hHeld
          have hHeld := hHeld'
          clear hHeld'
          try simp only [Act.put, p1_, p2_, p3_]
          refine wpAnyH_ready (rs := [6]) (by kernel_rfl) (by simp) ?_
          refine (AllReadyH.cons (o := o46_4_6) rfl (fun K hK => ?_) AllReadyH.nil)
          unfold o46_4_6; go_simp
          go_wp2_with (first | (go_at_call 37; (with_reducible refine (ke1.out _ R1.out).mono ?_); rintro e wq2 ⟨rfl, hr, hg⟩; (have R2 := Aside0.mk hr); (have P2 := Aside0.mk (P1.out.grown hg HPN.out)); (have s2 : wq2.cell? ⟨q, 0, none⟩ = some (.pointer (some ⟨g, 0, none⟩)) := (P2.out.1.cell 0).trans rfl); (have c2 : wq2.cell? ⟨p, 3, none⟩ = some (.slice Ak k ck) := (P2.out.2.2.1.cell 3).trans rfl); clear hr hg R1 P1 s1 c1))
          refine hK.out _ _ s2 (fun hHeld' => ?_)
          clear hK K hHeld
          have hHeld := hHeld'
          clear hHeld'
          try simp only [Act.put, p1_, p2_, p3_]
          refine wpAnyH_ready (rs := [9]) (by kernel_rfl) (by simp) ?_
          refine (AllReadyH.cons (o := o46_4_9) rfl (fun K hK => ?_) AllReadyH.nil)
          unfold o46_4_9; go_simp
          go_wp2_with (first | (go_at_call 38; (with_reducible refine (ke2.out _ R2.out).mono ?_); rintro e wq3 ⟨rfl, hr, hg⟩; (have R3 := Aside0.mk hr); (have P3 := Aside0.mk (P2.out.grown hg HPN.out)); (have s3 : wq3.cell? ⟨q, 0, none⟩ = some (.pointer (some ⟨g, 0, none⟩)) := (P3.out.1.cell 0).trans rfl); (have c3 : wq3.cell? ⟨p, 3, none⟩ = some (.slice Ak k ck) := (P3.out.2.2.1.cell 3).trans rfl); clear hr hg R2 P2 s2 c2))
          refine hK.out _ _ s3 (fun hHeld' => ?_)
          clear hK K hHeld
          have hHeld := hHeld'
          clear hHeld'
          try simp only [Act.put, p1_, p2_, p3_]
          refine wpAnyH_ready (rs := [12]) (by kernel_rfl) (by simp) ?_
          refine (AllReadyH.cons (o := o46_4_12) rfl (fun K hK => ?_) AllReadyH.nil)
          unfold o46_4_12; go_simp
          go_wp2_with (first | (go_at_call 38; (with_reducible refine (ke3.out _ R3.out).mono ?_); rintro e wq4 ⟨rfl, hr, hg⟩; (have R4 := Aside0.mk hr); (have P4 := Aside0.mk (P3.out.grown hg HPN.out)); (have s4 : wq4.cell? ⟨q, 0, none⟩ = some (.pointer (some ⟨g, 0, none⟩)) := (P4.out.1.cell 0).trans rfl); (have c4 : wq4.cell? ⟨p, 3, none⟩ = some (.slice Ak k ck) := (P4.out.2.2.1.cell 3).trans rfl); clear hr hg R3 P3 s3 c3))
          refine hK.out _ _ s4 (fun hHeld' => ?_)
          clear hK K hHeld
          have hHeld := hHeld'
          clear hHeld'
          try simp only [Act.put, p1_, p2_, p3_]
          refine wpAnyH_ready (rs := [15]) (by kernel_rfl) (by simp) ?_
          refine (AllReadyH.cons (o := o46_4_15) rfl (fun K hK => ?_) AllReadyH.nil)
          unfold o46_4_15; go_simp
          go_wp2_with (first | (go_at_call 38; (with_reducible refine (ke4.out _ R4.out).mono ?_); rintro e wq5 ⟨rfl, hr, hg⟩; (have R5 := Aside0.mk hr); (have P5 := Aside0.mk (P4.out.grown hg HPN.out)); (have s5 : wq5.cell? ⟨q, 0, none⟩ = some (.pointer (some ⟨g, 0, none⟩)) := (P5.out.1.cell 0).trans rfl); (have c5 : wq5.cell? ⟨p, 3, none⟩ = some (.slice Ak k ck) := (P5.out.2.2.1.cell 3).trans rfl); clear hr hg R4 P4 s4 c4))
          refine hK.out _ _ s5 (fun hHeld' => ?_)
          clear hK K hHeld
          have hHeld := hHeld'
          clear hHeld'
          try simp only [Act.put, p1_, p2_, p3_]
          refine tk_ (i := 16) (oi := o46_4_16) (v := ?vt11) (Or.inl ⟨by rfl, ?hyt11⟩) hHeld ?restt11
          case hyt11 => (intro w hSw; (try dsimp only at hSw); unfold o46_4_16; go_simp <;> with_reducible rfl)
          try simp only [o46_4_16, Act.put, p1_, p2_, p3_]
          refine wpAnyH_ready (rs := [17]) (by kernel_rfl) (by simp) ?_
          refine (AllReadyH.cons (o := o46_4_17) rfl (fun K hK => ?_) AllReadyH.nil)
          unfold o46_4_17; go_simp
          have sz5 : (wq5.alloc (Obj.cells #[.int .u8 f0, .int .u32 f1, .int .i64 f2, .int .i64 f3, .int .i64 f4] 53)).cell? ⟨q, 0, none⟩ = some (.pointer (some ⟨g, 0, none⟩)) := (P5.out.1.alloc.cell 0).trans rfl
          have cz5 : (wq5.alloc (Obj.cells #[.int .u8 f0, .int .u32 f1, .int .i64 f2, .int .i64 f3, .int .i64 f4] 53)).cell? ⟨p, 3, none⟩ = some (.slice Ak k ck) := (P5.out.2.2.1.alloc.cell 3).trans rfl
          refine hK.out _ _ sz5 (fun hHeld' => ?_)
          clear hK K hHeld
          have hHeld := hHeld'
          clear hHeld'
          try simp only [Act.put, p1_, p2_, p3_]
          refine wpAnyH_ready (rs := [18]) (by kernel_rfl) (by simp) ?_
          refine (AllReadyH.cons (o := o46_4_18) rfl (fun K hK => ?_) AllReadyH.nil)
          unfold o46_4_18; refine Kd.R_append_step k53 (w0 := wq5) L0 (by rfl) (.tmp 24) (.tmp 40) 28 53 (.agg #[.int .u8 0, .int .u32 0, .int .i64 0, .int .i64 0, .int .i64 0]) 32 rfl Try.underlying28 info53 rfl (by decide) (by omega) (.slice Ak k ck) Lk (⟨f0, f1, f2, f3, f4⟩ : S53) [.int .u8 f0, .int .u32 f1, .int .i64 f2, .int .i64 f3, .int .i64 f4] (fun _ => True) (fun _ => False) rfl rfl (k53_mkM _ _ _ (⟨f0, f1, f2, f3, f4⟩ : S53)) (fun _ hk => hk.elim) (fun _ _ => trivial) P5.out.2.2.2.2.2 (Below.refl L0 wq5) P5.out.2.2.2.2.1 (by rw [HLK.out]; omega) ?_
          intro v7 w7 ho hb7 hg7 hat
          obtain ⟨A7, c7, ev⟩ := Kd.R_slice ho
          rw [List.length_append, HLK.out, List.length_singleton] at ev
          subst ev
          have HO7 := Aside0.mk ho
          have HB7 := Aside0.mk hb7
          have P7 : Aside0 (Blk w7 p _) := ⟨⟨(hb7.block p HPN.out.2.2.2).trans P5.out.2.2.1.out⟩⟩
          have c67 : w7.cell? ⟨p, 3, none⟩ = some (.slice Ak k ck) := (P7.out.cell 3).trans rfl
          have g67 := P7.out.free 3
          have s7 : w7.cell? ⟨q, 0, none⟩ = some (.pointer (some ⟨g, 0, none⟩)) := ((show Blk w7 q _ from ⟨(hb7.block q (by have := HPN.out.2.2.2; have := HP.out; omega)).trans P5.out.1.out⟩).cell 0).trans rfl
          clear ho hb7 hg7 hat
          refine hK.out _ _ s7 (fun hHeld' => ?_)
          clear hK K hHeld
          have hHeld := hHeld'
          clear hHeld'
          try simp only [Act.put, p1_, p2_, p3_]
          refine tk_ (i := 19) (oi := o46_4_19) (v := ?vt12) (Or.inl ⟨by rfl, ?hyt12⟩) hHeld ?restt12
          case hyt12 => (intro w hSw; (try dsimp only at hSw); unfold o46_4_19; go_simp <;> with_reducible rfl)
          try simp only [o46_4_19, Act.put, p1_, p2_, p3_]
          refine wpAnyH_ready (rs := [20]) (by kernel_rfl) (by simp) ?_
          refine (AllReadyH.cons (o := o46_4_20) rfl (fun K hK => ?_) AllReadyH.nil)
          have FP := Aside0.mk (PP.put P5.out HO7.out HB7.out HPN.out 3 (rfl : _ = (#[.int .u32 m0, .int .u32 m1, .int .i64 m2, .slice A7 (k + 1) c7, .int .i64 m3, .int .i64 m4] : Array Value)))
          have FR : Aside0 (RdrS (w7.setCell ⟨p, 3, none⟩ (.slice A7 (k + 1) c7)) g B rk5) := ⟨rdr_set (RdrAt.keep R5.out (fun j hj _ => HB7.out.block j (by have := HB.out j hj; have := HPN.out.2.2.2; have := HP.out; omega))) ⟨p, 3, none⟩ _ (fun j hj => by have := HB.out j hj; have := HP.out; show j ≠ p; omega)⟩
          have sF : (w7.setCell ⟨p, 3, none⟩ (.slice A7 (k + 1) c7)).cell? ⟨q, 0, none⟩ = some (.pointer (some ⟨g, 0, none⟩)) := (FP.out.1.cell 0).trans rfl
          unfold o46_4_20; go_simp
          refine hK.out _ _ sF (fun hHeld' => ?_)
          try simp only [Act.put, p1_, p2_, p3_]
          refine wpAnyH_done (by kernel_rfl) ?_ _
          exact NoPanic.normal ⟨A7, c7, _, _, _, _, _, _, _, _, _, _, _, _, _, _, _, _, _, _, _, _, _, rfl, FR.out, FP.out⟩
        · skip
          unfold o46_4_4; go_simp
          go_wp2_with (first | (go_at_call 47; (with_reducible refine (ke0.out _ R0.out).mono ?_); rintro e wq1 ⟨rfl, hr, hg⟩; (have R1 := Aside0.mk hr); (have P1 := Aside0.mk (P0.out.grown hg HPN.out)); (have s1 : wq1.cell? ⟨q, 0, none⟩ = some (.pointer (some ⟨g, 0, none⟩)) := (P1.out.1.cell 0).trans rfl); (have c1 : wq1.cell? ⟨p, 3, none⟩ = some (.slice Ak k ck) := (P1.out.2.2.1.cell 3).trans rfl); clear hr hg R0 P0 s0 c0))
          refine hK.out _ _ s1 (fun hHeld' => ?_)
          clear hK K hHeld
          have hHeld := hHeld'
          clear hHeld'
          try simp only [Act.put, p1_, p2_, p3_]
          refine wpAnyH_ready (rs := [1, 6]) (by kernel_rfl) (by simp) ?_
          refine (AllReadyH.cons (o := o46_4_1) rfl (fun K hK => ?_) (AllReadyH.cons (o := o46_4_6) rfl (fun K hK => ?_) AllReadyH.nil))
          · skip
            unfold o46_4_1; go_simp
            refine hK.out _ _ s1 (fun hHeld' => ?_)
            clear hK K hHeld
            have hHeld := hHeld'
            clear hHeld'
            try simp only [Act.put, p1_, p2_, p3_]
            refine wpAnyH_ready (rs := [6]) (by kernel_rfl) (by simp) ?_
            refine (AllReadyH.cons (o := o46_4_6) rfl (fun K hK => ?_) AllReadyH.nil)
            unfold o46_4_6; go_simp
            go_wp2_with (first | (go_at_call 37; (with_reducible refine (ke1.out _ R1.out).mono ?_); rintro e wq2 ⟨rfl, hr, hg⟩; (have R2 := Aside0.mk hr); (have P2 := Aside0.mk (P1.out.grown hg HPN.out)); (have s2 : wq2.cell? ⟨q, 0, none⟩ = some (.pointer (some ⟨g, 0, none⟩)) := (P2.out.1.cell 0).trans rfl); (have c2 : wq2.cell? ⟨p, 3, none⟩ = some (.slice Ak k ck) := (P2.out.2.2.1.cell 3).trans rfl); clear hr hg R1 P1 s1 c1))
            refine hK.out _ _ s2 (fun hHeld' => ?_)
            clear hK K hHeld
            have hHeld := hHeld'
            clear hHeld'
            try simp only [Act.put, p1_, p2_, p3_]
            refine wpAnyH_ready (rs := [9]) (by kernel_rfl) (by simp) ?_
            refine (AllReadyH.cons (o := o46_4_9) rfl (fun K hK => ?_) AllReadyH.nil)
            unfold o46_4_9; go_simp
            go_wp2_with (first | (go_at_call 38; (with_reducible refine (ke2.out _ R2.out).mono ?_); rintro e wq3 ⟨rfl, hr, hg⟩; (have R3 := Aside0.mk hr); (have P3 := Aside0.mk (P2.out.grown hg HPN.out)); (have s3 : wq3.cell? ⟨q, 0, none⟩ = some (.pointer (some ⟨g, 0, none⟩)) := (P3.out.1.cell 0).trans rfl); (have c3 : wq3.cell? ⟨p, 3, none⟩ = some (.slice Ak k ck) := (P3.out.2.2.1.cell 3).trans rfl); clear hr hg R2 P2 s2 c2))
            refine hK.out _ _ s3 (fun hHeld' => ?_)
            clear hK K hHeld
            have hHeld := hHeld'
            clear hHeld'
            try simp only [Act.put, p1_, p2_, p3_]
            refine wpAnyH_ready (rs := [12]) (by kernel_rfl) (by simp) ?_
            refine (AllReadyH.cons (o := o46_4_12) rfl (fun K hK => ?_) AllReadyH.nil)
            unfold o46_4_12; go_simp
            go_wp2_with (first | (go_at_call 38; (with_reducible refine (ke3.out _ R3.out).mono ?_); rintro e wq4 ⟨rfl, hr, hg⟩; (have R4 := Aside0.mk hr); (have P4 := Aside0.mk (P3.out.grown hg HPN.out)); (have s4 : wq4.cell? ⟨q, 0, none⟩ = some (.pointer (some ⟨g, 0, none⟩)) := (P4.out.1.cell 0).trans rfl); (have c4 : wq4.cell? ⟨p, 3, none⟩ = some (.slice Ak k ck) := (P4.out.2.2.1.cell 3).trans rfl); clear hr hg R3 P3 s3 c3))
            refine hK.out _ _ s4 (fun hHeld' => ?_)
            clear hK K hHeld
            have hHeld := hHeld'
            clear hHeld'
            try simp only [Act.put, p1_, p2_, p3_]
            refine wpAnyH_ready (rs := [15]) (by kernel_rfl) (by simp) ?_
            refine (AllReadyH.cons (o := o46_4_15) rfl (fun K hK => ?_) AllReadyH.nil)
            unfold o46_4_15; go_simp
            go_wp2_with (first | (go_at_call 38; (with_reducible refine (ke4.out _ R4.out).mono ?_); rintro e wq5 ⟨rfl, hr, hg⟩; (have R5 := Aside0.mk hr); (have P5 := Aside0.mk (P4.out.grown hg HPN.out)); (have s5 : wq5.cell? ⟨q, 0, none⟩ = some (.pointer (some ⟨g, 0, none⟩)) := (P5.out.1.cell 0).trans rfl); (have c5 : wq5.cell? ⟨p, 3, none⟩ = some (.slice Ak k ck) := (P5.out.2.2.1.cell 3).trans rfl); clear hr hg R4 P4 s4 c4))
            refine hK.out _ _ s5 (fun hHeld' => ?_)
            clear hK K hHeld
            have hHeld := hHeld'
            clear hHeld'
            try simp only [Act.put, p1_, p2_, p3_]
            refine tk_ (i := 16) (oi := o46_4_16) (v := ?vt13) (Or.inl ⟨by rfl, ?hyt13⟩) hHeld ?restt13
            case hyt13 => (intro w hSw; (try dsimp only at hSw); unfold o46_4_16; go_simp <;> with_reducible rfl)
            try simp only [o46_4_16, Act.put, p1_, p2_, p3_]
            refine wpAnyH_ready (rs := [17]) (by kernel_rfl) (by simp) ?_
            refine (AllReadyH.cons (o := o46_4_17) rfl (fun K hK => ?_) AllReadyH.nil)
            unfold o46_4_17; go_simp
            have sz5 : (wq5.alloc (Obj.cells #[.int .u8 f0, .int .u32 f1, .int .i64 f2, .int .i64 f3, .int .i64 f4] 53)).cell? ⟨q, 0, none⟩ = some (.pointer (some ⟨g, 0, none⟩)) := (P5.out.1.alloc.cell 0).trans rfl
            have cz5 : (wq5.alloc (Obj.cells #[.int .u8 f0, .int .u32 f1, .int .i64 f2, .int .i64 f3, .int .i64 f4] 53)).cell? ⟨p, 3, none⟩ = some (.slice Ak k ck) := (P5.out.2.2.1.alloc.cell 3).trans rfl
            refine hK.out _ _ sz5 (fun hHeld' => ?_)
            clear hK K hHeld
            have hHeld := hHeld'
            clear hHeld'
            try simp only [Act.put, p1_, p2_, p3_]
            refine wpAnyH_ready (rs := [18]) (by kernel_rfl) (by simp) ?_
            refine (AllReadyH.cons (o := o46_4_18) rfl (fun K hK => ?_) AllReadyH.nil)
            unfold o46_4_18; refine Kd.R_append_step k53 (w0 := wq5) L0 (by rfl) (.tmp 24) (.tmp 40) 28 53 (.agg #[.int .u8 0, .int .u32 0, .int .i64 0, .int .i64 0, .int .i64 0]) 32 rfl Try.underlying28 info53 rfl (by decide) (by omega) (.slice Ak k ck) Lk (⟨f0, f1, f2, f3, f4⟩ : S53) [.int .u8 f0, .int .u32 f1, .int .i64 f2, .int .i64 f3, .int .i64 f4] (fun _ => True) (fun _ => False) rfl rfl (k53_mkM _ _ _ (⟨f0, f1, f2, f3, f4⟩ : S53)) (fun _ hk => hk.elim) (fun _ _ => trivial) P5.out.2.2.2.2.2 (Below.refl L0 wq5) P5.out.2.2.2.2.1 (by rw [HLK.out]; omega) ?_
            intro v7 w7 ho hb7 hg7 hat
            obtain ⟨A7, c7, ev⟩ := Kd.R_slice ho
            rw [List.length_append, HLK.out, List.length_singleton] at ev
            subst ev
            have HO7 := Aside0.mk ho
            have HB7 := Aside0.mk hb7
            have P7 : Aside0 (Blk w7 p _) := ⟨⟨(hb7.block p HPN.out.2.2.2).trans P5.out.2.2.1.out⟩⟩
            have c67 : w7.cell? ⟨p, 3, none⟩ = some (.slice Ak k ck) := (P7.out.cell 3).trans rfl
            have g67 := P7.out.free 3
            have s7 : w7.cell? ⟨q, 0, none⟩ = some (.pointer (some ⟨g, 0, none⟩)) := ((show Blk w7 q _ from ⟨(hb7.block q (by have := HPN.out.2.2.2; have := HP.out; omega)).trans P5.out.1.out⟩).cell 0).trans rfl
            clear ho hb7 hg7 hat
            refine hK.out _ _ s7 (fun hHeld' => ?_)
            clear hK K hHeld
            have hHeld := hHeld'
            clear hHeld'
            try simp only [Act.put, p1_, p2_, p3_]
            refine tk_ (i := 19) (oi := o46_4_19) (v := ?vt14) (Or.inl ⟨by rfl, ?hyt14⟩) hHeld ?restt14
            case hyt14 => (intro w hSw; (try dsimp only at hSw); unfold o46_4_19; go_simp <;> with_reducible rfl)
            try simp only [o46_4_19, Act.put, p1_, p2_, p3_]
            refine wpAnyH_ready (rs := [20]) (by kernel_rfl) (by simp) ?_
            refine (AllReadyH.cons (o := o46_4_20) rfl (fun K hK => ?_) AllReadyH.nil)
            have FP := Aside0.mk (PP.put P5.out HO7.out HB7.out HPN.out 3 (rfl : _ = (#[.int .u32 m0, .int .u32 m1, .int .i64 m2, .slice A7 (k + 1) c7, .int .i64 m3, .int .i64 m4] : Array Value)))
            have FR : Aside0 (RdrS (w7.setCell ⟨p, 3, none⟩ (.slice A7 (k + 1) c7)) g B rk5) := ⟨rdr_set (RdrAt.keep R5.out (fun j hj _ => HB7.out.block j (by have := HB.out j hj; have := HPN.out.2.2.2; have := HP.out; omega))) ⟨p, 3, none⟩ _ (fun j hj => by have := HB.out j hj; have := HP.out; show j ≠ p; omega)⟩
            have sF : (w7.setCell ⟨p, 3, none⟩ (.slice A7 (k + 1) c7)).cell? ⟨q, 0, none⟩ = some (.pointer (some ⟨g, 0, none⟩)) := (FP.out.1.cell 0).trans rfl
            unfold o46_4_20; go_simp
            refine hK.out _ _ sF (fun hHeld' => ?_)
            try simp only [Act.put, p1_, p2_, p3_]
            refine wpAnyH_done (by kernel_rfl) ?_ _
            exact NoPanic.normal ⟨A7, c7, _, _, _, _, _, _, _, _, _, _, _, _, _, _, _, _, _, _, _, _, _, rfl, FR.out, FP.out⟩
          · skip
            unfold o46_4_6; go_simp
            go_wp2_with (first | (go_at_call 37; (with_reducible refine (ke1.out _ R1.out).mono ?_); rintro e wq2 ⟨rfl, hr, hg⟩; (have R2 := Aside0.mk hr); (have P2 := Aside0.mk (P1.out.grown hg HPN.out)); (have s2 : wq2.cell? ⟨q, 0, none⟩ = some (.pointer (some ⟨g, 0, none⟩)) := (P2.out.1.cell 0).trans rfl); (have c2 : wq2.cell? ⟨p, 3, none⟩ = some (.slice Ak k ck) := (P2.out.2.2.1.cell 3).trans rfl); clear hr hg R1 P1 s1 c1))
            refine hK.out _ _ s2 (fun hHeld' => ?_)
            clear hK K hHeld
            have hHeld := hHeld'
            clear hHeld'
            try simp only [Act.put, p1_, p2_, p3_]
            refine wpAnyH_ready (rs := [1, 9]) (by kernel_rfl) (by simp) ?_
            refine (AllReadyH.cons (o := o46_4_1) rfl (fun K hK => ?_) (AllReadyH.cons (o := o46_4_9) rfl (fun K hK => ?_) AllReadyH.nil))
            · skip
              unfold o46_4_1; go_simp
              refine hK.out _ _ s2 (fun hHeld' => ?_)
              clear hK K hHeld
              have hHeld := hHeld'
              clear hHeld'
              try simp only [Act.put, p1_, p2_, p3_]
              refine wpAnyH_ready (rs := [9]) (by kernel_rfl) (by simp) ?_
              refine (AllReadyH.cons (o := o46_4_9) rfl (fun K hK => ?_) AllReadyH.nil)
              unfold o46_4_9; go_simp
              go_wp2_with (first | (go_at_call 38; (with_reducible refine (ke2.out _ R2.out).mono ?_); rintro e wq3 ⟨rfl, hr, hg⟩; (have R3 := Aside0.mk hr); (have P3 := Aside0.mk (P2.out.grown hg HPN.out)); (have s3 : wq3.cell? ⟨q, 0, none⟩ = some (.pointer (some ⟨g, 0, none⟩)) := (P3.out.1.cell 0).trans rfl); (have c3 : wq3.cell? ⟨p, 3, none⟩ = some (.slice Ak k ck) := (P3.out.2.2.1.cell 3).trans rfl); clear hr hg R2 P2 s2 c2))
              refine hK.out _ _ s3 (fun hHeld' => ?_)
              clear hK K hHeld
              have hHeld := hHeld'
              clear hHeld'
              try simp only [Act.put, p1_, p2_, p3_]
              refine wpAnyH_ready (rs := [12]) (by kernel_rfl) (by simp) ?_
              refine (AllReadyH.cons (o := o46_4_12) rfl (fun K hK => ?_) AllReadyH.nil)
              unfold o46_4_12; go_simp
              go_wp2_with (first | (go_at_call 38; (with_reducible refine (ke3.out _ R3.out).mono ?_); rintro e wq4 ⟨rfl, hr, hg⟩; (have R4 := Aside0.mk hr); (have P4 := Aside0.mk (P3.out.grown hg HPN.out)); (have s4 : wq4.cell? ⟨q, 0, none⟩ = some (.pointer (some ⟨g, 0, none⟩)) := (P4.out.1.cell 0).trans rfl); (have c4 : wq4.cell? ⟨p, 3, none⟩ = some (.slice Ak k ck) := (P4.out.2.2.1.cell 3).trans rfl); clear hr hg R3 P3 s3 c3))
              refine hK.out _ _ s4 (fun hHeld' => ?_)
              clear hK K hHeld
              have hHeld := hHeld'
              clear hHeld'
              try simp only [Act.put, p1_, p2_, p3_]
              refine wpAnyH_ready (rs := [15]) (by kernel_rfl) (by simp) ?_
              refine (AllReadyH.cons (o := o46_4_15) rfl (fun K hK => ?_) AllReadyH.nil)
              unfold o46_4_15; go_simp
              go_wp2_with (first | (go_at_call 38; (with_reducible refine (ke4.out _ R4.out).mono ?_); rintro e wq5 ⟨rfl, hr, hg⟩; (have R5 := Aside0.mk hr); (have P5 := Aside0.mk (P4.out.grown hg HPN.out)); (have s5 : wq5.cell? ⟨q, 0, none⟩ = some (.pointer (some ⟨g, 0, none⟩)) := (P5.out.1.cell 0).trans rfl); (have c5 : wq5.cell? ⟨p, 3, none⟩ = some (.slice Ak k ck) := (P5.out.2.2.1.cell 3).trans rfl); clear hr hg R4 P4 s4 c4))
              refine hK.out _ _ s5 (fun hHeld' => ?_)
              clear hK K hHeld
              have hHeld := hHeld'
              clear hHeld'
              try simp only [Act.put, p1_, p2_, p3_]
              refine tk_ (i := 16) (oi := o46_4_16) (v := ?vt15) (Or.inl ⟨by rfl, ?hyt15⟩) hHeld ?restt15
              case hyt15 => (intro w hSw; (try dsimp only at hSw); unfold o46_4_16; go_simp <;> with_reducible rfl)
              try simp only [o46_4_16, Act.put, p1_, p2_, p3_]
              refine wpAnyH_ready (rs := [17]) (by kernel_rfl) (by simp) ?_
              refine (AllReadyH.cons (o := o46_4_17) rfl (fun K hK => ?_) AllReadyH.nil)
              unfold o46_4_17; go_simp
              have sz5 : (wq5.alloc (Obj.cells #[.int .u8 f0, .int .u32 f1, .int .i64 f2, .int .i64 f3, .int .i64 f4] 53)).cell? ⟨q, 0, none⟩ = some (.pointer (some ⟨g, 0, none⟩)) := (P5.out.1.alloc.cell 0).trans rfl
              have cz5 : (wq5.alloc (Obj.cells #[.int .u8 f0, .int .u32 f1, .int .i64 f2, .int .i64 f3, .int .i64 f4] 53)).cell? ⟨p, 3, none⟩ = some (.slice Ak k ck) := (P5.out.2.2.1.alloc.cell 3).trans rfl
              refine hK.out _ _ sz5 (fun hHeld' => ?_)
              clear hK K hHeld
              have hHeld := hHeld'
              clear hHeld'
              try simp only [Act.put, p1_, p2_, p3_]
              refine wpAnyH_ready (rs := [18]) (by kernel_rfl) (by simp) ?_
              refine (AllReadyH.cons (o := o46_4_18) rfl (fun K hK => ?_) AllReadyH.nil)
              unfold o46_4_18; refine Kd.R_append_step k53 (w0 := wq5) L0 (by rfl) (.tmp 24) (.tmp 40) 28 53 (.agg #[.int .u8 0, .int .u32 0, .int .i64 0, .int .i64 0, .int .i64 0]) 32 rfl Try.underlying28 info53 rfl (by decide) (by omega) (.slice Ak k ck) Lk (⟨f0, f1, f2, f3, f4⟩ : S53) [.int .u8 f0, .int .u32 f1, .int .i64 f2, .int .i64 f3, .int .i64 f4] (fun _ => True) (fun _ => False) rfl rfl (k53_mkM _ _ _ (⟨f0, f1, f2, f3, f4⟩ : S53)) (fun _ hk => hk.elim) (fun _ _ => trivial) P5.out.2.2.2.2.2 (Below.refl L0 wq5) P5.out.2.2.2.2.1 (by rw [HLK.out]; omega) ?_
              intro v7 w7 ho hb7 hg7 hat
              obtain ⟨A7, c7, ev⟩ := Kd.R_slice ho
              rw [List.length_append, HLK.out, List.length_singleton] at ev
              subst ev
              have HO7 := Aside0.mk ho
              have HB7 := Aside0.mk hb7
              have P7 : Aside0 (Blk w7 p _) := ⟨⟨(hb7.block p HPN.out.2.2.2).trans P5.out.2.2.1.out⟩⟩
              have c67 : w7.cell? ⟨p, 3, none⟩ = some (.slice Ak k ck) := (P7.out.cell 3).trans rfl
              have g67 := P7.out.free 3
              have s7 : w7.cell? ⟨q, 0, none⟩ = some (.pointer (some ⟨g, 0, none⟩)) := ((show Blk w7 q _ from ⟨(hb7.block q (by have := HPN.out.2.2.2; have := HP.out; omega)).trans P5.out.1.out⟩).cell 0).trans rfl
              clear ho hb7 hg7 hat
              refine hK.out _ _ s7 (fun hHeld' => ?_)
              clear hK K hHeld
              have hHeld := hHeld'
              clear hHeld'
              try simp only [Act.put, p1_, p2_, p3_]
              refine tk_ (i := 19) (oi := o46_4_19) (v := ?vt16) (Or.inl ⟨by rfl, ?hyt16⟩) hHeld ?restt16
              case hyt16 => (intro w hSw; (try dsimp only at hSw); unfold o46_4_19; go_simp <;> with_reducible rfl)
              try simp only [o46_4_19, Act.put, p1_, p2_, p3_]
              refine wpAnyH_ready (rs := [20]) (by kernel_rfl) (by simp) ?_
              refine (AllReadyH.cons (o := o46_4_20) rfl (fun K hK => ?_) AllReadyH.nil)
              have FP := Aside0.mk (PP.put P5.out HO7.out HB7.out HPN.out 3 (rfl : _ = (#[.int .u32 m0, .int .u32 m1, .int .i64 m2, .slice A7 (k + 1) c7, .int .i64 m3, .int .i64 m4] : Array Value)))
              have FR : Aside0 (RdrS (w7.setCell ⟨p, 3, none⟩ (.slice A7 (k + 1) c7)) g B rk5) := ⟨rdr_set (RdrAt.keep R5.out (fun j hj _ => HB7.out.block j (by have := HB.out j hj; have := HPN.out.2.2.2; have := HP.out; omega))) ⟨p, 3, none⟩ _ (fun j hj => by have := HB.out j hj; have := HP.out; show j ≠ p; omega)⟩
              have sF : (w7.setCell ⟨p, 3, none⟩ (.slice A7 (k + 1) c7)).cell? ⟨q, 0, none⟩ = some (.pointer (some ⟨g, 0, none⟩)) := (FP.out.1.cell 0).trans rfl
              unfold o46_4_20; go_simp
              refine hK.out _ _ sF (fun hHeld' => ?_)
              try simp only [Act.put, p1_, p2_, p3_]
              refine wpAnyH_done (by kernel_rfl) ?_ _
              exact NoPanic.normal ⟨A7, c7, _, _, _, _, _, _, _, _, _, _, _, _, _, _, _, _, _, _, _, _, _, rfl, FR.out, FP.out⟩
            · skip
              unfold o46_4_9; go_simp
              go_wp2_with (first | (go_at_call 38; (with_reducible refine (ke2.out _ R2.out).mono ?_); rintro e wq3 ⟨rfl, hr, hg⟩; (have R3 := Aside0.mk hr); (have P3 := Aside0.mk (P2.out.grown hg HPN.out)); (have s3 : wq3.cell? ⟨q, 0, none⟩ = some (.pointer (some ⟨g, 0, none⟩)) := (P3.out.1.cell 0).trans rfl); (have c3 : wq3.cell? ⟨p, 3, none⟩ = some (.slice Ak k ck) := (P3.out.2.2.1.cell 3).trans rfl); clear hr hg R2 P2 s2 c2))
              refine hK.out _ _ s3 (fun hHeld' => ?_)
              clear hK K hHeld
              have hHeld := hHeld'
              clear hHeld'
              try simp only [Act.put, p1_, p2_, p3_]
              refine wpAnyH_ready (rs := [1, 12]) (by kernel_rfl) (by simp) ?_
              refine (AllReadyH.cons (o := o46_4_1) rfl (fun K hK => ?_) (AllReadyH.cons (o := o46_4_12) rfl (fun K hK => ?_) AllReadyH.nil))
              · skip
                unfold o46_4_1; go_simp
                refine hK.out _ _ s3 (fun hHeld' => ?_)
                clear hK K hHeld
                have hHeld := hHeld'
                clear hHeld'
                try simp only [Act.put, p1_, p2_, p3_]
                refine wpAnyH_ready (rs := [12]) (by kernel_rfl) (by simp) ?_
                refine (AllReadyH.cons (o := o46_4_12) rfl (fun K hK => ?_) AllReadyH.nil)
                unfold o46_4_12; go_simp
                go_wp2_with (first | (go_at_call 38; (with_reducible refine (ke3.out _ R3.out).mono ?_); rintro e wq4 ⟨rfl, hr, hg⟩; (have R4 := Aside0.mk hr); (have P4 := Aside0.mk (P3.out.grown hg HPN.out)); (have s4 : wq4.cell? ⟨q, 0, none⟩ = some (.pointer (some ⟨g, 0, none⟩)) := (P4.out.1.cell 0).trans rfl); (have c4 : wq4.cell? ⟨p, 3, none⟩ = some (.slice Ak k ck) := (P4.out.2.2.1.cell 3).trans rfl); clear hr hg R3 P3 s3 c3))
                refine hK.out _ _ s4 (fun hHeld' => ?_)
                clear hK K hHeld
                have hHeld := hHeld'
                clear hHeld'
                try simp only [Act.put, p1_, p2_, p3_]
                refine wpAnyH_ready (rs := [15]) (by kernel_rfl) (by simp) ?_
                refine (AllReadyH.cons (o := o46_4_15) rfl (fun K hK => ?_) AllReadyH.nil)
                unfold o46_4_15; go_simp
                go_wp2_with (first | (go_at_call 38; (with_reducible refine (ke4.out _ R4.out).mono ?_); rintro e wq5 ⟨rfl, hr, hg⟩; (have R5 := Aside0.mk hr); (have P5 := Aside0.mk (P4.out.grown hg HPN.out)); (have s5 : wq5.cell? ⟨q, 0, none⟩ = some (.pointer (some ⟨g, 0, none⟩)) := (P5.out.1.cell 0).trans rfl); (have c5 : wq5.cell? ⟨p, 3, none⟩ = some (.slice Ak k ck) := (P5.out.2.2.1.cell 3).trans rfl); clear hr hg R4 P4 s4 c4))
                refine hK.out _ _ s5 (fun hHeld' => ?_)
                clear hK K hHeld
                have hHeld := hHeld'
                clear hHeld'
                try simp only [Act.put, p1_, p2_, p3_]
                refine tk_ (i := 16) (oi := o46_4_16) (v := ?vt17) (Or.inl ⟨by rfl, ?hyt17⟩) hHeld ?restt17
                case hyt17 => (intro w hSw; (try dsimp only at hSw); unfold o46_4_16; go_simp <;> with_reducible rfl)
                try simp only [o46_4_16, Act.put, p1_, p2_, p3_]
                refine wpAnyH_ready (rs := [17]) (by kernel_rfl) (by simp) ?_
                refine (AllReadyH.cons (o := o46_4_17) rfl (fun K hK => ?_) AllReadyH.nil)
                unfold o46_4_17; go_simp
                have sz5 : (wq5.alloc (Obj.cells #[.int .u8 f0, .int .u32 f1, .int .i64 f2, .int .i64 f3, .int .i64 f4] 53)).cell? ⟨q, 0, none⟩ = some (.pointer (some ⟨g, 0, none⟩)) := (P5.out.1.alloc.cell 0).trans rfl
                have cz5 : (wq5.alloc (Obj.cells #[.int .u8 f0, .int .u32 f1, .int .i64 f2, .int .i64 f3, .int .i64 f4] 53)).cell? ⟨p, 3, none⟩ = some (.slice Ak k ck) := (P5.out.2.2.1.alloc.cell 3).trans rfl
                refine hK.out _ _ sz5 (fun hHeld' => ?_)
                clear hK K hHeld
                have hHeld := hHeld'
                clear hHeld'
                try simp only [Act.put, p1_, p2_, p3_]
                refine wpAnyH_ready (rs := [18]) (by kernel_rfl) (by simp) ?_
                refine (AllReadyH.cons (o := o46_4_18) rfl (fun K hK => ?_) AllReadyH.nil)
                unfold o46_4_18; refine Kd.R_append_step k53 (w0 := wq5) L0 (by rfl) (.tmp 24) (.tmp 40) 28 53 (.agg #[.int .u8 0, .int .u32 0, .int .i64 0, .int .i64 0, .int .i64 0]) 32 rfl Try.underlying28 info53 rfl (by decide) (by omega) (.slice Ak k ck) Lk (⟨f0, f1, f2, f3, f4⟩ : S53) [.int .u8 f0, .int .u32 f1, .int .i64 f2, .int .i64 f3, .int .i64 f4] (fun _ => True) (fun _ => False) rfl rfl (k53_mkM _ _ _ (⟨f0, f1, f2, f3, f4⟩ : S53)) (fun _ hk => hk.elim) (fun _ _ => trivial) P5.out.2.2.2.2.2 (Below.refl L0 wq5) P5.out.2.2.2.2.1 (by rw [HLK.out]; omega) ?_
                intro v7 w7 ho hb7 hg7 hat
                obtain ⟨A7, c7, ev⟩ := Kd.R_slice ho
                rw [List.length_append, HLK.out, List.length_singleton] at ev
                subst ev
                have HO7 := Aside0.mk ho
                have HB7 := Aside0.mk hb7
                have P7 : Aside0 (Blk w7 p _) := ⟨⟨(hb7.block p HPN.out.2.2.2).trans P5.out.2.2.1.out⟩⟩
                have c67 : w7.cell? ⟨p, 3, none⟩ = some (.slice Ak k ck) := (P7.out.cell 3).trans rfl
                have g67 := P7.out.free 3
                have s7 : w7.cell? ⟨q, 0, none⟩ = some (.pointer (some ⟨g, 0, none⟩)) := ((show Blk w7 q _ from ⟨(hb7.block q (by have := HPN.out.2.2.2; have := HP.out; omega)).trans P5.out.1.out⟩).cell 0).trans rfl
                clear ho hb7 hg7 hat
                refine hK.out _ _ s7 (fun hHeld' => ?_)
                clear hK K hHeld
                have hHeld := hHeld'
                clear hHeld'
                try simp only [Act.put, p1_, p2_, p3_]
                refine tk_ (i := 19) (oi := o46_4_19) (v := ?vt18) (Or.inl ⟨by rfl, ?hyt18⟩) hHeld ?restt18
                case hyt18 => (intro w hSw; (try dsimp only at hSw); unfold o46_4_19; go_simp <;> with_reducible rfl)
                try simp only [o46_4_19, Act.put, p1_, p2_, p3_]
                refine wpAnyH_ready (rs := [20]) (by kernel_rfl) (by simp) ?_
                refine (AllReadyH.cons (o := o46_4_20) rfl (fun K hK => ?_) AllReadyH.nil)
                have FP := Aside0.mk (PP.put P5.out HO7.out HB7.out HPN.out 3 (rfl : _ = (#[.int .u32 m0, .int .u32 m1, .int .i64 m2, .slice A7 (k + 1) c7, .int .i64 m3, .int .i64 m4] : Array Value)))
                have FR : Aside0 (RdrS (w7.setCell ⟨p, 3, none⟩ (.slice A7 (k + 1) c7)) g B rk5) := ⟨rdr_set (RdrAt.keep R5.out (fun j hj _ => HB7.out.block j (by have := HB.out j hj; have := HPN.out.2.2.2; have := HP.out; omega))) ⟨p, 3, none⟩ _ (fun j hj => by have := HB.out j hj; have := HP.out; show j ≠ p; omega)⟩
                have sF : (w7.setCell ⟨p, 3, none⟩ (.slice A7 (k + 1) c7)).cell? ⟨q, 0, none⟩ = some (.pointer (some ⟨g, 0, none⟩)) := (FP.out.1.cell 0).trans rfl
                unfold o46_4_20; go_simp
                refine hK.out _ _ sF (fun hHeld' => ?_)
                try simp only [Act.put, p1_, p2_, p3_]
                refine wpAnyH_done (by kernel_rfl) ?_ _
                exact NoPanic.normal ⟨A7, c7, _, _, _, _, _, _, _, _, _, _, _, _, _, _, _, _, _, _, _, _, _, rfl, FR.out, FP.out⟩
              · skip
                unfold o46_4_12; go_simp
                go_wp2_with (first | (go_at_call 38; (with_reducible refine (ke3.out _ R3.out).mono ?_); rintro e wq4 ⟨rfl, hr, hg⟩; (have R4 := Aside0.mk hr); (have P4 := Aside0.mk (P3.out.grown hg HPN.out)); (have s4 : wq4.cell? ⟨q, 0, none⟩ = some (.pointer (some ⟨g, 0, none⟩)) := (P4.out.1.cell 0).trans rfl); (have c4 : wq4.cell? ⟨p, 3, none⟩ = some (.slice Ak k ck) := (P4.out.2.2.1.cell 3).trans rfl); clear hr hg R3 P3 s3 c3))
                refine hK.out _ _ s4 (fun hHeld' => ?_)
                clear hK K hHeld
                have hHeld := hHeld'
                clear hHeld'
                try simp only [Act.put, p1_, p2_, p3_]
                refine wpAnyH_ready (rs := [1, 15]) (by kernel_rfl) (by simp) ?_
                refine (AllReadyH.cons (o := o46_4_1) rfl (fun K hK => ?_) (AllReadyH.cons (o := o46_4_15) rfl (fun K hK => ?_) AllReadyH.nil))
                · skip
                  unfold o46_4_1; go_simp
                  refine hK.out _ _ s4 (fun hHeld' => ?_)
                  clear hK K hHeld
                  have hHeld := hHeld'
                  clear hHeld'
                  try simp only [Act.put, p1_, p2_, p3_]
                  refine wpAnyH_ready (rs := [15]) (by kernel_rfl) (by simp) ?_
                  refine (AllReadyH.cons (o := o46_4_15) rfl (fun K hK => ?_) AllReadyH.nil)
                  unfold o46_4_15; go_simp
                  go_wp2_with (first | (go_at_call 38; (with_reducible refine (ke4.out _ R4.out).mono ?_); rintro e wq5 ⟨rfl, hr, hg⟩; (have R5 := Aside0.mk hr); (have P5 := Aside0.mk (P4.out.grown hg HPN.out)); (have s5 : wq5.cell? ⟨q, 0, none⟩ = some (.pointer (some ⟨g, 0, none⟩)) := (P5.out.1.cell 0).trans rfl); (have c5 : wq5.cell? ⟨p, 3, none⟩ = some (.slice Ak k ck) := (P5.out.2.2.1.cell 3).trans rfl); clear hr hg R4 P4 s4 c4))
                  refine hK.out _ _ s5 (fun hHeld' => ?_)
                  clear hK K hHeld
                  have hHeld := hHeld'
                  clear hHeld'
                  try simp only [Act.put, p1_, p2_, p3_]
                  refine tk_ (i := 16) (oi := o46_4_16) (v := ?vt19) (Or.inl ⟨by rfl, ?hyt19⟩) hHeld ?restt19
                  case hyt19 => (intro w hSw; (try dsimp only at hSw); unfold o46_4_16; go_simp <;> with_reducible rfl)
                  try simp only [o46_4_16, Act.put, p1_, p2_, p3_]
                  refine wpAnyH_ready (rs := [17]) (by kernel_rfl) (by simp) ?_
                  refine (AllReadyH.cons (o := o46_4_17) rfl (fun K hK => ?_) AllReadyH.nil)
                  unfold o46_4_17; go_simp
                  have sz5 : (wq5.alloc (Obj.cells #[.int .u8 f0, .int .u32 f1, .int .i64 f2, .int .i64 f3, .int .i64 f4] 53)).cell? ⟨q, 0, none⟩ = some (.pointer (some ⟨g, 0, none⟩)) := (P5.out.1.alloc.cell 0).trans rfl
                  have cz5 : (wq5.alloc (Obj.cells #[.int .u8 f0, .int .u32 f1, .int .i64 f2, .int .i64 f3, .int .i64 f4] 53)).cell? ⟨p, 3, none⟩ = some (.slice Ak k ck) := (P5.out.2.2.1.alloc.cell 3).trans rfl
                  refine hK.out _ _ sz5 (fun hHeld' => ?_)
                  clear hK K hHeld
                  have hHeld := hHeld'
                  clear hHeld'
                  try simp only [Act.put, p1_, p2_, p3_]
                  refine wpAnyH_ready (rs := [18]) (by kernel_rfl) (by simp) ?_
                  refine (AllReadyH.cons (o := o46_4_18) rfl (fun K hK => ?_) AllReadyH.nil)
                  unfold o46_4_18; refine Kd.R_append_step k53 (w0 := wq5) L0 (by rfl) (.tmp 24) (.tmp 40) 28 53 (.agg #[.int .u8 0, .int .u32 0, .int .i64 0, .int .i64 0, .int .i64 0]) 32 rfl Try.underlying28 info53 rfl (by decide) (by omega) (.slice Ak k ck) Lk (⟨f0, f1, f2, f3, f4⟩ : S53) [.int .u8 f0, .int .u32 f1, .int .i64 f2, .int .i64 f3, .int .i64 f4] (fun _ => True) (fun _ => False) rfl rfl (k53_mkM _ _ _ (⟨f0, f1, f2, f3, f4⟩ : S53)) (fun _ hk => hk.elim) (fun _ _ => trivial) P5.out.2.2.2.2.2 (Below.refl L0 wq5) P5.out.2.2.2.2.1 (by rw [HLK.out]; omega) ?_
                  intro v7 w7 ho hb7 hg7 hat
                  obtain ⟨A7, c7, ev⟩ := Kd.R_slice ho
                  rw [List.length_append, HLK.out, List.length_singleton] at ev
                  subst ev
                  have HO7 := Aside0.mk ho
                  have HB7 := Aside0.mk hb7
                  have P7 : Aside0 (Blk w7 p _) := ⟨⟨(hb7.block p HPN.out.2.2.2).trans P5.out.2.2.1.out⟩⟩
                  have c67 : w7.cell? ⟨p, 3, none⟩ = some (.slice Ak k ck) := (P7.out.cell 3).trans rfl
                  have g67 := P7.out.free 3
                  have s7 : w7.cell? ⟨q, 0, none⟩ = some (.pointer (some ⟨g, 0, none⟩)) := ((show Blk w7 q _ from ⟨(hb7.block q (by have := HPN.out.2.2.2; have := HP.out; omega)).trans P5.out.1.out⟩).cell 0).trans rfl
                  clear ho hb7 hg7 hat
                  refine hK.out _ _ s7 (fun hHeld' => ?_)
                  clear hK K hHeld
                  have hHeld := hHeld'
                  clear hHeld'
                  try simp only [Act.put, p1_, p2_, p3_]
                  refine tk_ (i := 19) (oi := o46_4_19) (v := ?vt20) (Or.inl ⟨by rfl, ?hyt20⟩) hHeld ?restt20
                  case hyt20 => (intro w hSw; (try dsimp only at hSw); unfold o46_4_19; go_simp <;> with_reducible rfl)
                  try simp only [o46_4_19, Act.put, p1_, p2_, p3_]
                  refine wpAnyH_ready (rs := [20]) (by kernel_rfl) (by simp) ?_
                  refine (AllReadyH.cons (o := o46_4_20) rfl (fun K hK => ?_) AllReadyH.nil)
                  have FP := Aside0.mk (PP.put P5.out HO7.out HB7.out HPN.out 3 (rfl : _ = (#[.int .u32 m0, .int .u32 m1, .int .i64 m2, .slice A7 (k + 1) c7, .int .i64 m3, .int .i64 m4] : Array Value)))
                  have FR : Aside0 (RdrS (w7.setCell ⟨p, 3, none⟩ (.slice A7 (k + 1) c7)) g B rk5) := ⟨rdr_set (RdrAt.keep R5.out (fun j hj _ => HB7.out.block j (by have := HB.out j hj; have := HPN.out.2.2.2; have := HP.out; omega))) ⟨p, 3, none⟩ _ (fun j hj => by have := HB.out j hj; have := HP.out; show j ≠ p; omega)⟩
                  have sF : (w7.setCell ⟨p, 3, none⟩ (.slice A7 (k + 1) c7)).cell? ⟨q, 0, none⟩ = some (.pointer (some ⟨g, 0, none⟩)) := (FP.out.1.cell 0).trans rfl
                  unfold o46_4_20; go_simp
                  refine hK.out _ _ sF (fun hHeld' => ?_)
                  try simp only [Act.put, p1_, p2_, p3_]
                  refine wpAnyH_done (by kernel_rfl) ?_ _
                  exact NoPanic.normal ⟨A7, c7, _, _, _, _, _, _, _, _, _, _, _, _, _, _, _, _, _, _, _, _, _, rfl, FR.out, FP.out⟩
                · skip
                  unfold o46_4_15; go_simp
                  go_wp2_with (first | (go_at_call 38; (with_reducible refine (ke4.out _ R4.out).mono ?_); rintro e wq5 ⟨rfl, hr, hg⟩; (have R5 := Aside0.mk hr); (have P5 := Aside0.mk (P4.out.grown hg HPN.out)); (have s5 : wq5.cell? ⟨q, 0, none⟩ = some (.pointer (some ⟨g, 0, none⟩)) := (P5.out.1.cell 0).trans rfl); (have c5 : wq5.cell? ⟨p, 3, none⟩ = some (.slice Ak k ck) := (P5.out.2.2.1.cell 3).trans rfl); clear hr hg R4 P4 s4 c4))
                  refine hK.out _ _ s5 (fun hHeld' => ?_)
                  clear hK K hHeld
                  have hHeld := hHeld'
                  clear hHeld'
                  try simp only [Act.put, p1_, p2_, p3_]
                  refine tk_ (i := 16) (oi := o46_4_16) (v := ?vt21) (Or.inl ⟨by rfl, ?hyt21⟩) hHeld ?restt21
                  case hyt21 => (intro w hSw; (try dsimp only at hSw); unfold o46_4_16; go_simp <;> with_reducible rfl)
                  try simp only [o46_4_16, Act.put, p1_, p2_, p3_]
                  refine wpAnyH_ready (rs := [1, 17]) (by kernel_rfl) (by simp) ?_
                  refine (AllReadyH.cons (o := o46_4_1) rfl (fun K hK => ?_) (AllReadyH.cons (o := o46_4_17) rfl (fun K hK => ?_) AllReadyH.nil))
                  · skip
                    unfold o46_4_1; go_simp
                    refine hK.out _ _ s5 (fun hHeld' => ?_)
                    clear hK K hHeld
                    have hHeld := hHeld'
                    clear hHeld'
                    try simp only [Act.put, p1_, p2_, p3_]
                    refine wpAnyH_ready (rs := [17]) (by kernel_rfl) (by simp) ?_
                    refine (AllReadyH.cons (o := o46_4_17) rfl (fun K hK => ?_) AllReadyH.nil)
                    unfold o46_4_17; go_simp
                    have sz5 : (wq5.alloc (Obj.cells #[.int .u8 f0, .int .u32 f1, .int .i64 f2, .int .i64 f3, .int .i64 f4] 53)).cell? ⟨q, 0, none⟩ = some (.pointer (some ⟨g, 0, none⟩)) := (P5.out.1.alloc.cell 0).trans rfl
                    have cz5 : (wq5.alloc (Obj.cells #[.int .u8 f0, .int .u32 f1, .int .i64 f2, .int .i64 f3, .int .i64 f4] 53)).cell? ⟨p, 3, none⟩ = some (.slice Ak k ck) := (P5.out.2.2.1.alloc.cell 3).trans rfl
                    refine hK.out _ _ sz5 (fun hHeld' => ?_)
                    clear hK K hHeld
                    have hHeld := hHeld'
                    clear hHeld'
                    try simp only [Act.put, p1_, p2_, p3_]
                    refine wpAnyH_ready (rs := [18]) (by kernel_rfl) (by simp) ?_
                    refine (AllReadyH.cons (o := o46_4_18) rfl (fun K hK => ?_) AllReadyH.nil)
                    unfold o46_4_18; refine Kd.R_append_step k53 (w0 := wq5) L0 (by rfl) (.tmp 24) (.tmp 40) 28 53 (.agg #[.int .u8 0, .int .u32 0, .int .i64 0, .int .i64 0, .int .i64 0]) 32 rfl Try.underlying28 info53 rfl (by decide) (by omega) (.slice Ak k ck) Lk (⟨f0, f1, f2, f3, f4⟩ : S53) [.int .u8 f0, .int .u32 f1, .int .i64 f2, .int .i64 f3, .int .i64 f4] (fun _ => True) (fun _ => False) rfl rfl (k53_mkM _ _ _ (⟨f0, f1, f2, f3, f4⟩ : S53)) (fun _ hk => hk.elim) (fun _ _ => trivial) P5.out.2.2.2.2.2 (Below.refl L0 wq5) P5.out.2.2.2.2.1 (by rw [HLK.out]; omega) ?_
                    intro v7 w7 ho hb7 hg7 hat
                    obtain ⟨A7, c7, ev⟩ := Kd.R_slice ho
                    rw [List.length_append, HLK.out, List.length_singleton] at ev
                    subst ev
                    have HO7 := Aside0.mk ho
                    have HB7 := Aside0.mk hb7
                    have P7 : Aside0 (Blk w7 p _) := ⟨⟨(hb7.block p HPN.out.2.2.2).trans P5.out.2.2.1.out⟩⟩
                    have c67 : w7.cell? ⟨p, 3, none⟩ = some (.slice Ak k ck) := (P7.out.cell 3).trans rfl
                    have g67 := P7.out.free 3
                    have s7 : w7.cell? ⟨q, 0, none⟩ = some (.pointer (some ⟨g, 0, none⟩)) := ((show Blk w7 q _ from ⟨(hb7.block q (by have := HPN.out.2.2.2; have := HP.out; omega)).trans P5.out.1.out⟩).cell 0).trans rfl
                    clear ho hb7 hg7 hat
                    refine hK.out _ _ s7 (fun hHeld' => ?_)
                    clear hK K hHeld
                    have hHeld := hHeld'
                    clear hHeld'
                    try simp only [Act.put, p1_, p2_, p3_]
                    refine tk_ (i := 19) (oi := o46_4_19) (v := ?vt22) (Or.inl ⟨by rfl, ?hyt22⟩) hHeld ?restt22
                    case hyt22 => (intro w hSw; (try dsimp only at hSw); unfold o46_4_19; go_simp <;> with_reducible rfl)
                    try simp only [o46_4_19, Act.put, p1_, p2_, p3_]
                    refine wpAnyH_ready (rs := [20]) (by kernel_rfl) (by simp) ?_
                    refine (AllReadyH.cons (o := o46_4_20) rfl (fun K hK => ?_) AllReadyH.nil)
                    have FP := Aside0.mk (PP.put P5.out HO7.out HB7.out HPN.out 3 (rfl : _ = (#[.int .u32 m0, .int .u32 m1, .int .i64 m2, .slice A7 (k + 1) c7, .int .i64 m3, .int .i64 m4] : Array Value)))
                    have FR : Aside0 (RdrS (w7.setCell ⟨p, 3, none⟩ (.slice A7 (k + 1) c7)) g B rk5) := ⟨rdr_set (RdrAt.keep R5.out (fun j hj _ => HB7.out.block j (by have := HB.out j hj; have := HPN.out.2.2.2; have := HP.out; omega))) ⟨p, 3, none⟩ _ (fun j hj => by have := HB.out j hj; have := HP.out; show j ≠ p; omega)⟩
                    have sF : (w7.setCell ⟨p, 3, none⟩ (.slice A7 (k + 1) c7)).cell? ⟨q, 0, none⟩ = some (.pointer (some ⟨g, 0, none⟩)) := (FP.out.1.cell 0).trans rfl
                    unfold o46_4_20; go_simp
                    refine hK.out _ _ sF (fun hHeld' => ?_)
                    try simp only [Act.put, p1_, p2_, p3_]
                    refine wpAnyH_done (by kernel_rfl) ?_ _
                    exact NoPanic.normal ⟨A7, c7, _, _, _, _, _, _, _, _, _, _, _, _, _, _, _, _, _, _, _, _, _, rfl, FR.out, FP.out⟩
                  · skip
                    unfold o46_4_17; go_simp
                    have sz5 : (wq5.alloc (Obj.cells #[.int .u8 f0, .int .u32 f1, .int .i64 f2, .int .i64 f3, .int .i64 f4] 53)).cell? ⟨q, 0, none⟩ = some (.pointer (some ⟨g, 0, none⟩)) := (P5.out.1.alloc.cell 0).trans rfl
                    have cz5 : (wq5.alloc (Obj.cells #[.int .u8 f0, .int .u32 f1, .int .i64 f2, .int .i64 f3, .int .i64 f4] 53)).cell? ⟨p, 3, none⟩ = some (.slice Ak k ck) := (P5.out.2.2.1.alloc.cell 3).trans rfl
                    refine hK.out _ _ sz5 (fun hHeld' => ?_)
                    clear hK K hHeld
                    have hHeld := hHeld'
                    clear hHeld'
                    try simp only [Act.put, p1_, p2_, p3_]
                    refine wpAnyH_ready (rs := [1]) (by kernel_rfl) (by simp) ?_
                    refine (AllReadyH.cons (o := o46_4_1) rfl (fun K hK => ?_) AllReadyH.nil)
                    unfold o46_4_1; go_simp
                    refine hK.out _ _ sz5 (fun hHeld' => ?_)
                    clear hK K hHeld
                    have hHeld := hHeld'
                    clear hHeld'
                    try simp only [Act.put, p1_, p2_, p3_]
                    refine wpAnyH_ready (rs := [18]) (by kernel_rfl) (by simp) ?_
                    refine (AllReadyH.cons (o := o46_4_18) rfl (fun K hK => ?_) AllReadyH.nil)
                    unfold o46_4_18; refine Kd.R_append_step k53 (w0 := wq5) L0 (by rfl) (.tmp 24) (.tmp 40) 28 53 (.agg #[.int .u8 0, .int .u32 0, .int .i64 0, .int .i64 0, .int .i64 0]) 32 rfl Try.underlying28 info53 rfl (by decide) (by omega) (.slice Ak k ck) Lk (⟨f0, f1, f2, f3, f4⟩ : S53) [.int .u8 f0, .int .u32 f1, .int .i64 f2, .int .i64 f3, .int .i64 f4] (fun _ => True) (fun _ => False) rfl rfl (k53_mkM _ _ _ (⟨f0, f1, f2, f3, f4⟩ : S53)) (fun _ hk => hk.elim) (fun _ _ => trivial) P5.out.2.2.2.2.2 (Below.refl L0 wq5) P5.out.2.2.2.2.1 (by rw [HLK.out]; omega) ?_
                    intro v7 w7 ho hb7 hg7 hat
                    obtain ⟨A7, c7, ev⟩ := Kd.R_slice ho
                    rw [List.length_append, HLK.out, List.length_singleton] at ev
                    subst ev
                    have HO7 := Aside0.mk ho
                    have HB7 := Aside0.mk hb7
                    have P7 : Aside0 (Blk w7 p _) := ⟨⟨(hb7.block p HPN.out.2.2.2).trans P5.out.2.2.1.out⟩⟩
                    have c67 : w7.cell? ⟨p, 3, none⟩ = some (.slice Ak k ck) := (P7.out.cell 3).trans rfl
                    have g67 := P7.out.free 3
                    have s7 : w7.cell? ⟨q, 0, none⟩ = some (.pointer (some ⟨g, 0, none⟩)) := ((show Blk w7 q _ from ⟨(hb7.block q (by have := HPN.out.2.2.2; have := HP.out; omega)).trans P5.out.1.out⟩).cell 0).trans rfl
                    clear ho hb7 hg7 hat
                    refine hK.out _ _ s7 (fun hHeld' => ?_)
                    clear hK K hHeld
                    have hHeld := hHeld'
                    clear hHeld'
                    try simp only [Act.put, p1_, p2_, p3_]
                    refine tk_ (i := 19) (oi := o46_4_19) (v := ?vt23) (Or.inl ⟨by rfl, ?hyt23⟩) hHeld ?restt23
                    case hyt23 => (intro w hSw; (try dsimp only at hSw); unfold o46_4_19; go_simp <;> with_reducible rfl)
                    try simp only [o46_4_19, Act.put, p1_, p2_, p3_]
                    refine wpAnyH_ready (rs := [20]) (by kernel_rfl) (by simp) ?_
                    refine (AllReadyH.cons (o := o46_4_20) rfl (fun K hK => ?_) AllReadyH.nil)
                    have FP := Aside0.mk (PP.put P5.out HO7.out HB7.out HPN.out 3 (rfl : _ = (#[.int .u32 m0, .int .u32 m1, .int .i64 m2, .slice A7 (k + 1) c7, .int .i64 m3, .int .i64 m4] : Array Value)))
                    have FR : Aside0 (RdrS (w7.setCell ⟨p, 3, none⟩ (.slice A7 (k + 1) c7)) g B rk5) := ⟨rdr_set (RdrAt.keep R5.out (fun j hj _ => HB7.out.block j (by have := HB.out j hj; have := HPN.out.2.2.2; have := HP.out; omega))) ⟨p, 3, none⟩ _ (fun j hj => by have := HB.out j hj; have := HP.out; show j ≠ p; omega)⟩
                    have sF : (w7.setCell ⟨p, 3, none⟩ (.slice A7 (k + 1) c7)).cell? ⟨q, 0, none⟩ = some (.pointer (some ⟨g, 0, none⟩)) := (FP.out.1.cell 0).trans rfl
                    unfold o46_4_20; go_simp
                    refine hK.out _ _ sF (fun hHeld' => ?_)
                    try simp only [Act.put, p1_, p2_, p3_]
                    refine wpAnyH_done (by kernel_rfl) ?_ _
                    exact NoPanic.normal ⟨A7, c7, _, _, _, _, _, _, _, _, _, _, _, _, _, _, _, _, _, _, _, _, _, rfl, FR.out, FP.out⟩
      · clear Rd HPd c1 c6 c1a
        rintro a1 w1' ⟨A7, c7, y23, y24, y25, y26, y27, y28, y29, y30, y31, y32, y33, y34, y35, y36, y37, y38, y39, y40, y41, y42, y43, rfl, hR, hP⟩
        have FR := Aside0.mk hR
        have FP := Aside0.mk hP
        clear hR hP
        go_wp2_with fail
        exact ⟨⟨k + 1, by omega, by simp, ⟨by rw [HST.out]; exact FR.out⟩, A7, c7, ⟨by rw [HST.out]; exact FP.out⟩⟩, by simp [intOf]; omega⟩
    · obtain rfl : k = n := by omega
      obtain ⟨h1, h2, h3, h4, h5, h6⟩ := HPk.out
      have y0 := (h3.cell 0).trans (rfl : _ = some (Value.int .u32 m0))
      have y1 := (h3.cell 1).trans (rfl : _ = some (Value.int .u32 m1))
      have y2 := (h3.cell 2).trans (rfl : _ = some (Value.int .i64 m2))
      have y3 := (h3.cell 3).trans (rfl : _ = some (Value.slice Ak k ck))
      have y4 := (h3.cell 4).trans (rfl : _ = some (Value.int .i64 m3))
      have y5 := (h3.cell 5).trans (rfl : _ = some (Value.int .i64 m4))
      have z0 := (h2.cell 0).trans (rfl : _ = some (Value.int .u32 0))
      have zf0 := h2.free 0
      have z1 := (h2.cell 1).trans (rfl : _ = some (Value.int .u32 0))
      have zf1 := h2.free 1
      have z2 := (h2.cell 2).trans (rfl : _ = some (Value.int .i64 0))
      have zf2 := h2.free 2
      have z3 := (h2.cell 3).trans (rfl : _ = some (Value.slice none 0 0))
      have zf3 := h2.free 3
      have z4 := (h2.cell 4).trans (rfl : _ = some (Value.int .i64 0))
      have zf4 := h2.free 4
      have z5 := (h2.cell 5).trans (rfl : _ = some (Value.int .i64 0))
      have zf5 := h2.free 5
      have FX : Aside0 (Blk ((((((wr.setCell ⟨q + 1, 0, none⟩ (.int .u32 m0)).setCell ⟨q + 1, 1, none⟩ (.int .u32 m1)).setCell ⟨q + 1, 2, none⟩ (.int .i64 m2)).setCell ⟨q + 1, 3, none⟩ (.slice Ak k ck)).setCell ⟨q + 1, 4, none⟩ (.int .i64 m3)).setCell ⟨q + 1, 5, none⟩ (.int .i64 m4)) (q + 1) (Obj.cells #[.int .u32 m0, .int .u32 m1, .int .i64 m2, .slice Ak k ck, .int .i64 m3, .int .i64 m4] 30 (0, 0))) := ⟨((((((h2.put 0 (.int .u32 m0) rfl).put 1 (.int .u32 m1) rfl).put 2 (.int .i64 m2) rfl).put 3 (.slice Ak k ck) rfl).put 4 (.int .i64 m3) rfl).put 5 (.int .i64 m4) rfl)⟩
      have FR : Aside0 (RdrS ((((((wr.setCell ⟨q + 1, 0, none⟩ (.int .u32 m0)).setCell ⟨q + 1, 1, none⟩ (.int .u32 m1)).setCell ⟨q + 1, 2, none⟩ (.int .i64 m2)).setCell ⟨q + 1, 3, none⟩ (.slice Ak k ck)).setCell ⟨q + 1, 4, none⟩ (.int .i64 m3)).setCell ⟨q + 1, 5, none⟩ (.int .i64 m4)) g B (relems rline rc k).2) := ⟨(rdr_set (rdr_set (rdr_set (rdr_set (rdr_set (rdr_set HRk.out ⟨q + 1, 0, none⟩ (.int .u32 m0) (fun k hk => by have := HB.out k hk; show k ≠ q + 1; omega)) ⟨q + 1, 1, none⟩ (.int .u32 m1) (fun k hk => by have := HB.out k hk; show k ≠ q + 1; omega)) ⟨q + 1, 2, none⟩ (.int .i64 m2) (fun k hk => by have := HB.out k hk; show k ≠ q + 1; omega)) ⟨q + 1, 3, none⟩ (.slice Ak k ck) (fun k hk => by have := HB.out k hk; show k ≠ q + 1; omega)) ⟨q + 1, 4, none⟩ (.int .i64 m3) (fun k hk => by have := HB.out k hk; show k ≠ q + 1; omega)) ⟨q + 1, 5, none⟩ (.int .i64 m4) (fun k hk => by have := HB.out k hk; show k ≠ q + 1; omega))⟩
      have FG : Aside0 (w.grownBy ((((((wr.setCell ⟨q + 1, 0, none⟩ (.int .u32 m0)).setCell ⟨q + 1, 1, none⟩ (.int .u32 m1)).setCell ⟨q + 1, 2, none⟩ (.int .i64 m2)).setCell ⟨q + 1, 3, none⟩ (.slice Ak k ck)).setCell ⟨q + 1, 4, none⟩ (.int .i64 m3)).setCell ⟨q + 1, 5, none⟩ (.int .i64 m4)) (some g)) := ⟨(grown_set (grown_set (grown_set (grown_set (grown_set (grown_set h4 (q + 1) 0 (.int .u32 m0) (by have := HQ.out; omega)) (q + 1) 1 (.int .u32 m1) (by have := HQ.out; omega)) (q + 1) 2 (.int .i64 m2) (by have := HQ.out; omega)) (q + 1) 3 (.slice Ak k ck) (by have := HQ.out; omega)) (q + 1) 4 (.int .i64 m3) (by have := HQ.out; omega)) (q + 1) 5 (.int .i64 m4) (by have := HQ.out; omega))⟩
      have FV : Aside0 (Kd.R k53 53 ((((((wr.setCell ⟨q + 1, 0, none⟩ (.int .u32 m0)).setCell ⟨q + 1, 1, none⟩ (.int .u32 m1)).setCell ⟨q + 1, 2, none⟩ (.int .i64 m2)).setCell ⟨q + 1, 3, none⟩ (.slice Ak k ck)).setCell ⟨q + 1, 4, none⟩ (.int .i64 m3)).setCell ⟨q + 1, 5, none⟩ (.int .i64 m4)) w.heap.size (fun _ => True) (.slice Ak k ck) (relems rline rc k).1) := ⟨Kd.R_mono (Kd.R_lower (Kd.R_far (Kd.R_bound (Kd.R_far (Kd.R_bound (Kd.R_far (Kd.R_bound (Kd.R_far (Kd.R_bound (Kd.R_far (Kd.R_bound (Kd.R_far (Kd.R_bound h6) (p := ⟨q + 1, 0, none⟩) (fun k hk => by have := hk.2.1; have := HPN.out.2.2.2; have := HP.out; show k ≠ q + 1; omega) (.int .u32 m0))) (p := ⟨q + 1, 1, none⟩) (fun k hk => by have := hk.2.1; have := HPN.out.2.2.2; have := HP.out; show k ≠ q + 1; omega) (.int .u32 m1))) (p := ⟨q + 1, 2, none⟩) (fun k hk => by have := hk.2.1; have := HPN.out.2.2.2; have := HP.out; show k ≠ q + 1; omega) (.int .i64 m2))) (p := ⟨q + 1, 3, none⟩) (fun k hk => by have := hk.2.1; have := HPN.out.2.2.2; have := HP.out; show k ≠ q + 1; omega) (.slice Ak k ck))) (p := ⟨q + 1, 4, none⟩) (fun k hk => by have := hk.2.1; have := HPN.out.2.2.2; have := HP.out; show k ≠ q + 1; omega) (.int .i64 m3))) (p := ⟨q + 1, 5, none⟩) (fun k hk => by have := hk.2.1; have := HPN.out.2.2.2; have := HP.out; show k ≠ q + 1; omega) (.int .i64 m4)) (by have := HQ.out; have := HP.out; have := HPN.out.2.2.2; omega)) (fun _ _ => trivial)⟩
      clear h1 h2 h3 h4 h5 h6
      go_wp2_with fail
      have d0 := (FX.out.cell 0).trans (rfl : _ = some (Value.int .u32 m0))
      have d1 := (FX.out.cell 1).trans (rfl : _ = some (Value.int .u32 m1))
      have d2 := (FX.out.cell 2).trans (rfl : _ = some (Value.int .i64 m2))
      have d3 := (FX.out.cell 3).trans (rfl : _ = some (Value.slice Ak k ck))
      have d4 := (FX.out.cell 4).trans (rfl : _ = some (Value.int .i64 m3))
      have d5 := (FX.out.cell 5).trans (rfl : _ = some (Value.int .i64 m4))
      refine bodyPost_ret (v := .agg #[.int .u32 m0, .int .u32 m1, .int .i64 m2, .slice Ak k ck, .int .i64 m3, .int .i64 m4]) ?_ rfl ⟨_, rfl, FV.out, FR.out, FG.out⟩
      simp [results, Try.results46, go_sem, d0, d1, d2, d3, d4, d5]
end Go.Proofs.Ytdfmganmchmbjaa.Ext
