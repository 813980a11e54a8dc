/- The reference's gateway: its Tick and Hear (printed by mkrg.py). -/
import Derived.Test.YtpadajkdpldliaaRGate
import Derived.Deep.RegionHeld3
namespace Go.Proofs.Ytpadajkdpldliaa.Ext
open Go.RowKit Go.Proofs.YtpadajkdpldliaaW.PrintWords Go.Proofs.YtpadajkdpldliaaW.PrintLast Go.Proofs.YtpadajkdpldliaaW.PrintMore Go.Proofs.YtpadajkdpldliaaW.Hand
set_option linter.unusedVariables false
set_option linter.unusedSimpArgs false
theorem rp1_ {α : Type} {l : List α} {i : Nat} {a : α} : l.toArray.setIfInBounds i a = (l.set i a).toArray := List.setIfInBounds_toArray ..
theorem rp2_ {α : Type} {x a : α} {l : List α} : (x :: l).set 0 a = a :: l := List.set_cons_zero ..
theorem rp3_ {α : Type} {x a : α} {l : List α} {i : Nat} : (x :: l).set (i + 1) a = x :: l.set i a := List.set_cons_succ ..
theorem rtk_ {P : Program} {md : Region.Mode} {ops : Array Oper} {Q : Exit → Act → World → Prop} {S : World → Prop} {i : Nat} {oi : Oper} {v : Value} {fuel : Nat} {listed : Array Bool} {a : Act} {w : World} (hy : YieldsIf P ops S oi v a) (hS : S w)
    (h : wpAnyH P md ops Q S fuel (listed.setIfInBounds i true) (a.put oi.dst v) w) (hi : ops[i]? = some oi := by rfl) (hs : Region.noSelect ops = true := by kernel_rfl) (hf : Region.free md ops listed i = true := by kernel_rfl) (hr : (Region.ready md ops listed).contains i = true := by kernel_rfl) (hQ : ∀ c a w, Q (.panic c) (a.put oi.dst v) w → Q (.panic c) a w := by exact fun _ _ _ h => h) : wpAnyH P md ops Q S (fuel + 1) listed a w := wpAnyH_take hi hs hf hr hQ hy hS h
abbrev o15_1_0 : Oper := { dst := some 3, op := Go.Op.move (Go.Operand.tmp 0), type := 30, pos := "ref.go:49", after := #[], guard := none }
abbrev o15_1_1 : Oper := { dst := some 4, op := Go.Op.nilCheck (Go.Operand.tmp 3), type := 0, pos := "ref.go:49", after := #[{ on := 0, ground := Go.Ground.data }], guard := none }
abbrev o15_1_2 : Oper := { dst := some 5, op := Go.Op.fieldAddr 33 (Go.Operand.tmp 4) 2, type := 0, pos := "ref.go:49", after := #[{ on := 1, ground := Go.Ground.data }], guard := none }
abbrev o15_1_3 : Oper := { dst := some 6, op := Go.Op.load 3 (Go.Operand.tmp 5), type := 3, pos := "ref.go:49", after := #[{ on := 2, ground := Go.Ground.data }], guard := none }
abbrev o15_1_4 : Oper := { dst := some 7, op := Go.Op.move (Go.Operand.tmp 0), type := 30, pos := "ref.go:49", after := #[], guard := none }
abbrev o15_1_5 : Oper := { dst := some 8, op := Go.Op.nilCheck (Go.Operand.tmp 7), type := 0, pos := "ref.go:49", after := #[{ on := 4, ground := Go.Ground.data }], guard := none }
abbrev o15_1_6 : Oper := { dst := some 9, op := Go.Op.fieldAddr 33 (Go.Operand.tmp 8) 1, type := 0, pos := "ref.go:49", after := #[{ on := 5, ground := Go.Ground.data }], guard := none }
abbrev o15_1_7 : Oper := { dst := some 10, op := Go.Op.load 31 (Go.Operand.tmp 9), type := 31, pos := "ref.go:49", after := #[{ on := 6, ground := Go.Ground.data }], guard := none }
abbrev o15_1_8 : Oper := { dst := some 11, op := Go.Op.call { callee := Go.Callee.builtin Go.Builtin.len, args := #[Go.Operand.tmp 10], argTypes := #[31] }, type := 3, pos := "ref.go:49", after := #[{ on := 7, ground := Go.Ground.data }], guard := none }
abbrev o15_1_9 : Oper := { dst := some 12, op := Go.Op.binOp Go.BinOp.eql 3 (Go.Operand.tmp 6) (Go.Operand.tmp 11) 3, type := 4, pos := "ref.go:49", after := #[{ on := 3, ground := Go.Ground.data }, { on := 8, ground := Go.Ground.data }], guard := none }
abbrev o15_3_0 : Oper := { dst := some 13, op := Go.Op.move (Go.Operand.tmp 0), type := 30, pos := "ref.go:52", after := #[], guard := none }
abbrev o15_3_1 : Oper := { dst := some 14, op := Go.Op.nilCheck (Go.Operand.tmp 13), type := 0, pos := "ref.go:52", after := #[{ on := 0, ground := Go.Ground.data }], guard := none }
abbrev o15_3_2 : Oper := { dst := some 15, op := Go.Op.fieldAddr 33 (Go.Operand.tmp 14) 0, type := 0, pos := "ref.go:52", after := #[{ on := 1, ground := Go.Ground.data }], guard := none }
abbrev o15_3_3 : Oper := { dst := some 16, op := Go.Op.load 28 (Go.Operand.tmp 15), type := 28, pos := "ref.go:52", after := #[{ on := 2, ground := Go.Ground.data }], guard := none }
abbrev o15_3_4 : Oper := { dst := some 17, op := Go.Op.move (Go.Operand.tmp 0), type := 30, pos := "ref.go:52", after := #[], guard := none }
abbrev o15_3_5 : Oper := { dst := some 18, op := Go.Op.nilCheck (Go.Operand.tmp 17), type := 0, pos := "ref.go:52", after := #[{ on := 4, ground := Go.Ground.data }], guard := none }
abbrev o15_3_6 : Oper := { dst := some 19, op := Go.Op.fieldAddr 33 (Go.Operand.tmp 18) 2, type := 0, pos := "ref.go:52", after := #[{ on := 5, ground := Go.Ground.data }], guard := none }
abbrev o15_3_7 : Oper := { dst := some 20, op := Go.Op.load 3 (Go.Operand.tmp 19), type := 3, pos := "ref.go:52", after := #[{ on := 6, ground := Go.Ground.data }], guard := none }
abbrev o15_3_8 : Oper := { dst := some 21, op := Go.Op.binOp Go.BinOp.add 3 (Go.Operand.tmp 20) (Go.Operand.const (Go.Value.int Go.IntKind.i64 1)) 3, type := 3, pos := "ref.go:52", after := #[{ on := 7, ground := Go.Ground.data }], guard := none }
abbrev o15_3_9 : Oper := { dst := some 22, op := Go.Op.convert 3 34 (Go.Operand.tmp 21), type := 34, pos := "ref.go:52", after := #[{ on := 8, ground := Go.Ground.data }], guard := none }
abbrev o15_3_10 : Oper := { dst := some 23, op := Go.Op.move (Go.Operand.tmp 0), type := 30, pos := "ref.go:52", after := #[], guard := none }
abbrev o15_3_11 : Oper := { dst := some 24, op := Go.Op.nilCheck (Go.Operand.tmp 23), type := 0, pos := "ref.go:52", after := #[{ on := 10, ground := Go.Ground.data }], guard := none }
abbrev o15_3_12 : Oper := { dst := some 25, op := Go.Op.fieldAddr 33 (Go.Operand.tmp 24) 1, type := 0, pos := "ref.go:52", after := #[{ on := 11, ground := Go.Ground.data }], guard := none }
abbrev o15_3_13 : Oper := { dst := some 26, op := Go.Op.load 31 (Go.Operand.tmp 25), type := 31, pos := "ref.go:52", after := #[{ on := 12, ground := Go.Ground.data }], guard := none }
abbrev o15_3_14 : Oper := { dst := some 27, op := Go.Op.move (Go.Operand.tmp 0), type := 30, pos := "ref.go:52", after := #[], guard := none }
abbrev o15_3_15 : Oper := { dst := some 28, op := Go.Op.nilCheck (Go.Operand.tmp 27), type := 0, pos := "ref.go:52", after := #[{ on := 14, ground := Go.Ground.data }], guard := none }
abbrev o15_3_16 : Oper := { dst := some 29, op := Go.Op.fieldAddr 33 (Go.Operand.tmp 28) 2, type := 0, pos := "ref.go:52", after := #[{ on := 15, ground := Go.Ground.data }], guard := none }
abbrev o15_3_17 : Oper := { dst := some 30, op := Go.Op.load 3 (Go.Operand.tmp 29), type := 3, pos := "ref.go:52", after := #[{ on := 16, ground := Go.Ground.data }], guard := none }
abbrev o15_3_18 : Oper := { dst := some 31, op := Go.Op.indexAddr 31 (Go.Operand.tmp 26) (Go.Operand.tmp 30), type := 0, pos := "ref.go:52", after := #[{ on := 13, ground := Go.Ground.data }, { on := 17, ground := Go.Ground.data }], guard := none }
abbrev o15_3_19 : Oper := { dst := some 32, op := Go.Op.load 9 (Go.Operand.tmp 31), type := 9, pos := "ref.go:52", after := #[{ on := 18, ground := Go.Ground.data }], guard := none }
abbrev o15_3_20 : Oper := { dst := some 33, op := Go.Op.call { callee := Go.Callee.value (Go.Operand.func 19), args := #[Go.Operand.tmp 22, Go.Operand.tmp 32], argTypes := #[34, 9] }, type := 39, pos := "ref.go:52", after := #[{ on := 9, ground := Go.Ground.data }, { on := 19, ground := Go.Ground.data }], guard := none }
abbrev o15_3_21 : Oper := { dst := some 34, op := Go.Op.build 44 #[(0, Go.Operand.tmp 16), (2, Go.Operand.tmp 33)], type := 44, pos := "ref.go:52", after := #[{ on := 3, ground := Go.Ground.data }, { on := 20, ground := Go.Ground.data }], guard := none }
abbrev o15_3_22 : Oper := { dst := some 35, op := Go.Op.buildSlice 41 1 #[(0, Go.Operand.tmp 34)], type := 41, pos := "ref.go:52", after := #[{ on := 21, ground := Go.Ground.data }], guard := none }
abbrev o15_3_23 : Oper := { dst := some 2, op := Go.Op.assign (Go.Operand.tmp 35), type := 41, pos := "ref.go:52", after := #[{ on := 22, ground := Go.Ground.data }, { on := 20, ground := Go.Ground.chain }, { on := 0, ground := Go.Ground.phase }, { on := 1, ground := Go.Ground.phase }, { on := 2, ground := Go.Ground.phase }, { on := 3, ground := Go.Ground.phase }, { on := 4, ground := Go.Ground.phase }, { on := 5, ground := Go.Ground.phase }, { on := 6, ground := Go.Ground.phase }, { on := 7, ground := Go.Ground.phase }, { on := 8, ground := Go.Ground.phase }, { on := 9, ground := Go.Ground.phase }, { on := 10, ground := Go.Ground.phase }, { on := 11, ground := Go.Ground.phase }, { on := 12, ground := Go.Ground.phase }, { on := 13, ground := Go.Ground.phase }, { on := 14, ground := Go.Ground.phase }, { on := 15, ground := Go.Ground.phase }, { on := 16, ground := Go.Ground.phase }, { on := 17, ground := Go.Ground.phase }, { on := 18, ground := Go.Ground.phase }, { on := 19, ground := Go.Ground.phase }, { on := 20, ground := Go.Ground.phase }, { on := 21, ground := Go.Ground.phase }, { on := 22, ground := Go.Ground.phase }], guard := none }
abbrev o18_1_0 : Oper := { dst := some 13, op := Go.Op.move (Go.Operand.tmp 6), type := 4, pos := "ref.go:58", after := #[], guard := none }
abbrev o18_1_1 : Oper := { dst := some 14, op := Go.Op.move (Go.Operand.tmp 13), type := 4, pos := "ref.go:58", after := #[{ on := 0, ground := Go.Ground.data }], guard := none }
abbrev o18_1_2 : Oper := { dst := some 15, op := Go.Op.move (Go.Operand.tmp 0), type := 30, pos := "ref.go:58", after := #[{ on := 1, ground := Go.Ground.guard }], guard := some (1, true) }
abbrev o18_1_3 : Oper := { dst := some 16, op := Go.Op.nilCheck (Go.Operand.tmp 15), type := 0, pos := "ref.go:58", after := #[{ on := 2, ground := Go.Ground.data }, { on := 1, ground := Go.Ground.guard }], guard := some (1, true) }
abbrev o18_1_4 : Oper := { dst := some 17, op := Go.Op.fieldAddr 33 (Go.Operand.tmp 16) 2, type := 0, pos := "ref.go:58", after := #[{ on := 3, ground := Go.Ground.data }, { on := 1, ground := Go.Ground.guard }], guard := some (1, true) }
abbrev o18_1_5 : Oper := { dst := some 18, op := Go.Op.load 3 (Go.Operand.tmp 17), type := 3, pos := "ref.go:58", after := #[{ on := 4, ground := Go.Ground.data }, { on := 1, ground := Go.Ground.guard }], guard := some (1, true) }
abbrev o18_1_6 : Oper := { dst := some 19, op := Go.Op.move (Go.Operand.tmp 0), type := 30, pos := "ref.go:58", after := #[{ on := 1, ground := Go.Ground.guard }], guard := some (1, true) }
abbrev o18_1_7 : Oper := { dst := some 20, op := Go.Op.nilCheck (Go.Operand.tmp 19), type := 0, pos := "ref.go:58", after := #[{ on := 6, ground := Go.Ground.data }, { on := 1, ground := Go.Ground.guard }], guard := some (1, true) }
abbrev o18_1_8 : Oper := { dst := some 21, op := Go.Op.fieldAddr 33 (Go.Operand.tmp 20) 1, type := 0, pos := "ref.go:58", after := #[{ on := 7, ground := Go.Ground.data }, { on := 1, ground := Go.Ground.guard }], guard := some (1, true) }
abbrev o18_1_9 : Oper := { dst := some 22, op := Go.Op.load 31 (Go.Operand.tmp 21), type := 31, pos := "ref.go:58", after := #[{ on := 8, ground := Go.Ground.data }, { on := 1, ground := Go.Ground.guard }], guard := some (1, true) }
abbrev o18_1_10 : Oper := { dst := some 23, op := Go.Op.call { callee := Go.Callee.builtin Go.Builtin.len, args := #[Go.Operand.tmp 22], argTypes := #[31] }, type := 3, pos := "ref.go:58", after := #[{ on := 9, ground := Go.Ground.data }, { on := 1, ground := Go.Ground.guard }], guard := some (1, true) }
abbrev o18_1_11 : Oper := { dst := some 24, op := Go.Op.binOp Go.BinOp.lss 3 (Go.Operand.tmp 18) (Go.Operand.tmp 23) 3, type := 4, pos := "ref.go:58", after := #[{ on := 5, ground := Go.Ground.data }, { on := 10, ground := Go.Ground.data }, { on := 1, ground := Go.Ground.guard }], guard := some (1, true) }
abbrev o18_1_12 : Oper := { dst := some 25, op := Go.Op.pick (Go.Operand.tmp 14) (Go.Operand.tmp 24) (Go.Operand.const (Go.Value.bool false)), type := 4, pos := "ref.go:58", after := #[{ on := 1, ground := Go.Ground.data }, { on := 11, ground := Go.Ground.data }], guard := none }
abbrev o18_1_13 : Oper := { dst := some 26, op := Go.Op.move (Go.Operand.tmp 25), type := 4, pos := "ref.go:58", after := #[{ on := 12, ground := Go.Ground.data }, { on := 1, ground := Go.Ground.chain }], guard := none }
abbrev o18_1_14 : Oper := { dst := some 27, op := Go.Op.move (Go.Operand.tmp 4), type := 34, pos := "ref.go:58", after := #[{ on := 13, ground := Go.Ground.guard }], guard := some (13, true) }
abbrev o18_1_15 : Oper := { dst := some 28, op := Go.Op.move (Go.Operand.tmp 0), type := 30, pos := "ref.go:58", after := #[{ on := 13, ground := Go.Ground.guard }], guard := some (13, true) }
abbrev o18_1_16 : Oper := { dst := some 29, op := Go.Op.nilCheck (Go.Operand.tmp 28), type := 0, pos := "ref.go:58", after := #[{ on := 15, ground := Go.Ground.data }, { on := 13, ground := Go.Ground.guard }], guard := some (13, true) }
abbrev o18_1_17 : Oper := { dst := some 30, op := Go.Op.fieldAddr 33 (Go.Operand.tmp 29) 2, type := 0, pos := "ref.go:58", after := #[{ on := 16, ground := Go.Ground.data }, { on := 13, ground := Go.Ground.guard }], guard := some (13, true) }
abbrev o18_1_18 : Oper := { dst := some 31, op := Go.Op.load 3 (Go.Operand.tmp 30), type := 3, pos := "ref.go:58", after := #[{ on := 17, ground := Go.Ground.data }, { on := 13, ground := Go.Ground.guard }], guard := some (13, true) }
abbrev o18_1_19 : Oper := { dst := some 32, op := Go.Op.binOp Go.BinOp.add 3 (Go.Operand.tmp 31) (Go.Operand.const (Go.Value.int Go.IntKind.i64 1)) 3, type := 3, pos := "ref.go:58", after := #[{ on := 18, ground := Go.Ground.data }, { on := 13, ground := Go.Ground.guard }], guard := some (13, true) }
abbrev o18_1_20 : Oper := { dst := some 33, op := Go.Op.convert 3 34 (Go.Operand.tmp 32), type := 34, pos := "ref.go:58", after := #[{ on := 19, ground := Go.Ground.data }, { on := 13, ground := Go.Ground.guard }], guard := some (13, true) }
abbrev o18_1_21 : Oper := { dst := some 34, op := Go.Op.binOp Go.BinOp.eql 34 (Go.Operand.tmp 27) (Go.Operand.tmp 33) 34, type := 4, pos := "ref.go:58", after := #[{ on := 14, ground := Go.Ground.data }, { on := 20, ground := Go.Ground.data }, { on := 13, ground := Go.Ground.guard }], guard := some (13, true) }
abbrev o18_1_22 : Oper := { dst := some 35, op := Go.Op.pick (Go.Operand.tmp 26) (Go.Operand.tmp 34) (Go.Operand.const (Go.Value.bool false)), type := 4, pos := "ref.go:58", after := #[{ on := 13, ground := Go.Ground.data }, { on := 21, ground := Go.Ground.data }], guard := none }
set_option maxRecDepth 100000 in
set_option maxHeartbeats 3200000 in
theorem RTick_none (p base : Nat) (me : Int) (asks : List ByteArray) (done : Nat) (ans : List ByteArray) (va vs : Value) (w : World) (h : RV w p base me asks done ans va vs) (hd : done ≤ asks.length) (hl : asks.length ≤ 1000) (hn : done = asks.length) :
    Calls Try.prog 15 #[.pointer (some ⟨p, 0, none⟩)] w fun e w' => e = .returned (.slice none 0 0) ∧ Below w.heap.size w w' := by
  obtain ⟨Aa, ca, ea⟩ := Kd.R_slice h.2.1
  subst ea
  have HH := Aside0.mk h
  have Sall : Aside0 (∀ W : World, Below w.heap.size w W → W.cell? ⟨p, 1, none⟩ = some (.slice Aa asks.length ca) ∧ W.cell? ⟨p, 2, none⟩ = some (.int .i64 (done : Int))) := ⟨fun W hW => ⟨((HH.out.1.below hW).cell 1).trans rfl, ((HH.out.1.below hW).cell 2).trans rfl⟩⟩
  have K0 := Aside0.mk (below_drew (Below.refl w.heap.size w))
  have e1 : ((done : Int) == (asks.length : Int)) = true := by simp; omega
  have e2 : decide ((done : Int) = (asks.length : Int)) = true := decide_eq_true (by omega)
  clear h hd hl hn
  go_enter Try.func15, Try.ntmps15
  go_wp2_with fail
  refine wp_region_noPanic ?_
  refine wp_region_held_drew (S := fun W : World => W.cell? ⟨p, 1, none⟩ = some (.slice Aa asks.length ca) ∧ W.cell? ⟨p, 2, none⟩ = some (.int .i64 (done : Int))) (by kernel_rfl) ?_ (fun hHeld => ?_)
  · exact Sall.out _ K0.out
  refine rtk_ (i := 0) (oi := o15_1_0) (v := ?va0) (Or.inl ⟨by rfl, ?hya0⟩) hHeld ?resta0
  case hya0 => (intro w hSw; (try dsimp only at hSw); unfold o15_1_0; go_simp <;> with_reducible rfl)
  try simp only [o15_1_0, Act.put, rp1_, rp2_, rp3_]
  refine rtk_ (i := 1) (oi := o15_1_1) (v := ?va1) (Or.inl ⟨by rfl, ?hya1⟩) hHeld ?resta1
  case hya1 => (intro w hSw; (try dsimp only at hSw); unfold o15_1_1; go_simp <;> with_reducible rfl)
  try simp only [o15_1_1, Act.put, rp1_, rp2_, rp3_]
  refine rtk_ (i := 2) (oi := o15_1_2) (v := ?va2) (Or.inl ⟨by rfl, ?hya2⟩) hHeld ?resta2
  case hya2 => (intro w hSw; (try dsimp only at hSw); unfold o15_1_2; go_simp <;> with_reducible rfl)
  try simp only [o15_1_2, Act.put, rp1_, rp2_, rp3_]
  refine rtk_ (i := 3) (oi := o15_1_3) (v := ?va3) (Or.inl ⟨by rfl, ?hya3⟩) hHeld ?resta3
  case hya3 => (intro w hSw; (try dsimp only at hSw); unfold o15_1_3; go_simp <;> with_reducible rfl)
  try simp only [o15_1_3, Act.put, rp1_, rp2_, rp3_]
  refine rtk_ (i := 4) (oi := o15_1_4) (v := ?va4) (Or.inl ⟨by rfl, ?hya4⟩) hHeld ?resta4
  case hya4 => (intro w hSw; (try dsimp only at hSw); unfold o15_1_4; go_simp <;> with_reducible rfl)
  try simp only [o15_1_4, Act.put, rp1_, rp2_, rp3_]
  refine rtk_ (i := 5) (oi := o15_1_5) (v := ?va5) (Or.inl ⟨by rfl, ?hya5⟩) hHeld ?resta5
  case hya5 => (intro w hSw; (try dsimp only at hSw); unfold o15_1_5; go_simp <;> with_reducible rfl)
  try simp only [o15_1_5, Act.put, rp1_, rp2_, rp3_]
  refine rtk_ (i := 6) (oi := o15_1_6) (v := ?va6) (Or.inl ⟨by rfl, ?hya6⟩) hHeld ?resta6
  case hya6 => (intro w hSw; (try dsimp only at hSw); unfold o15_1_6; go_simp <;> with_reducible rfl)
  try simp only [o15_1_6, Act.put, rp1_, rp2_, rp3_]
  refine rtk_ (i := 7) (oi := o15_1_7) (v := ?va7) (Or.inl ⟨by rfl, ?hya7⟩) hHeld ?resta7
  case hya7 => (intro w hSw; (try dsimp only at hSw); unfold o15_1_7; go_simp <;> with_reducible rfl)
  try simp only [o15_1_7, Act.put, rp1_, rp2_, rp3_]
  refine rtk_ (i := 8) (oi := o15_1_8) (v := ?va8) (Or.inl ⟨by rfl, ?hya8⟩) hHeld ?resta8
  case hya8 => (intro w hSw; (try dsimp only at hSw); unfold o15_1_8; go_simp <;> with_reducible rfl)
  try simp only [o15_1_8, Act.put, rp1_, rp2_, rp3_]
  refine rtk_ (i := 9) (oi := o15_1_9) (v := ?va9) (Or.inl ⟨by rfl, ?hya9⟩) hHeld ?resta9
  case hya9 => (intro w hSw; (try dsimp only at hSw); unfold o15_1_9; go_simp <;> with_reducible rfl)
  try simp only [o15_1_9, Act.put, rp1_, rp2_, rp3_]
  refine wpAnyH_done (by kernel_rfl) ?_ _
  refine NoPanic.normal ?_
  go_wp2_with fail
  go_ret
  exact ⟨rfl, K0.out⟩
set_option maxRecDepth 100000 in
set_option maxHeartbeats 3200000 in
theorem RTick_some (p base : Nat) (me : Int) (asks : List ByteArray) (done : Nat) (ans : List ByteArray) (va vs : Value) (w : World) (h : RV w p base me asks done ans va vs) (hd : done ≤ asks.length) (hl : asks.length ≤ 1000) (hn : done < asks.length) (hss : ∀ s ∈ asks, s.size ≤ 1000) :
    Calls Try.prog 15 #[.pointer (some ⟨p, 0, none⟩)] w fun e w' => TickIs me w w' e [((done : Int) + 1, bytesOf (asks.getD done ByteArray.empty))] ∧ Below w.heap.size w w' := by
  obtain ⟨Aa, ca, ea⟩ := Kd.R_slice h.2.1
  subst ea
  have HH := Aside0.mk h
  have Sall : Aside0 (∀ W : World, Below w.heap.size w W → W.cell? ⟨p, 1, none⟩ = some (.slice Aa asks.length ca) ∧ W.cell? ⟨p, 2, none⟩ = some (.int .i64 (done : Int))) := ⟨fun W hW => ⟨((HH.out.1.below hW).cell 1).trans rfl, ((HH.out.1.below hW).cell 2).trans rfl⟩⟩
  have K0 := Aside0.mk (below_drew (Below.refl w.heap.size w))
  have e1 : ((done : Int) == (asks.length : Int)) = false := by simp; omega
  have e2 : decide ((done : Int) = (asks.length : Int)) = false := decide_eq_false (by omega)
  have e3 : ¬ (done : Int) = (asks.length : Int) := by omega
  have e4 : (done : Int) < (asks.length : Int) := by omega
  have ewd : IntKind.i64.wrap ((done : Int) + 1) = (done : Int) + 1 := by rw [IntKind.wrap_i64]; omega
  have ewv : IntKind.u64.wrap ((done : Int) + 1) = (done : Int) + 1 := by rw [IntKind.wrap_u64]; omega
  have hs1 : (asks.getD done ByteArray.empty).size ≤ 1000 := hss _ (by simp only [List.getD_eq_getElem?_getD, List.getElem?_eq_getElem hn]; exact List.getElem_mem hn)
  obtain ⟨ad, e5, hx⟩ := strs_at h.2.1 done hn
  cases e5
  have X2 : Aside0 (∀ W : World, Below w.heap.size w W → W.cell? (ad.add done) = some (.string (asks.getD done ByteArray.empty))) := ⟨fun W hW => by
    obtain ⟨ad, e5, hx⟩ := strs_at (Kd.R_below HH.out.2.1 hW) done hn
    cases e5
    exact hx⟩
  obtain ⟨s, hs⟩ : ∃ s, asks.getD done ByteArray.empty = s := ⟨_, rfl⟩
  rw [hs] at X2 hs1 ⊢
  have HSS := Aside0.mk hs1
  have Sall2 : Aside0 (∀ W : World, Below w.heap.size w W → W.cell? ⟨p, 0, none⟩ = some (.int .i64 me) ∧ W.cell? ⟨p, 1, none⟩ = some (.slice (some ad) asks.length ca) ∧ W.cell? ⟨p, 2, none⟩ = some (.int .i64 (done : Int)) ∧ W.cell? (ad.add done) = some (.string s)) := ⟨fun W hW => ⟨((HH.out.1.below hW).cell 0).trans rfl, (Sall.out W hW).1, (Sall.out W hW).2, X2.out W hW⟩⟩
  clear h hd hl hn hx hs hs1 X2 hss
  go_enter Try.func15, Try.ntmps15
  go_wp2_with fail
  refine wp_region_noPanic ?_
  refine wp_region_held_drew (S := fun W : World => W.cell? ⟨p, 1, none⟩ = some (.slice (some ad) asks.length ca) ∧ W.cell? ⟨p, 2, none⟩ = some (.int .i64 (done : Int))) (by kernel_rfl) ?_ (fun hHeld => ?_)
  · exact Sall.out _ K0.out
  refine rtk_ (i := 0) (oi := o15_1_0) (v := ?vb0) (Or.inl ⟨by rfl, ?hyb0⟩) hHeld ?restb0
  case hyb0 => (intro w hSw; (try dsimp only at hSw); unfold o15_1_0; go_simp <;> with_reducible rfl)
  try simp only [o15_1_0, Act.put, rp1_, rp2_, rp3_]
  refine rtk_ (i := 1) (oi := o15_1_1) (v := ?vb1) (Or.inl ⟨by rfl, ?hyb1⟩) hHeld ?restb1
  case hyb1 => (intro w hSw; (try dsimp only at hSw); unfold o15_1_1; go_simp <;> with_reducible rfl)
  try simp only [o15_1_1, Act.put, rp1_, rp2_, rp3_]
  refine rtk_ (i := 2) (oi := o15_1_2) (v := ?vb2) (Or.inl ⟨by rfl, ?hyb2⟩) hHeld ?restb2
  case hyb2 => (intro w hSw; (try dsimp only at hSw); unfold o15_1_2; go_simp <;> with_reducible rfl)
  try simp only [o15_1_2, Act.put, rp1_, rp2_, rp3_]
  refine rtk_ (i := 3) (oi := o15_1_3) (v := ?vb3) (Or.inl ⟨by rfl, ?hyb3⟩) hHeld ?restb3
  case hyb3 => (intro w hSw; (try dsimp only at hSw); unfold o15_1_3; go_simp <;> with_reducible rfl)
  try simp only [o15_1_3, Act.put, rp1_, rp2_, rp3_]
  refine rtk_ (i := 4) (oi := o15_1_4) (v := ?vb4) (Or.inl ⟨by rfl, ?hyb4⟩) hHeld ?restb4
  case hyb4 => (intro w hSw; (try dsimp only at hSw); unfold o15_1_4; go_simp <;> with_reducible rfl)
  try simp only [o15_1_4, Act.put, rp1_, rp2_, rp3_]
  refine rtk_ (i := 5) (oi := o15_1_5) (v := ?vb5) (Or.inl ⟨by rfl, ?hyb5⟩) hHeld ?restb5
  case hyb5 => (intro w hSw; (try dsimp only at hSw); unfold o15_1_5; go_simp <;> with_reducible rfl)
  try simp only [o15_1_5, Act.put, rp1_, rp2_, rp3_]
  refine rtk_ (i := 6) (oi := o15_1_6) (v := ?vb6) (Or.inl ⟨by rfl, ?hyb6⟩) hHeld ?restb6
  case hyb6 => (intro w hSw; (try dsimp only at hSw); unfold o15_1_6; go_simp <;> with_reducible rfl)
  try simp only [o15_1_6, Act.put, rp1_, rp2_, rp3_]
  refine rtk_ (i := 7) (oi := o15_1_7) (v := ?vb7) (Or.inl ⟨by rfl, ?hyb7⟩) hHeld ?restb7
  case hyb7 => (intro w hSw; (try dsimp only at hSw); unfold o15_1_7; go_simp <;> with_reducible rfl)
  try simp only [o15_1_7, Act.put, rp1_, rp2_, rp3_]
  refine rtk_ (i := 8) (oi := o15_1_8) (v := ?vb8) (Or.inl ⟨by rfl, ?hyb8⟩) hHeld ?restb8
  case hyb8 => (intro w hSw; (try dsimp only at hSw); unfold o15_1_8; go_simp <;> with_reducible rfl)
  try simp only [o15_1_8, Act.put, rp1_, rp2_, rp3_]
  refine rtk_ (i := 9) (oi := o15_1_9) (v := ?vb9) (Or.inl ⟨by rfl, ?hyb9⟩) hHeld ?restb9
  case hyb9 => (intro w hSw; (try dsimp only at hSw); unfold o15_1_9; go_simp <;> with_reducible rfl)
  try simp only [o15_1_9, Act.put, rp1_, rp2_, rp3_]
  refine wpAnyH_done (by kernel_rfl) ?_ _
  refine NoPanic.normal ?_
  clear hHeld
  go_wp2_with fail
  have KW := Aside0.mk (below_drew K0.out)
  refine wp_region_noPanic ?_
  refine wp_region_held_drew (S := fun W : World => W.cell? ⟨p, 0, none⟩ = some (.int .i64 me) ∧ W.cell? ⟨p, 1, none⟩ = some (.slice (some ad) asks.length ca) ∧ W.cell? ⟨p, 2, none⟩ = some (.int .i64 (done : Int)) ∧ W.cell? (ad.add done) = some (.string s)) (by kernel_rfl) ?_ (fun hHeld => ?_)
  · exact Sall2.out _ KW.out
  refine rtk_ (i := 0) (oi := o15_3_0) (v := ?vc0) (Or.inl ⟨by rfl, ?hyc0⟩) hHeld ?restc0
  case hyc0 => (intro w hSw; (try dsimp only at hSw); unfold o15_3_0; go_simp <;> with_reducible rfl)
  try simp only [o15_3_0, Act.put, rp1_, rp2_, rp3_]
  refine rtk_ (i := 1) (oi := o15_3_1) (v := ?vc1) (Or.inl ⟨by rfl, ?hyc1⟩) hHeld ?restc1
  case hyc1 => (intro w hSw; (try dsimp only at hSw); unfold o15_3_1; go_simp <;> with_reducible rfl)
  try simp only [o15_3_1, Act.put, rp1_, rp2_, rp3_]
  refine rtk_ (i := 2) (oi := o15_3_2) (v := ?vc2) (Or.inl ⟨by rfl, ?hyc2⟩) hHeld ?restc2
  case hyc2 => (intro w hSw; (try dsimp only at hSw); unfold o15_3_2; go_simp <;> with_reducible rfl)
  try simp only [o15_3_2, Act.put, rp1_, rp2_, rp3_]
  refine rtk_ (i := 3) (oi := o15_3_3) (v := ?vc3) (Or.inl ⟨by rfl, ?hyc3⟩) hHeld ?restc3
  case hyc3 => (intro w hSw; (try dsimp only at hSw); unfold o15_3_3; go_simp <;> with_reducible rfl)
  try simp only [o15_3_3, Act.put, rp1_, rp2_, rp3_]
  refine rtk_ (i := 4) (oi := o15_3_4) (v := ?vc4) (Or.inl ⟨by rfl, ?hyc4⟩) hHeld ?restc4
  case hyc4 => (intro w hSw; (try dsimp only at hSw); unfold o15_3_4; go_simp <;> with_reducible rfl)
  try simp only [o15_3_4, Act.put, rp1_, rp2_, rp3_]
  refine rtk_ (i := 5) (oi := o15_3_5) (v := ?vc5) (Or.inl ⟨by rfl, ?hyc5⟩) hHeld ?restc5
  case hyc5 => (intro w hSw; (try dsimp only at hSw); unfold o15_3_5; go_simp <;> with_reducible rfl)
  try simp only [o15_3_5, Act.put, rp1_, rp2_, rp3_]
  refine rtk_ (i := 6) (oi := o15_3_6) (v := ?vc6) (Or.inl ⟨by rfl, ?hyc6⟩) hHeld ?restc6
  case hyc6 => (intro w hSw; (try dsimp only at hSw); unfold o15_3_6; go_simp <;> with_reducible rfl)
  try simp only [o15_3_6, Act.put, rp1_, rp2_, rp3_]
  refine rtk_ (i := 7) (oi := o15_3_7) (v := ?vc7) (Or.inl ⟨by rfl, ?hyc7⟩) hHeld ?restc7
  case hyc7 => (intro w hSw; (try dsimp only at hSw); unfold o15_3_7; go_simp <;> with_reducible rfl)
  try simp only [o15_3_7, Act.put, rp1_, rp2_, rp3_]
  refine rtk_ (i := 8) (oi := o15_3_8) (v := ?vc8) (Or.inl ⟨by rfl, ?hyc8⟩) hHeld ?restc8
  case hyc8 => (intro w hSw; (try dsimp only at hSw); unfold o15_3_8; go_simp <;> with_reducible rfl)
  try simp only [o15_3_8, Act.put, rp1_, rp2_, rp3_]
  refine rtk_ (i := 9) (oi := o15_3_9) (v := ?vc9) (Or.inl ⟨by rfl, ?hyc9⟩) hHeld ?restc9
  case hyc9 => (intro w hSw; (try dsimp only at hSw); unfold o15_3_9; go_simp <;> with_reducible rfl)
  try simp only [o15_3_9, Act.put, rp1_, rp2_, rp3_]
  refine rtk_ (i := 10) (oi := o15_3_10) (v := ?vc10) (Or.inl ⟨by rfl, ?hyc10⟩) hHeld ?restc10
  case hyc10 => (intro w hSw; (try dsimp only at hSw); unfold o15_3_10; go_simp <;> with_reducible rfl)
  try simp only [o15_3_10, Act.put, rp1_, rp2_, rp3_]
  refine rtk_ (i := 11) (oi := o15_3_11) (v := ?vc11) (Or.inl ⟨by rfl, ?hyc11⟩) hHeld ?restc11
  case hyc11 => (intro w hSw; (try dsimp only at hSw); unfold o15_3_11; go_simp <;> with_reducible rfl)
  try simp only [o15_3_11, Act.put, rp1_, rp2_, rp3_]
  refine rtk_ (i := 12) (oi := o15_3_12) (v := ?vc12) (Or.inl ⟨by rfl, ?hyc12⟩) hHeld ?restc12
  case hyc12 => (intro w hSw; (try dsimp only at hSw); unfold o15_3_12; go_simp <;> with_reducible rfl)
  try simp only [o15_3_12, Act.put, rp1_, rp2_, rp3_]
  refine rtk_ (i := 13) (oi := o15_3_13) (v := ?vc13) (Or.inl ⟨by rfl, ?hyc13⟩) hHeld ?restc13
  case hyc13 => (intro w hSw; (try dsimp only at hSw); unfold o15_3_13; go_simp <;> with_reducible rfl)
  try simp only [o15_3_13, Act.put, rp1_, rp2_, rp3_]
  refine rtk_ (i := 14) (oi := o15_3_14) (v := ?vc14) (Or.inl ⟨by rfl, ?hyc14⟩) hHeld ?restc14
  case hyc14 => (intro w hSw; (try dsimp only at hSw); unfold o15_3_14; go_simp <;> with_reducible rfl)
  try simp only [o15_3_14, Act.put, rp1_, rp2_, rp3_]
  refine rtk_ (i := 15) (oi := o15_3_15) (v := ?vc15) (Or.inl ⟨by rfl, ?hyc15⟩) hHeld ?restc15
  case hyc15 => (intro w hSw; (try dsimp only at hSw); unfold o15_3_15; go_simp <;> with_reducible rfl)
  try simp only [o15_3_15, Act.put, rp1_, rp2_, rp3_]
  refine rtk_ (i := 16) (oi := o15_3_16) (v := ?vc16) (Or.inl ⟨by rfl, ?hyc16⟩) hHeld ?restc16
  case hyc16 => (intro w hSw; (try dsimp only at hSw); unfold o15_3_16; go_simp <;> with_reducible rfl)
  try simp only [o15_3_16, Act.put, rp1_, rp2_, rp3_]
  refine rtk_ (i := 17) (oi := o15_3_17) (v := ?vc17) (Or.inl ⟨by rfl, ?hyc17⟩) hHeld ?restc17
  case hyc17 => (intro w hSw; (try dsimp only at hSw); unfold o15_3_17; go_simp <;> with_reducible rfl)
  try simp only [o15_3_17, Act.put, rp1_, rp2_, rp3_]
  refine rtk_ (i := 18) (oi := o15_3_18) (v := ?vc18) (Or.inl ⟨by rfl, ?hyc18⟩) hHeld ?restc18
  case hyc18 => (intro w hSw; (try dsimp only at hSw); unfold o15_3_18; go_simp <;> with_reducible rfl)
  try simp only [o15_3_18, Act.put, rp1_, rp2_, rp3_]
  refine rtk_ (i := 19) (oi := o15_3_19) (v := ?vc19) (Or.inl ⟨by rfl, ?hyc19⟩) hHeld ?restc19
  case hyc19 => (intro w hSw; (try dsimp only at hSw); unfold o15_3_19; go_simp <;> with_reducible rfl)
  try simp only [o15_3_19, Act.put, rp1_, rp2_, rp3_]
  refine wpAnyH_ready (rs := [20]) (by kernel_rfl) (by simp) ?_
  refine AllReadyH.cons (o := o15_3_20) rfl (fun K hK => ?_) AllReadyH.nil
  unfold o15_3_20; go_simp
  go_wp2_with (first | (go_at_call 19; refine (rPut_calls ((done : Int) + 1) s _ (by omega) (by have := HSS.out; omega)).mono ?_; rintro e w2 ⟨v5, rfl, hV, hb⟩; (have K1 := Aside0.mk (below_step KW.out hb)); (have HV := Aside0.mk hV); (obtain ⟨A5, c5, ev⟩ := Kd.R_slice hV); subst ev; clear hV hb))
  refine hK.out _ _ (Sall2.out _ K1.out) (fun hHeld' => ?_)
  clear hK K hHeld
  have hHeld := hHeld'
  clear hHeld'
  try simp only [Act.put, rp1_, rp2_, rp3_]
  refine rtk_ (i := 21) (oi := o15_3_21) (v := ?vc21) (Or.inl ⟨by rfl, ?hyc21⟩) hHeld ?restc21
  case hyc21 => (intro w hSw; (try dsimp only at hSw); unfold o15_3_21; go_simp <;> with_reducible rfl)
  try simp only [o15_3_21, Act.put, rp1_, rp2_, rp3_]
  refine wpAnyH_ready (rs := [22]) (by kernel_rfl) (by simp) ?_
  refine AllReadyH.cons (o := o15_3_22) rfl (fun K hK => ?_) AllReadyH.nil
  unfold o15_3_22; go_simp
  refine hK.out _ _ (Sall2.out _ (below_step K1.out (below_alloc (Below.refl _ _) _))) (fun hHeld' => ?_)
  clear hK K hHeld
  have hHeld := hHeld'
  clear hHeld'
  try simp only [Act.put, rp1_, rp2_, rp3_]
  refine rtk_ (i := 23) (oi := o15_3_23) (v := ?vc23) (Or.inl ⟨by rfl, ?hyc23⟩) hHeld ?restc23
  case hyc23 => (intro w hSw; (try dsimp only at hSw); unfold o15_3_23; go_simp <;> with_reducible rfl)
  try simp only [o15_3_23, Act.put, rp1_, rp2_, rp3_]
  refine wpAnyH_done (by kernel_rfl) ?_ _
  refine NoPanic.normal ?_
  go_wp2_with fail
  go_ret
  have hsz := KW.out.size
  refine ⟨⟨_, A5, c5, rfl, Blk.new_, K1.out.size, ?_⟩, below_step K1.out (below_alloc (Below.refl _ _) _)⟩
  refine Kd.R_mono (Kd.R_lower (Kd.R_bound (Kd.R_alloc (Kd.R_bound HV.out) _)) hsz) (fun k hk => ?_)
  have := hk.1.2.2.1
  omega
set_option maxRecDepth 100000 in
set_option maxHeartbeats 3200000 in
theorem RHear_none (p base : Nat) (me : Int) (asks : List ByteArray) (done : Nat) (ans : List ByteArray) (va vs : Value) (A : Option Addr) (c : Nat) (l : List Int) (w : World) (h : RV w p base me asks done ans va vs) (hd : done ≤ asks.length) (hl : asks.length ≤ 1000) (hr : Kd.C (Kd.int .u8) w A l.length l) (hc : l.length ≤ c) (hby : ∀ x ∈ l, IsByte x) (hm : l.length ≤ 1000000) (hg : rget l = none) :
    Calls Try.prog 18 #[.pointer (some ⟨p, 0, none⟩), .slice A l.length c] w fun e w' => e = .returned (.tuple #[]) ∧ Below w.heap.size w w' := by
  obtain ⟨Aa, ca, ea⟩ := Kd.R_slice h.2.1
  subst ea
  have HH := Aside0.mk h
  have Sall : Aside0 (∀ W : World, Below w.heap.size w W → W.cell? ⟨p, 1, none⟩ = some (.slice Aa asks.length ca) ∧ W.cell? ⟨p, 2, none⟩ = some (.int .i64 (done : Int))) := ⟨fun W hW => ⟨((HH.out.1.below hW).cell 1).trans rfl, ((HH.out.1.below hW).cell 2).trans rfl⟩⟩
  have K0 := Aside0.mk (below_drew (Below.refl w.heap.size w))
  have kg := Aside0.mk (rGet_calls A c l w hr hc hby hm)
  have HG := Aside0.mk hg
  clear hg
  clear h hd hl hr hc hby hm K0
  go_enter Try.func18, Try.ntmps18
  go_wp2_with fail
  refine kg.out.mono ?_
  rintro e w1 ⟨hb, he⟩
  have HB := Aside0.mk hb
  rw [HG.out] at he
  have he' : e = .returned (.tuple #[.int .u64 0, .string ⟨#[]⟩, .bool false]) := he
  subst he'
  clear hb kg
  go_wp2_with fail
  have K0 := Aside0.mk (below_drew HB.out)
  refine wp_region_noPanic ?_
  refine wp_region_held_drew (S := fun W : World => W.cell? ⟨p, 1, none⟩ = some (.slice Aa asks.length ca) ∧ W.cell? ⟨p, 2, none⟩ = some (.int .i64 (done : Int))) (by kernel_rfl) ?_ (fun hHeld => ?_)
  · exact Sall.out _ K0.out
  refine rtk_ (i := 0) (oi := o18_1_0) (v := ?vhnone0) (Or.inl ⟨by rfl, ?hyhnone0⟩) hHeld ?resthnone0
  case hyhnone0 => (intro w hSw; (try dsimp only at hSw); unfold o18_1_0; go_simp <;> with_reducible rfl)
  try simp only [o18_1_0, Act.put, rp1_, rp2_, rp3_]
  refine rtk_ (i := 1) (oi := o18_1_1) (v := ?vhnone1) (Or.inl ⟨by rfl, ?hyhnone1⟩) hHeld ?resthnone1
  case hyhnone1 => (intro w hSw; (try dsimp only at hSw); unfold o18_1_1; go_simp <;> with_reducible rfl)
  try simp only [o18_1_1, Act.put, rp1_, rp2_, rp3_]
  refine rtk_ (i := 2) (oi := o18_1_2) (v := undef) (Or.inr ⟨by rfl, rfl⟩) hHeld ?_
  try simp only [o18_1_2, Act.put, rp1_, rp2_, rp3_]
  refine rtk_ (i := 3) (oi := o18_1_3) (v := undef) (Or.inr ⟨by rfl, rfl⟩) hHeld ?_
  try simp only [o18_1_3, Act.put, rp1_, rp2_, rp3_]
  refine rtk_ (i := 4) (oi := o18_1_4) (v := undef) (Or.inr ⟨by rfl, rfl⟩) hHeld ?_
  try simp only [o18_1_4, Act.put, rp1_, rp2_, rp3_]
  refine rtk_ (i := 5) (oi := o18_1_5) (v := undef) (Or.inr ⟨by rfl, rfl⟩) hHeld ?_
  try simp only [o18_1_5, Act.put, rp1_, rp2_, rp3_]
  refine rtk_ (i := 6) (oi := o18_1_6) (v := undef) (Or.inr ⟨by rfl, rfl⟩) hHeld ?_
  try simp only [o18_1_6, Act.put, rp1_, rp2_, rp3_]
  refine rtk_ (i := 7) (oi := o18_1_7) (v := undef) (Or.inr ⟨by rfl, rfl⟩) hHeld ?_
  try simp only [o18_1_7, Act.put, rp1_, rp2_, rp3_]
  refine rtk_ (i := 8) (oi := o18_1_8) (v := undef) (Or.inr ⟨by rfl, rfl⟩) hHeld ?_
  try simp only [o18_1_8, Act.put, rp1_, rp2_, rp3_]
  refine rtk_ (i := 9) (oi := o18_1_9) (v := undef) (Or.inr ⟨by rfl, rfl⟩) hHeld ?_
  try simp only [o18_1_9, Act.put, rp1_, rp2_, rp3_]
  refine rtk_ (i := 10) (oi := o18_1_10) (v := undef) (Or.inr ⟨by rfl, rfl⟩) hHeld ?_
  try simp only [o18_1_10, Act.put, rp1_, rp2_, rp3_]
  refine rtk_ (i := 11) (oi := o18_1_11) (v := undef) (Or.inr ⟨by rfl, rfl⟩) hHeld ?_
  try simp only [o18_1_11, Act.put, rp1_, rp2_, rp3_]
  refine rtk_ (i := 12) (oi := o18_1_12) (v := ?vhnone12) (Or.inl ⟨by rfl, ?hyhnone12⟩) hHeld ?resthnone12
  case hyhnone12 => (intro w hSw; (try dsimp only at hSw); unfold o18_1_12; go_simp <;> with_reducible rfl)
  try simp only [o18_1_12, Act.put, rp1_, rp2_, rp3_]
  refine rtk_ (i := 13) (oi := o18_1_13) (v := ?vhnone13) (Or.inl ⟨by rfl, ?hyhnone13⟩) hHeld ?resthnone13
  case hyhnone13 => (intro w hSw; (try dsimp only at hSw); unfold o18_1_13; go_simp <;> with_reducible rfl)
  try simp only [o18_1_13, Act.put, rp1_, rp2_, rp3_]
  refine rtk_ (i := 14) (oi := o18_1_14) (v := undef) (Or.inr ⟨by rfl, rfl⟩) hHeld ?_
  try simp only [o18_1_14, Act.put, rp1_, rp2_, rp3_]
  refine rtk_ (i := 15) (oi := o18_1_15) (v := undef) (Or.inr ⟨by rfl, rfl⟩) hHeld ?_
  try simp only [o18_1_15, Act.put, rp1_, rp2_, rp3_]
  refine rtk_ (i := 16) (oi := o18_1_16) (v := undef) (Or.inr ⟨by rfl, rfl⟩) hHeld ?_
  try simp only [o18_1_16, Act.put, rp1_, rp2_, rp3_]
  refine rtk_ (i := 17) (oi := o18_1_17) (v := undef) (Or.inr ⟨by rfl, rfl⟩) hHeld ?_
  try simp only [o18_1_17, Act.put, rp1_, rp2_, rp3_]
  refine rtk_ (i := 18) (oi := o18_1_18) (v := undef) (Or.inr ⟨by rfl, rfl⟩) hHeld ?_
  try simp only [o18_1_18, Act.put, rp1_, rp2_, rp3_]
  refine rtk_ (i := 19) (oi := o18_1_19) (v := undef) (Or.inr ⟨by rfl, rfl⟩) hHeld ?_
  try simp only [o18_1_19, Act.put, rp1_, rp2_, rp3_]
  refine rtk_ (i := 20) (oi := o18_1_20) (v := undef) (Or.inr ⟨by rfl, rfl⟩) hHeld ?_
  try simp only [o18_1_20, Act.put, rp1_, rp2_, rp3_]
  refine rtk_ (i := 21) (oi := o18_1_21) (v := undef) (Or.inr ⟨by rfl, rfl⟩) hHeld ?_
  try simp only [o18_1_21, Act.put, rp1_, rp2_, rp3_]
  refine rtk_ (i := 22) (oi := o18_1_22) (v := ?vhnone22) (Or.inl ⟨by rfl, ?hyhnone22⟩) hHeld ?resthnone22
  case hyhnone22 => (intro w hSw; (try dsimp only at hSw); unfold o18_1_22; go_simp <;> with_reducible rfl)
  try simp only [o18_1_22, Act.put, rp1_, rp2_, rp3_]
  refine wpAnyH_done (by kernel_rfl) ?_ _
  refine NoPanic.normal ?_
  go_wp2_with fail
  go_end0
  exact ⟨rfl, K0.out⟩
set_option maxRecDepth 100000 in
set_option maxHeartbeats 3200000 in
theorem RHear_all (p base : Nat) (me : Int) (asks : List ByteArray) (done : Nat) (ans : List ByteArray) (va vs : Value) (A : Option Addr) (c : Nat) (l : List Int) (w : World) (h : RV w p base me asks done ans va vs) (hd : done ≤ asks.length) (hl : asks.length ≤ 1000) (hr : Kd.C (Kd.int .u8) w A l.length l) (hc : l.length ≤ c) (hby : ∀ x ∈ l, IsByte x) (hm : l.length ≤ 1000000) (q : Rq) (hg : rget l = some q) (hn : done = asks.length) :
    Calls Try.prog 18 #[.pointer (some ⟨p, 0, none⟩), .slice A l.length c] w fun e w' => e = .returned (.tuple #[]) ∧ Below w.heap.size w w' := by
  obtain ⟨Aa, ca, ea⟩ := Kd.R_slice h.2.1
  subst ea
  have HH := Aside0.mk h
  have Sall : Aside0 (∀ W : World, Below w.heap.size w W → W.cell? ⟨p, 1, none⟩ = some (.slice Aa asks.length ca) ∧ W.cell? ⟨p, 2, none⟩ = some (.int .i64 (done : Int))) := ⟨fun W hW => ⟨((HH.out.1.below hW).cell 1).trans rfl, ((HH.out.1.below hW).cell 2).trans rfl⟩⟩
  have K0 := Aside0.mk (below_drew (Below.refl w.heap.size w))
  have kg := Aside0.mk (rGet_calls A c l w hr hc hby hm)
  have HG := Aside0.mk hg
  have e1 : ¬ (done : Int) < (asks.length : Int) := by omega
  have e2 : ¬ done < asks.length := by omega
  have e3 : decide (done < asks.length) = false := decide_eq_false e2
  have e4 : decide ((done : Int) < (asks.length : Int)) = false := decide_eq_false e1
  clear hg hn
  clear h hd hl hr hc hby hm K0
  go_enter Try.func18, Try.ntmps18
  go_wp2_with fail
  refine kg.out.mono ?_
  rintro e w1 ⟨hb, he⟩
  have HB := Aside0.mk hb
  rw [HG.out] at he
  have he' : e = .returned (.tuple #[.int .u64 q.1, .string (strOfNums q.2), .bool true]) := he
  subst he'
  clear hb kg
  go_wp2_with fail
  have K0 := Aside0.mk (below_drew HB.out)
  refine wp_region_noPanic ?_
  refine wp_region_held_drew (S := fun W : World => W.cell? ⟨p, 1, none⟩ = some (.slice Aa asks.length ca) ∧ W.cell? ⟨p, 2, none⟩ = some (.int .i64 (done : Int))) (by kernel_rfl) ?_ (fun hHeld => ?_)
  · exact Sall.out _ K0.out
  refine rtk_ (i := 0) (oi := o18_1_0) (v := ?vhall0) (Or.inl ⟨by rfl, ?hyhall0⟩) hHeld ?resthall0
  case hyhall0 => (intro w hSw; (try dsimp only at hSw); unfold o18_1_0; go_simp <;> with_reducible rfl)
  try simp only [o18_1_0, Act.put, rp1_, rp2_, rp3_]
  refine rtk_ (i := 1) (oi := o18_1_1) (v := ?vhall1) (Or.inl ⟨by rfl, ?hyhall1⟩) hHeld ?resthall1
  case hyhall1 => (intro w hSw; (try dsimp only at hSw); unfold o18_1_1; go_simp <;> with_reducible rfl)
  try simp only [o18_1_1, Act.put, rp1_, rp2_, rp3_]
  refine rtk_ (i := 2) (oi := o18_1_2) (v := ?vhall2) (Or.inl ⟨by rfl, ?hyhall2⟩) hHeld ?resthall2
  case hyhall2 => (intro w hSw; (try dsimp only at hSw); unfold o18_1_2; go_simp <;> with_reducible rfl)
  try simp only [o18_1_2, Act.put, rp1_, rp2_, rp3_]
  refine rtk_ (i := 3) (oi := o18_1_3) (v := ?vhall3) (Or.inl ⟨by rfl, ?hyhall3⟩) hHeld ?resthall3
  case hyhall3 => (intro w hSw; (try dsimp only at hSw); unfold o18_1_3; go_simp <;> with_reducible rfl)
  try simp only [o18_1_3, Act.put, rp1_, rp2_, rp3_]
  refine rtk_ (i := 4) (oi := o18_1_4) (v := ?vhall4) (Or.inl ⟨by rfl, ?hyhall4⟩) hHeld ?resthall4
  case hyhall4 => (intro w hSw; (try dsimp only at hSw); unfold o18_1_4; go_simp <;> with_reducible rfl)
  try simp only [o18_1_4, Act.put, rp1_, rp2_, rp3_]
  refine rtk_ (i := 5) (oi := o18_1_5) (v := ?vhall5) (Or.inl ⟨by rfl, ?hyhall5⟩) hHeld ?resthall5
  case hyhall5 => (intro w hSw; (try dsimp only at hSw); unfold o18_1_5; go_simp <;> with_reducible rfl)
  try simp only [o18_1_5, Act.put, rp1_, rp2_, rp3_]
  refine rtk_ (i := 6) (oi := o18_1_6) (v := ?vhall6) (Or.inl ⟨by rfl, ?hyhall6⟩) hHeld ?resthall6
  case hyhall6 => (intro w hSw; (try dsimp only at hSw); unfold o18_1_6; go_simp <;> with_reducible rfl)
  try simp only [o18_1_6, Act.put, rp1_, rp2_, rp3_]
  refine rtk_ (i := 7) (oi := o18_1_7) (v := ?vhall7) (Or.inl ⟨by rfl, ?hyhall7⟩) hHeld ?resthall7
  case hyhall7 => (intro w hSw; (try dsimp only at hSw); unfold o18_1_7; go_simp <;> with_reducible rfl)
  try simp only [o18_1_7, Act.put, rp1_, rp2_, rp3_]
  refine rtk_ (i := 8) (oi := o18_1_8) (v := ?vhall8) (Or.inl ⟨by rfl, ?hyhall8⟩) hHeld ?resthall8
  case hyhall8 => (intro w hSw; (try dsimp only at hSw); unfold o18_1_8; go_simp <;> with_reducible rfl)
  try simp only [o18_1_8, Act.put, rp1_, rp2_, rp3_]
  refine rtk_ (i := 9) (oi := o18_1_9) (v := ?vhall9) (Or.inl ⟨by rfl, ?hyhall9⟩) hHeld ?resthall9
  case hyhall9 => (intro w hSw; (try dsimp only at hSw); unfold o18_1_9; go_simp <;> with_reducible rfl)
  try simp only [o18_1_9, Act.put, rp1_, rp2_, rp3_]
  refine rtk_ (i := 10) (oi := o18_1_10) (v := ?vhall10) (Or.inl ⟨by rfl, ?hyhall10⟩) hHeld ?resthall10
  case hyhall10 => (intro w hSw; (try dsimp only at hSw); unfold o18_1_10; go_simp <;> with_reducible rfl)
  try simp only [o18_1_10, Act.put, rp1_, rp2_, rp3_]
  refine rtk_ (i := 11) (oi := o18_1_11) (v := ?vhall11) (Or.inl ⟨by rfl, ?hyhall11⟩) hHeld ?resthall11
  case hyhall11 => (intro w hSw; (try dsimp only at hSw); unfold o18_1_11; go_simp <;> with_reducible rfl)
  try simp only [o18_1_11, Act.put, rp1_, rp2_, rp3_]
  refine rtk_ (i := 12) (oi := o18_1_12) (v := ?vhall12) (Or.inl ⟨by rfl, ?hyhall12⟩) hHeld ?resthall12
  case hyhall12 => (intro w hSw; (try dsimp only at hSw); unfold o18_1_12; go_simp <;> with_reducible rfl)
  try simp only [o18_1_12, Act.put, rp1_, rp2_, rp3_]
  refine rtk_ (i := 13) (oi := o18_1_13) (v := ?vhall13) (Or.inl ⟨by rfl, ?hyhall13⟩) hHeld ?resthall13
  case hyhall13 => (intro w hSw; (try dsimp only at hSw); unfold o18_1_13; go_simp <;> with_reducible rfl)
  try simp only [o18_1_13, Act.put, rp1_, rp2_, rp3_]
  refine rtk_ (i := 14) (oi := o18_1_14) (v := undef) (Or.inr ⟨by rfl, rfl⟩) hHeld ?_
  try simp only [o18_1_14, Act.put, rp1_, rp2_, rp3_]
  refine rtk_ (i := 15) (oi := o18_1_15) (v := undef) (Or.inr ⟨by rfl, rfl⟩) hHeld ?_
  try simp only [o18_1_15, Act.put, rp1_, rp2_, rp3_]
  refine rtk_ (i := 16) (oi := o18_1_16) (v := undef) (Or.inr ⟨by rfl, rfl⟩) hHeld ?_
  try simp only [o18_1_16, Act.put, rp1_, rp2_, rp3_]
  refine rtk_ (i := 17) (oi := o18_1_17) (v := undef) (Or.inr ⟨by rfl, rfl⟩) hHeld ?_
  try simp only [o18_1_17, Act.put, rp1_, rp2_, rp3_]
  refine rtk_ (i := 18) (oi := o18_1_18) (v := undef) (Or.inr ⟨by rfl, rfl⟩) hHeld ?_
  try simp only [o18_1_18, Act.put, rp1_, rp2_, rp3_]
  refine rtk_ (i := 19) (oi := o18_1_19) (v := undef) (Or.inr ⟨by rfl, rfl⟩) hHeld ?_
  try simp only [o18_1_19, Act.put, rp1_, rp2_, rp3_]
  refine rtk_ (i := 20) (oi := o18_1_20) (v := undef) (Or.inr ⟨by rfl, rfl⟩) hHeld ?_
  try simp only [o18_1_20, Act.put, rp1_, rp2_, rp3_]
  refine rtk_ (i := 21) (oi := o18_1_21) (v := undef) (Or.inr ⟨by rfl, rfl⟩) hHeld ?_
  try simp only [o18_1_21, Act.put, rp1_, rp2_, rp3_]
  refine rtk_ (i := 22) (oi := o18_1_22) (v := ?vhall22) (Or.inl ⟨by rfl, ?hyhall22⟩) hHeld ?resthall22
  case hyhall22 => (intro w hSw; (try dsimp only at hSw); unfold o18_1_22; go_simp <;> with_reducible rfl)
  try simp only [o18_1_22, Act.put, rp1_, rp2_, rp3_]
  refine wpAnyH_done (by kernel_rfl) ?_ _
  refine NoPanic.normal ?_
  go_wp2_with fail
  go_end0
  exact ⟨rfl, K0.out⟩
set_option maxRecDepth 100000 in
set_option maxHeartbeats 3200000 in
theorem RHear_other (p base : Nat) (me : Int) (asks : List ByteArray) (done : Nat) (ans : List ByteArray) (va vs : Value) (A : Option Addr) (c : Nat) (l : List Int) (w : World) (h : RV w p base me asks done ans va vs) (hd : done ≤ asks.length) (hl : asks.length ≤ 1000) (hr : Kd.C (Kd.int .u8) w A l.length l) (hc : l.length ≤ c) (hby : ∀ x ∈ l, IsByte x) (hm : l.length ≤ 1000000) (q : Rq) (hg : rget l = some q) (hn : done < asks.length) (hq : ¬ q.1 = (done : Int) + 1) :
    Calls Try.prog 18 #[.pointer (some ⟨p, 0, none⟩), .slice A l.length c] w fun e w' => e = .returned (.tuple #[]) ∧ Below w.heap.size w w' := by
  obtain ⟨Aa, ca, ea⟩ := Kd.R_slice h.2.1
  subst ea
  have HH := Aside0.mk h
  have Sall : Aside0 (∀ W : World, Below w.heap.size w W → W.cell? ⟨p, 1, none⟩ = some (.slice Aa asks.length ca) ∧ W.cell? ⟨p, 2, none⟩ = some (.int .i64 (done : Int))) := ⟨fun W hW => ⟨((HH.out.1.below hW).cell 1).trans rfl, ((HH.out.1.below hW).cell 2).trans rfl⟩⟩
  have K0 := Aside0.mk (below_drew (Below.refl w.heap.size w))
  have kg := Aside0.mk (rGet_calls A c l w hr hc hby hm)
  have HG := Aside0.mk hg
  have e1 : (done : Int) < (asks.length : Int) := by omega
  have ewd : IntKind.i64.wrap ((done : Int) + 1) = (done : Int) + 1 := by rw [IntKind.wrap_i64]; omega
  have ewv : IntKind.u64.wrap ((done : Int) + 1) = (done : Int) + 1 := by rw [IntKind.wrap_u64]; omega
  have q1 : decide (q.1 = (done : Int) + 1) = false := decide_eq_false hq
  have q2 : (q.1 == (done : Int) + 1) = false := by simpa using hq
  clear hg hn hq
  clear h hd hl hr hc hby hm K0
  go_enter Try.func18, Try.ntmps18
  go_wp2_with fail
  refine kg.out.mono ?_
  rintro e w1 ⟨hb, he⟩
  have HB := Aside0.mk hb
  rw [HG.out] at he
  have he' : e = .returned (.tuple #[.int .u64 q.1, .string (strOfNums q.2), .bool true]) := he
  subst he'
  clear hb kg
  go_wp2_with fail
  have K0 := Aside0.mk (below_drew HB.out)
  refine wp_region_noPanic ?_
  refine wp_region_held_drew (S := fun W : World => W.cell? ⟨p, 1, none⟩ = some (.slice Aa asks.length ca) ∧ W.cell? ⟨p, 2, none⟩ = some (.int .i64 (done : Int))) (by kernel_rfl) ?_ (fun hHeld => ?_)
  · exact Sall.out _ K0.out
  refine rtk_ (i := 0) (oi := o18_1_0) (v := ?vhother0) (Or.inl ⟨by rfl, ?hyhother0⟩) hHeld ?resthother0
  case hyhother0 => (intro w hSw; (try dsimp only at hSw); unfold o18_1_0; go_simp <;> with_reducible rfl)
  try simp only [o18_1_0, Act.put, rp1_, rp2_, rp3_]
  refine rtk_ (i := 1) (oi := o18_1_1) (v := ?vhother1) (Or.inl ⟨by rfl, ?hyhother1⟩) hHeld ?resthother1
  case hyhother1 => (intro w hSw; (try dsimp only at hSw); unfold o18_1_1; go_simp <;> with_reducible rfl)
  try simp only [o18_1_1, Act.put, rp1_, rp2_, rp3_]
  refine rtk_ (i := 2) (oi := o18_1_2) (v := ?vhother2) (Or.inl ⟨by rfl, ?hyhother2⟩) hHeld ?resthother2
  case hyhother2 => (intro w hSw; (try dsimp only at hSw); unfold o18_1_2; go_simp <;> with_reducible rfl)
  try simp only [o18_1_2, Act.put, rp1_, rp2_, rp3_]
  refine rtk_ (i := 3) (oi := o18_1_3) (v := ?vhother3) (Or.inl ⟨by rfl, ?hyhother3⟩) hHeld ?resthother3
  case hyhother3 => (intro w hSw; (try dsimp only at hSw); unfold o18_1_3; go_simp <;> with_reducible rfl)
  try simp only [o18_1_3, Act.put, rp1_, rp2_, rp3_]
  refine rtk_ (i := 4) (oi := o18_1_4) (v := ?vhother4) (Or.inl ⟨by rfl, ?hyhother4⟩) hHeld ?resthother4
  case hyhother4 => (intro w hSw; (try dsimp only at hSw); unfold o18_1_4; go_simp <;> with_reducible rfl)
  try simp only [o18_1_4, Act.put, rp1_, rp2_, rp3_]
  refine rtk_ (i := 5) (oi := o18_1_5) (v := ?vhother5) (Or.inl ⟨by rfl, ?hyhother5⟩) hHeld ?resthother5
  case hyhother5 => (intro w hSw; (try dsimp only at hSw); unfold o18_1_5; go_simp <;> with_reducible rfl)
  try simp only [o18_1_5, Act.put, rp1_, rp2_, rp3_]
  refine rtk_ (i := 6) (oi := o18_1_6) (v := ?vhother6) (Or.inl ⟨by rfl, ?hyhother6⟩) hHeld ?resthother6
  case hyhother6 => (intro w hSw; (try dsimp only at hSw); unfold o18_1_6; go_simp <;> with_reducible rfl)
  try simp only [o18_1_6, Act.put, rp1_, rp2_, rp3_]
  refine rtk_ (i := 7) (oi := o18_1_7) (v := ?vhother7) (Or.inl ⟨by rfl, ?hyhother7⟩) hHeld ?resthother7
  case hyhother7 => (intro w hSw; (try dsimp only at hSw); unfold o18_1_7; go_simp <;> with_reducible rfl)
  try simp only [o18_1_7, Act.put, rp1_, rp2_, rp3_]
  refine rtk_ (i := 8) (oi := o18_1_8) (v := ?vhother8) (Or.inl ⟨by rfl, ?hyhother8⟩) hHeld ?resthother8
  case hyhother8 => (intro w hSw; (try dsimp only at hSw); unfold o18_1_8; go_simp <;> with_reducible rfl)
  try simp only [o18_1_8, Act.put, rp1_, rp2_, rp3_]
  refine rtk_ (i := 9) (oi := o18_1_9) (v := ?vhother9) (Or.inl ⟨by rfl, ?hyhother9⟩) hHeld ?resthother9
  case hyhother9 => (intro w hSw; (try dsimp only at hSw); unfold o18_1_9; go_simp <;> with_reducible rfl)
  try simp only [o18_1_9, Act.put, rp1_, rp2_, rp3_]
  refine rtk_ (i := 10) (oi := o18_1_10) (v := ?vhother10) (Or.inl ⟨by rfl, ?hyhother10⟩) hHeld ?resthother10
  case hyhother10 => (intro w hSw; (try dsimp only at hSw); unfold o18_1_10; go_simp <;> with_reducible rfl)
  try simp only [o18_1_10, Act.put, rp1_, rp2_, rp3_]
  refine rtk_ (i := 11) (oi := o18_1_11) (v := ?vhother11) (Or.inl ⟨by rfl, ?hyhother11⟩) hHeld ?resthother11
  case hyhother11 => (intro w hSw; (try dsimp only at hSw); unfold o18_1_11; go_simp <;> with_reducible rfl)
  try simp only [o18_1_11, Act.put, rp1_, rp2_, rp3_]
  refine rtk_ (i := 12) (oi := o18_1_12) (v := ?vhother12) (Or.inl ⟨by rfl, ?hyhother12⟩) hHeld ?resthother12
  case hyhother12 => (intro w hSw; (try dsimp only at hSw); unfold o18_1_12; go_simp <;> with_reducible rfl)
  try simp only [o18_1_12, Act.put, rp1_, rp2_, rp3_]
  refine rtk_ (i := 13) (oi := o18_1_13) (v := ?vhother13) (Or.inl ⟨by rfl, ?hyhother13⟩) hHeld ?resthother13
  case hyhother13 => (intro w hSw; (try dsimp only at hSw); unfold o18_1_13; go_simp <;> with_reducible rfl)
  try simp only [o18_1_13, Act.put, rp1_, rp2_, rp3_]
  refine rtk_ (i := 14) (oi := o18_1_14) (v := ?vhother14) (Or.inl ⟨by rfl, ?hyhother14⟩) hHeld ?resthother14
  case hyhother14 => (intro w hSw; (try dsimp only at hSw); unfold o18_1_14; go_simp <;> with_reducible rfl)
  try simp only [o18_1_14, Act.put, rp1_, rp2_, rp3_]
  refine rtk_ (i := 15) (oi := o18_1_15) (v := ?vhother15) (Or.inl ⟨by rfl, ?hyhother15⟩) hHeld ?resthother15
  case hyhother15 => (intro w hSw; (try dsimp only at hSw); unfold o18_1_15; go_simp <;> with_reducible rfl)
  try simp only [o18_1_15, Act.put, rp1_, rp2_, rp3_]
  refine rtk_ (i := 16) (oi := o18_1_16) (v := ?vhother16) (Or.inl ⟨by rfl, ?hyhother16⟩) hHeld ?resthother16
  case hyhother16 => (intro w hSw; (try dsimp only at hSw); unfold o18_1_16; go_simp <;> with_reducible rfl)
  try simp only [o18_1_16, Act.put, rp1_, rp2_, rp3_]
  refine rtk_ (i := 17) (oi := o18_1_17) (v := ?vhother17) (Or.inl ⟨by rfl, ?hyhother17⟩) hHeld ?resthother17
  case hyhother17 => (intro w hSw; (try dsimp only at hSw); unfold o18_1_17; go_simp <;> with_reducible rfl)
  try simp only [o18_1_17, Act.put, rp1_, rp2_, rp3_]
  refine rtk_ (i := 18) (oi := o18_1_18) (v := ?vhother18) (Or.inl ⟨by rfl, ?hyhother18⟩) hHeld ?resthother18
  case hyhother18 => (intro w hSw; (try dsimp only at hSw); unfold o18_1_18; go_simp <;> with_reducible rfl)
  try simp only [o18_1_18, Act.put, rp1_, rp2_, rp3_]
  refine rtk_ (i := 19) (oi := o18_1_19) (v := ?vhother19) (Or.inl ⟨by rfl, ?hyhother19⟩) hHeld ?resthother19
  case hyhother19 => (intro w hSw; (try dsimp only at hSw); unfold o18_1_19; go_simp <;> with_reducible rfl)
  try simp only [o18_1_19, Act.put, rp1_, rp2_, rp3_]
  refine rtk_ (i := 20) (oi := o18_1_20) (v := ?vhother20) (Or.inl ⟨by rfl, ?hyhother20⟩) hHeld ?resthother20
  case hyhother20 => (intro w hSw; (try dsimp only at hSw); unfold o18_1_20; go_simp <;> with_reducible rfl)
  try simp only [o18_1_20, Act.put, rp1_, rp2_, rp3_]
  refine rtk_ (i := 21) (oi := o18_1_21) (v := ?vhother21) (Or.inl ⟨by rfl, ?hyhother21⟩) hHeld ?resthother21
  case hyhother21 => (intro w hSw; (try dsimp only at hSw); unfold o18_1_21; go_simp <;> with_reducible rfl)
  try simp only [o18_1_21, Act.put, rp1_, rp2_, rp3_]
  refine rtk_ (i := 22) (oi := o18_1_22) (v := ?vhother22) (Or.inl ⟨by rfl, ?hyhother22⟩) hHeld ?resthother22
  case hyhother22 => (intro w hSw; (try dsimp only at hSw); unfold o18_1_22; go_simp <;> with_reducible rfl)
  try simp only [o18_1_22, Act.put, rp1_, rp2_, rp3_]
  refine wpAnyH_done (by kernel_rfl) ?_ _
  refine NoPanic.normal ?_
  go_wp2_with fail
  go_end0
  exact ⟨rfl, K0.out⟩
set_option maxRecDepth 100000 in
set_option maxHeartbeats 3200000 in
theorem RHear_take (p base : Nat) (me : Int) (asks : List ByteArray) (done : Nat) (ans : List ByteArray) (va vs : Value) (A : Option Addr) (c : Nat) (l : List Int) (w : World) (h : RV w p base me asks done ans va vs) (hd : done ≤ asks.length) (hl : asks.length ≤ 1000) (hr : Kd.C (Kd.int .u8) w A l.length l) (hc : l.length ≤ c) (hby : ∀ x ∈ l, IsByte x) (hm : l.length ≤ 1000000) (q : Rq) (hg : rget l = some q) (hn : done < asks.length) (hq : q.1 = (done : Int) + 1) (hla : ans.length ≤ 1000) :
    Calls Try.prog 18 #[.pointer (some ⟨p, 0, none⟩), .slice A l.length c] w fun e w' => e = .returned (.tuple #[]) ∧ (∃ vs', RV w' p base me asks (done + 1) (ans ++ [strOfNums q.2]) va vs' ∧ (vs'.ownBlock = vs.ownBlock ∨ ∃ b, vs'.ownBlock = some b ∧ w.heap.size ≤ b)) ∧ KeepBut w w' p vs.ownBlock ∧ Below base w w' := by
  obtain ⟨Aa, ca, ea⟩ := Kd.R_slice h.2.1
  subst ea
  have HH := Aside0.mk h
  have Sall : Aside0 (∀ W : World, Below w.heap.size w W → W.cell? ⟨p, 1, none⟩ = some (.slice Aa asks.length ca) ∧ W.cell? ⟨p, 2, none⟩ = some (.int .i64 (done : Int))) := ⟨fun W hW => ⟨((HH.out.1.below hW).cell 1).trans rfl, ((HH.out.1.below hW).cell 2).trans rfl⟩⟩
  have K0 := Aside0.mk (below_drew (Below.refl w.heap.size w))
  have kg := Aside0.mk (rGet_calls A c l w hr hc hby hm)
  have HG := Aside0.mk hg
  have e1 : (done : Int) < (asks.length : Int) := by omega
  have ewd : IntKind.i64.wrap ((done : Int) + 1) = (done : Int) + 1 := by rw [IntKind.wrap_i64]; omega
  have ewv : IntKind.u64.wrap ((done : Int) + 1) = (done : Int) + 1 := by rw [IntKind.wrap_u64]; omega
  have q1 : decide (q.1 = (done : Int) + 1) = true := decide_eq_true hq
  have q2 : (q.1 == (done : Int) + 1) = true := by simpa using hq
  obtain ⟨As, cs, es⟩ := Kd.R_slice HH.out.2.2.1
  subst es
  have HLA := Aside0.mk hla
  clear h hd hl hr hc hby hm K0 hg hn hq hla
  go_enter Try.func18, Try.ntmps18
  go_wp2_with fail
  refine kg.out.mono ?_
  rintro e w1 ⟨hb, he⟩
  have HB := Aside0.mk hb
  rw [HG.out] at he
  have he' : e = .returned (.tuple #[.int .u64 q.1, .string (strOfNums q.2), .bool true]) := he
  subst he'
  clear hb kg
  go_wp2_with fail
  have K0 := Aside0.mk (below_drew HB.out)
  refine wp_region_noPanic ?_
  refine wp_region_held_drew (S := fun W : World => W.cell? ⟨p, 1, none⟩ = some (.slice Aa asks.length ca) ∧ W.cell? ⟨p, 2, none⟩ = some (.int .i64 (done : Int))) (by kernel_rfl) ?_ (fun hHeld => ?_)
  · exact Sall.out _ K0.out
  refine rtk_ (i := 0) (oi := o18_1_0) (v := ?vht0) (Or.inl ⟨by rfl, ?hyht0⟩) hHeld ?restht0
  case hyht0 => (intro w hSw; (try dsimp only at hSw); unfold o18_1_0; go_simp <;> with_reducible rfl)
  try simp only [o18_1_0, Act.put, rp1_, rp2_, rp3_]
  refine rtk_ (i := 1) (oi := o18_1_1) (v := ?vht1) (Or.inl ⟨by rfl, ?hyht1⟩) hHeld ?restht1
  case hyht1 => (intro w hSw; (try dsimp only at hSw); unfold o18_1_1; go_simp <;> with_reducible rfl)
  try simp only [o18_1_1, Act.put, rp1_, rp2_, rp3_]
  refine rtk_ (i := 2) (oi := o18_1_2) (v := ?vht2) (Or.inl ⟨by rfl, ?hyht2⟩) hHeld ?restht2
  case hyht2 => (intro w hSw; (try dsimp only at hSw); unfold o18_1_2; go_simp <;> with_reducible rfl)
  try simp only [o18_1_2, Act.put, rp1_, rp2_, rp3_]
  refine rtk_ (i := 3) (oi := o18_1_3) (v := ?vht3) (Or.inl ⟨by rfl, ?hyht3⟩) hHeld ?restht3
  case hyht3 => (intro w hSw; (try dsimp only at hSw); unfold o18_1_3; go_simp <;> with_reducible rfl)
  try simp only [o18_1_3, Act.put, rp1_, rp2_, rp3_]
  refine rtk_ (i := 4) (oi := o18_1_4) (v := ?vht4) (Or.inl ⟨by rfl, ?hyht4⟩) hHeld ?restht4
  case hyht4 => (intro w hSw; (try dsimp only at hSw); unfold o18_1_4; go_simp <;> with_reducible rfl)
  try simp only [o18_1_4, Act.put, rp1_, rp2_, rp3_]
  refine rtk_ (i := 5) (oi := o18_1_5) (v := ?vht5) (Or.inl ⟨by rfl, ?hyht5⟩) hHeld ?restht5
  case hyht5 => (intro w hSw; (try dsimp only at hSw); unfold o18_1_5; go_simp <;> with_reducible rfl)
  try simp only [o18_1_5, Act.put, rp1_, rp2_, rp3_]
  refine rtk_ (i := 6) (oi := o18_1_6) (v := ?vht6) (Or.inl ⟨by rfl, ?hyht6⟩) hHeld ?restht6
  case hyht6 => (intro w hSw; (try dsimp only at hSw); unfold o18_1_6; go_simp <;> with_reducible rfl)
  try simp only [o18_1_6, Act.put, rp1_, rp2_, rp3_]
  refine rtk_ (i := 7) (oi := o18_1_7) (v := ?vht7) (Or.inl ⟨by rfl, ?hyht7⟩) hHeld ?restht7
  case hyht7 => (intro w hSw; (try dsimp only at hSw); unfold o18_1_7; go_simp <;> with_reducible rfl)
  try simp only [o18_1_7, Act.put, rp1_, rp2_, rp3_]
  refine rtk_ (i := 8) (oi := o18_1_8) (v := ?vht8) (Or.inl ⟨by rfl, ?hyht8⟩) hHeld ?restht8
  case hyht8 => (intro w hSw; (try dsimp only at hSw); unfold o18_1_8; go_simp <;> with_reducible rfl)
  try simp only [o18_1_8, Act.put, rp1_, rp2_, rp3_]
  refine rtk_ (i := 9) (oi := o18_1_9) (v := ?vht9) (Or.inl ⟨by rfl, ?hyht9⟩) hHeld ?restht9
  case hyht9 => (intro w hSw; (try dsimp only at hSw); unfold o18_1_9; go_simp <;> with_reducible rfl)
  try simp only [o18_1_9, Act.put, rp1_, rp2_, rp3_]
  refine rtk_ (i := 10) (oi := o18_1_10) (v := ?vht10) (Or.inl ⟨by rfl, ?hyht10⟩) hHeld ?restht10
  case hyht10 => (intro w hSw; (try dsimp only at hSw); unfold o18_1_10; go_simp <;> with_reducible rfl)
  try simp only [o18_1_10, Act.put, rp1_, rp2_, rp3_]
  refine rtk_ (i := 11) (oi := o18_1_11) (v := ?vht11) (Or.inl ⟨by rfl, ?hyht11⟩) hHeld ?restht11
  case hyht11 => (intro w hSw; (try dsimp only at hSw); unfold o18_1_11; go_simp <;> with_reducible rfl)
  try simp only [o18_1_11, Act.put, rp1_, rp2_, rp3_]
  refine rtk_ (i := 12) (oi := o18_1_12) (v := ?vht12) (Or.inl ⟨by rfl, ?hyht12⟩) hHeld ?restht12
  case hyht12 => (intro w hSw; (try dsimp only at hSw); unfold o18_1_12; go_simp <;> with_reducible rfl)
  try simp only [o18_1_12, Act.put, rp1_, rp2_, rp3_]
  refine rtk_ (i := 13) (oi := o18_1_13) (v := ?vht13) (Or.inl ⟨by rfl, ?hyht13⟩) hHeld ?restht13
  case hyht13 => (intro w hSw; (try dsimp only at hSw); unfold o18_1_13; go_simp <;> with_reducible rfl)
  try simp only [o18_1_13, Act.put, rp1_, rp2_, rp3_]
  refine rtk_ (i := 14) (oi := o18_1_14) (v := ?vht14) (Or.inl ⟨by rfl, ?hyht14⟩) hHeld ?restht14
  case hyht14 => (intro w hSw; (try dsimp only at hSw); unfold o18_1_14; go_simp <;> with_reducible rfl)
  try simp only [o18_1_14, Act.put, rp1_, rp2_, rp3_]
  refine rtk_ (i := 15) (oi := o18_1_15) (v := ?vht15) (Or.inl ⟨by rfl, ?hyht15⟩) hHeld ?restht15
  case hyht15 => (intro w hSw; (try dsimp only at hSw); unfold o18_1_15; go_simp <;> with_reducible rfl)
  try simp only [o18_1_15, Act.put, rp1_, rp2_, rp3_]
  refine rtk_ (i := 16) (oi := o18_1_16) (v := ?vht16) (Or.inl ⟨by rfl, ?hyht16⟩) hHeld ?restht16
  case hyht16 => (intro w hSw; (try dsimp only at hSw); unfold o18_1_16; go_simp <;> with_reducible rfl)
  try simp only [o18_1_16, Act.put, rp1_, rp2_, rp3_]
  refine rtk_ (i := 17) (oi := o18_1_17) (v := ?vht17) (Or.inl ⟨by rfl, ?hyht17⟩) hHeld ?restht17
  case hyht17 => (intro w hSw; (try dsimp only at hSw); unfold o18_1_17; go_simp <;> with_reducible rfl)
  try simp only [o18_1_17, Act.put, rp1_, rp2_, rp3_]
  refine rtk_ (i := 18) (oi := o18_1_18) (v := ?vht18) (Or.inl ⟨by rfl, ?hyht18⟩) hHeld ?restht18
  case hyht18 => (intro w hSw; (try dsimp only at hSw); unfold o18_1_18; go_simp <;> with_reducible rfl)
  try simp only [o18_1_18, Act.put, rp1_, rp2_, rp3_]
  refine rtk_ (i := 19) (oi := o18_1_19) (v := ?vht19) (Or.inl ⟨by rfl, ?hyht19⟩) hHeld ?restht19
  case hyht19 => (intro w hSw; (try dsimp only at hSw); unfold o18_1_19; go_simp <;> with_reducible rfl)
  try simp only [o18_1_19, Act.put, rp1_, rp2_, rp3_]
  refine rtk_ (i := 20) (oi := o18_1_20) (v := ?vht20) (Or.inl ⟨by rfl, ?hyht20⟩) hHeld ?restht20
  case hyht20 => (intro w hSw; (try dsimp only at hSw); unfold o18_1_20; go_simp <;> with_reducible rfl)
  try simp only [o18_1_20, Act.put, rp1_, rp2_, rp3_]
  refine rtk_ (i := 21) (oi := o18_1_21) (v := ?vht21) (Or.inl ⟨by rfl, ?hyht21⟩) hHeld ?restht21
  case hyht21 => (intro w hSw; (try dsimp only at hSw); unfold o18_1_21; go_simp <;> with_reducible rfl)
  try simp only [o18_1_21, Act.put, rp1_, rp2_, rp3_]
  refine rtk_ (i := 22) (oi := o18_1_22) (v := ?vht22) (Or.inl ⟨by rfl, ?hyht22⟩) hHeld ?restht22
  case hyht22 => (intro w hSw; (try dsimp only at hSw); unfold o18_1_22; go_simp <;> with_reducible rfl)
  try simp only [o18_1_22, Act.put, rp1_, rp2_, rp3_]
  refine wpAnyH_done (by kernel_rfl) ?_ _
  refine NoPanic.normal ?_
  have HV : Aside0 (RV w1.drew p base me asks done ans (.slice Aa asks.length ca) (.slice As ans.length cs)) := ⟨HH.out.below K0.out⟩
  generalize w1.drew = w2 at K0 HV ⊢
  obtain ⟨s, hs⟩ : ∃ s, strOfNums q.2 = s := ⟨_, rfl⟩
  have HSQ := Aside0.mk hs
  rw [hs]
  clear hHeld hs HG q1 q2
  have y2 := (HV.out.1.cell 2).trans (rfl : _ = some (Value.int .i64 (done : Int)))
  have yf2 := HV.out.1.free 2
  have HP3 : Aside0 (Blk (w2.setCell ⟨p, 2, none⟩ (.int .i64 ((done : Int) + 1))) p (.cells #[.int .i64 me, .slice Aa asks.length ca, .int .i64 ((done : Int) + 1), .slice As ans.length cs] 33)) := ⟨HV.out.1.put 2 _ rfl⟩
  have y3 := (HP3.out.cell 3).trans (rfl : _ = some (Value.slice As ans.length cs))
  have HR3 : Aside0 (Kd.R Kd.string 9 (w2.setCell ⟨p, 2, none⟩ (.int .i64 ((done : Int) + 1))) base (fun k => k ≠ p ∧ some k ≠ (Value.slice Aa asks.length ca).ownBlock) (.slice As ans.length cs) ans) := ⟨Kd.R_far HV.out.2.2.1 (p := ⟨p, 2, none⟩) (fun k hk => hk.1) _⟩
  have HQ3 : Aside0 (Kd.R Kd.string 9 (w2.setCell ⟨p, 2, none⟩ (.int .i64 ((done : Int) + 1))) base (fun k => k ≠ p ∧ some k ≠ (Value.slice As ans.length cs).ownBlock) (.slice Aa asks.length ca) asks) := ⟨Kd.R_far HV.out.2.1 (p := ⟨p, 2, none⟩) (fun k hk => hk.1) _⟩
  have HS3 : Aside0 (∀ k, k ≠ p → (w2.setCell ⟨p, 2, none⟩ (.int .i64 ((done : Int) + 1))).heap[k]? = w2.heap[k]?) := ⟨fun k hk => Below.heap_setCell w2 ⟨p, 2, none⟩ _ k hk⟩
  have HZ3 : Aside0 ((w2.setCell ⟨p, 2, none⟩ (.int .i64 ((done : Int) + 1))).heap.size = w2.heap.size) := ⟨World.size_setCell ..⟩
  have HB3 : Aside0 (Below base w2 (w2.setCell ⟨p, 2, none⟩ (.int .i64 ((done : Int) + 1)))) := ⟨(Below.refl base w2).setCell (p := ⟨p, 2, none⟩) HV.out.2.2.2 _⟩
  have HPL := Aside0.mk HV.out.lt
  go_wp2_with (at_builtin; generalize w2.setCell ⟨p, 2, none⟩ (.int .i64 ((done : Int) + 1)) = w3 at HP3 HR3 HQ3 HS3 HZ3 HB3 ⊢; rw [← HZ3.out]; refine Kd.R_append_row Value.string ByteArray.empty (w0 := w3) base rfl (.tmp 47) (.tmp 49) 31 9 (.string ⟨#[]⟩) 16 rfl Try.underlying31 infoStr rfl (by decide) (.slice As ans.length cs) ans [s] (some ⟨w3.heap.size, 0, none⟩) 1 1 (fun k => k ≠ p ∧ some k ≠ (Value.slice Aa asks.length ca).ownBlock) rfl rfl (fun k hk => by rw [size_alloc] at hk; exact ⟨by have := HPL.out; have := HZ3.out; omega, own_old (Kd.R_typed HQ3.out) k (by omega)⟩) (Kd.R_alloc HR3.out _) (C_one w3 s) (below_weak (below_alloc (Below.refl _ _) _) (by have := HPL.out; have := HZ3.out; have := HV.out.2.2.2; omega)) (by rw [size_alloc]; have := HPL.out; have := HZ3.out; have := HV.out.2.2.2; omega) (by have := HLA.out; simp; omega) ?_; intro v1 w4 ho hb hg hat; (obtain ⟨A2, c2, ev⟩ := Kd.R_slice ho); rw [List.length_append, List.length_singleton] at ev; subst ev; (have HO := Aside0.mk ho); (have HB := Aside0.mk hb); (have HG := Aside0.mk hg); (have HAT := Aside0.mk hat); (have hown : some p ≠ (Value.slice As ans.length cs).ownBlock := fun e => (HR3.out.1 p e.symm).1 rfl); (have HX : Aside0 (Blk w4 p _) := ⟨⟨(hg.block p (by rw [size_alloc]; have := HPL.out; have := HZ3.out; omega) hown).trans (HP3.out.alloc).out⟩⟩); (have z1 := (HX.out.cell 3).trans (rfl : _ = some (Value.slice As ans.length cs))); (have zf1 := HX.out.free 3); clear ho hb hg hat)
  have HP2 : Aside0 (Blk (w4.setCell ⟨p, 3, none⟩ (.slice A2 (ans.length + 1) c2)) p (.cells #[.int .i64 me, .slice Aa asks.length ca, .int .i64 ((done : Int) + 1), .slice A2 (ans.length + 1) c2] 33)) := ⟨HX.out.put 3 _ rfl⟩
  go_wp2_with fail
  go_end0
  have hnew : ∀ k, k < w3.heap.size → k ≠ p → some k ≠ (Value.slice As ans.length cs).ownBlock → (w4.setCell ⟨p, 3, none⟩ (.slice A2 (ans.length + 1) c2)).heap[k]? = w3.heap[k]? := fun k hk h1 h2 =>
    (Below.heap_setCell w4 ⟨p, 3, none⟩ _ k h1).trans ((HG.out.block k (by rw [size_alloc]; omega) h2).trans ((below_alloc (Below.refl w3.heap.size w3) (.cells #[.string s] 9)).block k hk))
  have hat' : (Value.slice A2 (ans.length + 1) c2).ownBlock = (Value.slice As ans.length cs).ownBlock ∨ ∃ b, (Value.slice A2 (ans.length + 1) c2).ownBlock = some b ∧ w3.heap.size ≤ b := by
    rcases HAT.out with h1 | ⟨b, h1, h2⟩
    · exact .inl h1
    · exact .inr ⟨b, h1, by rw [size_alloc] at h2; omega⟩
  have hz3 := HZ3.out
  have hw2 := K0.out.size
  refine ⟨rfl, ⟨_, ⟨HP2.out, row_other HQ3.out hnew hat', by rw [HSQ.out]; exact Kd.R_far HO.out (p := ⟨p, 3, none⟩) (fun k hk => hk.1) (.slice A2 (ans.length + 1) c2), HV.out.2.2.2⟩, ?_⟩, ⟨?_, fun k hk h1 h2 => (hnew k (by omega) h1 h2).trans ((HS3.out k h1).trans (K0.out.block k hk))⟩, ?_⟩
  · rcases hat' with h1 | ⟨b, h1, h2⟩
    · exact .inl h1
    · exact .inr ⟨b, h1, by omega⟩
  · rw [World.size_setCell]
    have := HG.out.size
    rw [size_alloc] at this
    omega
  · exact (((below_weak K0.out (Nat.le_of_lt (Nat.lt_of_le_of_lt HV.out.2.2.2 HH.out.lt))).trans HB3.out).trans HB.out).setCell (p := ⟨p, 3, none⟩) HV.out.2.2.2 _
end Go.Proofs.Ytpadajkdpldliaa.Ext
