/- GateOnce, proved by walking its code (printed by mkonce.py). -/
import Derived.Test.YtpadajkdpldliaaGV
import Derived.Deep.RegionHeld3
namespace Go.Proofs.Ytpadajkdpldliaa.Ext
open Go.RowKit Go.Proofs.YtpadajkdpldliaaW.PrintWords Go.Proofs.YtpadajkdpldliaaW.PrintLast Go.Proofs.YtpadajkdpldliaaW.PrintMore Go.Proofs.YtpadajkdpldliaaW.Hand
set_option linter.unusedVariables false
set_option linter.unusedSimpArgs false
theorem p1_ {α : Type} {l : List α} {i : Nat} {a : α} : l.toArray.setIfInBounds i a = (l.set i a).toArray := List.setIfInBounds_toArray ..
theorem p2_ {α : Type} {x a : α} {l : List α} : (x :: l).set 0 a = a :: l := List.set_cons_zero ..
theorem p3_ {α : Type} {x a : α} {l : List α} {i : Nat} : (x :: l).set (i + 1) a = x :: l.set i a := List.set_cons_succ ..
theorem tk_ {P : Program} {md : Region.Mode} {ops : Array Oper} {Q : Exit → Act → World → Prop} {S : World → Prop} {i : Nat} {oi : Oper} {v : Value} {fuel : Nat} {listed : Array Bool} {a : Act} {w : World} (hy : YieldsIf P ops S oi v a) (hS : S w)
    (h : wpAnyH P md ops Q S fuel (listed.setIfInBounds i true) (a.put oi.dst v) w) (hi : ops[i]? = some oi := by rfl) (hs : Region.noSelect ops = true := by kernel_rfl) (hf : Region.free md ops listed i = true := by kernel_rfl) (hr : (Region.ready md ops listed).contains i = true := by kernel_rfl) (hQ : ∀ c a w, Q (.panic c) (a.put oi.dst v) w → Q (.panic c) a w := by exact fun _ _ _ h => h) : wpAnyH P md ops Q S (fuel + 1) listed a w := wpAnyH_take hi hs hf hr hQ hy hS h
abbrev o20_0 : Oper := { dst := some 89, op := Go.Op.move (Go.Operand.tmp 14), type := 41, pos := "outright.go:32", after := #[], guard := none }
abbrev o20_1 : Oper := { dst := some 90, op := Go.Op.call { callee := Go.Callee.builtin Go.Builtin.len, args := #[Go.Operand.tmp 89], argTypes := #[41] }, type := 3, pos := "outright.go:32", after := #[{ on := 0, ground := Go.Ground.data }], guard := none }
abbrev o20_2 : Oper := { dst := some 91, op := Go.Op.binOp Go.BinOp.eql 3 (Go.Operand.tmp 90) (Go.Operand.const (Go.Value.int Go.IntKind.i64 1)) 3, type := 4, pos := "outright.go:32", after := #[{ on := 1, ground := Go.Ground.data }], guard := none }
abbrev o20_3 : Oper := { dst := some 92, op := Go.Op.move (Go.Operand.tmp 15), type := 3, pos := "outright.go:32", after := #[], guard := none }
abbrev o20_4 : Oper := { dst := some 93, op := Go.Op.move (Go.Operand.tmp 0), type := 31, pos := "outright.go:32", after := #[], guard := none }
abbrev o20_5 : Oper := { dst := some 94, op := Go.Op.call { callee := Go.Callee.builtin Go.Builtin.len, args := #[Go.Operand.tmp 93], argTypes := #[31] }, type := 3, pos := "outright.go:32", after := #[{ on := 4, ground := Go.Ground.data }], guard := none }
abbrev o20_6 : Oper := { dst := some 95, op := Go.Op.binOp Go.BinOp.lss 3 (Go.Operand.tmp 92) (Go.Operand.tmp 94) 3, type := 4, pos := "outright.go:32", after := #[{ on := 3, ground := Go.Ground.data }, { on := 5, ground := Go.Ground.data }], guard := none }
abbrev o20_7 : Oper := { dst := some 96, op := Go.Op.binOp Go.BinOp.neq 4 (Go.Operand.tmp 91) (Go.Operand.tmp 95) 4, type := 4, pos := "outright.go:32", after := #[{ on := 2, ground := Go.Ground.data }, { on := 6, ground := Go.Ground.data }], guard := none }
abbrev o20_8 : Oper := { dst := some 97, op := Go.Op.move (Go.Operand.tmp 96), type := 4, pos := "outright.go:32", after := #[{ on := 7, ground := Go.Ground.data }], guard := none }
abbrev o20_9 : Oper := { dst := some 98, op := Go.Op.move (Go.Operand.tmp 14), type := 41, pos := "outright.go:32", after := #[{ on := 8, ground := Go.Ground.guard }], guard := some (8, false) }
abbrev o20_10 : Oper := { dst := some 99, op := Go.Op.call { callee := Go.Callee.builtin Go.Builtin.len, args := #[Go.Operand.tmp 98], argTypes := #[41] }, type := 3, pos := "outright.go:32", after := #[{ on := 9, ground := Go.Ground.data }, { on := 8, ground := Go.Ground.guard }], guard := some (8, false) }
abbrev o20_11 : Oper := { dst := some 100, op := Go.Op.binOp Go.BinOp.eql 3 (Go.Operand.tmp 99) (Go.Operand.const (Go.Value.int Go.IntKind.i64 1)) 3, type := 4, pos := "outright.go:32", after := #[{ on := 10, ground := Go.Ground.data }, { on := 8, ground := Go.Ground.guard }], guard := some (8, false) }
abbrev o20_12 : Oper := { dst := some 101, op := Go.Op.move (Go.Operand.tmp 100), type := 4, pos := "outright.go:32", after := #[{ on := 11, ground := Go.Ground.data }, { on := 8, ground := Go.Ground.chain }, { on := 8, ground := Go.Ground.guard }], guard := some (8, false) }
abbrev o20_13 : Oper := { dst := some 102, op := Go.Op.move (Go.Operand.tmp 14), type := 41, pos := "outright.go:32", after := #[{ on := 12, ground := Go.Ground.guard }], guard := some (12, true) }
abbrev o20_14 : Oper := { dst := some 103, op := Go.Op.indexAddr 41 (Go.Operand.tmp 102) (Go.Operand.const (Go.Value.int Go.IntKind.i64 0)), type := 0, pos := "outright.go:32", after := #[{ on := 13, ground := Go.Ground.data }, { on := 12, ground := Go.Ground.guard }], guard := some (12, true) }
abbrev o20_15 : Oper := { dst := some 104, op := Go.Op.fieldAddr 44 (Go.Operand.tmp 103) 2, type := 0, pos := "outright.go:32", after := #[{ on := 14, ground := Go.Ground.data }, { on := 12, ground := Go.Ground.guard }], guard := some (12, true) }
abbrev o20_16 : Oper := { dst := some 105, op := Go.Op.load 39 (Go.Operand.tmp 104), type := 39, pos := "outright.go:32", after := #[{ on := 15, ground := Go.Ground.data }, { on := 12, ground := Go.Ground.guard }], guard := some (12, true) }
abbrev o20_17 : Oper := { dst := some 106, op := Go.Op.convert 39 9 (Go.Operand.tmp 105), type := 9, pos := "outright.go:32", after := #[{ on := 16, ground := Go.Ground.data }, { on := 12, ground := Go.Ground.guard }], guard := some (12, true) }
abbrev o20_18 : Oper := { dst := some 107, op := Go.Op.move (Go.Operand.tmp 15), type := 3, pos := "outright.go:32", after := #[{ on := 12, ground := Go.Ground.guard }], guard := some (12, true) }
abbrev o20_19 : Oper := { dst := some 108, op := Go.Op.binOp Go.BinOp.add 3 (Go.Operand.tmp 107) (Go.Operand.const (Go.Value.int Go.IntKind.i64 1)) 3, type := 3, pos := "outright.go:32", after := #[{ on := 18, ground := Go.Ground.data }, { on := 12, ground := Go.Ground.guard }], guard := some (12, true) }
abbrev o20_20 : Oper := { dst := some 109, op := Go.Op.convert 3 34 (Go.Operand.tmp 108), type := 34, pos := "outright.go:32", after := #[{ on := 19, ground := Go.Ground.data }, { on := 12, ground := Go.Ground.guard }], guard := some (12, true) }
abbrev o20_21 : Oper := { dst := some 110, op := Go.Op.move (Go.Operand.tmp 0), type := 31, pos := "outright.go:32", after := #[{ on := 12, ground := Go.Ground.guard }], guard := some (12, true) }
abbrev o20_22 : Oper := { dst := some 111, op := Go.Op.move (Go.Operand.tmp 15), type := 3, pos := "outright.go:32", after := #[{ on := 12, ground := Go.Ground.guard }], guard := some (12, true) }
abbrev o20_23 : Oper := { dst := some 112, op := Go.Op.indexAddr 31 (Go.Operand.tmp 110) (Go.Operand.tmp 111), type := 0, pos := "outright.go:32", after := #[{ on := 21, ground := Go.Ground.data }, { on := 22, ground := Go.Ground.data }, { on := 12, ground := Go.Ground.guard }], guard := some (12, true) }
abbrev o20_24 : Oper := { dst := some 113, op := Go.Op.load 9 (Go.Operand.tmp 112), type := 9, pos := "outright.go:32", after := #[{ on := 23, ground := Go.Ground.data }, { on := 12, ground := Go.Ground.guard }], guard := some (12, true) }
abbrev o20_25 : Oper := { dst := some 114, op := Go.Op.convert 9 39 (Go.Operand.tmp 113), type := 39, pos := "outright.go:32", after := #[{ on := 24, ground := Go.Ground.data }, { on := 12, ground := Go.Ground.guard }], guard := some (12, true) }
abbrev o20_26 : Oper := { dst := some 115, op := Go.Op.call { callee := Go.Callee.value (Go.Operand.func 17), args := #[Go.Operand.tmp 109, Go.Operand.tmp 114], argTypes := #[34, 39] }, type := 39, pos := "outright.go:32", after := #[{ on := 20, ground := Go.Ground.data }, { on := 25, ground := Go.Ground.data }, { on := 12, ground := Go.Ground.chain }, { on := 12, ground := Go.Ground.guard }], guard := some (12, true) }
abbrev o20_27 : Oper := { dst := some 116, op := Go.Op.convert 39 9 (Go.Operand.tmp 115), type := 9, pos := "outright.go:32", after := #[{ on := 26, ground := Go.Ground.data }, { on := 12, ground := Go.Ground.guard }], guard := some (12, true) }
abbrev o20_28 : Oper := { dst := some 117, op := Go.Op.binOp Go.BinOp.neq 9 (Go.Operand.tmp 106) (Go.Operand.tmp 116) 9, type := 4, pos := "outright.go:32", after := #[{ on := 17, ground := Go.Ground.data }, { on := 27, ground := Go.Ground.data }, { on := 12, ground := Go.Ground.guard }], guard := some (12, true) }
abbrev o20_29 : Oper := { dst := some 118, op := Go.Op.pick (Go.Operand.tmp 101) (Go.Operand.tmp 117) (Go.Operand.const (Go.Value.bool false)), type := 4, pos := "outright.go:32", after := #[{ on := 12, ground := Go.Ground.data }, { on := 28, ground := Go.Ground.data }, { on := 8, ground := Go.Ground.guard }], guard := some (8, false) }
abbrev o20_30 : Oper := { dst := some 119, op := Go.Op.pick (Go.Operand.tmp 97) (Go.Operand.const (Go.Value.bool true)) (Go.Operand.tmp 118), type := 4, pos := "outright.go:32", after := #[{ on := 8, ground := Go.Ground.data }, { on := 29, ground := Go.Ground.data }], guard := none }
abbrev o22_0 : Oper := { dst := some 120, op := Go.Op.move (Go.Operand.tmp 7), type := 24, pos := "outright.go:35", after := #[], guard := none }
abbrev o22_1 : Oper := { dst := some 121, op := Go.Op.move (Go.Operand.tmp 1), type := 39, pos := "outright.go:35", after := #[], guard := none }
abbrev o22_2 : Oper := { dst := some 122, op := Go.Op.move (Go.Operand.tmp 13), type := 3, pos := "outright.go:35", after := #[], guard := none }
abbrev o22_3 : Oper := { dst := some 123, op := Go.Op.indexAddr 39 (Go.Operand.tmp 121) (Go.Operand.tmp 122), type := 0, pos := "outright.go:35", after := #[{ on := 1, ground := Go.Ground.data }, { on := 2, ground := Go.Ground.data }], guard := none }
abbrev o22_4 : Oper := { dst := some 124, op := Go.Op.load 5 (Go.Operand.tmp 123), type := 5, pos := "outright.go:35", after := #[{ on := 3, ground := Go.Ground.data }], guard := none }
abbrev o22_5 : Oper := { dst := some 125, op := Go.Op.convert 5 34 (Go.Operand.tmp 124), type := 34, pos := "outright.go:35", after := #[{ on := 4, ground := Go.Ground.data }], guard := none }
abbrev o22_6 : Oper := { dst := some 126, op := Go.Op.move (Go.Operand.tmp 2), type := 31, pos := "outright.go:35", after := #[], guard := none }
abbrev o22_7 : Oper := { dst := some 127, op := Go.Op.move (Go.Operand.tmp 13), type := 3, pos := "outright.go:35", after := #[], guard := none }
abbrev o22_8 : Oper := { dst := some 128, op := Go.Op.indexAddr 31 (Go.Operand.tmp 126) (Go.Operand.tmp 127), type := 0, pos := "outright.go:35", after := #[{ on := 6, ground := Go.Ground.data }, { on := 7, ground := Go.Ground.data }], guard := none }
abbrev o22_9 : Oper := { dst := some 129, op := Go.Op.load 9 (Go.Operand.tmp 128), type := 9, pos := "outright.go:35", after := #[{ on := 8, ground := Go.Ground.data }], guard := none }
abbrev o22_10 : Oper := { dst := some 130, op := Go.Op.convert 9 39 (Go.Operand.tmp 129), type := 39, pos := "outright.go:35", after := #[{ on := 9, ground := Go.Ground.data }], guard := none }
abbrev o22_11 : Oper := { dst := some 131, op := Go.Op.call { callee := Go.Callee.value (Go.Operand.func 17), args := #[Go.Operand.tmp 125, Go.Operand.tmp 130], argTypes := #[34, 39] }, type := 39, pos := "outright.go:35", after := #[{ on := 5, ground := Go.Ground.data }, { on := 10, ground := Go.Ground.data }], guard := none }
abbrev o22_12 : Oper := { dst := some 132, op := Go.Op.call { callee := Go.Callee.value (Go.Operand.func 16), args := #[Go.Operand.tmp 120, Go.Operand.tmp 131], argTypes := #[24, 39] }, type := 0, pos := "outright.go:35", after := #[{ on := 0, ground := Go.Ground.data }, { on := 11, ground := Go.Ground.data }, { on := 11, ground := Go.Ground.chain }], guard := none }
abbrev o28_0 : Oper := { dst := some 162, op := Go.Op.move (Go.Operand.tmp 17), type := 4, pos := "outright.go:42", after := #[], guard := none }
abbrev o28_1 : Oper := { dst := some 163, op := Go.Op.move (Go.Operand.tmp 162), type := 4, pos := "outright.go:42", after := #[{ on := 0, ground := Go.Ground.data }], guard := none }
abbrev o28_2 : Oper := { dst := some 164, op := Go.Op.move (Go.Operand.tmp 16), type := 48, pos := "outright.go:42", after := #[{ on := 1, ground := Go.Ground.guard }], guard := some (1, true) }
abbrev o28_3 : Oper := { dst := some 165, op := Go.Op.indexAddr 48 (Go.Operand.tmp 164) (Go.Operand.const (Go.Value.int Go.IntKind.i64 0)), type := 0, pos := "outright.go:42", after := #[{ on := 2, ground := Go.Ground.data }, { on := 1, ground := Go.Ground.guard }], guard := some (1, true) }
abbrev o28_4 : Oper := { dst := some 166, op := Go.Op.fieldAddr 51 (Go.Operand.tmp 165) 0, type := 0, pos := "outright.go:42", after := #[{ on := 3, ground := Go.Ground.data }, { on := 1, ground := Go.Ground.guard }], guard := some (1, true) }
abbrev o28_5 : Oper := { dst := some 167, op := Go.Op.load 34 (Go.Operand.tmp 166), type := 34, pos := "outright.go:42", after := #[{ on := 4, ground := Go.Ground.data }, { on := 1, ground := Go.Ground.guard }], guard := some (1, true) }
abbrev o28_6 : Oper := { dst := some 168, op := Go.Op.move (Go.Operand.tmp 15), type := 3, pos := "outright.go:42", after := #[{ on := 1, ground := Go.Ground.guard }], guard := some (1, true) }
abbrev o28_7 : Oper := { dst := some 169, op := Go.Op.binOp Go.BinOp.add 3 (Go.Operand.tmp 168) (Go.Operand.const (Go.Value.int Go.IntKind.i64 1)) 3, type := 3, pos := "outright.go:42", after := #[{ on := 6, ground := Go.Ground.data }, { on := 1, ground := Go.Ground.guard }], guard := some (1, true) }
abbrev o28_8 : Oper := { dst := some 170, op := Go.Op.convert 3 34 (Go.Operand.tmp 169), type := 34, pos := "outright.go:42", after := #[{ on := 7, ground := Go.Ground.data }, { on := 1, ground := Go.Ground.guard }], guard := some (1, true) }
abbrev o28_9 : Oper := { dst := some 171, op := Go.Op.binOp Go.BinOp.neq 34 (Go.Operand.tmp 167) (Go.Operand.tmp 170) 34, type := 4, pos := "outright.go:42", after := #[{ on := 5, ground := Go.Ground.data }, { on := 8, ground := Go.Ground.data }, { on := 1, ground := Go.Ground.guard }], guard := some (1, true) }
abbrev o28_10 : Oper := { dst := some 172, op := Go.Op.move (Go.Operand.tmp 171), type := 4, pos := "outright.go:42", after := #[{ on := 9, ground := Go.Ground.data }, { on := 1, ground := Go.Ground.chain }, { on := 1, ground := Go.Ground.guard }], guard := some (1, true) }
abbrev o28_11 : Oper := { dst := some 173, op := Go.Op.move (Go.Operand.tmp 16), type := 48, pos := "outright.go:42", after := #[{ on := 10, ground := Go.Ground.guard }], guard := some (10, false) }
abbrev o28_12 : Oper := { dst := some 174, op := Go.Op.indexAddr 48 (Go.Operand.tmp 173) (Go.Operand.const (Go.Value.int Go.IntKind.i64 0)), type := 0, pos := "outright.go:42", after := #[{ on := 11, ground := Go.Ground.data }, { on := 10, ground := Go.Ground.guard }], guard := some (10, false) }
abbrev o28_13 : Oper := { dst := some 175, op := Go.Op.fieldAddr 51 (Go.Operand.tmp 174) 1, type := 0, pos := "outright.go:42", after := #[{ on := 12, ground := Go.Ground.data }, { on := 10, ground := Go.Ground.guard }], guard := some (10, false) }
abbrev o28_14 : Oper := { dst := some 176, op := Go.Op.load 39 (Go.Operand.tmp 175), type := 39, pos := "outright.go:42", after := #[{ on := 13, ground := Go.Ground.data }, { on := 10, ground := Go.Ground.guard }], guard := some (10, false) }
abbrev o28_15 : Oper := { dst := some 177, op := Go.Op.convert 39 9 (Go.Operand.tmp 176), type := 9, pos := "outright.go:42", after := #[{ on := 14, ground := Go.Ground.data }, { on := 10, ground := Go.Ground.guard }], guard := some (10, false) }
abbrev o28_16 : Oper := { dst := some 178, op := Go.Op.move (Go.Operand.tmp 2), type := 31, pos := "outright.go:42", after := #[{ on := 10, ground := Go.Ground.guard }], guard := some (10, false) }
abbrev o28_17 : Oper := { dst := some 179, op := Go.Op.move (Go.Operand.tmp 13), type := 3, pos := "outright.go:42", after := #[{ on := 10, ground := Go.Ground.guard }], guard := some (10, false) }
abbrev o28_18 : Oper := { dst := some 180, op := Go.Op.indexAddr 31 (Go.Operand.tmp 178) (Go.Operand.tmp 179), type := 0, pos := "outright.go:42", after := #[{ on := 16, ground := Go.Ground.data }, { on := 17, ground := Go.Ground.data }, { on := 10, ground := Go.Ground.guard }], guard := some (10, false) }
abbrev o28_19 : Oper := { dst := some 181, op := Go.Op.load 9 (Go.Operand.tmp 180), type := 9, pos := "outright.go:42", after := #[{ on := 18, ground := Go.Ground.data }, { on := 10, ground := Go.Ground.guard }], guard := some (10, false) }
abbrev o28_20 : Oper := { dst := some 182, op := Go.Op.binOp Go.BinOp.neq 9 (Go.Operand.tmp 177) (Go.Operand.tmp 181) 9, type := 4, pos := "outright.go:42", after := #[{ on := 15, ground := Go.Ground.data }, { on := 19, ground := Go.Ground.data }, { on := 10, ground := Go.Ground.guard }], guard := some (10, false) }
abbrev o28_21 : Oper := { dst := some 183, op := Go.Op.pick (Go.Operand.tmp 172) (Go.Operand.const (Go.Value.bool true)) (Go.Operand.tmp 182), type := 4, pos := "outright.go:42", after := #[{ on := 10, ground := Go.Ground.data }, { on := 20, ground := Go.Ground.data }, { on := 1, ground := Go.Ground.guard }], guard := some (1, true) }
abbrev o28_22 : Oper := { dst := some 184, op := Go.Op.pick (Go.Operand.tmp 163) (Go.Operand.tmp 183) (Go.Operand.const (Go.Value.bool false)), type := 4, pos := "outright.go:42", after := #[{ on := 1, ground := Go.Ground.data }, { on := 21, ground := Go.Ground.data }], guard := none }
set_option maxRecDepth 100000 in
set_option maxHeartbeats 64000000 in
theorem once_go (A0 : Option Addr) (c0 n : Nat) (rs : List ByteArray) (A1 : Option Addr) (c1 m : Nat) (ns : List Int) (A2 : Option Addr) (c2 : Nat) (ps : List ByteArray) (w : World) (hR : Kd.C Kd.string w A0 n rs) (hN : Kd.C (Kd.int .u8) w A1 m ns) (hP : Kd.C Kd.string w A2 m ps) (hn30 : n ≤ 30) (hm200 : m ≤ 200) (hnum : ∀ k, k < m → 0 ≤ rd ns ((k : Nat) : Int) ∧ rd ns ((k : Nat) : Int) < 256) (hps : ∀ k, k < m → (ps.getD k ByteArray.empty).size ≤ 4000000) (hrs : ∀ k, k < n → (rs.getD k ByteArray.empty).size ≤ 4000000) :
    Calls Try.prog 5 #[.slice A0 n c0, .slice A1 m c1, .slice A2 m c2] w fun e w' => e = .returned (.bool true) ∧ Below w.heap.size w w' := by
  have d30 : decide ((n : Int) > 30) = false := decide_eq_false (by omega)
  have d31 : ¬ (30 : Int) < (n : Int) := by omega
  have d200 : decide ((m : Int) > 200) = false := decide_eq_false (by omega)
  have d201 : ¬ (200 : Int) < (m : Int) := by omega
  have HR := Aside0.mk hR
  have HN := Aside0.mk hN
  have HP := Aside0.mk hP
  have HN30 := Aside0.mk hn30
  have HM := Aside0.mk hm200
  have HNUM := Aside0.mk hnum
  have HPS := Aside0.mk hps
  have HRS0 := Aside0.mk hrs
  clear hR hN hP hn30 hm200 hnum hps hrs
  go_enter Try.func5, Try.ntmps5
  go_wp2_with fail
  clear d30 d31 d200 d201
  refine (gNew_calls 2 w (by decide) (by decide)).mono ?_
  rintro e w1 ⟨g, rfl, hG, hb⟩
  obtain ⟨B, hB⟩ : ∃ B, w.heap.size = B := ⟨_, rfl⟩
  rw [hB] at hG hb
  have HG0 : Aside0 (GAt w1 g B 2 ((0 : Nat) : Int) (Qs rs 0) []) := ⟨hG⟩
  have HB0 := Aside0.mk hb
  clear hG hb
  go_wp2_with fail
  go_loopw [9] (fun i wr => ∃ j : Nat, j ≤ n ∧ i = .int .i64 j ∧ (∀ k, k < j → (rs.getD k ByteArray.empty).size ≤ 1000) ∧ Aside0 (GAt wr g B 2 (j : Int) (Qs rs j) []) ∧ Aside0 (Below B w wr)) (fun i _ => n - (intOf i).toNat)
  case atStart => exact ⟨0, Nat.zero_le _, rfl, fun k hk => absurd hk (Nat.not_lt_zero k), HG0, HB0⟩
  case round =>
    obtain ⟨j, hj, rfl, hsz, HGj, HBj⟩ := hrel
    clear HG0 HB0
    by_cases hlt : j < n
    · have hlt1 : (j : Int) < (n : Int) := by omega
      have ew : IntKind.i64.wrap ((j : Int) + 1) = (j : Int) + 1 := by have := HN30.out; rw [IntKind.wrap_i64]; omega
      have eu : IntKind.u64.wrap ((j : Int) + 1) = (j : Int) + 1 := by have := HN30.out; rw [IntKind.wrap_u64]; omega
      obtain ⟨ad, e1, hx⟩ := Kd.at_string (Kd.C_below HR.out (hB ▸ HBj.out)) (j : Int) (by omega) (by omega)
      cases e1
      have XR : Aside0 (∀ W : World, Below B w W → W.cell? (ad.add j) = some (.string (rs.getD j ByteArray.empty))) := ⟨fun W hW => by
        obtain ⟨ad, e, h⟩ := Kd.at_string (Kd.C_below HR.out (hB ▸ hW)) (j : Int) (by omega) (by omega)
        cases e
        simpa only [Int.toNat_natCast, rdOf] using h⟩
      have hx' := XR.out wr HBj.out
      clear hx
      have hqs := Qs_succ rs j
      have h400 := HRS0.out j hlt
      obtain ⟨s, hs⟩ : ∃ s, rs.getD j ByteArray.empty = s := ⟨_, rfl⟩
      have HS := Aside0.mk hs
      rw [hs] at hx' XR hqs h400
      have kcs : ∀ W : World, (convert 9 39 (.string s)).run Try.prog W = .ok (.slice (some ⟨W.heap.size, 0, none⟩) s.size (grownCap W s.size 0 5)) (Lib.bytesWorld W 5 s) := fun W => Lib.run_convert_string_bytes (P := Try.prog) W 9 39 5 s Try.underlying9 Try.underlying39 Try.underlying5
      have HQS := Aside0.mk hqs
      have HSZ := Aside0.mk hsz
      clear hs hqs hsz
      by_cases hlong : s.size ≤ 1000
      · have h1000 : ¬ (1000 : Int) < (s.size : Int) := by omega
        have d1000 : decide ((s.size : Int) > 1000) = false := decide_eq_false (by omega)
        go_wp2_with fail
        refine (Ask_str g B 2 (j : Int) (Qs rs j) [] _ s wr HGj.out hlong (by rw [Qs_length]; have := HN30.out; omega) (by omega) (by have := HN30.out; omega)).mono ?_
        rintro e w2 ⟨rfl, hG, hb⟩
        have HB2 := Aside0.mk (HBj.out.trans hb)
        have HG2 : Aside0 (GAt w2 g B 2 ((j + 1 : Nat) : Int) (Qs rs (j + 1)) []) := ⟨by rw [HQS.out]; exact hG⟩
        have hx2 := XR.out w2 HB2.out
        clear hG hb hx' HGj HBj XR
        go_wp2_with fail
        exact ⟨⟨j + 1, by omega, by simp, fun k hk => by
          rcases Nat.lt_or_ge k j with h | h
          · exact HSZ.out k h
          · obtain rfl : k = j := by omega
            rw [HS.out]; exact hlong, HG2, HB2⟩, by simp [intOf]; omega⟩
      · have h1000 : (1000 : Int) < (s.size : Int) := by omega
        have d1000 : decide ((s.size : Int) > 1000) = true := decide_eq_true (by omega)
        have hb0 : Below wr.heap.size wr (Lib.bytesWorld wr 5 s) := str_below wr 5 s
        go_wp2_with fail
        refine (Ask_long g B 2 (j : Int) (Qs rs j) [] _ _ s.size _ (HGj.out.below hb0) (by rw [Qs_length]; have := HN30.out; omega) (by omega)).mono ?_
        rintro e w2 ⟨rfl, rfl⟩
        have HB2 := Aside0.mk (below_then HBj.out (hB ▸ HBj.out.size) hb0)
        have hx2 := XR.out _ HB2.out
        clear hb0
        go_wp2_with fail
        refine (asks_true _).mono ?_
        rintro e w3 ⟨rfl, hb⟩
        have HB3 := Aside0.mk (below_then HB2.out (hB ▸ HB2.out.size) hb)
        clear hb
        go_wp2_with fail
        go_ret
        exact ⟨rfl, by rw [hB]; exact HB3.out⟩
    · obtain rfl : n = j := by omega
      have HRS := Aside0.mk hsz
      obtain ⟨vb0, hv0⟩ := GAtP.v (GAtP.mono HGj.out.bound (P' := fun x => some x ≠ (Value.slice none 0 0).ownBlock) (fun x _ => by simp [Value.ownBlock]))
      have HV0 : Aside0 (GV wr g B (fun x => some x ≠ (Value.slice none 0 0).ownBlock) 2 (n : Int) ((Qs rs n).drop 0) [] vb0) := ⟨hv0⟩
      have HBj0 := HBj
      clear hv0 hsz HGj HBj hlt
      go_wp2_with fail
      go_loopw [12, 13] (fun a i wr => ∃ k done : Nat, k ≤ m ∧ done ≤ n ∧ i = .int .i64 k ∧ ∃ (vb : Value) (rows : List (List Value)), rows.length = done ∧ Aside0 (GV wr g B (fun x => some x ≠ a.ownBlock) 2 (n : Int) ((Qs rs n).drop done) [] vb) ∧ Aside0 (Kd.R (Kd.raw 2) 51 wr B (fun x => x ≠ g ∧ some x ≠ vb.ownBlock) a rows) ∧ Aside0 (Below B w wr)) (fun _ i _ => m - (intOf i).toNat)
      case atStart => exact ⟨0, 0, Nat.zero_le _, Nat.zero_le _, rfl, vb0, [], rfl, HV0, ⟨Kd.R_nil _ _ _ _ _⟩, HBj0⟩
      case round =>
        obtain ⟨k, done, hk, hdn, rfl, vb, rows, hrl, HGj, HA, HBj⟩ := hrel
        clear HV0 HBj0
        by_cases hk1 : k < m
        · by_cases hdl : done < n
          · by_cases his : rd ns ((k : Nat) : Int) = (done : Int) + 1
            · have hnk := HNUM.out k hk1
              obtain ⟨adn, en, hxn⟩ := Kd.at_int (Kd.C_below HN.out (hB ▸ HBj.out)) (k : Int) (by omega) (by omega)
              cases en
              obtain ⟨adp, ep, hxp⟩ := Kd.at_string (Kd.C_below HP.out (hB ▸ HBj.out)) (k : Int) (by omega) (by omega)
              cases ep
              simp only [Int.toNat_natCast] at hxn hxp
              clear hxn hxp
              have XN : Aside0 (∀ W : World, Below B w W → W.cell? (adn.add k) = some (.int .u8 (rd ns (k : Int)))) := ⟨fun W hW => by
                obtain ⟨ad, e, h⟩ := Kd.at_int (Kd.C_below HN.out (hB ▸ hW)) (k : Int) (by omega) (by omega)
                cases e
                simpa only [Int.toNat_natCast] using h⟩
              have XP : Aside0 (∀ W : World, Below B w W → W.cell? (adp.add k) = some (.string (ps.getD k ByteArray.empty))) := ⟨fun W hW => by
                obtain ⟨ad, e, h⟩ := Kd.at_string (Kd.C_below HP.out (hB ▸ hW)) (k : Int) (by omega) (by omega)
                cases e
                simpa only [Int.toNat_natCast, rdOf] using h⟩
              have hsp := HPS.out k hk1
              obtain ⟨num, hnum⟩ : ∃ x, rd ns (k : Int) = x := ⟨_, rfl⟩
              obtain ⟨rep, hrep⟩ : ∃ x, ps.getD k ByteArray.empty = x := ⟨_, rfl⟩
              rw [hnum] at XN hnk his
              rw [hrep] at XP hsp
              have ewu : IntKind.u64.wrap num = num := by rw [IntKind.wrap_u64]; omega
              have ewi : IntKind.i64.wrap num = num := by rw [IntKind.wrap_i64]; omega
              have ewd : IntKind.i64.wrap ((done : Int) + 1) = (done : Int) + 1 := by have := HN30.out; rw [IntKind.wrap_i64]; omega
              have ewv : IntKind.u64.wrap ((done : Int) + 1) = (done : Int) + 1 := by have := HN30.out; rw [IntKind.wrap_u64]; omega
              have ewk : IntKind.i64.wrap ((k : Int) + 1) = (k : Int) + 1 := by have := HM.out; rw [IntKind.wrap_i64]; omega
              have hk3 : (k : Int) < (m : Int) := by omega
              have GL := gGet_lett2 num (bytesOf rep) hnk.1 (by omega) (by rw [bytesOf_length]; exact hsp)
              have GLA := Aside0.mk GL
              have HNK := Aside0.mk hnk
              have HSP := Aside0.mk hsp
              have HIS := Aside0.mk his
              have kcs : ∀ (s : ByteArray) (W : World), (convert 9 39 (.string s)).run Try.prog W = .ok (.slice (some ⟨W.heap.size, 0, none⟩) s.size (grownCap W s.size 0 5)) (Lib.bytesWorld W 5 s) := fun s W => Lib.run_convert_string_bytes (P := Try.prog) W 9 39 5 s Try.underlying9 Try.underlying39 Try.underlying5
              obtain ⟨Aa, ca, ea⟩ := Kd.R_slice HA.out
              subst ea
              rw [hrl] at HA HGj ⊢
              have HRL := Aside0.mk hrl
              clear hnum hrep hnk hsp GL hrl his
              have hd1 : (done : Int) < (n : Int) := by omega
              have hQd := Qs_drop rs n done hdl
              obtain ⟨ad, e1, hx0⟩ := Kd.at_string (Kd.C_below HR.out (hB ▸ HBj.out)) (done : Int) (by omega) (by omega)
              cases e1
              clear hx0
              have XR : Aside0 (∀ W : World, Below B w W → W.cell? (ad.add done) = some (.string (rs.getD done ByteArray.empty))) := ⟨fun W hW => by
                obtain ⟨ad, e, h⟩ := Kd.at_string (Kd.C_below HR.out (hB ▸ hW)) (done : Int) (by omega) (by omega)
                cases e
                simpa only [Int.toNat_natCast, rdOf] using h⟩
              have hss := HRS.out done hdl
              obtain ⟨sd, hsd⟩ : ∃ x, rs.getD done ByteArray.empty = x := ⟨_, rfl⟩
              rw [hsd] at hQd XR hss
              have HSS := Aside0.mk hss
              have HQD := Aside0.mk hQd
              clear hsd hss hQd
              go_wp2_with fail
              refine (Tick_calls g B 2 n _ [] wr HGj.out.at (Qs_req rs n done HN30.out HRS.out)).mono ?_
              rintro e w1 ⟨ht, hb⟩
              rw [HQD.out] at ht
              obtain ⟨h, Al, cl, rfl, hbx, hhl, hV⟩ := ht
              have HX1 := Aside0.mk hbx
              have HV1 := Aside0.mk hV
              have hlenl : (lett ((done : Int) + 1) (bytesOf sd)).length = 12 + sd.size := by rw [lett_length, bytesOf_length]
              rw [hlenl] at HX1
              have HLL := Aside0.mk hlenl
              obtain ⟨SL, hSL⟩ : ∃ s, strOfNums (lett ((done : Int) + 1) (bytesOf sd)) = s := ⟨_, rfl⟩
              have HSL := Aside0.mk hSL
              clear hbx hhl hV hlenl hSL
              have HB1 := Aside0.mk (below_then HBj.out (hB ▸ HBj.out.size) hb)
              have HG1 := Aside0.mk (HGj.out.below hb)
              have HA1 := Aside0.mk (Kd.R_below HA.out hb)
              clear hb HBj HGj HA
              go_wp2_with fail
              have K0 := Aside0.mk (below_drew (Below.refl w1.heap.size w1))
              have Sall : Aside0 (∀ W : World, Below w1.heap.size w1 W → W.cell? ⟨h, 2, none⟩ = some (.slice Al (12 + sd.size) cl) ∧ (convert 39 9 (.slice Al (12 + sd.size) cl)).run Try.prog W = .ok (.string SL) W ∧ W.cell? (ad.add done) = some (.string sd)) := ⟨fun W hW => by
                have h2 := str_own (Kd.R_below HV1.out hW)
                rw [HLL.out, HSL.out] at h2
                exact ⟨((HX1.out.below hW).cell 2).trans rfl, h2, XR.out W (below_then HB1.out (hB ▸ HB1.out.size) hW)⟩⟩
              have K1 := Aside0.mk (below_step K0.out (str_below w1.drew 5 sd))
              have CS := Aside0.mk (C_str w1.drew 5 sd (by have := HSS.out; omega))
              have kput : Aside0 (∀ c : Nat, Calls Try.prog 17 #[.int .u64 ((done : Int) + 1), .slice (some ⟨w1.drew.heap.size, 0, none⟩) sd.size c] (Lib.bytesWorld w1.drew 5 sd) fun e w' => ∃ v0 : Value, e = .returned v0 ∧ Kd.R (Kd.int .u8) 5 w' (Lib.bytesWorld w1.drew 5 sd).heap.size (fun _ => True) v0 (lett ((done : Int) + 1) (bytesOf sd)) ∧ Below (Lib.bytesWorld w1.drew 5 sd).heap.size (Lib.bytesWorld w1.drew 5 sd) w') := ⟨fun c => by
                have := gPut_calls ((done : Int) + 1) _ c (bytesOf sd) _ CS.out (by rw [bytesOf_length]; have := HSS.out; omega) (by omega) (by have := HN30.out; omega)
                rw [bytesOf_length] at this
                exact this⟩
              refine wp_region_noPanic ?_
              refine wp_region_held_drew (S := fun W : World => W.cell? ⟨h, 2, none⟩ = some (.slice Al (12 + sd.size) cl) ∧ (convert 39 9 (.slice Al (12 + sd.size) cl)).run Try.prog W = .ok (.string SL) W ∧ W.cell? (ad.add done) = some (.string sd)) (by kernel_rfl) ?_ (fun hHeld => ?_)
              · exact Sall.out _ K0.out
              refine tk_ (i := 0) (oi := o20_0) (v := ?vter0) (Or.inl ⟨by rfl, ?hyter0⟩) hHeld ?restter0
              case hyter0 => (intro w hSw; (try dsimp only at hSw); unfold o20_0; go_simp <;> with_reducible rfl)
              try simp only [o20_0, Act.put, p1_, p2_, p3_]
              refine tk_ (i := 1) (oi := o20_1) (v := ?vter1) (Or.inl ⟨by rfl, ?hyter1⟩) hHeld ?restter1
              case hyter1 => (intro w hSw; (try dsimp only at hSw); unfold o20_1; go_simp <;> with_reducible rfl)
              try simp only [o20_1, Act.put, p1_, p2_, p3_]
              refine tk_ (i := 2) (oi := o20_2) (v := ?vter2) (Or.inl ⟨by rfl, ?hyter2⟩) hHeld ?restter2
              case hyter2 => (intro w hSw; (try dsimp only at hSw); unfold o20_2; go_simp <;> with_reducible rfl)
              try simp only [o20_2, Act.put, p1_, p2_, p3_]
              refine tk_ (i := 3) (oi := o20_3) (v := ?vter3) (Or.inl ⟨by rfl, ?hyter3⟩) hHeld ?restter3
              case hyter3 => (intro w hSw; (try dsimp only at hSw); unfold o20_3; go_simp <;> with_reducible rfl)
              try simp only [o20_3, Act.put, p1_, p2_, p3_]
              refine tk_ (i := 4) (oi := o20_4) (v := ?vter4) (Or.inl ⟨by rfl, ?hyter4⟩) hHeld ?restter4
              case hyter4 => (intro w hSw; (try dsimp only at hSw); unfold o20_4; go_simp <;> with_reducible rfl)
              try simp only [o20_4, Act.put, p1_, p2_, p3_]
              refine tk_ (i := 5) (oi := o20_5) (v := ?vter5) (Or.inl ⟨by rfl, ?hyter5⟩) hHeld ?restter5
              case hyter5 => (intro w hSw; (try dsimp only at hSw); unfold o20_5; go_simp <;> with_reducible rfl)
              try simp only [o20_5, Act.put, p1_, p2_, p3_]
              refine tk_ (i := 6) (oi := o20_6) (v := ?vter6) (Or.inl ⟨by rfl, ?hyter6⟩) hHeld ?restter6
              case hyter6 => (intro w hSw; (try dsimp only at hSw); unfold o20_6; go_simp <;> with_reducible rfl)
              try simp only [o20_6, Act.put, p1_, p2_, p3_]
              refine tk_ (i := 7) (oi := o20_7) (v := ?vter7) (Or.inl ⟨by rfl, ?hyter7⟩) hHeld ?restter7
              case hyter7 => (intro w hSw; (try dsimp only at hSw); unfold o20_7; go_simp <;> with_reducible rfl)
              try simp only [o20_7, Act.put, p1_, p2_, p3_]
              refine tk_ (i := 8) (oi := o20_8) (v := ?vter8) (Or.inl ⟨by rfl, ?hyter8⟩) hHeld ?restter8
              case hyter8 => (intro w hSw; (try dsimp only at hSw); unfold o20_8; go_simp <;> with_reducible rfl)
              try simp only [o20_8, Act.put, p1_, p2_, p3_]
              refine tk_ (i := 9) (oi := o20_9) (v := ?vter9) (Or.inl ⟨by rfl, ?hyter9⟩) hHeld ?restter9
              case hyter9 => (intro w hSw; (try dsimp only at hSw); unfold o20_9; go_simp <;> with_reducible rfl)
              try simp only [o20_9, Act.put, p1_, p2_, p3_]
              refine tk_ (i := 10) (oi := o20_10) (v := ?vter10) (Or.inl ⟨by rfl, ?hyter10⟩) hHeld ?restter10
              case hyter10 => (intro w hSw; (try dsimp only at hSw); unfold o20_10; go_simp <;> with_reducible rfl)
              try simp only [o20_10, Act.put, p1_, p2_, p3_]
              refine tk_ (i := 11) (oi := o20_11) (v := ?vter11) (Or.inl ⟨by rfl, ?hyter11⟩) hHeld ?restter11
              case hyter11 => (intro w hSw; (try dsimp only at hSw); unfold o20_11; go_simp <;> with_reducible rfl)
              try simp only [o20_11, Act.put, p1_, p2_, p3_]
              refine tk_ (i := 12) (oi := o20_12) (v := ?vter12) (Or.inl ⟨by rfl, ?hyter12⟩) hHeld ?restter12
              case hyter12 => (intro w hSw; (try dsimp only at hSw); unfold o20_12; go_simp <;> with_reducible rfl)
              try simp only [o20_12, Act.put, p1_, p2_, p3_]
              refine tk_ (i := 13) (oi := o20_13) (v := ?vter13) (Or.inl ⟨by rfl, ?hyter13⟩) hHeld ?restter13
              case hyter13 => (intro w hSw; (try dsimp only at hSw); unfold o20_13; go_simp <;> with_reducible rfl)
              try simp only [o20_13, Act.put, p1_, p2_, p3_]
              refine tk_ (i := 14) (oi := o20_14) (v := ?vter14) (Or.inl ⟨by rfl, ?hyter14⟩) hHeld ?restter14
              case hyter14 => (intro w hSw; (try dsimp only at hSw); unfold o20_14; go_simp <;> with_reducible rfl)
              try simp only [o20_14, Act.put, p1_, p2_, p3_]
              refine tk_ (i := 15) (oi := o20_15) (v := ?vter15) (Or.inl ⟨by rfl, ?hyter15⟩) hHeld ?restter15
              case hyter15 => (intro w hSw; (try dsimp only at hSw); unfold o20_15; go_simp <;> with_reducible rfl)
              try simp only [o20_15, Act.put, p1_, p2_, p3_]
              refine tk_ (i := 16) (oi := o20_16) (v := ?vter16) (Or.inl ⟨by rfl, ?hyter16⟩) hHeld ?restter16
              case hyter16 => (intro w hSw; (try dsimp only at hSw); unfold o20_16; go_simp <;> with_reducible rfl)
              try simp only [o20_16, Act.put, p1_, p2_, p3_]
              refine tk_ (i := 17) (oi := o20_17) (v := ?vter17) (Or.inl ⟨by rfl, ?hyter17⟩) hHeld ?restter17
              case hyter17 => (intro w hSw; (try dsimp only at hSw); unfold o20_17; go_simp <;> with_reducible rfl)
              try simp only [o20_17, Act.put, p1_, p2_, p3_]
              refine tk_ (i := 18) (oi := o20_18) (v := ?vter18) (Or.inl ⟨by rfl, ?hyter18⟩) hHeld ?restter18
              case hyter18 => (intro w hSw; (try dsimp only at hSw); unfold o20_18; go_simp <;> with_reducible rfl)
              try simp only [o20_18, Act.put, p1_, p2_, p3_]
              refine tk_ (i := 19) (oi := o20_19) (v := ?vter19) (Or.inl ⟨by rfl, ?hyter19⟩) hHeld ?restter19
              case hyter19 => (intro w hSw; (try dsimp only at hSw); unfold o20_19; go_simp <;> with_reducible rfl)
              try simp only [o20_19, Act.put, p1_, p2_, p3_]
              refine tk_ (i := 20) (oi := o20_20) (v := ?vter20) (Or.inl ⟨by rfl, ?hyter20⟩) hHeld ?restter20
              case hyter20 => (intro w hSw; (try dsimp only at hSw); unfold o20_20; go_simp <;> with_reducible rfl)
              try simp only [o20_20, Act.put, p1_, p2_, p3_]
              refine tk_ (i := 21) (oi := o20_21) (v := ?vter21) (Or.inl ⟨by rfl, ?hyter21⟩) hHeld ?restter21
              case hyter21 => (intro w hSw; (try dsimp only at hSw); unfold o20_21; go_simp <;> with_reducible rfl)
              try simp only [o20_21, Act.put, p1_, p2_, p3_]
              refine tk_ (i := 22) (oi := o20_22) (v := ?vter22) (Or.inl ⟨by rfl, ?hyter22⟩) hHeld ?restter22
              case hyter22 => (intro w hSw; (try dsimp only at hSw); unfold o20_22; go_simp <;> with_reducible rfl)
              try simp only [o20_22, Act.put, p1_, p2_, p3_]
              refine tk_ (i := 23) (oi := o20_23) (v := ?vter23) (Or.inl ⟨by rfl, ?hyter23⟩) hHeld ?restter23
              case hyter23 => (intro w hSw; (try dsimp only at hSw); unfold o20_23; go_simp <;> with_reducible rfl)
              try simp only [o20_23, Act.put, p1_, p2_, p3_]
              refine tk_ (i := 24) (oi := o20_24) (v := ?vter24) (Or.inl ⟨by rfl, ?hyter24⟩) hHeld ?restter24
              case hyter24 => (intro w hSw; (try dsimp only at hSw); unfold o20_24; go_simp <;> with_reducible rfl)
              try simp only [o20_24, Act.put, p1_, p2_, p3_]
              refine wpAnyH_ready (rs := [25]) (by kernel_rfl) (by simp) ?_
              refine AllReadyH.cons (o := o20_25) rfl (fun K hK => ?_) AllReadyH.nil
              unfold o20_25; go_simp
              refine hK.out _ _ (Sall.out _ K1.out) (fun hHeld' => ?_)
              clear hK K hHeld
              have hHeld := hHeld'
              clear hHeld'
              try simp only [Act.put, p1_, p2_, p3_]
              refine wpAnyH_ready (rs := [26]) (by kernel_rfl) (by simp) ?_
              refine AllReadyH.cons (o := o20_26) rfl (fun K hK => ?_) AllReadyH.nil
              unfold o20_26; go_simp
              go_wp2_with (first | (go_at_call 17; refine (kput.out _).mono ?_; rintro e w2 ⟨v5, rfl, hV, hb⟩; (have K2 := Aside0.mk (below_step K1.out hb)); (have cv := str_own hV); rw [HSL.out] at cv; clear hV hb))
              refine hK.out _ _ (Sall.out _ K2.out) (fun hHeld' => ?_)
              clear hK K hHeld
              have hHeld := hHeld'
              clear hHeld'
              try simp only [Act.put, p1_, p2_, p3_]
              refine wpAnyH_ready (rs := [27]) (by kernel_rfl) (by simp) ?_
              refine AllReadyH.cons (o := o20_27) rfl (fun K hK => ?_) AllReadyH.nil
              unfold o20_27; go_simp
              refine hK.out _ _ (hHeld) (fun hHeld' => ?_)
              clear hK K hHeld
              have hHeld := hHeld'
              clear hHeld'
              try simp only [Act.put, p1_, p2_, p3_]
              refine tk_ (i := 28) (oi := o20_28) (v := ?vter28) (Or.inl ⟨by rfl, ?hyter28⟩) hHeld ?restter28
              case hyter28 => (intro w hSw; (try dsimp only at hSw); unfold o20_28; go_simp <;> with_reducible rfl)
              try simp only [o20_28, Act.put, p1_, p2_, p3_]
              refine tk_ (i := 29) (oi := o20_29) (v := ?vter29) (Or.inl ⟨by rfl, ?hyter29⟩) hHeld ?restter29
              case hyter29 => (intro w hSw; (try dsimp only at hSw); unfold o20_29; go_simp <;> with_reducible rfl)
              try simp only [o20_29, Act.put, p1_, p2_, p3_]
              refine tk_ (i := 30) (oi := o20_30) (v := ?vter30) (Or.inl ⟨by rfl, ?hyter30⟩) hHeld ?restter30
              case hyter30 => (intro w hSw; (try dsimp only at hSw); unfold o20_30; go_simp <;> with_reducible rfl)
              try simp only [o20_30, Act.put, p1_, p2_, p3_]
              refine wpAnyH_done (by kernel_rfl) ?_ _
              refine NoPanic.normal ?_
              have HB2 := Aside0.mk (below_then HB1.out (hB ▸ HB1.out.size) K2.out)
              have HG2 := Aside0.mk (HG1.out.below K2.out)
              have HA2 := Aside0.mk (Kd.R_below HA1.out K2.out)
              clear Sall K0 K1 K2 CS kput hHeld cv HB1 HG1 HA1 HX1 HV1 HSL HLL
              go_wp2_with fail
              have K0 := Aside0.mk (below_drew (Below.refl w2.heap.size w2))
              have Sall : Aside0 (∀ W : World, Below w2.heap.size w2 W → W.cell? (adn.add k) = some (.int .u8 num) ∧ W.cell? (adp.add k) = some (.string rep)) := ⟨fun W hW => ⟨XN.out W (below_then HB2.out (hB ▸ HB2.out.size) hW), XP.out W (below_then HB2.out (hB ▸ HB2.out.size) hW)⟩⟩
              have K1 := Aside0.mk (below_step K0.out (str_below w2.drew 5 rep))
              have CS := Aside0.mk (C_str w2.drew 5 rep (by have := HSP.out; omega))
              have kput : Aside0 (∀ c : Nat, Calls Try.prog 17 #[.int .u64 num, .slice (some ⟨w2.drew.heap.size, 0, none⟩) rep.size c] (Lib.bytesWorld w2.drew 5 rep) fun e w' => ∃ v0 : Value, e = .returned v0 ∧ Kd.R (Kd.int .u8) 5 w' (Lib.bytesWorld w2.drew 5 rep).heap.size (fun _ => True) v0 (lett num (bytesOf rep)) ∧ Below (Lib.bytesWorld w2.drew 5 rep).heap.size (Lib.bytesWorld w2.drew 5 rep) w') := ⟨fun c => by
                have := gPut_calls num _ c (bytesOf rep) _ CS.out (by rw [bytesOf_length]; have := HSP.out; omega) HNK.out.1 (by have := HNK.out.2; omega)
                rw [bytesOf_length] at this
                exact this⟩
              refine wp_region_noPanic ?_
              refine wp_region_held_drew (S := fun W : World => W.cell? (adn.add k) = some (.int .u8 num) ∧ W.cell? (adp.add k) = some (.string rep)) (by kernel_rfl) ?_ (fun hHeld => ?_)
              · exact Sall.out _ K0.out
              refine tk_ (i := 0) (oi := o22_0) (v := ?vtes0) (Or.inl ⟨by rfl, ?hytes0⟩) hHeld ?resttes0
              case hytes0 => (intro w hSw; (try dsimp only at hSw); unfold o22_0; go_simp <;> with_reducible rfl)
              try simp only [o22_0, Act.put, p1_, p2_, p3_]
              refine tk_ (i := 1) (oi := o22_1) (v := ?vtes1) (Or.inl ⟨by rfl, ?hytes1⟩) hHeld ?resttes1
              case hytes1 => (intro w hSw; (try dsimp only at hSw); unfold o22_1; go_simp <;> with_reducible rfl)
              try simp only [o22_1, Act.put, p1_, p2_, p3_]
              refine tk_ (i := 2) (oi := o22_2) (v := ?vtes2) (Or.inl ⟨by rfl, ?hytes2⟩) hHeld ?resttes2
              case hytes2 => (intro w hSw; (try dsimp only at hSw); unfold o22_2; go_simp <;> with_reducible rfl)
              try simp only [o22_2, Act.put, p1_, p2_, p3_]
              refine tk_ (i := 3) (oi := o22_3) (v := ?vtes3) (Or.inl ⟨by rfl, ?hytes3⟩) hHeld ?resttes3
              case hytes3 => (intro w hSw; (try dsimp only at hSw); unfold o22_3; go_simp <;> with_reducible rfl)
              try simp only [o22_3, Act.put, p1_, p2_, p3_]
              refine tk_ (i := 4) (oi := o22_4) (v := ?vtes4) (Or.inl ⟨by rfl, ?hytes4⟩) hHeld ?resttes4
              case hytes4 => (intro w hSw; (try dsimp only at hSw); unfold o22_4; go_simp <;> with_reducible rfl)
              try simp only [o22_4, Act.put, p1_, p2_, p3_]
              refine tk_ (i := 5) (oi := o22_5) (v := ?vtes5) (Or.inl ⟨by rfl, ?hytes5⟩) hHeld ?resttes5
              case hytes5 => (intro w hSw; (try dsimp only at hSw); unfold o22_5; go_simp <;> with_reducible rfl)
              try simp only [o22_5, Act.put, p1_, p2_, p3_]
              refine tk_ (i := 6) (oi := o22_6) (v := ?vtes6) (Or.inl ⟨by rfl, ?hytes6⟩) hHeld ?resttes6
              case hytes6 => (intro w hSw; (try dsimp only at hSw); unfold o22_6; go_simp <;> with_reducible rfl)
              try simp only [o22_6, Act.put, p1_, p2_, p3_]
              refine tk_ (i := 7) (oi := o22_7) (v := ?vtes7) (Or.inl ⟨by rfl, ?hytes7⟩) hHeld ?resttes7
              case hytes7 => (intro w hSw; (try dsimp only at hSw); unfold o22_7; go_simp <;> with_reducible rfl)
              try simp only [o22_7, Act.put, p1_, p2_, p3_]
              refine tk_ (i := 8) (oi := o22_8) (v := ?vtes8) (Or.inl ⟨by rfl, ?hytes8⟩) hHeld ?resttes8
              case hytes8 => (intro w hSw; (try dsimp only at hSw); unfold o22_8; go_simp <;> with_reducible rfl)
              try simp only [o22_8, Act.put, p1_, p2_, p3_]
              refine tk_ (i := 9) (oi := o22_9) (v := ?vtes9) (Or.inl ⟨by rfl, ?hytes9⟩) hHeld ?resttes9
              case hytes9 => (intro w hSw; (try dsimp only at hSw); unfold o22_9; go_simp <;> with_reducible rfl)
              try simp only [o22_9, Act.put, p1_, p2_, p3_]
              refine wpAnyH_ready (rs := [10]) (by kernel_rfl) (by simp) ?_
              refine AllReadyH.cons (o := o22_10) rfl (fun K hK => ?_) AllReadyH.nil
              unfold o22_10; go_simp
              refine hK.out _ _ (Sall.out _ K1.out) (fun hHeld' => ?_)
              clear hK K hHeld
              have hHeld := hHeld'
              clear hHeld'
              try simp only [Act.put, p1_, p2_, p3_]
              refine wpAnyH_ready (rs := [11]) (by kernel_rfl) (by simp) ?_
              refine AllReadyH.cons (o := o22_11) rfl (fun K hK => ?_) AllReadyH.nil
              unfold o22_11; go_simp
              go_wp2_with (first | (go_at_call 17; refine (kput.out _).mono ?_; rintro e w3 ⟨v5, rfl, hV, hb⟩; (have K2 := Aside0.mk (below_step K1.out hb)); (obtain ⟨A5, c5, ev⟩ := Kd.R_slice hV); subst ev; (have C5 := Aside0.mk (Kd.R_reads' hV).2.2); clear hV hb))
              refine hK.out _ _ (Sall.out _ K2.out) (fun hHeld' => ?_)
              clear hK K hHeld
              have hHeld := hHeld'
              clear hHeld'
              try simp only [Act.put, p1_, p2_, p3_]
              refine wpAnyH_ready (rs := [12]) (by kernel_rfl) (by simp) ?_
              refine AllReadyH.cons (o := o22_12) rfl (fun K hK => ?_) AllReadyH.nil
              unfold o22_12; go_simp
              go_wp2_with (first | (go_at_call 16; refine (HearV g B 2 n _ [] A5 c5 _ w3 vb _ (fun x hx => own_old (Kd.R_typed HA2.out) x (Nat.le_trans K2.out.size hx)) (HG2.out.below K2.out) C5.out (lett_byte _ _ (bytesOf_bytes rep)) (by rw [lett_length, bytesOf_length]; have := HSP.out; omega) (by rw [List.length_drop, Qs_length]; have := HN30.out; omega) (by simp)).mono ?_; rintro e w4 ⟨rfl, ⟨vb4, hG⟩, hK, hb⟩; (have HK4 := Aside0.mk hK); (have HG4 := Aside0.mk hG); (have HB4 := Aside0.mk ((below_then HB2.out (hB ▸ HB2.out.size) K2.out).trans hb)); clear hG hK hb))
              refine hK.out _ _ (⟨XN.out _ HB4.out, XP.out _ HB4.out⟩) (fun hHeld' => ?_)
              clear hK K hHeld
              have hHeld := hHeld'
              clear hHeld'
              try simp only [Act.put, p1_, p2_, p3_]
              refine wpAnyH_done (by kernel_rfl) ?_ _
              refine NoPanic.normal ?_
              have hhear : hear (gGet (lett num (bytesOf rep))) ((Qs rs n).drop done) [] = ((Qs rs n).drop (done + 1), [(num, bytesOf rep)]) := by
                rw [GLA.out]
                rw [HQD.out, hear_take _ _ _ _ (by have := HIS.out; dsimp only; omega)]
                rfl
              have HG4' : Aside0 (GV w4 g B (fun x => some x ≠ (Value.slice Aa done ca).ownBlock) 2 n ((Qs rs n).drop (done + 1)) [(num, bytesOf rep)] vb4) := ⟨by
                have := HG4.out
                rw [hhear] at this
                exact this⟩
              have HA4 : Aside0 (Kd.R (Kd.raw 2) 51 w4 B (fun x => x ≠ g) (.slice Aa done ca) rows) := ⟨Kd.R_mono (Kd.R_step (Kd.R_below HA2.out K2.out) (fun x hx hlt => HK4.out.2 x hlt hx.1 hx.2)) (fun x hx => hx.1)⟩
              clear Sall K0 K1 K2 CS kput hHeld C5 HK4 HG4 HB2 HG2 HA2 hhear GLA
              go_wp2_with fail
              refine (AnswersV g B 2 n _ _ w4 vb4 _ HG4'.out).mono ?_
              rintro e w5 ⟨vx, rfl, hN5, hG5, hK5, hb⟩
              have HB5 := Aside0.mk (HB4.out.trans hb)
              have HA5 := Aside0.mk (Kd.R_step HA4.out (fun x hx hlt => hK5.2 x hlt hx (by simp)))
              have HG5 := Aside0.mk hG5
              have HN5 := Aside0.mk hN5
              clear hN5 hG5 hK5 hb HG4' HA4 HB4
              obtain ⟨gx, cx, ev, hgx1, hgx2, _⟩ := Kd.N_form HN5.out (by simp)
              subst ev
              clear hgx1 hgx2
              have HN5' : Aside0 (Kd.N DQ 51 w5 B (fun x => some x ≠ (Value.slice Aa done ca).ownBlock ∧ x ≠ g) (.slice (some ⟨gx, 0, none⟩) 1 cx) [(num, bytesOf rep)]) := ⟨HN5.out⟩
              obtain ⟨rowsx, hrx, hRX⟩ : ∃ rowsx, rowsx.length = 1 ∧ Kd.R (Kd.raw 2) 51 w5 B (fun x => some x = (Value.slice (some ⟨gx, 0, none⟩) 1 cx).ownBlock) (.slice (some ⟨gx, 0, none⟩) 1 cx) rowsx := by
                obtain ⟨_, rows', hl, hR, _⟩ := HN5'.out
                exact ⟨rows', hl, hR⟩
              have HRX := Aside0.mk hRX
              have HRXL := Aside0.mk hrx
              have hg5 : g < w5.heap.size := HG5.out.at.lt
              have hq1 : decide (num = (done : Int) + 1) = true := decide_eq_true HIS.out
              have hq2 : (num == (done : Int) + 1) = true := by have := HIS.out; simpa using this
              have hq3 : (num != (done : Int) + 1) = false := by have := HIS.out; simpa using this
              have hl6 : (rows ++ rowsx).length = (done + 1) := by have := HRL.out; have := HRXL.out; rw [List.length_append]; omega
              have hxn := XN.out w5 HB5.out
              have hB5s : B ≤ w5.heap.size := by have := HB5.out.size; omega
              clear HN5 hrx hRX
              go_wp2_with (at_builtin; refine Kd.R_append_rows (Kd.raw 2) (Rr := (Kd.raw 2).K w5) (w0 := w5) B rfl (.tmp 159) (.tmp 160) 48 51 (.agg #[.int .u64 0, .slice none 0 0]) 32 rfl Try.underlying48 infoAns rfl (by decide) (by omega) (.slice Aa done ca) rows rowsx _ _ cx (fun x => x ≠ g) (fun _ => False) rfl rfl HA5.out ?aR (fun x cs h => h) (fun _ hk => hk.elim) (fun x hx => by have := hg5; omega) (Below.refl B w5) hB5s (by have := HRL.out; have := HN30.out; omega) ?_; (case aR => exact (by have := (Kd.R_reads' HRX.out).2.2; rw [HRXL.out] at this; exact this)); intro v6 w6 ho hb6 hg6 hat6; (obtain ⟨A6, c6, ev⟩ := Kd.R_slice ho); rw [hl6] at ev; subst ev; (have HO := Aside0.mk ho); (have HB6 := Aside0.mk (HB5.out.trans hb6)); (have HGR := Aside0.mk hg6); (have HAT := Aside0.mk hat6); (have hxn6 := XN.out w6 HB6.out); clear ho hb6 hg6 hat6)
              have hAg : some g ≠ (Value.slice Aa done ca).ownBlock := fun e => HA5.out.1 g e.symm rfl
              have HG6 : Aside0 (GV w6 g B (fun x => some x ≠ (Value.slice A6 (done + 1) c6).ownBlock) 2 n ((Qs rs n).drop (done + 1)) [] (.slice none 0 0)) := ⟨by
                have h1 := HG5.out.mono (P' := fun x => some x ≠ (Value.slice Aa done ca).ownBlock ∧ x < w5.heap.size) (fun x hx hlt => ⟨hx, hlt⟩)
                have h2 := h1.row HGR.out hAg (fun x hx => hx.1)
                exact h2.mono (fun x hx _ e => by
                  rcases HAT.out with h3 | ⟨b, h3, h4⟩
                  · rw [h3] at e; exact hx.1 e
                  · rw [h3] at e; injection e with e; have := hx.2; omega)⟩
              have HA6 : Aside0 (Kd.R (Kd.raw 2) 51 w6 B (fun x => x ≠ g ∧ some x ≠ (Value.slice none 0 0).ownBlock) (.slice A6 (done + 1) c6) (rows ++ rowsx)) := ⟨Kd.R_mono HO.out (fun x hx => ⟨hx, by simp [Value.ownBlock]⟩)⟩
              have HN6 : Aside0 (Kd.N DQ 51 w6 B (fun x => some x ≠ (Value.slice Aa done ca).ownBlock ∧ x ≠ g) (.slice (some ⟨gx, 0, none⟩) 1 cx) [(num, bytesOf rep)]) := ⟨Kd.N_step HN5'.out (fun x hx hlt => HGR.out.block x hlt hx.1)⟩
              obtain ⟨cc, hcl, hfk, hcc, _⟩ := Kd.N_elem HN6.out (0, []) 0 (by decide) (by simp)
              obtain ⟨A7, c7, rfl, hk7, hF⟩ := fk_open hfk
              have d0 := hcc 0 _ rfl
              have d1 := hcc 1 _ rfl
              simp at d0 d1 hF
              have HF := Aside0.mk hF
              have D0 := Aside0.mk d0
              have D1 := Aside0.mk d1
              clear hcl hfk hcc hF d0 d1 hk7 HN6
              clear HG5 HA5 HN5' HO HGR HAT HRX HB5
              have HL6 := Aside0.mk hl6
              clear hl6 hAg
              go_wp2_with fail
              have K0 := Aside0.mk (below_drew (Below.refl w6.heap.size w6))
              have D1' : Aside0 (w6.cell? ⟨gx, 1, none⟩ = some (.slice A7 rep.size c7)) := ⟨by have := D1.out; rw [bytesOf_length] at this; exact this⟩
              have Sall : Aside0 (∀ W : World, Below w6.heap.size w6 W → W.cell? ⟨gx, 0, none⟩ = some (.int .u64 num) ∧ W.cell? ⟨gx, 1, none⟩ = some (.slice A7 rep.size c7) ∧ (convert 39 9 (.slice A7 rep.size c7)).run Try.prog W = .ok (.string rep) W ∧ W.cell? (adp.add k) = some (.string rep)) := ⟨fun W hW => by
                have h1 := str_came (c := c7) (Kd.C_below (Kd.F_now HF.out) hW) (str_bytes rep)
                rw [bytesOf_length] at h1
                have c0 : W.cell? ⟨gx, 0, none⟩ = w6.cell? ⟨gx, 0, none⟩ := World.cell?_of_block (hW.block gx (World.block_lt_of_cell? w6 ⟨gx, 0, none⟩ D0.out))
                have c1 : W.cell? ⟨gx, 1, none⟩ = w6.cell? ⟨gx, 1, none⟩ := World.cell?_of_block (hW.block gx (World.block_lt_of_cell? w6 ⟨gx, 0, none⟩ D0.out))
                exact ⟨c0.trans D0.out, c1.trans D1'.out, h1, XP.out W (below_then HB6.out (hB ▸ HB6.out.size) hW)⟩⟩
              refine wp_region_noPanic ?_
              refine wp_region_held_drew (S := fun W : World => W.cell? ⟨gx, 0, none⟩ = some (.int .u64 num) ∧ W.cell? ⟨gx, 1, none⟩ = some (.slice A7 rep.size c7) ∧ (convert 39 9 (.slice A7 rep.size c7)).run Try.prog W = .ok (.string rep) W ∧ W.cell? (adp.add k) = some (.string rep)) (by kernel_rfl) ?_ (fun hHeld => ?_)
              · exact Sall.out _ K0.out
              refine tk_ (i := 0) (oi := o28_0) (v := ?vtet0) (Or.inl ⟨by rfl, ?hytet0⟩) hHeld ?resttet0
              case hytet0 => (intro w hSw; (try dsimp only at hSw); unfold o28_0; go_simp <;> with_reducible rfl)
              try simp only [o28_0, Act.put, p1_, p2_, p3_]
              refine tk_ (i := 1) (oi := o28_1) (v := ?vtet1) (Or.inl ⟨by rfl, ?hytet1⟩) hHeld ?resttet1
              case hytet1 => (intro w hSw; (try dsimp only at hSw); unfold o28_1; go_simp <;> with_reducible rfl)
              try simp only [o28_1, Act.put, p1_, p2_, p3_]
              refine tk_ (i := 2) (oi := o28_2) (v := ?vtet2) (Or.inl ⟨by rfl, ?hytet2⟩) hHeld ?resttet2
              case hytet2 => (intro w hSw; (try dsimp only at hSw); unfold o28_2; go_simp <;> with_reducible rfl)
              try simp only [o28_2, Act.put, p1_, p2_, p3_]
              refine tk_ (i := 3) (oi := o28_3) (v := ?vtet3) (Or.inl ⟨by rfl, ?hytet3⟩) hHeld ?resttet3
              case hytet3 => (intro w hSw; (try dsimp only at hSw); unfold o28_3; go_simp <;> with_reducible rfl)
              try simp only [o28_3, Act.put, p1_, p2_, p3_]
              refine tk_ (i := 4) (oi := o28_4) (v := ?vtet4) (Or.inl ⟨by rfl, ?hytet4⟩) hHeld ?resttet4
              case hytet4 => (intro w hSw; (try dsimp only at hSw); unfold o28_4; go_simp <;> with_reducible rfl)
              try simp only [o28_4, Act.put, p1_, p2_, p3_]
              refine tk_ (i := 5) (oi := o28_5) (v := ?vtet5) (Or.inl ⟨by rfl, ?hytet5⟩) hHeld ?resttet5
              case hytet5 => (intro w hSw; (try dsimp only at hSw); unfold o28_5; go_simp <;> with_reducible rfl)
              try simp only [o28_5, Act.put, p1_, p2_, p3_]
              refine tk_ (i := 6) (oi := o28_6) (v := ?vtet6) (Or.inl ⟨by rfl, ?hytet6⟩) hHeld ?resttet6
              case hytet6 => (intro w hSw; (try dsimp only at hSw); unfold o28_6; go_simp <;> with_reducible rfl)
              try simp only [o28_6, Act.put, p1_, p2_, p3_]
              refine tk_ (i := 7) (oi := o28_7) (v := ?vtet7) (Or.inl ⟨by rfl, ?hytet7⟩) hHeld ?resttet7
              case hytet7 => (intro w hSw; (try dsimp only at hSw); unfold o28_7; go_simp <;> with_reducible rfl)
              try simp only [o28_7, Act.put, p1_, p2_, p3_]
              refine tk_ (i := 8) (oi := o28_8) (v := ?vtet8) (Or.inl ⟨by rfl, ?hytet8⟩) hHeld ?resttet8
              case hytet8 => (intro w hSw; (try dsimp only at hSw); unfold o28_8; go_simp <;> with_reducible rfl)
              try simp only [o28_8, Act.put, p1_, p2_, p3_]
              refine tk_ (i := 9) (oi := o28_9) (v := ?vtet9) (Or.inl ⟨by rfl, ?hytet9⟩) hHeld ?resttet9
              case hytet9 => (intro w hSw; (try dsimp only at hSw); unfold o28_9; go_simp <;> with_reducible rfl)
              try simp only [o28_9, Act.put, p1_, p2_, p3_]
              refine tk_ (i := 10) (oi := o28_10) (v := ?vtet10) (Or.inl ⟨by rfl, ?hytet10⟩) hHeld ?resttet10
              case hytet10 => (intro w hSw; (try dsimp only at hSw); unfold o28_10; go_simp <;> with_reducible rfl)
              try simp only [o28_10, Act.put, p1_, p2_, p3_]
              refine tk_ (i := 11) (oi := o28_11) (v := ?vtet11) (Or.inl ⟨by rfl, ?hytet11⟩) hHeld ?resttet11
              case hytet11 => (intro w hSw; (try dsimp only at hSw); unfold o28_11; go_simp <;> with_reducible rfl)
              try simp only [o28_11, Act.put, p1_, p2_, p3_]
              refine tk_ (i := 12) (oi := o28_12) (v := ?vtet12) (Or.inl ⟨by rfl, ?hytet12⟩) hHeld ?resttet12
              case hytet12 => (intro w hSw; (try dsimp only at hSw); unfold o28_12; go_simp <;> with_reducible rfl)
              try simp only [o28_12, Act.put, p1_, p2_, p3_]
              refine tk_ (i := 13) (oi := o28_13) (v := ?vtet13) (Or.inl ⟨by rfl, ?hytet13⟩) hHeld ?resttet13
              case hytet13 => (intro w hSw; (try dsimp only at hSw); unfold o28_13; go_simp <;> with_reducible rfl)
              try simp only [o28_13, Act.put, p1_, p2_, p3_]
              refine tk_ (i := 14) (oi := o28_14) (v := ?vtet14) (Or.inl ⟨by rfl, ?hytet14⟩) hHeld ?resttet14
              case hytet14 => (intro w hSw; (try dsimp only at hSw); unfold o28_14; go_simp <;> with_reducible rfl)
              try simp only [o28_14, Act.put, p1_, p2_, p3_]
              refine tk_ (i := 15) (oi := o28_15) (v := ?vtet15) (Or.inl ⟨by rfl, ?hytet15⟩) hHeld ?resttet15
              case hytet15 => (intro w hSw; (try dsimp only at hSw); unfold o28_15; go_simp <;> with_reducible rfl)
              try simp only [o28_15, Act.put, p1_, p2_, p3_]
              refine tk_ (i := 16) (oi := o28_16) (v := ?vtet16) (Or.inl ⟨by rfl, ?hytet16⟩) hHeld ?resttet16
              case hytet16 => (intro w hSw; (try dsimp only at hSw); unfold o28_16; go_simp <;> with_reducible rfl)
              try simp only [o28_16, Act.put, p1_, p2_, p3_]
              refine tk_ (i := 17) (oi := o28_17) (v := ?vtet17) (Or.inl ⟨by rfl, ?hytet17⟩) hHeld ?resttet17
              case hytet17 => (intro w hSw; (try dsimp only at hSw); unfold o28_17; go_simp <;> with_reducible rfl)
              try simp only [o28_17, Act.put, p1_, p2_, p3_]
              refine tk_ (i := 18) (oi := o28_18) (v := ?vtet18) (Or.inl ⟨by rfl, ?hytet18⟩) hHeld ?resttet18
              case hytet18 => (intro w hSw; (try dsimp only at hSw); unfold o28_18; go_simp <;> with_reducible rfl)
              try simp only [o28_18, Act.put, p1_, p2_, p3_]
              refine tk_ (i := 19) (oi := o28_19) (v := ?vtet19) (Or.inl ⟨by rfl, ?hytet19⟩) hHeld ?resttet19
              case hytet19 => (intro w hSw; (try dsimp only at hSw); unfold o28_19; go_simp <;> with_reducible rfl)
              try simp only [o28_19, Act.put, p1_, p2_, p3_]
              refine tk_ (i := 20) (oi := o28_20) (v := ?vtet20) (Or.inl ⟨by rfl, ?hytet20⟩) hHeld ?resttet20
              case hytet20 => (intro w hSw; (try dsimp only at hSw); unfold o28_20; go_simp <;> with_reducible rfl)
              try simp only [o28_20, Act.put, p1_, p2_, p3_]
              refine tk_ (i := 21) (oi := o28_21) (v := ?vtet21) (Or.inl ⟨by rfl, ?hytet21⟩) hHeld ?resttet21
              case hytet21 => (intro w hSw; (try dsimp only at hSw); unfold o28_21; go_simp <;> with_reducible rfl)
              try simp only [o28_21, Act.put, p1_, p2_, p3_]
              refine tk_ (i := 22) (oi := o28_22) (v := ?vtet22) (Or.inl ⟨by rfl, ?hytet22⟩) hHeld ?resttet22
              case hytet22 => (intro w hSw; (try dsimp only at hSw); unfold o28_22; go_simp <;> with_reducible rfl)
              try simp only [o28_22, Act.put, p1_, p2_, p3_]
              refine wpAnyH_done (by kernel_rfl) ?_ _
              clear Sall HF D0 D1 D1'
              refine NoPanic.normal ?_
              have HB7 := Aside0.mk (below_then HB6.out (hB ▸ HB6.out.size) K0.out)
              have HG7 := Aside0.mk (HG6.out.below K0.out)
              have HA7 := Aside0.mk (Kd.R_below HA6.out K0.out)
              clear HB6 HG6 HA6 K0 hHeld
              go_wp2_with fail
              exact ⟨⟨k + 1, (done + 1), by omega, by omega, by simp, .slice none 0 0, rows ++ rowsx, HL6.out, HG7, HA7, HB7⟩, by simp [intOf]; omega⟩
            · have hnk := HNUM.out k hk1
              obtain ⟨adn, en, hxn⟩ := Kd.at_int (Kd.C_below HN.out (hB ▸ HBj.out)) (k : Int) (by omega) (by omega)
              cases en
              obtain ⟨adp, ep, hxp⟩ := Kd.at_string (Kd.C_below HP.out (hB ▸ HBj.out)) (k : Int) (by omega) (by omega)
              cases ep
              simp only [Int.toNat_natCast] at hxn hxp
              clear hxn hxp
              have XN : Aside0 (∀ W : World, Below B w W → W.cell? (adn.add k) = some (.int .u8 (rd ns (k : Int)))) := ⟨fun W hW => by
                obtain ⟨ad, e, h⟩ := Kd.at_int (Kd.C_below HN.out (hB ▸ hW)) (k : Int) (by omega) (by omega)
                cases e
                simpa only [Int.toNat_natCast] using h⟩
              have XP : Aside0 (∀ W : World, Below B w W → W.cell? (adp.add k) = some (.string (ps.getD k ByteArray.empty))) := ⟨fun W hW => by
                obtain ⟨ad, e, h⟩ := Kd.at_string (Kd.C_below HP.out (hB ▸ hW)) (k : Int) (by omega) (by omega)
                cases e
                simpa only [Int.toNat_natCast, rdOf] using h⟩
              have hsp := HPS.out k hk1
              obtain ⟨num, hnum⟩ : ∃ x, rd ns (k : Int) = x := ⟨_, rfl⟩
              obtain ⟨rep, hrep⟩ : ∃ x, ps.getD k ByteArray.empty = x := ⟨_, rfl⟩
              rw [hnum] at XN hnk his
              rw [hrep] at XP hsp
              have ewu : IntKind.u64.wrap num = num := by rw [IntKind.wrap_u64]; omega
              have ewi : IntKind.i64.wrap num = num := by rw [IntKind.wrap_i64]; omega
              have ewd : IntKind.i64.wrap ((done : Int) + 1) = (done : Int) + 1 := by have := HN30.out; rw [IntKind.wrap_i64]; omega
              have ewv : IntKind.u64.wrap ((done : Int) + 1) = (done : Int) + 1 := by have := HN30.out; rw [IntKind.wrap_u64]; omega
              have ewk : IntKind.i64.wrap ((k : Int) + 1) = (k : Int) + 1 := by have := HM.out; rw [IntKind.wrap_i64]; omega
              have hk3 : (k : Int) < (m : Int) := by omega
              have GL := gGet_lett2 num (bytesOf rep) hnk.1 (by omega) (by rw [bytesOf_length]; exact hsp)
              have GLA := Aside0.mk GL
              have HNK := Aside0.mk hnk
              have HSP := Aside0.mk hsp
              have HIS := Aside0.mk his
              have kcs : ∀ (s : ByteArray) (W : World), (convert 9 39 (.string s)).run Try.prog W = .ok (.slice (some ⟨W.heap.size, 0, none⟩) s.size (grownCap W s.size 0 5)) (Lib.bytesWorld W 5 s) := fun s W => Lib.run_convert_string_bytes (P := Try.prog) W 9 39 5 s Try.underlying9 Try.underlying39 Try.underlying5
              obtain ⟨Aa, ca, ea⟩ := Kd.R_slice HA.out
              subst ea
              rw [hrl] at HA HGj ⊢
              have HRL := Aside0.mk hrl
              clear hnum hrep hnk hsp GL hrl his
              have hd1 : (done : Int) < (n : Int) := by omega
              have hQd := Qs_drop rs n done hdl
              obtain ⟨ad, e1, hx0⟩ := Kd.at_string (Kd.C_below HR.out (hB ▸ HBj.out)) (done : Int) (by omega) (by omega)
              cases e1
              clear hx0
              have XR : Aside0 (∀ W : World, Below B w W → W.cell? (ad.add done) = some (.string (rs.getD done ByteArray.empty))) := ⟨fun W hW => by
                obtain ⟨ad, e, h⟩ := Kd.at_string (Kd.C_below HR.out (hB ▸ hW)) (done : Int) (by omega) (by omega)
                cases e
                simpa only [Int.toNat_natCast, rdOf] using h⟩
              have hss := HRS.out done hdl
              obtain ⟨sd, hsd⟩ : ∃ x, rs.getD done ByteArray.empty = x := ⟨_, rfl⟩
              rw [hsd] at hQd XR hss
              have HSS := Aside0.mk hss
              have HQD := Aside0.mk hQd
              clear hsd hss hQd
              go_wp2_with fail
              refine (Tick_calls g B 2 n _ [] wr HGj.out.at (Qs_req rs n done HN30.out HRS.out)).mono ?_
              rintro e w1 ⟨ht, hb⟩
              rw [HQD.out] at ht
              obtain ⟨h, Al, cl, rfl, hbx, hhl, hV⟩ := ht
              have HX1 := Aside0.mk hbx
              have HV1 := Aside0.mk hV
              have hlenl : (lett ((done : Int) + 1) (bytesOf sd)).length = 12 + sd.size := by rw [lett_length, bytesOf_length]
              rw [hlenl] at HX1
              have HLL := Aside0.mk hlenl
              obtain ⟨SL, hSL⟩ : ∃ s, strOfNums (lett ((done : Int) + 1) (bytesOf sd)) = s := ⟨_, rfl⟩
              have HSL := Aside0.mk hSL
              clear hbx hhl hV hlenl hSL
              have HB1 := Aside0.mk (below_then HBj.out (hB ▸ HBj.out.size) hb)
              have HG1 := Aside0.mk (HGj.out.below hb)
              have HA1 := Aside0.mk (Kd.R_below HA.out hb)
              clear hb HBj HGj HA
              go_wp2_with fail
              have K0 := Aside0.mk (below_drew (Below.refl w1.heap.size w1))
              have Sall : Aside0 (∀ W : World, Below w1.heap.size w1 W → W.cell? ⟨h, 2, none⟩ = some (.slice Al (12 + sd.size) cl) ∧ (convert 39 9 (.slice Al (12 + sd.size) cl)).run Try.prog W = .ok (.string SL) W ∧ W.cell? (ad.add done) = some (.string sd)) := ⟨fun W hW => by
                have h2 := str_own (Kd.R_below HV1.out hW)
                rw [HLL.out, HSL.out] at h2
                exact ⟨((HX1.out.below hW).cell 2).trans rfl, h2, XR.out W (below_then HB1.out (hB ▸ HB1.out.size) hW)⟩⟩
              have K1 := Aside0.mk (below_step K0.out (str_below w1.drew 5 sd))
              have CS := Aside0.mk (C_str w1.drew 5 sd (by have := HSS.out; omega))
              have kput : Aside0 (∀ c : Nat, Calls Try.prog 17 #[.int .u64 ((done : Int) + 1), .slice (some ⟨w1.drew.heap.size, 0, none⟩) sd.size c] (Lib.bytesWorld w1.drew 5 sd) fun e w' => ∃ v0 : Value, e = .returned v0 ∧ Kd.R (Kd.int .u8) 5 w' (Lib.bytesWorld w1.drew 5 sd).heap.size (fun _ => True) v0 (lett ((done : Int) + 1) (bytesOf sd)) ∧ Below (Lib.bytesWorld w1.drew 5 sd).heap.size (Lib.bytesWorld w1.drew 5 sd) w') := ⟨fun c => by
                have := gPut_calls ((done : Int) + 1) _ c (bytesOf sd) _ CS.out (by rw [bytesOf_length]; have := HSS.out; omega) (by omega) (by have := HN30.out; omega)
                rw [bytesOf_length] at this
                exact this⟩
              refine wp_region_noPanic ?_
              refine wp_region_held_drew (S := fun W : World => W.cell? ⟨h, 2, none⟩ = some (.slice Al (12 + sd.size) cl) ∧ (convert 39 9 (.slice Al (12 + sd.size) cl)).run Try.prog W = .ok (.string SL) W ∧ W.cell? (ad.add done) = some (.string sd)) (by kernel_rfl) ?_ (fun hHeld => ?_)
              · exact Sall.out _ K0.out
              refine tk_ (i := 0) (oi := o20_0) (v := ?vorr0) (Or.inl ⟨by rfl, ?hyorr0⟩) hHeld ?restorr0
              case hyorr0 => (intro w hSw; (try dsimp only at hSw); unfold o20_0; go_simp <;> with_reducible rfl)
              try simp only [o20_0, Act.put, p1_, p2_, p3_]
              refine tk_ (i := 1) (oi := o20_1) (v := ?vorr1) (Or.inl ⟨by rfl, ?hyorr1⟩) hHeld ?restorr1
              case hyorr1 => (intro w hSw; (try dsimp only at hSw); unfold o20_1; go_simp <;> with_reducible rfl)
              try simp only [o20_1, Act.put, p1_, p2_, p3_]
              refine tk_ (i := 2) (oi := o20_2) (v := ?vorr2) (Or.inl ⟨by rfl, ?hyorr2⟩) hHeld ?restorr2
              case hyorr2 => (intro w hSw; (try dsimp only at hSw); unfold o20_2; go_simp <;> with_reducible rfl)
              try simp only [o20_2, Act.put, p1_, p2_, p3_]
              refine tk_ (i := 3) (oi := o20_3) (v := ?vorr3) (Or.inl ⟨by rfl, ?hyorr3⟩) hHeld ?restorr3
              case hyorr3 => (intro w hSw; (try dsimp only at hSw); unfold o20_3; go_simp <;> with_reducible rfl)
              try simp only [o20_3, Act.put, p1_, p2_, p3_]
              refine tk_ (i := 4) (oi := o20_4) (v := ?vorr4) (Or.inl ⟨by rfl, ?hyorr4⟩) hHeld ?restorr4
              case hyorr4 => (intro w hSw; (try dsimp only at hSw); unfold o20_4; go_simp <;> with_reducible rfl)
              try simp only [o20_4, Act.put, p1_, p2_, p3_]
              refine tk_ (i := 5) (oi := o20_5) (v := ?vorr5) (Or.inl ⟨by rfl, ?hyorr5⟩) hHeld ?restorr5
              case hyorr5 => (intro w hSw; (try dsimp only at hSw); unfold o20_5; go_simp <;> with_reducible rfl)
              try simp only [o20_5, Act.put, p1_, p2_, p3_]
              refine tk_ (i := 6) (oi := o20_6) (v := ?vorr6) (Or.inl ⟨by rfl, ?hyorr6⟩) hHeld ?restorr6
              case hyorr6 => (intro w hSw; (try dsimp only at hSw); unfold o20_6; go_simp <;> with_reducible rfl)
              try simp only [o20_6, Act.put, p1_, p2_, p3_]
              refine tk_ (i := 7) (oi := o20_7) (v := ?vorr7) (Or.inl ⟨by rfl, ?hyorr7⟩) hHeld ?restorr7
              case hyorr7 => (intro w hSw; (try dsimp only at hSw); unfold o20_7; go_simp <;> with_reducible rfl)
              try simp only [o20_7, Act.put, p1_, p2_, p3_]
              refine tk_ (i := 8) (oi := o20_8) (v := ?vorr8) (Or.inl ⟨by rfl, ?hyorr8⟩) hHeld ?restorr8
              case hyorr8 => (intro w hSw; (try dsimp only at hSw); unfold o20_8; go_simp <;> with_reducible rfl)
              try simp only [o20_8, Act.put, p1_, p2_, p3_]
              refine tk_ (i := 9) (oi := o20_9) (v := ?vorr9) (Or.inl ⟨by rfl, ?hyorr9⟩) hHeld ?restorr9
              case hyorr9 => (intro w hSw; (try dsimp only at hSw); unfold o20_9; go_simp <;> with_reducible rfl)
              try simp only [o20_9, Act.put, p1_, p2_, p3_]
              refine tk_ (i := 10) (oi := o20_10) (v := ?vorr10) (Or.inl ⟨by rfl, ?hyorr10⟩) hHeld ?restorr10
              case hyorr10 => (intro w hSw; (try dsimp only at hSw); unfold o20_10; go_simp <;> with_reducible rfl)
              try simp only [o20_10, Act.put, p1_, p2_, p3_]
              refine tk_ (i := 11) (oi := o20_11) (v := ?vorr11) (Or.inl ⟨by rfl, ?hyorr11⟩) hHeld ?restorr11
              case hyorr11 => (intro w hSw; (try dsimp only at hSw); unfold o20_11; go_simp <;> with_reducible rfl)
              try simp only [o20_11, Act.put, p1_, p2_, p3_]
              refine tk_ (i := 12) (oi := o20_12) (v := ?vorr12) (Or.inl ⟨by rfl, ?hyorr12⟩) hHeld ?restorr12
              case hyorr12 => (intro w hSw; (try dsimp only at hSw); unfold o20_12; go_simp <;> with_reducible rfl)
              try simp only [o20_12, Act.put, p1_, p2_, p3_]
              refine tk_ (i := 13) (oi := o20_13) (v := ?vorr13) (Or.inl ⟨by rfl, ?hyorr13⟩) hHeld ?restorr13
              case hyorr13 => (intro w hSw; (try dsimp only at hSw); unfold o20_13; go_simp <;> with_reducible rfl)
              try simp only [o20_13, Act.put, p1_, p2_, p3_]
              refine tk_ (i := 14) (oi := o20_14) (v := ?vorr14) (Or.inl ⟨by rfl, ?hyorr14⟩) hHeld ?restorr14
              case hyorr14 => (intro w hSw; (try dsimp only at hSw); unfold o20_14; go_simp <;> with_reducible rfl)
              try simp only [o20_14, Act.put, p1_, p2_, p3_]
              refine tk_ (i := 15) (oi := o20_15) (v := ?vorr15) (Or.inl ⟨by rfl, ?hyorr15⟩) hHeld ?restorr15
              case hyorr15 => (intro w hSw; (try dsimp only at hSw); unfold o20_15; go_simp <;> with_reducible rfl)
              try simp only [o20_15, Act.put, p1_, p2_, p3_]
              refine tk_ (i := 16) (oi := o20_16) (v := ?vorr16) (Or.inl ⟨by rfl, ?hyorr16⟩) hHeld ?restorr16
              case hyorr16 => (intro w hSw; (try dsimp only at hSw); unfold o20_16; go_simp <;> with_reducible rfl)
              try simp only [o20_16, Act.put, p1_, p2_, p3_]
              refine tk_ (i := 17) (oi := o20_17) (v := ?vorr17) (Or.inl ⟨by rfl, ?hyorr17⟩) hHeld ?restorr17
              case hyorr17 => (intro w hSw; (try dsimp only at hSw); unfold o20_17; go_simp <;> with_reducible rfl)
              try simp only [o20_17, Act.put, p1_, p2_, p3_]
              refine tk_ (i := 18) (oi := o20_18) (v := ?vorr18) (Or.inl ⟨by rfl, ?hyorr18⟩) hHeld ?restorr18
              case hyorr18 => (intro w hSw; (try dsimp only at hSw); unfold o20_18; go_simp <;> with_reducible rfl)
              try simp only [o20_18, Act.put, p1_, p2_, p3_]
              refine tk_ (i := 19) (oi := o20_19) (v := ?vorr19) (Or.inl ⟨by rfl, ?hyorr19⟩) hHeld ?restorr19
              case hyorr19 => (intro w hSw; (try dsimp only at hSw); unfold o20_19; go_simp <;> with_reducible rfl)
              try simp only [o20_19, Act.put, p1_, p2_, p3_]
              refine tk_ (i := 20) (oi := o20_20) (v := ?vorr20) (Or.inl ⟨by rfl, ?hyorr20⟩) hHeld ?restorr20
              case hyorr20 => (intro w hSw; (try dsimp only at hSw); unfold o20_20; go_simp <;> with_reducible rfl)
              try simp only [o20_20, Act.put, p1_, p2_, p3_]
              refine tk_ (i := 21) (oi := o20_21) (v := ?vorr21) (Or.inl ⟨by rfl, ?hyorr21⟩) hHeld ?restorr21
              case hyorr21 => (intro w hSw; (try dsimp only at hSw); unfold o20_21; go_simp <;> with_reducible rfl)
              try simp only [o20_21, Act.put, p1_, p2_, p3_]
              refine tk_ (i := 22) (oi := o20_22) (v := ?vorr22) (Or.inl ⟨by rfl, ?hyorr22⟩) hHeld ?restorr22
              case hyorr22 => (intro w hSw; (try dsimp only at hSw); unfold o20_22; go_simp <;> with_reducible rfl)
              try simp only [o20_22, Act.put, p1_, p2_, p3_]
              refine tk_ (i := 23) (oi := o20_23) (v := ?vorr23) (Or.inl ⟨by rfl, ?hyorr23⟩) hHeld ?restorr23
              case hyorr23 => (intro w hSw; (try dsimp only at hSw); unfold o20_23; go_simp <;> with_reducible rfl)
              try simp only [o20_23, Act.put, p1_, p2_, p3_]
              refine tk_ (i := 24) (oi := o20_24) (v := ?vorr24) (Or.inl ⟨by rfl, ?hyorr24⟩) hHeld ?restorr24
              case hyorr24 => (intro w hSw; (try dsimp only at hSw); unfold o20_24; go_simp <;> with_reducible rfl)
              try simp only [o20_24, Act.put, p1_, p2_, p3_]
              refine wpAnyH_ready (rs := [25]) (by kernel_rfl) (by simp) ?_
              refine AllReadyH.cons (o := o20_25) rfl (fun K hK => ?_) AllReadyH.nil
              unfold o20_25; go_simp
              refine hK.out _ _ (Sall.out _ K1.out) (fun hHeld' => ?_)
              clear hK K hHeld
              have hHeld := hHeld'
              clear hHeld'
              try simp only [Act.put, p1_, p2_, p3_]
              refine wpAnyH_ready (rs := [26]) (by kernel_rfl) (by simp) ?_
              refine AllReadyH.cons (o := o20_26) rfl (fun K hK => ?_) AllReadyH.nil
              unfold o20_26; go_simp
              go_wp2_with (first | (go_at_call 17; refine (kput.out _).mono ?_; rintro e w2 ⟨v5, rfl, hV, hb⟩; (have K2 := Aside0.mk (below_step K1.out hb)); (have cv := str_own hV); rw [HSL.out] at cv; clear hV hb))
              refine hK.out _ _ (Sall.out _ K2.out) (fun hHeld' => ?_)
              clear hK K hHeld
              have hHeld := hHeld'
              clear hHeld'
              try simp only [Act.put, p1_, p2_, p3_]
              refine wpAnyH_ready (rs := [27]) (by kernel_rfl) (by simp) ?_
              refine AllReadyH.cons (o := o20_27) rfl (fun K hK => ?_) AllReadyH.nil
              unfold o20_27; go_simp
              refine hK.out _ _ (hHeld) (fun hHeld' => ?_)
              clear hK K hHeld
              have hHeld := hHeld'
              clear hHeld'
              try simp only [Act.put, p1_, p2_, p3_]
              refine tk_ (i := 28) (oi := o20_28) (v := ?vorr28) (Or.inl ⟨by rfl, ?hyorr28⟩) hHeld ?restorr28
              case hyorr28 => (intro w hSw; (try dsimp only at hSw); unfold o20_28; go_simp <;> with_reducible rfl)
              try simp only [o20_28, Act.put, p1_, p2_, p3_]
              refine tk_ (i := 29) (oi := o20_29) (v := ?vorr29) (Or.inl ⟨by rfl, ?hyorr29⟩) hHeld ?restorr29
              case hyorr29 => (intro w hSw; (try dsimp only at hSw); unfold o20_29; go_simp <;> with_reducible rfl)
              try simp only [o20_29, Act.put, p1_, p2_, p3_]
              refine tk_ (i := 30) (oi := o20_30) (v := ?vorr30) (Or.inl ⟨by rfl, ?hyorr30⟩) hHeld ?restorr30
              case hyorr30 => (intro w hSw; (try dsimp only at hSw); unfold o20_30; go_simp <;> with_reducible rfl)
              try simp only [o20_30, Act.put, p1_, p2_, p3_]
              refine wpAnyH_done (by kernel_rfl) ?_ _
              refine NoPanic.normal ?_
              have HB2 := Aside0.mk (below_then HB1.out (hB ▸ HB1.out.size) K2.out)
              have HG2 := Aside0.mk (HG1.out.below K2.out)
              have HA2 := Aside0.mk (Kd.R_below HA1.out K2.out)
              clear Sall K0 K1 K2 CS kput hHeld cv HB1 HG1 HA1 HX1 HV1 HSL HLL
              go_wp2_with fail
              have K0 := Aside0.mk (below_drew (Below.refl w2.heap.size w2))
              have Sall : Aside0 (∀ W : World, Below w2.heap.size w2 W → W.cell? (adn.add k) = some (.int .u8 num) ∧ W.cell? (adp.add k) = some (.string rep)) := ⟨fun W hW => ⟨XN.out W (below_then HB2.out (hB ▸ HB2.out.size) hW), XP.out W (below_then HB2.out (hB ▸ HB2.out.size) hW)⟩⟩
              have K1 := Aside0.mk (below_step K0.out (str_below w2.drew 5 rep))
              have CS := Aside0.mk (C_str w2.drew 5 rep (by have := HSP.out; omega))
              have kput : Aside0 (∀ c : Nat, Calls Try.prog 17 #[.int .u64 num, .slice (some ⟨w2.drew.heap.size, 0, none⟩) rep.size c] (Lib.bytesWorld w2.drew 5 rep) fun e w' => ∃ v0 : Value, e = .returned v0 ∧ Kd.R (Kd.int .u8) 5 w' (Lib.bytesWorld w2.drew 5 rep).heap.size (fun _ => True) v0 (lett num (bytesOf rep)) ∧ Below (Lib.bytesWorld w2.drew 5 rep).heap.size (Lib.bytesWorld w2.drew 5 rep) w') := ⟨fun c => by
                have := gPut_calls num _ c (bytesOf rep) _ CS.out (by rw [bytesOf_length]; have := HSP.out; omega) HNK.out.1 (by have := HNK.out.2; omega)
                rw [bytesOf_length] at this
                exact this⟩
              refine wp_region_noPanic ?_
              refine wp_region_held_drew (S := fun W : World => W.cell? (adn.add k) = some (.int .u8 num) ∧ W.cell? (adp.add k) = some (.string rep)) (by kernel_rfl) ?_ (fun hHeld => ?_)
              · exact Sall.out _ K0.out
              refine tk_ (i := 0) (oi := o22_0) (v := ?vors0) (Or.inl ⟨by rfl, ?hyors0⟩) hHeld ?restors0
              case hyors0 => (intro w hSw; (try dsimp only at hSw); unfold o22_0; go_simp <;> with_reducible rfl)
              try simp only [o22_0, Act.put, p1_, p2_, p3_]
              refine tk_ (i := 1) (oi := o22_1) (v := ?vors1) (Or.inl ⟨by rfl, ?hyors1⟩) hHeld ?restors1
              case hyors1 => (intro w hSw; (try dsimp only at hSw); unfold o22_1; go_simp <;> with_reducible rfl)
              try simp only [o22_1, Act.put, p1_, p2_, p3_]
              refine tk_ (i := 2) (oi := o22_2) (v := ?vors2) (Or.inl ⟨by rfl, ?hyors2⟩) hHeld ?restors2
              case hyors2 => (intro w hSw; (try dsimp only at hSw); unfold o22_2; go_simp <;> with_reducible rfl)
              try simp only [o22_2, Act.put, p1_, p2_, p3_]
              refine tk_ (i := 3) (oi := o22_3) (v := ?vors3) (Or.inl ⟨by rfl, ?hyors3⟩) hHeld ?restors3
              case hyors3 => (intro w hSw; (try dsimp only at hSw); unfold o22_3; go_simp <;> with_reducible rfl)
              try simp only [o22_3, Act.put, p1_, p2_, p3_]
              refine tk_ (i := 4) (oi := o22_4) (v := ?vors4) (Or.inl ⟨by rfl, ?hyors4⟩) hHeld ?restors4
              case hyors4 => (intro w hSw; (try dsimp only at hSw); unfold o22_4; go_simp <;> with_reducible rfl)
              try simp only [o22_4, Act.put, p1_, p2_, p3_]
              refine tk_ (i := 5) (oi := o22_5) (v := ?vors5) (Or.inl ⟨by rfl, ?hyors5⟩) hHeld ?restors5
              case hyors5 => (intro w hSw; (try dsimp only at hSw); unfold o22_5; go_simp <;> with_reducible rfl)
              try simp only [o22_5, Act.put, p1_, p2_, p3_]
              refine tk_ (i := 6) (oi := o22_6) (v := ?vors6) (Or.inl ⟨by rfl, ?hyors6⟩) hHeld ?restors6
              case hyors6 => (intro w hSw; (try dsimp only at hSw); unfold o22_6; go_simp <;> with_reducible rfl)
              try simp only [o22_6, Act.put, p1_, p2_, p3_]
              refine tk_ (i := 7) (oi := o22_7) (v := ?vors7) (Or.inl ⟨by rfl, ?hyors7⟩) hHeld ?restors7
              case hyors7 => (intro w hSw; (try dsimp only at hSw); unfold o22_7; go_simp <;> with_reducible rfl)
              try simp only [o22_7, Act.put, p1_, p2_, p3_]
              refine tk_ (i := 8) (oi := o22_8) (v := ?vors8) (Or.inl ⟨by rfl, ?hyors8⟩) hHeld ?restors8
              case hyors8 => (intro w hSw; (try dsimp only at hSw); unfold o22_8; go_simp <;> with_reducible rfl)
              try simp only [o22_8, Act.put, p1_, p2_, p3_]
              refine tk_ (i := 9) (oi := o22_9) (v := ?vors9) (Or.inl ⟨by rfl, ?hyors9⟩) hHeld ?restors9
              case hyors9 => (intro w hSw; (try dsimp only at hSw); unfold o22_9; go_simp <;> with_reducible rfl)
              try simp only [o22_9, Act.put, p1_, p2_, p3_]
              refine wpAnyH_ready (rs := [10]) (by kernel_rfl) (by simp) ?_
              refine AllReadyH.cons (o := o22_10) rfl (fun K hK => ?_) AllReadyH.nil
              unfold o22_10; go_simp
              refine hK.out _ _ (Sall.out _ K1.out) (fun hHeld' => ?_)
              clear hK K hHeld
              have hHeld := hHeld'
              clear hHeld'
              try simp only [Act.put, p1_, p2_, p3_]
              refine wpAnyH_ready (rs := [11]) (by kernel_rfl) (by simp) ?_
              refine AllReadyH.cons (o := o22_11) rfl (fun K hK => ?_) AllReadyH.nil
              unfold o22_11; go_simp
              go_wp2_with (first | (go_at_call 17; refine (kput.out _).mono ?_; rintro e w3 ⟨v5, rfl, hV, hb⟩; (have K2 := Aside0.mk (below_step K1.out hb)); (obtain ⟨A5, c5, ev⟩ := Kd.R_slice hV); subst ev; (have C5 := Aside0.mk (Kd.R_reads' hV).2.2); clear hV hb))
              refine hK.out _ _ (Sall.out _ K2.out) (fun hHeld' => ?_)
              clear hK K hHeld
              have hHeld := hHeld'
              clear hHeld'
              try simp only [Act.put, p1_, p2_, p3_]
              refine wpAnyH_ready (rs := [12]) (by kernel_rfl) (by simp) ?_
              refine AllReadyH.cons (o := o22_12) rfl (fun K hK => ?_) AllReadyH.nil
              unfold o22_12; go_simp
              go_wp2_with (first | (go_at_call 16; refine (HearV g B 2 n _ [] A5 c5 _ w3 vb _ (fun x hx => own_old (Kd.R_typed HA2.out) x (Nat.le_trans K2.out.size hx)) (HG2.out.below K2.out) C5.out (lett_byte _ _ (bytesOf_bytes rep)) (by rw [lett_length, bytesOf_length]; have := HSP.out; omega) (by rw [List.length_drop, Qs_length]; have := HN30.out; omega) (by simp)).mono ?_; rintro e w4 ⟨rfl, ⟨vb4, hG⟩, hK, hb⟩; (have HK4 := Aside0.mk hK); (have HG4 := Aside0.mk hG); (have HB4 := Aside0.mk ((below_then HB2.out (hB ▸ HB2.out.size) K2.out).trans hb)); clear hG hK hb))
              refine hK.out _ _ (⟨XN.out _ HB4.out, XP.out _ HB4.out⟩) (fun hHeld' => ?_)
              clear hK K hHeld
              have hHeld := hHeld'
              clear hHeld'
              try simp only [Act.put, p1_, p2_, p3_]
              refine wpAnyH_done (by kernel_rfl) ?_ _
              refine NoPanic.normal ?_
              have hhear : hear (gGet (lett num (bytesOf rep))) ((Qs rs n).drop done) [] = ((Qs rs n).drop done, []) := by
                rw [GLA.out]
                rw [HQD.out, hear_other _ _ _ _ (by have := HIS.out; dsimp only; omega)]
              have HG4' : Aside0 (GV w4 g B (fun x => some x ≠ (Value.slice Aa done ca).ownBlock) 2 n ((Qs rs n).drop done) [] vb4) := ⟨by
                have := HG4.out
                rw [hhear] at this
                exact this⟩
              have HA4 : Aside0 (Kd.R (Kd.raw 2) 51 w4 B (fun x => x ≠ g) (.slice Aa done ca) rows) := ⟨Kd.R_mono (Kd.R_step (Kd.R_below HA2.out K2.out) (fun x hx hlt => HK4.out.2 x hlt hx.1 hx.2)) (fun x hx => hx.1)⟩
              clear Sall K0 K1 K2 CS kput hHeld C5 HK4 HG4 HB2 HG2 HA2 hhear GLA
              go_wp2_with fail
              refine (AnswersV g B 2 n _ _ w4 vb4 _ HG4'.out).mono ?_
              rintro e w5 ⟨vx, rfl, hN5, hG5, hK5, hb⟩
              have HB5 := Aside0.mk (HB4.out.trans hb)
              have HA5 := Aside0.mk (Kd.R_step HA4.out (fun x hx hlt => hK5.2 x hlt hx (by simp)))
              have HG5 := Aside0.mk hG5
              have HN5 := Aside0.mk hN5
              clear hN5 hG5 hK5 hb HG4' HA4 HB4
              obtain ⟨Ax, cx, ev⟩ := Kd.N_slice HN5.out
              subst ev
              have HN5' : Aside0 (Kd.N DQ 51 w5 B (fun x => some x ≠ (Value.slice Aa done ca).ownBlock ∧ x ≠ g) (.slice Ax 0 cx) []) := ⟨HN5.out⟩
              obtain ⟨rowsx, hrx, hRX⟩ : ∃ rowsx, rowsx.length = 0 ∧ Kd.R (Kd.raw 2) 51 w5 B (fun x => some x = (Value.slice Ax 0 cx).ownBlock) (.slice Ax 0 cx) rowsx := by
                obtain ⟨_, rows', hl, hR, _⟩ := HN5'.out
                exact ⟨rows', hl, hR⟩
              have HRX := Aside0.mk hRX
              have HRXL := Aside0.mk hrx
              have hg5 : g < w5.heap.size := HG5.out.at.lt
              have hq1 : decide (num = (done : Int) + 1) = false := decide_eq_false HIS.out
              have hq2 : (num == (done : Int) + 1) = false := by have := HIS.out; simpa using this
              have hq3 : (num != (done : Int) + 1) = true := by have := HIS.out; simpa using this
              have hl6 : (rows ++ rowsx).length = done := by have := HRL.out; have := HRXL.out; rw [List.length_append]; omega
              have hxn := XN.out w5 HB5.out
              have hB5s : B ≤ w5.heap.size := by have := HB5.out.size; omega
              clear HN5 hrx hRX
              go_wp2_with (at_builtin; refine Kd.R_append_rows (Kd.raw 2) (Rr := (Kd.raw 2).K w5) (w0 := w5) B rfl (.tmp 159) (.tmp 160) 48 51 (.agg #[.int .u64 0, .slice none 0 0]) 32 rfl Try.underlying48 infoAns rfl (by decide) (by omega) (.slice Aa done ca) rows rowsx _ _ cx (fun x => x ≠ g) (fun _ => False) rfl rfl HA5.out ?aR (fun x cs h => h) (fun _ hk => hk.elim) (fun x hx => by have := hg5; omega) (Below.refl B w5) hB5s (by have := HRL.out; have := HN30.out; omega) ?_; (case aR => exact (by have := (Kd.R_reads' HRX.out).2.2; rw [HRXL.out] at this; exact this)); intro v6 w6 ho hb6 hg6 hat6; (obtain ⟨A6, c6, ev⟩ := Kd.R_slice ho); rw [hl6] at ev; subst ev; (have HO := Aside0.mk ho); (have HB6 := Aside0.mk (HB5.out.trans hb6)); (have HGR := Aside0.mk hg6); (have HAT := Aside0.mk hat6); (have hxn6 := XN.out w6 HB6.out); clear ho hb6 hg6 hat6)
              have hAg : some g ≠ (Value.slice Aa done ca).ownBlock := fun e => HA5.out.1 g e.symm rfl
              have HG6 : Aside0 (GV w6 g B (fun x => some x ≠ (Value.slice A6 done c6).ownBlock) 2 n ((Qs rs n).drop done) [] (.slice none 0 0)) := ⟨by
                have h1 := HG5.out.mono (P' := fun x => some x ≠ (Value.slice Aa done ca).ownBlock ∧ x < w5.heap.size) (fun x hx hlt => ⟨hx, hlt⟩)
                have h2 := h1.row HGR.out hAg (fun x hx => hx.1)
                exact h2.mono (fun x hx _ e => by
                  rcases HAT.out with h3 | ⟨b, h3, h4⟩
                  · rw [h3] at e; exact hx.1 e
                  · rw [h3] at e; injection e with e; have := hx.2; omega)⟩
              have HA6 : Aside0 (Kd.R (Kd.raw 2) 51 w6 B (fun x => x ≠ g ∧ some x ≠ (Value.slice none 0 0).ownBlock) (.slice A6 done c6) (rows ++ rowsx)) := ⟨Kd.R_mono HO.out (fun x hx => ⟨hx, by simp [Value.ownBlock]⟩)⟩
              clear HG5 HA5 HN5' HO HGR HAT HRX HB5
              have HL6 := Aside0.mk hl6
              clear hl6 hAg
              go_wp2_with fail
              have K0 := Aside0.mk (below_drew (Below.refl w6.heap.size w6))
              refine wp_region_noPanic ?_
              refine wp_region_held_drew (S := fun W : World => True) (by kernel_rfl) ?_ (fun hHeld => ?_)
              · exact trivial
              refine tk_ (i := 0) (oi := o28_0) (v := ?vort0) (Or.inl ⟨by rfl, ?hyort0⟩) hHeld ?restort0
              case hyort0 => (intro w hSw; (try dsimp only at hSw); unfold o28_0; go_simp <;> with_reducible rfl)
              try simp only [o28_0, Act.put, p1_, p2_, p3_]
              refine tk_ (i := 1) (oi := o28_1) (v := ?vort1) (Or.inl ⟨by rfl, ?hyort1⟩) hHeld ?restort1
              case hyort1 => (intro w hSw; (try dsimp only at hSw); unfold o28_1; go_simp <;> with_reducible rfl)
              try simp only [o28_1, Act.put, p1_, p2_, p3_]
              refine tk_ (i := 2) (oi := o28_2) (v := undef) (Or.inr ⟨by rfl, rfl⟩) hHeld ?_
              try simp only [o28_2, Act.put, p1_, p2_, p3_]
              refine tk_ (i := 3) (oi := o28_3) (v := undef) (Or.inr ⟨by rfl, rfl⟩) hHeld ?_
              try simp only [o28_3, Act.put, p1_, p2_, p3_]
              refine tk_ (i := 4) (oi := o28_4) (v := undef) (Or.inr ⟨by rfl, rfl⟩) hHeld ?_
              try simp only [o28_4, Act.put, p1_, p2_, p3_]
              refine tk_ (i := 5) (oi := o28_5) (v := undef) (Or.inr ⟨by rfl, rfl⟩) hHeld ?_
              try simp only [o28_5, Act.put, p1_, p2_, p3_]
              refine tk_ (i := 6) (oi := o28_6) (v := undef) (Or.inr ⟨by rfl, rfl⟩) hHeld ?_
              try simp only [o28_6, Act.put, p1_, p2_, p3_]
              refine tk_ (i := 7) (oi := o28_7) (v := undef) (Or.inr ⟨by rfl, rfl⟩) hHeld ?_
              try simp only [o28_7, Act.put, p1_, p2_, p3_]
              refine tk_ (i := 8) (oi := o28_8) (v := undef) (Or.inr ⟨by rfl, rfl⟩) hHeld ?_
              try simp only [o28_8, Act.put, p1_, p2_, p3_]
              refine tk_ (i := 9) (oi := o28_9) (v := undef) (Or.inr ⟨by rfl, rfl⟩) hHeld ?_
              try simp only [o28_9, Act.put, p1_, p2_, p3_]
              refine tk_ (i := 10) (oi := o28_10) (v := undef) (Or.inr ⟨by rfl, rfl⟩) hHeld ?_
              try simp only [o28_10, Act.put, p1_, p2_, p3_]
              refine tk_ (i := 11) (oi := o28_11) (v := undef) (Or.inr ⟨by rfl, rfl⟩) hHeld ?_
              try simp only [o28_11, Act.put, p1_, p2_, p3_]
              refine tk_ (i := 12) (oi := o28_12) (v := undef) (Or.inr ⟨by rfl, rfl⟩) hHeld ?_
              try simp only [o28_12, Act.put, p1_, p2_, p3_]
              refine tk_ (i := 13) (oi := o28_13) (v := undef) (Or.inr ⟨by rfl, rfl⟩) hHeld ?_
              try simp only [o28_13, Act.put, p1_, p2_, p3_]
              refine tk_ (i := 14) (oi := o28_14) (v := undef) (Or.inr ⟨by rfl, rfl⟩) hHeld ?_
              try simp only [o28_14, Act.put, p1_, p2_, p3_]
              refine tk_ (i := 15) (oi := o28_15) (v := undef) (Or.inr ⟨by rfl, rfl⟩) hHeld ?_
              try simp only [o28_15, Act.put, p1_, p2_, p3_]
              refine tk_ (i := 16) (oi := o28_16) (v := undef) (Or.inr ⟨by rfl, rfl⟩) hHeld ?_
              try simp only [o28_16, Act.put, p1_, p2_, p3_]
              refine tk_ (i := 17) (oi := o28_17) (v := undef) (Or.inr ⟨by rfl, rfl⟩) hHeld ?_
              try simp only [o28_17, Act.put, p1_, p2_, p3_]
              refine tk_ (i := 18) (oi := o28_18) (v := undef) (Or.inr ⟨by rfl, rfl⟩) hHeld ?_
              try simp only [o28_18, Act.put, p1_, p2_, p3_]
              refine tk_ (i := 19) (oi := o28_19) (v := undef) (Or.inr ⟨by rfl, rfl⟩) hHeld ?_
              try simp only [o28_19, Act.put, p1_, p2_, p3_]
              refine tk_ (i := 20) (oi := o28_20) (v := undef) (Or.inr ⟨by rfl, rfl⟩) hHeld ?_
              try simp only [o28_20, Act.put, p1_, p2_, p3_]
              refine tk_ (i := 21) (oi := o28_21) (v := undef) (Or.inr ⟨by rfl, rfl⟩) hHeld ?_
              try simp only [o28_21, Act.put, p1_, p2_, p3_]
              refine tk_ (i := 22) (oi := o28_22) (v := ?vort22) (Or.inl ⟨by rfl, ?hyort22⟩) hHeld ?restort22
              case hyort22 => (intro w hSw; (try dsimp only at hSw); unfold o28_22; go_simp <;> with_reducible rfl)
              try simp only [o28_22, Act.put, p1_, p2_, p3_]
              refine wpAnyH_done (by kernel_rfl) ?_ _
              refine NoPanic.normal ?_
              have HB7 := Aside0.mk (below_then HB6.out (hB ▸ HB6.out.size) K0.out)
              have HG7 := Aside0.mk (HG6.out.below K0.out)
              have HA7 := Aside0.mk (Kd.R_below HA6.out K0.out)
              clear HB6 HG6 HA6 K0 hHeld
              go_wp2_with fail
              exact ⟨⟨k + 1, done, by omega, by omega, by simp, .slice none 0 0, rows ++ rowsx, HL6.out, HG7, HA7, HB7⟩, by simp [intOf]; omega⟩
          · by_cases his : rd ns ((k : Nat) : Int) = (done : Int) + 1
            · have hnk := HNUM.out k hk1
              obtain ⟨adn, en, hxn⟩ := Kd.at_int (Kd.C_below HN.out (hB ▸ HBj.out)) (k : Int) (by omega) (by omega)
              cases en
              obtain ⟨adp, ep, hxp⟩ := Kd.at_string (Kd.C_below HP.out (hB ▸ HBj.out)) (k : Int) (by omega) (by omega)
              cases ep
              simp only [Int.toNat_natCast] at hxn hxp
              clear hxn hxp
              have XN : Aside0 (∀ W : World, Below B w W → W.cell? (adn.add k) = some (.int .u8 (rd ns (k : Int)))) := ⟨fun W hW => by
                obtain ⟨ad, e, h⟩ := Kd.at_int (Kd.C_below HN.out (hB ▸ hW)) (k : Int) (by omega) (by omega)
                cases e
                simpa only [Int.toNat_natCast] using h⟩
              have XP : Aside0 (∀ W : World, Below B w W → W.cell? (adp.add k) = some (.string (ps.getD k ByteArray.empty))) := ⟨fun W hW => by
                obtain ⟨ad, e, h⟩ := Kd.at_string (Kd.C_below HP.out (hB ▸ hW)) (k : Int) (by omega) (by omega)
                cases e
                simpa only [Int.toNat_natCast, rdOf] using h⟩
              have hsp := HPS.out k hk1
              obtain ⟨num, hnum⟩ : ∃ x, rd ns (k : Int) = x := ⟨_, rfl⟩
              obtain ⟨rep, hrep⟩ : ∃ x, ps.getD k ByteArray.empty = x := ⟨_, rfl⟩
              rw [hnum] at XN hnk his
              rw [hrep] at XP hsp
              have ewu : IntKind.u64.wrap num = num := by rw [IntKind.wrap_u64]; omega
              have ewi : IntKind.i64.wrap num = num := by rw [IntKind.wrap_i64]; omega
              have ewd : IntKind.i64.wrap ((done : Int) + 1) = (done : Int) + 1 := by have := HN30.out; rw [IntKind.wrap_i64]; omega
              have ewv : IntKind.u64.wrap ((done : Int) + 1) = (done : Int) + 1 := by have := HN30.out; rw [IntKind.wrap_u64]; omega
              have ewk : IntKind.i64.wrap ((k : Int) + 1) = (k : Int) + 1 := by have := HM.out; rw [IntKind.wrap_i64]; omega
              have hk3 : (k : Int) < (m : Int) := by omega
              have GL := gGet_lett2 num (bytesOf rep) hnk.1 (by omega) (by rw [bytesOf_length]; exact hsp)
              have GLA := Aside0.mk GL
              have HNK := Aside0.mk hnk
              have HSP := Aside0.mk hsp
              have HIS := Aside0.mk his
              have kcs : ∀ (s : ByteArray) (W : World), (convert 9 39 (.string s)).run Try.prog W = .ok (.slice (some ⟨W.heap.size, 0, none⟩) s.size (grownCap W s.size 0 5)) (Lib.bytesWorld W 5 s) := fun s W => Lib.run_convert_string_bytes (P := Try.prog) W 9 39 5 s Try.underlying9 Try.underlying39 Try.underlying5
              obtain ⟨Aa, ca, ea⟩ := Kd.R_slice HA.out
              subst ea
              rw [hrl] at HA HGj ⊢
              have HRL := Aside0.mk hrl
              clear hnum hrep hnk hsp GL hrl his
              have hd1 : ¬ (done : Int) < (n : Int) := by omega
              have hQd : (Qs rs n).drop done = [] := List.drop_eq_nil_iff.2 (by rw [Qs_length]; omega)
              have HQD := Aside0.mk hQd
              clear hQd
              go_wp2_with fail
              refine (Tick_calls g B 2 n _ [] wr HGj.out.at (Qs_req rs n done HN30.out HRS.out)).mono ?_
              rintro e w1 ⟨ht, hb⟩
              rw [HQD.out] at ht
              have ht' : e = .returned (.slice none 0 0) := ht
              subst ht'
              clear ht
              have HB1 := Aside0.mk (below_then HBj.out (hB ▸ HBj.out.size) hb)
              have HG1 := Aside0.mk (HGj.out.below hb)
              have HA1 := Aside0.mk (Kd.R_below HA.out hb)
              clear hb HBj HGj HA
              go_wp2_with fail
              have K0 := Aside0.mk (below_drew (Below.refl w1.heap.size w1))
              refine wp_region_noPanic ?_
              refine wp_region_held_drew (S := fun W : World => True) (by kernel_rfl) ?_ (fun hHeld => ?_)
              · exact trivial
              refine tk_ (i := 0) (oi := o20_0) (v := ?vntr0) (Or.inl ⟨by rfl, ?hyntr0⟩) hHeld ?restntr0
              case hyntr0 => (intro w hSw; (try dsimp only at hSw); unfold o20_0; go_simp <;> with_reducible rfl)
              try simp only [o20_0, Act.put, p1_, p2_, p3_]
              refine tk_ (i := 1) (oi := o20_1) (v := ?vntr1) (Or.inl ⟨by rfl, ?hyntr1⟩) hHeld ?restntr1
              case hyntr1 => (intro w hSw; (try dsimp only at hSw); unfold o20_1; go_simp <;> with_reducible rfl)
              try simp only [o20_1, Act.put, p1_, p2_, p3_]
              refine tk_ (i := 2) (oi := o20_2) (v := ?vntr2) (Or.inl ⟨by rfl, ?hyntr2⟩) hHeld ?restntr2
              case hyntr2 => (intro w hSw; (try dsimp only at hSw); unfold o20_2; go_simp <;> with_reducible rfl)
              try simp only [o20_2, Act.put, p1_, p2_, p3_]
              refine tk_ (i := 3) (oi := o20_3) (v := ?vntr3) (Or.inl ⟨by rfl, ?hyntr3⟩) hHeld ?restntr3
              case hyntr3 => (intro w hSw; (try dsimp only at hSw); unfold o20_3; go_simp <;> with_reducible rfl)
              try simp only [o20_3, Act.put, p1_, p2_, p3_]
              refine tk_ (i := 4) (oi := o20_4) (v := ?vntr4) (Or.inl ⟨by rfl, ?hyntr4⟩) hHeld ?restntr4
              case hyntr4 => (intro w hSw; (try dsimp only at hSw); unfold o20_4; go_simp <;> with_reducible rfl)
              try simp only [o20_4, Act.put, p1_, p2_, p3_]
              refine tk_ (i := 5) (oi := o20_5) (v := ?vntr5) (Or.inl ⟨by rfl, ?hyntr5⟩) hHeld ?restntr5
              case hyntr5 => (intro w hSw; (try dsimp only at hSw); unfold o20_5; go_simp <;> with_reducible rfl)
              try simp only [o20_5, Act.put, p1_, p2_, p3_]
              refine tk_ (i := 6) (oi := o20_6) (v := ?vntr6) (Or.inl ⟨by rfl, ?hyntr6⟩) hHeld ?restntr6
              case hyntr6 => (intro w hSw; (try dsimp only at hSw); unfold o20_6; go_simp <;> with_reducible rfl)
              try simp only [o20_6, Act.put, p1_, p2_, p3_]
              refine tk_ (i := 7) (oi := o20_7) (v := ?vntr7) (Or.inl ⟨by rfl, ?hyntr7⟩) hHeld ?restntr7
              case hyntr7 => (intro w hSw; (try dsimp only at hSw); unfold o20_7; go_simp <;> with_reducible rfl)
              try simp only [o20_7, Act.put, p1_, p2_, p3_]
              refine tk_ (i := 8) (oi := o20_8) (v := ?vntr8) (Or.inl ⟨by rfl, ?hyntr8⟩) hHeld ?restntr8
              case hyntr8 => (intro w hSw; (try dsimp only at hSw); unfold o20_8; go_simp <;> with_reducible rfl)
              try simp only [o20_8, Act.put, p1_, p2_, p3_]
              refine tk_ (i := 9) (oi := o20_9) (v := ?vntr9) (Or.inl ⟨by rfl, ?hyntr9⟩) hHeld ?restntr9
              case hyntr9 => (intro w hSw; (try dsimp only at hSw); unfold o20_9; go_simp <;> with_reducible rfl)
              try simp only [o20_9, Act.put, p1_, p2_, p3_]
              refine tk_ (i := 10) (oi := o20_10) (v := ?vntr10) (Or.inl ⟨by rfl, ?hyntr10⟩) hHeld ?restntr10
              case hyntr10 => (intro w hSw; (try dsimp only at hSw); unfold o20_10; go_simp <;> with_reducible rfl)
              try simp only [o20_10, Act.put, p1_, p2_, p3_]
              refine tk_ (i := 11) (oi := o20_11) (v := ?vntr11) (Or.inl ⟨by rfl, ?hyntr11⟩) hHeld ?restntr11
              case hyntr11 => (intro w hSw; (try dsimp only at hSw); unfold o20_11; go_simp <;> with_reducible rfl)
              try simp only [o20_11, Act.put, p1_, p2_, p3_]
              refine tk_ (i := 12) (oi := o20_12) (v := ?vntr12) (Or.inl ⟨by rfl, ?hyntr12⟩) hHeld ?restntr12
              case hyntr12 => (intro w hSw; (try dsimp only at hSw); unfold o20_12; go_simp <;> with_reducible rfl)
              try simp only [o20_12, Act.put, p1_, p2_, p3_]
              refine tk_ (i := 13) (oi := o20_13) (v := undef) (Or.inr ⟨by rfl, rfl⟩) hHeld ?_
              try simp only [o20_13, Act.put, p1_, p2_, p3_]
              refine tk_ (i := 14) (oi := o20_14) (v := undef) (Or.inr ⟨by rfl, rfl⟩) hHeld ?_
              try simp only [o20_14, Act.put, p1_, p2_, p3_]
              refine tk_ (i := 15) (oi := o20_15) (v := undef) (Or.inr ⟨by rfl, rfl⟩) hHeld ?_
              try simp only [o20_15, Act.put, p1_, p2_, p3_]
              refine tk_ (i := 16) (oi := o20_16) (v := undef) (Or.inr ⟨by rfl, rfl⟩) hHeld ?_
              try simp only [o20_16, Act.put, p1_, p2_, p3_]
              refine tk_ (i := 17) (oi := o20_17) (v := undef) (Or.inr ⟨by rfl, rfl⟩) hHeld ?_
              try simp only [o20_17, Act.put, p1_, p2_, p3_]
              refine tk_ (i := 18) (oi := o20_18) (v := undef) (Or.inr ⟨by rfl, rfl⟩) hHeld ?_
              try simp only [o20_18, Act.put, p1_, p2_, p3_]
              refine tk_ (i := 19) (oi := o20_19) (v := undef) (Or.inr ⟨by rfl, rfl⟩) hHeld ?_
              try simp only [o20_19, Act.put, p1_, p2_, p3_]
              refine tk_ (i := 20) (oi := o20_20) (v := undef) (Or.inr ⟨by rfl, rfl⟩) hHeld ?_
              try simp only [o20_20, Act.put, p1_, p2_, p3_]
              refine tk_ (i := 21) (oi := o20_21) (v := undef) (Or.inr ⟨by rfl, rfl⟩) hHeld ?_
              try simp only [o20_21, Act.put, p1_, p2_, p3_]
              refine tk_ (i := 22) (oi := o20_22) (v := undef) (Or.inr ⟨by rfl, rfl⟩) hHeld ?_
              try simp only [o20_22, Act.put, p1_, p2_, p3_]
              refine tk_ (i := 23) (oi := o20_23) (v := undef) (Or.inr ⟨by rfl, rfl⟩) hHeld ?_
              try simp only [o20_23, Act.put, p1_, p2_, p3_]
              refine tk_ (i := 24) (oi := o20_24) (v := undef) (Or.inr ⟨by rfl, rfl⟩) hHeld ?_
              try simp only [o20_24, Act.put, p1_, p2_, p3_]
              refine tk_ (i := 25) (oi := o20_25) (v := undef) (Or.inr ⟨by rfl, rfl⟩) hHeld ?_
              try simp only [o20_25, Act.put, p1_, p2_, p3_]
              refine tk_ (i := 26) (oi := o20_26) (v := undef) (Or.inr ⟨by rfl, rfl⟩) hHeld ?_
              try simp only [o20_26, Act.put, p1_, p2_, p3_]
              refine tk_ (i := 27) (oi := o20_27) (v := undef) (Or.inr ⟨by rfl, rfl⟩) hHeld ?_
              try simp only [o20_27, Act.put, p1_, p2_, p3_]
              refine tk_ (i := 28) (oi := o20_28) (v := undef) (Or.inr ⟨by rfl, rfl⟩) hHeld ?_
              try simp only [o20_28, Act.put, p1_, p2_, p3_]
              refine tk_ (i := 29) (oi := o20_29) (v := ?vntr29) (Or.inl ⟨by rfl, ?hyntr29⟩) hHeld ?restntr29
              case hyntr29 => (intro w hSw; (try dsimp only at hSw); unfold o20_29; go_simp <;> with_reducible rfl)
              try simp only [o20_29, Act.put, p1_, p2_, p3_]
              refine tk_ (i := 30) (oi := o20_30) (v := ?vntr30) (Or.inl ⟨by rfl, ?hyntr30⟩) hHeld ?restntr30
              case hyntr30 => (intro w hSw; (try dsimp only at hSw); unfold o20_30; go_simp <;> with_reducible rfl)
              try simp only [o20_30, Act.put, p1_, p2_, p3_]
              refine wpAnyH_done (by kernel_rfl) ?_ _
              refine NoPanic.normal ?_
              have HB2 := Aside0.mk (below_then HB1.out (hB ▸ HB1.out.size) K0.out)
              have HG2 := Aside0.mk (HG1.out.below K0.out)
              have HA2 := Aside0.mk (Kd.R_below HA1.out K0.out)
              generalize w1.drew = w2 at HB2 HG2 HA2 ⊢
              clear K0 hHeld HB1 HG1 HA1
              go_wp2_with fail
              have K0 := Aside0.mk (below_drew (Below.refl w2.heap.size w2))
              have Sall : Aside0 (∀ W : World, Below w2.heap.size w2 W → W.cell? (adn.add k) = some (.int .u8 num) ∧ W.cell? (adp.add k) = some (.string rep)) := ⟨fun W hW => ⟨XN.out W (below_then HB2.out (hB ▸ HB2.out.size) hW), XP.out W (below_then HB2.out (hB ▸ HB2.out.size) hW)⟩⟩
              have K1 := Aside0.mk (below_step K0.out (str_below w2.drew 5 rep))
              have CS := Aside0.mk (C_str w2.drew 5 rep (by have := HSP.out; omega))
              have kput : Aside0 (∀ c : Nat, Calls Try.prog 17 #[.int .u64 num, .slice (some ⟨w2.drew.heap.size, 0, none⟩) rep.size c] (Lib.bytesWorld w2.drew 5 rep) fun e w' => ∃ v0 : Value, e = .returned v0 ∧ Kd.R (Kd.int .u8) 5 w' (Lib.bytesWorld w2.drew 5 rep).heap.size (fun _ => True) v0 (lett num (bytesOf rep)) ∧ Below (Lib.bytesWorld w2.drew 5 rep).heap.size (Lib.bytesWorld w2.drew 5 rep) w') := ⟨fun c => by
                have := gPut_calls num _ c (bytesOf rep) _ CS.out (by rw [bytesOf_length]; have := HSP.out; omega) HNK.out.1 (by have := HNK.out.2; omega)
                rw [bytesOf_length] at this
                exact this⟩
              refine wp_region_noPanic ?_
              refine wp_region_held_drew (S := fun W : World => W.cell? (adn.add k) = some (.int .u8 num) ∧ W.cell? (adp.add k) = some (.string rep)) (by kernel_rfl) ?_ (fun hHeld => ?_)
              · exact Sall.out _ K0.out
              refine tk_ (i := 0) (oi := o22_0) (v := ?vnts0) (Or.inl ⟨by rfl, ?hynts0⟩) hHeld ?restnts0
              case hynts0 => (intro w hSw; (try dsimp only at hSw); unfold o22_0; go_simp <;> with_reducible rfl)
              try simp only [o22_0, Act.put, p1_, p2_, p3_]
              refine tk_ (i := 1) (oi := o22_1) (v := ?vnts1) (Or.inl ⟨by rfl, ?hynts1⟩) hHeld ?restnts1
              case hynts1 => (intro w hSw; (try dsimp only at hSw); unfold o22_1; go_simp <;> with_reducible rfl)
              try simp only [o22_1, Act.put, p1_, p2_, p3_]
              refine tk_ (i := 2) (oi := o22_2) (v := ?vnts2) (Or.inl ⟨by rfl, ?hynts2⟩) hHeld ?restnts2
              case hynts2 => (intro w hSw; (try dsimp only at hSw); unfold o22_2; go_simp <;> with_reducible rfl)
              try simp only [o22_2, Act.put, p1_, p2_, p3_]
              refine tk_ (i := 3) (oi := o22_3) (v := ?vnts3) (Or.inl ⟨by rfl, ?hynts3⟩) hHeld ?restnts3
              case hynts3 => (intro w hSw; (try dsimp only at hSw); unfold o22_3; go_simp <;> with_reducible rfl)
              try simp only [o22_3, Act.put, p1_, p2_, p3_]
              refine tk_ (i := 4) (oi := o22_4) (v := ?vnts4) (Or.inl ⟨by rfl, ?hynts4⟩) hHeld ?restnts4
              case hynts4 => (intro w hSw; (try dsimp only at hSw); unfold o22_4; go_simp <;> with_reducible rfl)
              try simp only [o22_4, Act.put, p1_, p2_, p3_]
              refine tk_ (i := 5) (oi := o22_5) (v := ?vnts5) (Or.inl ⟨by rfl, ?hynts5⟩) hHeld ?restnts5
              case hynts5 => (intro w hSw; (try dsimp only at hSw); unfold o22_5; go_simp <;> with_reducible rfl)
              try simp only [o22_5, Act.put, p1_, p2_, p3_]
              refine tk_ (i := 6) (oi := o22_6) (v := ?vnts6) (Or.inl ⟨by rfl, ?hynts6⟩) hHeld ?restnts6
              case hynts6 => (intro w hSw; (try dsimp only at hSw); unfold o22_6; go_simp <;> with_reducible rfl)
              try simp only [o22_6, Act.put, p1_, p2_, p3_]
              refine tk_ (i := 7) (oi := o22_7) (v := ?vnts7) (Or.inl ⟨by rfl, ?hynts7⟩) hHeld ?restnts7
              case hynts7 => (intro w hSw; (try dsimp only at hSw); unfold o22_7; go_simp <;> with_reducible rfl)
              try simp only [o22_7, Act.put, p1_, p2_, p3_]
              refine tk_ (i := 8) (oi := o22_8) (v := ?vnts8) (Or.inl ⟨by rfl, ?hynts8⟩) hHeld ?restnts8
              case hynts8 => (intro w hSw; (try dsimp only at hSw); unfold o22_8; go_simp <;> with_reducible rfl)
              try simp only [o22_8, Act.put, p1_, p2_, p3_]
              refine tk_ (i := 9) (oi := o22_9) (v := ?vnts9) (Or.inl ⟨by rfl, ?hynts9⟩) hHeld ?restnts9
              case hynts9 => (intro w hSw; (try dsimp only at hSw); unfold o22_9; go_simp <;> with_reducible rfl)
              try simp only [o22_9, Act.put, p1_, p2_, p3_]
              refine wpAnyH_ready (rs := [10]) (by kernel_rfl) (by simp) ?_
              refine AllReadyH.cons (o := o22_10) rfl (fun K hK => ?_) AllReadyH.nil
              unfold o22_10; go_simp
              refine hK.out _ _ (Sall.out _ K1.out) (fun hHeld' => ?_)
              clear hK K hHeld
              have hHeld := hHeld'
              clear hHeld'
              try simp only [Act.put, p1_, p2_, p3_]
              refine wpAnyH_ready (rs := [11]) (by kernel_rfl) (by simp) ?_
              refine AllReadyH.cons (o := o22_11) rfl (fun K hK => ?_) AllReadyH.nil
              unfold o22_11; go_simp
              go_wp2_with (first | (go_at_call 17; refine (kput.out _).mono ?_; rintro e w3 ⟨v5, rfl, hV, hb⟩; (have K2 := Aside0.mk (below_step K1.out hb)); (obtain ⟨A5, c5, ev⟩ := Kd.R_slice hV); subst ev; (have C5 := Aside0.mk (Kd.R_reads' hV).2.2); clear hV hb))
              refine hK.out _ _ (Sall.out _ K2.out) (fun hHeld' => ?_)
              clear hK K hHeld
              have hHeld := hHeld'
              clear hHeld'
              try simp only [Act.put, p1_, p2_, p3_]
              refine wpAnyH_ready (rs := [12]) (by kernel_rfl) (by simp) ?_
              refine AllReadyH.cons (o := o22_12) rfl (fun K hK => ?_) AllReadyH.nil
              unfold o22_12; go_simp
              go_wp2_with (first | (go_at_call 16; refine (HearV g B 2 n _ [] A5 c5 _ w3 vb _ (fun x hx => own_old (Kd.R_typed HA2.out) x (Nat.le_trans K2.out.size hx)) (HG2.out.below K2.out) C5.out (lett_byte _ _ (bytesOf_bytes rep)) (by rw [lett_length, bytesOf_length]; have := HSP.out; omega) (by rw [List.length_drop, Qs_length]; have := HN30.out; omega) (by simp)).mono ?_; rintro e w4 ⟨rfl, ⟨vb4, hG⟩, hK, hb⟩; (have HK4 := Aside0.mk hK); (have HG4 := Aside0.mk hG); (have HB4 := Aside0.mk ((below_then HB2.out (hB ▸ HB2.out.size) K2.out).trans hb)); clear hG hK hb))
              refine hK.out _ _ (⟨XN.out _ HB4.out, XP.out _ HB4.out⟩) (fun hHeld' => ?_)
              clear hK K hHeld
              have hHeld := hHeld'
              clear hHeld'
              try simp only [Act.put, p1_, p2_, p3_]
              refine wpAnyH_done (by kernel_rfl) ?_ _
              refine NoPanic.normal ?_
              have hhear : hear (gGet (lett num (bytesOf rep))) ((Qs rs n).drop done) [] = ((Qs rs n).drop done, []) := by
                rw [GLA.out]
                rw [HQD.out, hear_empty]
              have HG4' : Aside0 (GV w4 g B (fun x => some x ≠ (Value.slice Aa done ca).ownBlock) 2 n ((Qs rs n).drop done) [] vb4) := ⟨by
                have := HG4.out
                rw [hhear] at this
                exact this⟩
              have HA4 : Aside0 (Kd.R (Kd.raw 2) 51 w4 B (fun x => x ≠ g) (.slice Aa done ca) rows) := ⟨Kd.R_mono (Kd.R_step (Kd.R_below HA2.out K2.out) (fun x hx hlt => HK4.out.2 x hlt hx.1 hx.2)) (fun x hx => hx.1)⟩
              clear Sall K0 K1 K2 CS kput hHeld C5 HK4 HG4 HB2 HG2 HA2 hhear GLA
              go_wp2_with fail
              refine (AnswersV g B 2 n _ _ w4 vb4 _ HG4'.out).mono ?_
              rintro e w5 ⟨vx, rfl, hN5, hG5, hK5, hb⟩
              have HB5 := Aside0.mk (HB4.out.trans hb)
              have HA5 := Aside0.mk (Kd.R_step HA4.out (fun x hx hlt => hK5.2 x hlt hx (by simp)))
              have HG5 := Aside0.mk hG5
              have HN5 := Aside0.mk hN5
              clear hN5 hG5 hK5 hb HG4' HA4 HB4
              obtain ⟨Ax, cx, ev⟩ := Kd.N_slice HN5.out
              subst ev
              have HN5' : Aside0 (Kd.N DQ 51 w5 B (fun x => some x ≠ (Value.slice Aa done ca).ownBlock ∧ x ≠ g) (.slice Ax 0 cx) []) := ⟨HN5.out⟩
              obtain ⟨rowsx, hrx, hRX⟩ : ∃ rowsx, rowsx.length = 0 ∧ Kd.R (Kd.raw 2) 51 w5 B (fun x => some x = (Value.slice Ax 0 cx).ownBlock) (.slice Ax 0 cx) rowsx := by
                obtain ⟨_, rows', hl, hR, _⟩ := HN5'.out
                exact ⟨rows', hl, hR⟩
              have HRX := Aside0.mk hRX
              have HRXL := Aside0.mk hrx
              have hg5 : g < w5.heap.size := HG5.out.at.lt
              have hq1 : decide (num = (done : Int) + 1) = true := decide_eq_true HIS.out
              have hq2 : (num == (done : Int) + 1) = true := by have := HIS.out; simpa using this
              have hq3 : (num != (done : Int) + 1) = false := by have := HIS.out; simpa using this
              have hl6 : (rows ++ rowsx).length = done := by have := HRL.out; have := HRXL.out; rw [List.length_append]; omega
              have hxn := XN.out w5 HB5.out
              have hB5s : B ≤ w5.heap.size := by have := HB5.out.size; omega
              clear HN5 hrx hRX
              go_wp2_with (at_builtin; refine Kd.R_append_rows (Kd.raw 2) (Rr := (Kd.raw 2).K w5) (w0 := w5) B rfl (.tmp 159) (.tmp 160) 48 51 (.agg #[.int .u64 0, .slice none 0 0]) 32 rfl Try.underlying48 infoAns rfl (by decide) (by omega) (.slice Aa done ca) rows rowsx _ _ cx (fun x => x ≠ g) (fun _ => False) rfl rfl HA5.out ?aR (fun x cs h => h) (fun _ hk => hk.elim) (fun x hx => by have := hg5; omega) (Below.refl B w5) hB5s (by have := HRL.out; have := HN30.out; omega) ?_; (case aR => exact (by have := (Kd.R_reads' HRX.out).2.2; rw [HRXL.out] at this; exact this)); intro v6 w6 ho hb6 hg6 hat6; (obtain ⟨A6, c6, ev⟩ := Kd.R_slice ho); rw [hl6] at ev; subst ev; (have HO := Aside0.mk ho); (have HB6 := Aside0.mk (HB5.out.trans hb6)); (have HGR := Aside0.mk hg6); (have HAT := Aside0.mk hat6); (have hxn6 := XN.out w6 HB6.out); clear ho hb6 hg6 hat6)
              have hAg : some g ≠ (Value.slice Aa done ca).ownBlock := fun e => HA5.out.1 g e.symm rfl
              have HG6 : Aside0 (GV w6 g B (fun x => some x ≠ (Value.slice A6 done c6).ownBlock) 2 n ((Qs rs n).drop done) [] (.slice none 0 0)) := ⟨by
                have h1 := HG5.out.mono (P' := fun x => some x ≠ (Value.slice Aa done ca).ownBlock ∧ x < w5.heap.size) (fun x hx hlt => ⟨hx, hlt⟩)
                have h2 := h1.row HGR.out hAg (fun x hx => hx.1)
                exact h2.mono (fun x hx _ e => by
                  rcases HAT.out with h3 | ⟨b, h3, h4⟩
                  · rw [h3] at e; exact hx.1 e
                  · rw [h3] at e; injection e with e; have := hx.2; omega)⟩
              have HA6 : Aside0 (Kd.R (Kd.raw 2) 51 w6 B (fun x => x ≠ g ∧ some x ≠ (Value.slice none 0 0).ownBlock) (.slice A6 done c6) (rows ++ rowsx)) := ⟨Kd.R_mono HO.out (fun x hx => ⟨hx, by simp [Value.ownBlock]⟩)⟩
              clear HG5 HA5 HN5' HO HGR HAT HRX HB5
              have HL6 := Aside0.mk hl6
              clear hl6 hAg
              go_wp2_with fail
              have K0 := Aside0.mk (below_drew (Below.refl w6.heap.size w6))
              refine wp_region_noPanic ?_
              refine wp_region_held_drew (S := fun W : World => True) (by kernel_rfl) ?_ (fun hHeld => ?_)
              · exact trivial
              refine tk_ (i := 0) (oi := o28_0) (v := ?vntt0) (Or.inl ⟨by rfl, ?hyntt0⟩) hHeld ?restntt0
              case hyntt0 => (intro w hSw; (try dsimp only at hSw); unfold o28_0; go_simp <;> with_reducible rfl)
              try simp only [o28_0, Act.put, p1_, p2_, p3_]
              refine tk_ (i := 1) (oi := o28_1) (v := ?vntt1) (Or.inl ⟨by rfl, ?hyntt1⟩) hHeld ?restntt1
              case hyntt1 => (intro w hSw; (try dsimp only at hSw); unfold o28_1; go_simp <;> with_reducible rfl)
              try simp only [o28_1, Act.put, p1_, p2_, p3_]
              refine tk_ (i := 2) (oi := o28_2) (v := undef) (Or.inr ⟨by rfl, rfl⟩) hHeld ?_
              try simp only [o28_2, Act.put, p1_, p2_, p3_]
              refine tk_ (i := 3) (oi := o28_3) (v := undef) (Or.inr ⟨by rfl, rfl⟩) hHeld ?_
              try simp only [o28_3, Act.put, p1_, p2_, p3_]
              refine tk_ (i := 4) (oi := o28_4) (v := undef) (Or.inr ⟨by rfl, rfl⟩) hHeld ?_
              try simp only [o28_4, Act.put, p1_, p2_, p3_]
              refine tk_ (i := 5) (oi := o28_5) (v := undef) (Or.inr ⟨by rfl, rfl⟩) hHeld ?_
              try simp only [o28_5, Act.put, p1_, p2_, p3_]
              refine tk_ (i := 6) (oi := o28_6) (v := undef) (Or.inr ⟨by rfl, rfl⟩) hHeld ?_
              try simp only [o28_6, Act.put, p1_, p2_, p3_]
              refine tk_ (i := 7) (oi := o28_7) (v := undef) (Or.inr ⟨by rfl, rfl⟩) hHeld ?_
              try simp only [o28_7, Act.put, p1_, p2_, p3_]
              refine tk_ (i := 8) (oi := o28_8) (v := undef) (Or.inr ⟨by rfl, rfl⟩) hHeld ?_
              try simp only [o28_8, Act.put, p1_, p2_, p3_]
              refine tk_ (i := 9) (oi := o28_9) (v := undef) (Or.inr ⟨by rfl, rfl⟩) hHeld ?_
              try simp only [o28_9, Act.put, p1_, p2_, p3_]
              refine tk_ (i := 10) (oi := o28_10) (v := undef) (Or.inr ⟨by rfl, rfl⟩) hHeld ?_
              try simp only [o28_10, Act.put, p1_, p2_, p3_]
              refine tk_ (i := 11) (oi := o28_11) (v := undef) (Or.inr ⟨by rfl, rfl⟩) hHeld ?_
              try simp only [o28_11, Act.put, p1_, p2_, p3_]
              refine tk_ (i := 12) (oi := o28_12) (v := undef) (Or.inr ⟨by rfl, rfl⟩) hHeld ?_
              try simp only [o28_12, Act.put, p1_, p2_, p3_]
              refine tk_ (i := 13) (oi := o28_13) (v := undef) (Or.inr ⟨by rfl, rfl⟩) hHeld ?_
              try simp only [o28_13, Act.put, p1_, p2_, p3_]
              refine tk_ (i := 14) (oi := o28_14) (v := undef) (Or.inr ⟨by rfl, rfl⟩) hHeld ?_
              try simp only [o28_14, Act.put, p1_, p2_, p3_]
              refine tk_ (i := 15) (oi := o28_15) (v := undef) (Or.inr ⟨by rfl, rfl⟩) hHeld ?_
              try simp only [o28_15, Act.put, p1_, p2_, p3_]
              refine tk_ (i := 16) (oi := o28_16) (v := undef) (Or.inr ⟨by rfl, rfl⟩) hHeld ?_
              try simp only [o28_16, Act.put, p1_, p2_, p3_]
              refine tk_ (i := 17) (oi := o28_17) (v := undef) (Or.inr ⟨by rfl, rfl⟩) hHeld ?_
              try simp only [o28_17, Act.put, p1_, p2_, p3_]
              refine tk_ (i := 18) (oi := o28_18) (v := undef) (Or.inr ⟨by rfl, rfl⟩) hHeld ?_
              try simp only [o28_18, Act.put, p1_, p2_, p3_]
              refine tk_ (i := 19) (oi := o28_19) (v := undef) (Or.inr ⟨by rfl, rfl⟩) hHeld ?_
              try simp only [o28_19, Act.put, p1_, p2_, p3_]
              refine tk_ (i := 20) (oi := o28_20) (v := undef) (Or.inr ⟨by rfl, rfl⟩) hHeld ?_
              try simp only [o28_20, Act.put, p1_, p2_, p3_]
              refine tk_ (i := 21) (oi := o28_21) (v := undef) (Or.inr ⟨by rfl, rfl⟩) hHeld ?_
              try simp only [o28_21, Act.put, p1_, p2_, p3_]
              refine tk_ (i := 22) (oi := o28_22) (v := ?vntt22) (Or.inl ⟨by rfl, ?hyntt22⟩) hHeld ?restntt22
              case hyntt22 => (intro w hSw; (try dsimp only at hSw); unfold o28_22; go_simp <;> with_reducible rfl)
              try simp only [o28_22, Act.put, p1_, p2_, p3_]
              refine wpAnyH_done (by kernel_rfl) ?_ _
              refine NoPanic.normal ?_
              have HB7 := Aside0.mk (below_then HB6.out (hB ▸ HB6.out.size) K0.out)
              have HG7 := Aside0.mk (HG6.out.below K0.out)
              have HA7 := Aside0.mk (Kd.R_below HA6.out K0.out)
              clear HB6 HG6 HA6 K0 hHeld
              go_wp2_with fail
              exact ⟨⟨k + 1, done, by omega, by omega, by simp, .slice none 0 0, rows ++ rowsx, HL6.out, HG7, HA7, HB7⟩, by simp [intOf]; omega⟩
            · have hnk := HNUM.out k hk1
              obtain ⟨adn, en, hxn⟩ := Kd.at_int (Kd.C_below HN.out (hB ▸ HBj.out)) (k : Int) (by omega) (by omega)
              cases en
              obtain ⟨adp, ep, hxp⟩ := Kd.at_string (Kd.C_below HP.out (hB ▸ HBj.out)) (k : Int) (by omega) (by omega)
              cases ep
              simp only [Int.toNat_natCast] at hxn hxp
              clear hxn hxp
              have XN : Aside0 (∀ W : World, Below B w W → W.cell? (adn.add k) = some (.int .u8 (rd ns (k : Int)))) := ⟨fun W hW => by
                obtain ⟨ad, e, h⟩ := Kd.at_int (Kd.C_below HN.out (hB ▸ hW)) (k : Int) (by omega) (by omega)
                cases e
                simpa only [Int.toNat_natCast] using h⟩
              have XP : Aside0 (∀ W : World, Below B w W → W.cell? (adp.add k) = some (.string (ps.getD k ByteArray.empty))) := ⟨fun W hW => by
                obtain ⟨ad, e, h⟩ := Kd.at_string (Kd.C_below HP.out (hB ▸ hW)) (k : Int) (by omega) (by omega)
                cases e
                simpa only [Int.toNat_natCast, rdOf] using h⟩
              have hsp := HPS.out k hk1
              obtain ⟨num, hnum⟩ : ∃ x, rd ns (k : Int) = x := ⟨_, rfl⟩
              obtain ⟨rep, hrep⟩ : ∃ x, ps.getD k ByteArray.empty = x := ⟨_, rfl⟩
              rw [hnum] at XN hnk his
              rw [hrep] at XP hsp
              have ewu : IntKind.u64.wrap num = num := by rw [IntKind.wrap_u64]; omega
              have ewi : IntKind.i64.wrap num = num := by rw [IntKind.wrap_i64]; omega
              have ewd : IntKind.i64.wrap ((done : Int) + 1) = (done : Int) + 1 := by have := HN30.out; rw [IntKind.wrap_i64]; omega
              have ewv : IntKind.u64.wrap ((done : Int) + 1) = (done : Int) + 1 := by have := HN30.out; rw [IntKind.wrap_u64]; omega
              have ewk : IntKind.i64.wrap ((k : Int) + 1) = (k : Int) + 1 := by have := HM.out; rw [IntKind.wrap_i64]; omega
              have hk3 : (k : Int) < (m : Int) := by omega
              have GL := gGet_lett2 num (bytesOf rep) hnk.1 (by omega) (by rw [bytesOf_length]; exact hsp)
              have GLA := Aside0.mk GL
              have HNK := Aside0.mk hnk
              have HSP := Aside0.mk hsp
              have HIS := Aside0.mk his
              have kcs : ∀ (s : ByteArray) (W : World), (convert 9 39 (.string s)).run Try.prog W = .ok (.slice (some ⟨W.heap.size, 0, none⟩) s.size (grownCap W s.size 0 5)) (Lib.bytesWorld W 5 s) := fun s W => Lib.run_convert_string_bytes (P := Try.prog) W 9 39 5 s Try.underlying9 Try.underlying39 Try.underlying5
              obtain ⟨Aa, ca, ea⟩ := Kd.R_slice HA.out
              subst ea
              rw [hrl] at HA HGj ⊢
              have HRL := Aside0.mk hrl
              clear hnum hrep hnk hsp GL hrl his
              have hd1 : ¬ (done : Int) < (n : Int) := by omega
              have hQd : (Qs rs n).drop done = [] := List.drop_eq_nil_iff.2 (by rw [Qs_length]; omega)
              have HQD := Aside0.mk hQd
              clear hQd
              go_wp2_with fail
              refine (Tick_calls g B 2 n _ [] wr HGj.out.at (Qs_req rs n done HN30.out HRS.out)).mono ?_
              rintro e w1 ⟨ht, hb⟩
              rw [HQD.out] at ht
              have ht' : e = .returned (.slice none 0 0) := ht
              subst ht'
              clear ht
              have HB1 := Aside0.mk (below_then HBj.out (hB ▸ HBj.out.size) hb)
              have HG1 := Aside0.mk (HGj.out.below hb)
              have HA1 := Aside0.mk (Kd.R_below HA.out hb)
              clear hb HBj HGj HA
              go_wp2_with fail
              have K0 := Aside0.mk (below_drew (Below.refl w1.heap.size w1))
              refine wp_region_noPanic ?_
              refine wp_region_held_drew (S := fun W : World => True) (by kernel_rfl) ?_ (fun hHeld => ?_)
              · exact trivial
              refine tk_ (i := 0) (oi := o20_0) (v := ?vnfr0) (Or.inl ⟨by rfl, ?hynfr0⟩) hHeld ?restnfr0
              case hynfr0 => (intro w hSw; (try dsimp only at hSw); unfold o20_0; go_simp <;> with_reducible rfl)
              try simp only [o20_0, Act.put, p1_, p2_, p3_]
              refine tk_ (i := 1) (oi := o20_1) (v := ?vnfr1) (Or.inl ⟨by rfl, ?hynfr1⟩) hHeld ?restnfr1
              case hynfr1 => (intro w hSw; (try dsimp only at hSw); unfold o20_1; go_simp <;> with_reducible rfl)
              try simp only [o20_1, Act.put, p1_, p2_, p3_]
              refine tk_ (i := 2) (oi := o20_2) (v := ?vnfr2) (Or.inl ⟨by rfl, ?hynfr2⟩) hHeld ?restnfr2
              case hynfr2 => (intro w hSw; (try dsimp only at hSw); unfold o20_2; go_simp <;> with_reducible rfl)
              try simp only [o20_2, Act.put, p1_, p2_, p3_]
              refine tk_ (i := 3) (oi := o20_3) (v := ?vnfr3) (Or.inl ⟨by rfl, ?hynfr3⟩) hHeld ?restnfr3
              case hynfr3 => (intro w hSw; (try dsimp only at hSw); unfold o20_3; go_simp <;> with_reducible rfl)
              try simp only [o20_3, Act.put, p1_, p2_, p3_]
              refine tk_ (i := 4) (oi := o20_4) (v := ?vnfr4) (Or.inl ⟨by rfl, ?hynfr4⟩) hHeld ?restnfr4
              case hynfr4 => (intro w hSw; (try dsimp only at hSw); unfold o20_4; go_simp <;> with_reducible rfl)
              try simp only [o20_4, Act.put, p1_, p2_, p3_]
              refine tk_ (i := 5) (oi := o20_5) (v := ?vnfr5) (Or.inl ⟨by rfl, ?hynfr5⟩) hHeld ?restnfr5
              case hynfr5 => (intro w hSw; (try dsimp only at hSw); unfold o20_5; go_simp <;> with_reducible rfl)
              try simp only [o20_5, Act.put, p1_, p2_, p3_]
              refine tk_ (i := 6) (oi := o20_6) (v := ?vnfr6) (Or.inl ⟨by rfl, ?hynfr6⟩) hHeld ?restnfr6
              case hynfr6 => (intro w hSw; (try dsimp only at hSw); unfold o20_6; go_simp <;> with_reducible rfl)
              try simp only [o20_6, Act.put, p1_, p2_, p3_]
              refine tk_ (i := 7) (oi := o20_7) (v := ?vnfr7) (Or.inl ⟨by rfl, ?hynfr7⟩) hHeld ?restnfr7
              case hynfr7 => (intro w hSw; (try dsimp only at hSw); unfold o20_7; go_simp <;> with_reducible rfl)
              try simp only [o20_7, Act.put, p1_, p2_, p3_]
              refine tk_ (i := 8) (oi := o20_8) (v := ?vnfr8) (Or.inl ⟨by rfl, ?hynfr8⟩) hHeld ?restnfr8
              case hynfr8 => (intro w hSw; (try dsimp only at hSw); unfold o20_8; go_simp <;> with_reducible rfl)
              try simp only [o20_8, Act.put, p1_, p2_, p3_]
              refine tk_ (i := 9) (oi := o20_9) (v := ?vnfr9) (Or.inl ⟨by rfl, ?hynfr9⟩) hHeld ?restnfr9
              case hynfr9 => (intro w hSw; (try dsimp only at hSw); unfold o20_9; go_simp <;> with_reducible rfl)
              try simp only [o20_9, Act.put, p1_, p2_, p3_]
              refine tk_ (i := 10) (oi := o20_10) (v := ?vnfr10) (Or.inl ⟨by rfl, ?hynfr10⟩) hHeld ?restnfr10
              case hynfr10 => (intro w hSw; (try dsimp only at hSw); unfold o20_10; go_simp <;> with_reducible rfl)
              try simp only [o20_10, Act.put, p1_, p2_, p3_]
              refine tk_ (i := 11) (oi := o20_11) (v := ?vnfr11) (Or.inl ⟨by rfl, ?hynfr11⟩) hHeld ?restnfr11
              case hynfr11 => (intro w hSw; (try dsimp only at hSw); unfold o20_11; go_simp <;> with_reducible rfl)
              try simp only [o20_11, Act.put, p1_, p2_, p3_]
              refine tk_ (i := 12) (oi := o20_12) (v := ?vnfr12) (Or.inl ⟨by rfl, ?hynfr12⟩) hHeld ?restnfr12
              case hynfr12 => (intro w hSw; (try dsimp only at hSw); unfold o20_12; go_simp <;> with_reducible rfl)
              try simp only [o20_12, Act.put, p1_, p2_, p3_]
              refine tk_ (i := 13) (oi := o20_13) (v := undef) (Or.inr ⟨by rfl, rfl⟩) hHeld ?_
              try simp only [o20_13, Act.put, p1_, p2_, p3_]
              refine tk_ (i := 14) (oi := o20_14) (v := undef) (Or.inr ⟨by rfl, rfl⟩) hHeld ?_
              try simp only [o20_14, Act.put, p1_, p2_, p3_]
              refine tk_ (i := 15) (oi := o20_15) (v := undef) (Or.inr ⟨by rfl, rfl⟩) hHeld ?_
              try simp only [o20_15, Act.put, p1_, p2_, p3_]
              refine tk_ (i := 16) (oi := o20_16) (v := undef) (Or.inr ⟨by rfl, rfl⟩) hHeld ?_
              try simp only [o20_16, Act.put, p1_, p2_, p3_]
              refine tk_ (i := 17) (oi := o20_17) (v := undef) (Or.inr ⟨by rfl, rfl⟩) hHeld ?_
              try simp only [o20_17, Act.put, p1_, p2_, p3_]
              refine tk_ (i := 18) (oi := o20_18) (v := undef) (Or.inr ⟨by rfl, rfl⟩) hHeld ?_
              try simp only [o20_18, Act.put, p1_, p2_, p3_]
              refine tk_ (i := 19) (oi := o20_19) (v := undef) (Or.inr ⟨by rfl, rfl⟩) hHeld ?_
              try simp only [o20_19, Act.put, p1_, p2_, p3_]
              refine tk_ (i := 20) (oi := o20_20) (v := undef) (Or.inr ⟨by rfl, rfl⟩) hHeld ?_
              try simp only [o20_20, Act.put, p1_, p2_, p3_]
              refine tk_ (i := 21) (oi := o20_21) (v := undef) (Or.inr ⟨by rfl, rfl⟩) hHeld ?_
              try simp only [o20_21, Act.put, p1_, p2_, p3_]
              refine tk_ (i := 22) (oi := o20_22) (v := undef) (Or.inr ⟨by rfl, rfl⟩) hHeld ?_
              try simp only [o20_22, Act.put, p1_, p2_, p3_]
              refine tk_ (i := 23) (oi := o20_23) (v := undef) (Or.inr ⟨by rfl, rfl⟩) hHeld ?_
              try simp only [o20_23, Act.put, p1_, p2_, p3_]
              refine tk_ (i := 24) (oi := o20_24) (v := undef) (Or.inr ⟨by rfl, rfl⟩) hHeld ?_
              try simp only [o20_24, Act.put, p1_, p2_, p3_]
              refine tk_ (i := 25) (oi := o20_25) (v := undef) (Or.inr ⟨by rfl, rfl⟩) hHeld ?_
              try simp only [o20_25, Act.put, p1_, p2_, p3_]
              refine tk_ (i := 26) (oi := o20_26) (v := undef) (Or.inr ⟨by rfl, rfl⟩) hHeld ?_
              try simp only [o20_26, Act.put, p1_, p2_, p3_]
              refine tk_ (i := 27) (oi := o20_27) (v := undef) (Or.inr ⟨by rfl, rfl⟩) hHeld ?_
              try simp only [o20_27, Act.put, p1_, p2_, p3_]
              refine tk_ (i := 28) (oi := o20_28) (v := undef) (Or.inr ⟨by rfl, rfl⟩) hHeld ?_
              try simp only [o20_28, Act.put, p1_, p2_, p3_]
              refine tk_ (i := 29) (oi := o20_29) (v := ?vnfr29) (Or.inl ⟨by rfl, ?hynfr29⟩) hHeld ?restnfr29
              case hynfr29 => (intro w hSw; (try dsimp only at hSw); unfold o20_29; go_simp <;> with_reducible rfl)
              try simp only [o20_29, Act.put, p1_, p2_, p3_]
              refine tk_ (i := 30) (oi := o20_30) (v := ?vnfr30) (Or.inl ⟨by rfl, ?hynfr30⟩) hHeld ?restnfr30
              case hynfr30 => (intro w hSw; (try dsimp only at hSw); unfold o20_30; go_simp <;> with_reducible rfl)
              try simp only [o20_30, Act.put, p1_, p2_, p3_]
              refine wpAnyH_done (by kernel_rfl) ?_ _
              refine NoPanic.normal ?_
              have HB2 := Aside0.mk (below_then HB1.out (hB ▸ HB1.out.size) K0.out)
              have HG2 := Aside0.mk (HG1.out.below K0.out)
              have HA2 := Aside0.mk (Kd.R_below HA1.out K0.out)
              generalize w1.drew = w2 at HB2 HG2 HA2 ⊢
              clear K0 hHeld HB1 HG1 HA1
              go_wp2_with fail
              have K0 := Aside0.mk (below_drew (Below.refl w2.heap.size w2))
              have Sall : Aside0 (∀ W : World, Below w2.heap.size w2 W → W.cell? (adn.add k) = some (.int .u8 num) ∧ W.cell? (adp.add k) = some (.string rep)) := ⟨fun W hW => ⟨XN.out W (below_then HB2.out (hB ▸ HB2.out.size) hW), XP.out W (below_then HB2.out (hB ▸ HB2.out.size) hW)⟩⟩
              have K1 := Aside0.mk (below_step K0.out (str_below w2.drew 5 rep))
              have CS := Aside0.mk (C_str w2.drew 5 rep (by have := HSP.out; omega))
              have kput : Aside0 (∀ c : Nat, Calls Try.prog 17 #[.int .u64 num, .slice (some ⟨w2.drew.heap.size, 0, none⟩) rep.size c] (Lib.bytesWorld w2.drew 5 rep) fun e w' => ∃ v0 : Value, e = .returned v0 ∧ Kd.R (Kd.int .u8) 5 w' (Lib.bytesWorld w2.drew 5 rep).heap.size (fun _ => True) v0 (lett num (bytesOf rep)) ∧ Below (Lib.bytesWorld w2.drew 5 rep).heap.size (Lib.bytesWorld w2.drew 5 rep) w') := ⟨fun c => by
                have := gPut_calls num _ c (bytesOf rep) _ CS.out (by rw [bytesOf_length]; have := HSP.out; omega) HNK.out.1 (by have := HNK.out.2; omega)
                rw [bytesOf_length] at this
                exact this⟩
              refine wp_region_noPanic ?_
              refine wp_region_held_drew (S := fun W : World => W.cell? (adn.add k) = some (.int .u8 num) ∧ W.cell? (adp.add k) = some (.string rep)) (by kernel_rfl) ?_ (fun hHeld => ?_)
              · exact Sall.out _ K0.out
              refine tk_ (i := 0) (oi := o22_0) (v := ?vnfs0) (Or.inl ⟨by rfl, ?hynfs0⟩) hHeld ?restnfs0
              case hynfs0 => (intro w hSw; (try dsimp only at hSw); unfold o22_0; go_simp <;> with_reducible rfl)
              try simp only [o22_0, Act.put, p1_, p2_, p3_]
              refine tk_ (i := 1) (oi := o22_1) (v := ?vnfs1) (Or.inl ⟨by rfl, ?hynfs1⟩) hHeld ?restnfs1
              case hynfs1 => (intro w hSw; (try dsimp only at hSw); unfold o22_1; go_simp <;> with_reducible rfl)
              try simp only [o22_1, Act.put, p1_, p2_, p3_]
              refine tk_ (i := 2) (oi := o22_2) (v := ?vnfs2) (Or.inl ⟨by rfl, ?hynfs2⟩) hHeld ?restnfs2
              case hynfs2 => (intro w hSw; (try dsimp only at hSw); unfold o22_2; go_simp <;> with_reducible rfl)
              try simp only [o22_2, Act.put, p1_, p2_, p3_]
              refine tk_ (i := 3) (oi := o22_3) (v := ?vnfs3) (Or.inl ⟨by rfl, ?hynfs3⟩) hHeld ?restnfs3
              case hynfs3 => (intro w hSw; (try dsimp only at hSw); unfold o22_3; go_simp <;> with_reducible rfl)
              try simp only [o22_3, Act.put, p1_, p2_, p3_]
              refine tk_ (i := 4) (oi := o22_4) (v := ?vnfs4) (Or.inl ⟨by rfl, ?hynfs4⟩) hHeld ?restnfs4
              case hynfs4 => (intro w hSw; (try dsimp only at hSw); unfold o22_4; go_simp <;> with_reducible rfl)
              try simp only [o22_4, Act.put, p1_, p2_, p3_]
              refine tk_ (i := 5) (oi := o22_5) (v := ?vnfs5) (Or.inl ⟨by rfl, ?hynfs5⟩) hHeld ?restnfs5
              case hynfs5 => (intro w hSw; (try dsimp only at hSw); unfold o22_5; go_simp <;> with_reducible rfl)
              try simp only [o22_5, Act.put, p1_, p2_, p3_]
              refine tk_ (i := 6) (oi := o22_6) (v := ?vnfs6) (Or.inl ⟨by rfl, ?hynfs6⟩) hHeld ?restnfs6
              case hynfs6 => (intro w hSw; (try dsimp only at hSw); unfold o22_6; go_simp <;> with_reducible rfl)
              try simp only [o22_6, Act.put, p1_, p2_, p3_]
              refine tk_ (i := 7) (oi := o22_7) (v := ?vnfs7) (Or.inl ⟨by rfl, ?hynfs7⟩) hHeld ?restnfs7
              case hynfs7 => (intro w hSw; (try dsimp only at hSw); unfold o22_7; go_simp <;> with_reducible rfl)
              try simp only [o22_7, Act.put, p1_, p2_, p3_]
              refine tk_ (i := 8) (oi := o22_8) (v := ?vnfs8) (Or.inl ⟨by rfl, ?hynfs8⟩) hHeld ?restnfs8
              case hynfs8 => (intro w hSw; (try dsimp only at hSw); unfold o22_8; go_simp <;> with_reducible rfl)
              try simp only [o22_8, Act.put, p1_, p2_, p3_]
              refine tk_ (i := 9) (oi := o22_9) (v := ?vnfs9) (Or.inl ⟨by rfl, ?hynfs9⟩) hHeld ?restnfs9
              case hynfs9 => (intro w hSw; (try dsimp only at hSw); unfold o22_9; go_simp <;> with_reducible rfl)
              try simp only [o22_9, Act.put, p1_, p2_, p3_]
              refine wpAnyH_ready (rs := [10]) (by kernel_rfl) (by simp) ?_
              refine AllReadyH.cons (o := o22_10) rfl (fun K hK => ?_) AllReadyH.nil
              unfold o22_10; go_simp
              refine hK.out _ _ (Sall.out _ K1.out) (fun hHeld' => ?_)
              clear hK K hHeld
              have hHeld := hHeld'
              clear hHeld'
              try simp only [Act.put, p1_, p2_, p3_]
              refine wpAnyH_ready (rs := [11]) (by kernel_rfl) (by simp) ?_
              refine AllReadyH.cons (o := o22_11) rfl (fun K hK => ?_) AllReadyH.nil
              unfold o22_11; go_simp
              go_wp2_with (first | (go_at_call 17; refine (kput.out _).mono ?_; rintro e w3 ⟨v5, rfl, hV, hb⟩; (have K2 := Aside0.mk (below_step K1.out hb)); (obtain ⟨A5, c5, ev⟩ := Kd.R_slice hV); subst ev; (have C5 := Aside0.mk (Kd.R_reads' hV).2.2); clear hV hb))
              refine hK.out _ _ (Sall.out _ K2.out) (fun hHeld' => ?_)
              clear hK K hHeld
              have hHeld := hHeld'
              clear hHeld'
              try simp only [Act.put, p1_, p2_, p3_]
              refine wpAnyH_ready (rs := [12]) (by kernel_rfl) (by simp) ?_
              refine AllReadyH.cons (o := o22_12) rfl (fun K hK => ?_) AllReadyH.nil
              unfold o22_12; go_simp
              go_wp2_with (first | (go_at_call 16; refine (HearV g B 2 n _ [] A5 c5 _ w3 vb _ (fun x hx => own_old (Kd.R_typed HA2.out) x (Nat.le_trans K2.out.size hx)) (HG2.out.below K2.out) C5.out (lett_byte _ _ (bytesOf_bytes rep)) (by rw [lett_length, bytesOf_length]; have := HSP.out; omega) (by rw [List.length_drop, Qs_length]; have := HN30.out; omega) (by simp)).mono ?_; rintro e w4 ⟨rfl, ⟨vb4, hG⟩, hK, hb⟩; (have HK4 := Aside0.mk hK); (have HG4 := Aside0.mk hG); (have HB4 := Aside0.mk ((below_then HB2.out (hB ▸ HB2.out.size) K2.out).trans hb)); clear hG hK hb))
              refine hK.out _ _ (⟨XN.out _ HB4.out, XP.out _ HB4.out⟩) (fun hHeld' => ?_)
              clear hK K hHeld
              have hHeld := hHeld'
              clear hHeld'
              try simp only [Act.put, p1_, p2_, p3_]
              refine wpAnyH_done (by kernel_rfl) ?_ _
              refine NoPanic.normal ?_
              have hhear : hear (gGet (lett num (bytesOf rep))) ((Qs rs n).drop done) [] = ((Qs rs n).drop done, []) := by
                rw [GLA.out]
                rw [HQD.out, hear_empty]
              have HG4' : Aside0 (GV w4 g B (fun x => some x ≠ (Value.slice Aa done ca).ownBlock) 2 n ((Qs rs n).drop done) [] vb4) := ⟨by
                have := HG4.out
                rw [hhear] at this
                exact this⟩
              have HA4 : Aside0 (Kd.R (Kd.raw 2) 51 w4 B (fun x => x ≠ g) (.slice Aa done ca) rows) := ⟨Kd.R_mono (Kd.R_step (Kd.R_below HA2.out K2.out) (fun x hx hlt => HK4.out.2 x hlt hx.1 hx.2)) (fun x hx => hx.1)⟩
              clear Sall K0 K1 K2 CS kput hHeld C5 HK4 HG4 HB2 HG2 HA2 hhear GLA
              go_wp2_with fail
              refine (AnswersV g B 2 n _ _ w4 vb4 _ HG4'.out).mono ?_
              rintro e w5 ⟨vx, rfl, hN5, hG5, hK5, hb⟩
              have HB5 := Aside0.mk (HB4.out.trans hb)
              have HA5 := Aside0.mk (Kd.R_step HA4.out (fun x hx hlt => hK5.2 x hlt hx (by simp)))
              have HG5 := Aside0.mk hG5
              have HN5 := Aside0.mk hN5
              clear hN5 hG5 hK5 hb HG4' HA4 HB4
              obtain ⟨Ax, cx, ev⟩ := Kd.N_slice HN5.out
              subst ev
              have HN5' : Aside0 (Kd.N DQ 51 w5 B (fun x => some x ≠ (Value.slice Aa done ca).ownBlock ∧ x ≠ g) (.slice Ax 0 cx) []) := ⟨HN5.out⟩
              obtain ⟨rowsx, hrx, hRX⟩ : ∃ rowsx, rowsx.length = 0 ∧ Kd.R (Kd.raw 2) 51 w5 B (fun x => some x = (Value.slice Ax 0 cx).ownBlock) (.slice Ax 0 cx) rowsx := by
                obtain ⟨_, rows', hl, hR, _⟩ := HN5'.out
                exact ⟨rows', hl, hR⟩
              have HRX := Aside0.mk hRX
              have HRXL := Aside0.mk hrx
              have hg5 : g < w5.heap.size := HG5.out.at.lt
              have hq1 : decide (num = (done : Int) + 1) = false := decide_eq_false HIS.out
              have hq2 : (num == (done : Int) + 1) = false := by have := HIS.out; simpa using this
              have hq3 : (num != (done : Int) + 1) = true := by have := HIS.out; simpa using this
              have hl6 : (rows ++ rowsx).length = done := by have := HRL.out; have := HRXL.out; rw [List.length_append]; omega
              have hxn := XN.out w5 HB5.out
              have hB5s : B ≤ w5.heap.size := by have := HB5.out.size; omega
              clear HN5 hrx hRX
              go_wp2_with (at_builtin; refine Kd.R_append_rows (Kd.raw 2) (Rr := (Kd.raw 2).K w5) (w0 := w5) B rfl (.tmp 159) (.tmp 160) 48 51 (.agg #[.int .u64 0, .slice none 0 0]) 32 rfl Try.underlying48 infoAns rfl (by decide) (by omega) (.slice Aa done ca) rows rowsx _ _ cx (fun x => x ≠ g) (fun _ => False) rfl rfl HA5.out ?aR (fun x cs h => h) (fun _ hk => hk.elim) (fun x hx => by have := hg5; omega) (Below.refl B w5) hB5s (by have := HRL.out; have := HN30.out; omega) ?_; (case aR => exact (by have := (Kd.R_reads' HRX.out).2.2; rw [HRXL.out] at this; exact this)); intro v6 w6 ho hb6 hg6 hat6; (obtain ⟨A6, c6, ev⟩ := Kd.R_slice ho); rw [hl6] at ev; subst ev; (have HO := Aside0.mk ho); (have HB6 := Aside0.mk (HB5.out.trans hb6)); (have HGR := Aside0.mk hg6); (have HAT := Aside0.mk hat6); (have hxn6 := XN.out w6 HB6.out); clear ho hb6 hg6 hat6)
              have hAg : some g ≠ (Value.slice Aa done ca).ownBlock := fun e => HA5.out.1 g e.symm rfl
              have HG6 : Aside0 (GV w6 g B (fun x => some x ≠ (Value.slice A6 done c6).ownBlock) 2 n ((Qs rs n).drop done) [] (.slice none 0 0)) := ⟨by
                have h1 := HG5.out.mono (P' := fun x => some x ≠ (Value.slice Aa done ca).ownBlock ∧ x < w5.heap.size) (fun x hx hlt => ⟨hx, hlt⟩)
                have h2 := h1.row HGR.out hAg (fun x hx => hx.1)
                exact h2.mono (fun x hx _ e => by
                  rcases HAT.out with h3 | ⟨b, h3, h4⟩
                  · rw [h3] at e; exact hx.1 e
                  · rw [h3] at e; injection e with e; have := hx.2; omega)⟩
              have HA6 : Aside0 (Kd.R (Kd.raw 2) 51 w6 B (fun x => x ≠ g ∧ some x ≠ (Value.slice none 0 0).ownBlock) (.slice A6 done c6) (rows ++ rowsx)) := ⟨Kd.R_mono HO.out (fun x hx => ⟨hx, by simp [Value.ownBlock]⟩)⟩
              clear HG5 HA5 HN5' HO HGR HAT HRX HB5
              have HL6 := Aside0.mk hl6
              clear hl6 hAg
              go_wp2_with fail
              have K0 := Aside0.mk (below_drew (Below.refl w6.heap.size w6))
              refine wp_region_noPanic ?_
              refine wp_region_held_drew (S := fun W : World => True) (by kernel_rfl) ?_ (fun hHeld => ?_)
              · exact trivial
              refine tk_ (i := 0) (oi := o28_0) (v := ?vnft0) (Or.inl ⟨by rfl, ?hynft0⟩) hHeld ?restnft0
              case hynft0 => (intro w hSw; (try dsimp only at hSw); unfold o28_0; go_simp <;> with_reducible rfl)
              try simp only [o28_0, Act.put, p1_, p2_, p3_]
              refine tk_ (i := 1) (oi := o28_1) (v := ?vnft1) (Or.inl ⟨by rfl, ?hynft1⟩) hHeld ?restnft1
              case hynft1 => (intro w hSw; (try dsimp only at hSw); unfold o28_1; go_simp <;> with_reducible rfl)
              try simp only [o28_1, Act.put, p1_, p2_, p3_]
              refine tk_ (i := 2) (oi := o28_2) (v := undef) (Or.inr ⟨by rfl, rfl⟩) hHeld ?_
              try simp only [o28_2, Act.put, p1_, p2_, p3_]
              refine tk_ (i := 3) (oi := o28_3) (v := undef) (Or.inr ⟨by rfl, rfl⟩) hHeld ?_
              try simp only [o28_3, Act.put, p1_, p2_, p3_]
              refine tk_ (i := 4) (oi := o28_4) (v := undef) (Or.inr ⟨by rfl, rfl⟩) hHeld ?_
              try simp only [o28_4, Act.put, p1_, p2_, p3_]
              refine tk_ (i := 5) (oi := o28_5) (v := undef) (Or.inr ⟨by rfl, rfl⟩) hHeld ?_
              try simp only [o28_5, Act.put, p1_, p2_, p3_]
              refine tk_ (i := 6) (oi := o28_6) (v := undef) (Or.inr ⟨by rfl, rfl⟩) hHeld ?_
              try simp only [o28_6, Act.put, p1_, p2_, p3_]
              refine tk_ (i := 7) (oi := o28_7) (v := undef) (Or.inr ⟨by rfl, rfl⟩) hHeld ?_
              try simp only [o28_7, Act.put, p1_, p2_, p3_]
              refine tk_ (i := 8) (oi := o28_8) (v := undef) (Or.inr ⟨by rfl, rfl⟩) hHeld ?_
              try simp only [o28_8, Act.put, p1_, p2_, p3_]
              refine tk_ (i := 9) (oi := o28_9) (v := undef) (Or.inr ⟨by rfl, rfl⟩) hHeld ?_
              try simp only [o28_9, Act.put, p1_, p2_, p3_]
              refine tk_ (i := 10) (oi := o28_10) (v := undef) (Or.inr ⟨by rfl, rfl⟩) hHeld ?_
              try simp only [o28_10, Act.put, p1_, p2_, p3_]
              refine tk_ (i := 11) (oi := o28_11) (v := undef) (Or.inr ⟨by rfl, rfl⟩) hHeld ?_
              try simp only [o28_11, Act.put, p1_, p2_, p3_]
              refine tk_ (i := 12) (oi := o28_12) (v := undef) (Or.inr ⟨by rfl, rfl⟩) hHeld ?_
              try simp only [o28_12, Act.put, p1_, p2_, p3_]
              refine tk_ (i := 13) (oi := o28_13) (v := undef) (Or.inr ⟨by rfl, rfl⟩) hHeld ?_
              try simp only [o28_13, Act.put, p1_, p2_, p3_]
              refine tk_ (i := 14) (oi := o28_14) (v := undef) (Or.inr ⟨by rfl, rfl⟩) hHeld ?_
              try simp only [o28_14, Act.put, p1_, p2_, p3_]
              refine tk_ (i := 15) (oi := o28_15) (v := undef) (Or.inr ⟨by rfl, rfl⟩) hHeld ?_
              try simp only [o28_15, Act.put, p1_, p2_, p3_]
              refine tk_ (i := 16) (oi := o28_16) (v := undef) (Or.inr ⟨by rfl, rfl⟩) hHeld ?_
              try simp only [o28_16, Act.put, p1_, p2_, p3_]
              refine tk_ (i := 17) (oi := o28_17) (v := undef) (Or.inr ⟨by rfl, rfl⟩) hHeld ?_
              try simp only [o28_17, Act.put, p1_, p2_, p3_]
              refine tk_ (i := 18) (oi := o28_18) (v := undef) (Or.inr ⟨by rfl, rfl⟩) hHeld ?_
              try simp only [o28_18, Act.put, p1_, p2_, p3_]
              refine tk_ (i := 19) (oi := o28_19) (v := undef) (Or.inr ⟨by rfl, rfl⟩) hHeld ?_
              try simp only [o28_19, Act.put, p1_, p2_, p3_]
              refine tk_ (i := 20) (oi := o28_20) (v := undef) (Or.inr ⟨by rfl, rfl⟩) hHeld ?_
              try simp only [o28_20, Act.put, p1_, p2_, p3_]
              refine tk_ (i := 21) (oi := o28_21) (v := undef) (Or.inr ⟨by rfl, rfl⟩) hHeld ?_
              try simp only [o28_21, Act.put, p1_, p2_, p3_]
              refine tk_ (i := 22) (oi := o28_22) (v := ?vnft22) (Or.inl ⟨by rfl, ?hynft22⟩) hHeld ?restnft22
              case hynft22 => (intro w hSw; (try dsimp only at hSw); unfold o28_22; go_simp <;> with_reducible rfl)
              try simp only [o28_22, Act.put, p1_, p2_, p3_]
              refine wpAnyH_done (by kernel_rfl) ?_ _
              refine NoPanic.normal ?_
              have HB7 := Aside0.mk (below_then HB6.out (hB ▸ HB6.out.size) K0.out)
              have HG7 := Aside0.mk (HG6.out.below K0.out)
              have HA7 := Aside0.mk (Kd.R_below HA6.out K0.out)
              clear HB6 HG6 HA6 K0 hHeld
              go_wp2_with fail
              exact ⟨⟨k + 1, done, by omega, by omega, by simp, .slice none 0 0, rows ++ rowsx, HL6.out, HG7, HA7, HB7⟩, by simp [intOf]; omega⟩
        · obtain rfl : k = m := by omega
          obtain ⟨Aa, ca, ea⟩ := Kd.R_slice HA.out
          subst ea
          rw [hrl]
          have ewx : IntKind.i64.wrap ((n : Int) - (done : Int)) = (n : Int) - (done : Int) := by have := HN30.out; rw [IntKind.wrap_i64]; omega
          have hql : (((Qs rs n).drop done).length : Int) = (n : Int) - (done : Int) := by rw [List.length_drop, Qs_length]; omega
          go_wp2_with fail
          refine (Queue_calls g B 2 n _ [] wr HGj.out.at).mono ?_
          rintro e w2 ⟨rfl, rfl⟩
          rw [hql]
          go_wp2_with fail
          refine (asks_true _).mono ?_
          rintro e w3 ⟨rfl, hb⟩
          have HB3 := Aside0.mk (below_then HBj.out (hB ▸ HBj.out.size) hb)
          clear hb
          go_wp2_with fail
          go_ret
          exact ⟨rfl, by rw [hB]; exact HB3.out⟩
end Go.Proofs.Ytpadajkdpldliaa.Ext
