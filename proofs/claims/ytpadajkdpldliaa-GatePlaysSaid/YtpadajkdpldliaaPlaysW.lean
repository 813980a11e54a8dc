/- GatePlays, proved by walking its code (printed by mkplays.py). -/
import Derived.Test.YtpadajkdpldliaaPlaysR
import Derived.Deep.RegionHeld3
namespace Go.Proofs.Ytpadajkdpldliaa.Ext
open Go.RowKit Go.Proofs.YtpadajkdpldliaaW.PrintWords Go.Proofs.YtpadajkdpldliaaW.PrintLast Go.Proofs.YtpadajkdpldliaaW.PrintMore Go.Proofs.YtpadajkdpldliaaW.Hand
set_option linter.unusedVariables false
set_option linter.unusedSimpArgs false
theorem q1_ {α : Type} {l : List α} {i : Nat} {a : α} : l.toArray.setIfInBounds i a = (l.set i a).toArray := List.setIfInBounds_toArray ..
theorem q2_ {α : Type} {x a : α} {l : List α} : (x :: l).set 0 a = a :: l := List.set_cons_zero ..
theorem q3_ {α : Type} {x a : α} {l : List α} {i : Nat} : (x :: l).set (i + 1) a = x :: l.set i a := List.set_cons_succ ..
theorem tq_ {P : Program} {md : Region.Mode} {ops : Array Oper} {Q : Exit → Act → World → Prop} {S : World → Prop} {i : Nat} {oi : Oper} {v : Value} {fuel : Nat} {listed : Array Bool} {a : Act} {w : World} (hy : YieldsIf P ops S oi v a) (hS : S w)
    (h : wpAnyH P md ops Q S fuel (listed.setIfInBounds i true) (a.put oi.dst v) w) (hi : ops[i]? = some oi := by rfl) (hs : Region.noSelect ops = true := by kernel_rfl) (hf : Region.free md ops listed i = true := by kernel_rfl) (hr : (Region.ready md ops listed).contains i = true := by kernel_rfl) (hQ : ∀ c a w, Q (.panic c) (a.put oi.dst v) w → Q (.panic c) a w := by exact fun _ _ _ h => h) : wpAnyH P md ops Q S (fuel + 1) listed a w := wpAnyH_take hi hs hf hr hQ hy hS h
abbrev o3_22_0 : Oper := { dst := some 94, op := Go.Op.move (Go.Operand.tmp 15), type := 41, pos := "law.go:70", after := #[], guard := none }
abbrev o3_22_1 : Oper := { dst := some 95, op := Go.Op.call { callee := Go.Callee.builtin Go.Builtin.len, args := #[Go.Operand.tmp 94], argTypes := #[41] }, type := 3, pos := "law.go:70", after := #[{ on := 0, ground := Go.Ground.data }], guard := none }
abbrev o3_22_2 : Oper := { dst := some 96, op := Go.Op.move (Go.Operand.tmp 16), type := 41, pos := "law.go:70", after := #[], guard := none }
abbrev o3_22_3 : Oper := { dst := some 97, op := Go.Op.call { callee := Go.Callee.builtin Go.Builtin.len, args := #[Go.Operand.tmp 96], argTypes := #[41] }, type := 3, pos := "law.go:70", after := #[{ on := 2, ground := Go.Ground.data }], guard := none }
abbrev o3_22_4 : Oper := { dst := some 98, op := Go.Op.binOp Go.BinOp.neq 3 (Go.Operand.tmp 95) (Go.Operand.tmp 97) 3, type := 4, pos := "law.go:70", after := #[{ on := 1, ground := Go.Ground.data }, { on := 3, ground := Go.Ground.data }], guard := none }
abbrev o3_22_5 : Oper := { dst := some 99, op := Go.Op.move (Go.Operand.tmp 98), type := 4, pos := "law.go:70", after := #[{ on := 4, ground := Go.Ground.data }], guard := none }
abbrev o3_22_6 : Oper := { dst := some 100, op := Go.Op.move (Go.Operand.tmp 15), type := 41, pos := "law.go:70", after := #[{ on := 5, ground := Go.Ground.guard }], guard := some (5, false) }
abbrev o3_22_7 : Oper := { dst := some 101, op := Go.Op.call { callee := Go.Callee.builtin Go.Builtin.len, args := #[Go.Operand.tmp 100], argTypes := #[41] }, type := 3, pos := "law.go:70", after := #[{ on := 6, ground := Go.Ground.data }, { on := 5, ground := Go.Ground.guard }], guard := some (5, false) }
abbrev o3_22_8 : Oper := { dst := some 102, op := Go.Op.binOp Go.BinOp.gtr 3 (Go.Operand.tmp 101) (Go.Operand.const (Go.Value.int Go.IntKind.i64 0)) 3, type := 4, pos := "law.go:70", after := #[{ on := 7, ground := Go.Ground.data }, { on := 5, ground := Go.Ground.guard }], guard := some (5, false) }
abbrev o3_22_9 : Oper := { dst := some 103, op := Go.Op.move (Go.Operand.tmp 102), type := 4, pos := "law.go:70", after := #[{ on := 8, ground := Go.Ground.data }, { on := 5, ground := Go.Ground.chain }, { on := 5, ground := Go.Ground.guard }], guard := some (5, false) }
abbrev o3_22_10 : Oper := { dst := some 104, op := Go.Op.move (Go.Operand.tmp 15), type := 41, pos := "law.go:70", after := #[{ on := 9, ground := Go.Ground.guard }], guard := some (9, true) }
abbrev o3_22_11 : Oper := { dst := some 105, op := Go.Op.indexAddr 41 (Go.Operand.tmp 104) (Go.Operand.const (Go.Value.int Go.IntKind.i64 0)), type := 0, pos := "law.go:70", after := #[{ on := 10, ground := Go.Ground.data }, { on := 9, ground := Go.Ground.guard }], guard := some (9, true) }
abbrev o3_22_12 : Oper := { dst := some 106, op := Go.Op.fieldAddr 44 (Go.Operand.tmp 105) 0, type := 0, pos := "law.go:70", after := #[{ on := 11, ground := Go.Ground.data }, { on := 9, ground := Go.Ground.guard }], guard := some (9, true) }
abbrev o3_22_13 : Oper := { dst := some 107, op := Go.Op.load 28 (Go.Operand.tmp 106), type := 28, pos := "law.go:70", after := #[{ on := 12, ground := Go.Ground.data }, { on := 9, ground := Go.Ground.guard }], guard := some (9, true) }
abbrev o3_22_14 : Oper := { dst := some 108, op := Go.Op.move (Go.Operand.tmp 16), type := 41, pos := "law.go:70", after := #[{ on := 9, ground := Go.Ground.guard }], guard := some (9, true) }
abbrev o3_22_15 : Oper := { dst := some 109, op := Go.Op.indexAddr 41 (Go.Operand.tmp 108) (Go.Operand.const (Go.Value.int Go.IntKind.i64 0)), type := 0, pos := "law.go:70", after := #[{ on := 14, ground := Go.Ground.data }, { on := 9, ground := Go.Ground.guard }], guard := some (9, true) }
abbrev o3_22_16 : Oper := { dst := some 110, op := Go.Op.fieldAddr 44 (Go.Operand.tmp 109) 0, type := 0, pos := "law.go:70", after := #[{ on := 15, ground := Go.Ground.data }, { on := 9, ground := Go.Ground.guard }], guard := some (9, true) }
abbrev o3_22_17 : Oper := { dst := some 111, op := Go.Op.load 28 (Go.Operand.tmp 110), type := 28, pos := "law.go:70", after := #[{ on := 16, ground := Go.Ground.data }, { on := 9, ground := Go.Ground.guard }], guard := some (9, true) }
abbrev o3_22_18 : Oper := { dst := some 112, op := Go.Op.binOp Go.BinOp.neq 28 (Go.Operand.tmp 107) (Go.Operand.tmp 111) 28, type := 4, pos := "law.go:70", after := #[{ on := 13, ground := Go.Ground.data }, { on := 17, ground := Go.Ground.data }, { on := 9, ground := Go.Ground.guard }], guard := some (9, true) }
abbrev o3_22_19 : Oper := { dst := some 113, op := Go.Op.move (Go.Operand.tmp 112), type := 4, pos := "law.go:70", after := #[{ on := 18, ground := Go.Ground.data }, { on := 9, ground := Go.Ground.chain }, { on := 9, ground := Go.Ground.guard }], guard := some (9, true) }
abbrev o3_22_20 : Oper := { dst := some 114, op := Go.Op.move (Go.Operand.tmp 15), type := 41, pos := "law.go:70", after := #[{ on := 19, ground := Go.Ground.guard }], guard := some (19, false) }
abbrev o3_22_21 : Oper := { dst := some 115, op := Go.Op.indexAddr 41 (Go.Operand.tmp 114) (Go.Operand.const (Go.Value.int Go.IntKind.i64 0)), type := 0, pos := "law.go:70", after := #[{ on := 20, ground := Go.Ground.data }, { on := 19, ground := Go.Ground.guard }], guard := some (19, false) }
abbrev o3_22_22 : Oper := { dst := some 116, op := Go.Op.fieldAddr 44 (Go.Operand.tmp 115) 1, type := 0, pos := "law.go:70", after := #[{ on := 21, ground := Go.Ground.data }, { on := 19, ground := Go.Ground.guard }], guard := some (19, false) }
abbrev o3_22_23 : Oper := { dst := some 117, op := Go.Op.load 28 (Go.Operand.tmp 116), type := 28, pos := "law.go:70", after := #[{ on := 22, ground := Go.Ground.data }, { on := 19, ground := Go.Ground.guard }], guard := some (19, false) }
abbrev o3_22_24 : Oper := { dst := some 118, op := Go.Op.move (Go.Operand.tmp 16), type := 41, pos := "law.go:70", after := #[{ on := 19, ground := Go.Ground.guard }], guard := some (19, false) }
abbrev o3_22_25 : Oper := { dst := some 119, op := Go.Op.indexAddr 41 (Go.Operand.tmp 118) (Go.Operand.const (Go.Value.int Go.IntKind.i64 0)), type := 0, pos := "law.go:70", after := #[{ on := 24, ground := Go.Ground.data }, { on := 19, ground := Go.Ground.guard }], guard := some (19, false) }
abbrev o3_22_26 : Oper := { dst := some 120, op := Go.Op.fieldAddr 44 (Go.Operand.tmp 119) 1, type := 0, pos := "law.go:70", after := #[{ on := 25, ground := Go.Ground.data }, { on := 19, ground := Go.Ground.guard }], guard := some (19, false) }
abbrev o3_22_27 : Oper := { dst := some 121, op := Go.Op.load 28 (Go.Operand.tmp 120), type := 28, pos := "law.go:70", after := #[{ on := 26, ground := Go.Ground.data }, { on := 19, ground := Go.Ground.guard }], guard := some (19, false) }
abbrev o3_22_28 : Oper := { dst := some 122, op := Go.Op.binOp Go.BinOp.neq 28 (Go.Operand.tmp 117) (Go.Operand.tmp 121) 28, type := 4, pos := "law.go:70", after := #[{ on := 23, ground := Go.Ground.data }, { on := 27, ground := Go.Ground.data }, { on := 19, ground := Go.Ground.guard }], guard := some (19, false) }
abbrev o3_22_29 : Oper := { dst := some 123, op := Go.Op.pick (Go.Operand.tmp 113) (Go.Operand.const (Go.Value.bool true)) (Go.Operand.tmp 122), type := 4, pos := "law.go:70", after := #[{ on := 19, ground := Go.Ground.data }, { on := 28, ground := Go.Ground.data }, { on := 9, ground := Go.Ground.guard }], guard := some (9, true) }
abbrev o3_22_30 : Oper := { dst := some 124, op := Go.Op.move (Go.Operand.tmp 123), type := 4, pos := "law.go:70", after := #[{ on := 29, ground := Go.Ground.data }, { on := 19, ground := Go.Ground.chain }, { on := 9, ground := Go.Ground.guard }], guard := some (9, true) }
abbrev o3_22_31 : Oper := { dst := some 125, op := Go.Op.move (Go.Operand.tmp 15), type := 41, pos := "law.go:70", after := #[{ on := 30, ground := Go.Ground.guard }], guard := some (30, false) }
abbrev o3_22_32 : Oper := { dst := some 126, op := Go.Op.indexAddr 41 (Go.Operand.tmp 125) (Go.Operand.const (Go.Value.int Go.IntKind.i64 0)), type := 0, pos := "law.go:70", after := #[{ on := 31, ground := Go.Ground.data }, { on := 30, ground := Go.Ground.guard }], guard := some (30, false) }
abbrev o3_22_33 : Oper := { dst := some 127, op := Go.Op.fieldAddr 44 (Go.Operand.tmp 126) 2, type := 0, pos := "law.go:70", after := #[{ on := 32, ground := Go.Ground.data }, { on := 30, ground := Go.Ground.guard }], guard := some (30, false) }
abbrev o3_22_34 : Oper := { dst := some 128, op := Go.Op.load 39 (Go.Operand.tmp 127), type := 39, pos := "law.go:70", after := #[{ on := 33, ground := Go.Ground.data }, { on := 30, ground := Go.Ground.guard }], guard := some (30, false) }
abbrev o3_22_35 : Oper := { dst := some 129, op := Go.Op.convert 39 9 (Go.Operand.tmp 128), type := 9, pos := "law.go:70", after := #[{ on := 34, ground := Go.Ground.data }, { on := 30, ground := Go.Ground.guard }], guard := some (30, false) }
abbrev o3_22_36 : Oper := { dst := some 130, op := Go.Op.move (Go.Operand.tmp 16), type := 41, pos := "law.go:70", after := #[{ on := 30, ground := Go.Ground.guard }], guard := some (30, false) }
abbrev o3_22_37 : Oper := { dst := some 131, op := Go.Op.indexAddr 41 (Go.Operand.tmp 130) (Go.Operand.const (Go.Value.int Go.IntKind.i64 0)), type := 0, pos := "law.go:70", after := #[{ on := 36, ground := Go.Ground.data }, { on := 30, ground := Go.Ground.guard }], guard := some (30, false) }
abbrev o3_22_38 : Oper := { dst := some 132, op := Go.Op.fieldAddr 44 (Go.Operand.tmp 131) 2, type := 0, pos := "law.go:70", after := #[{ on := 37, ground := Go.Ground.data }, { on := 30, ground := Go.Ground.guard }], guard := some (30, false) }
abbrev o3_22_39 : Oper := { dst := some 133, op := Go.Op.load 39 (Go.Operand.tmp 132), type := 39, pos := "law.go:70", after := #[{ on := 38, ground := Go.Ground.data }, { on := 30, ground := Go.Ground.guard }], guard := some (30, false) }
abbrev o3_22_40 : Oper := { dst := some 134, op := Go.Op.convert 39 9 (Go.Operand.tmp 133), type := 9, pos := "law.go:70", after := #[{ on := 39, ground := Go.Ground.data }, { on := 30, ground := Go.Ground.guard }], guard := some (30, false) }
abbrev o3_22_41 : Oper := { dst := some 135, op := Go.Op.binOp Go.BinOp.neq 9 (Go.Operand.tmp 129) (Go.Operand.tmp 134) 9, type := 4, pos := "law.go:70", after := #[{ on := 35, ground := Go.Ground.data }, { on := 40, ground := Go.Ground.data }, { on := 30, ground := Go.Ground.guard }], guard := some (30, false) }
abbrev o3_22_42 : Oper := { dst := some 136, op := Go.Op.pick (Go.Operand.tmp 124) (Go.Operand.const (Go.Value.bool true)) (Go.Operand.tmp 135), type := 4, pos := "law.go:70", after := #[{ on := 30, ground := Go.Ground.data }, { on := 41, ground := Go.Ground.data }, { on := 9, ground := Go.Ground.guard }], guard := some (9, true) }
abbrev o3_22_43 : Oper := { dst := some 137, op := Go.Op.pick (Go.Operand.tmp 103) (Go.Operand.tmp 136) (Go.Operand.const (Go.Value.bool false)), type := 4, pos := "law.go:70", after := #[{ on := 9, ground := Go.Ground.data }, { on := 42, ground := Go.Ground.data }, { on := 5, ground := Go.Ground.guard }], guard := some (5, false) }
abbrev o3_22_44 : Oper := { dst := some 138, op := Go.Op.pick (Go.Operand.tmp 99) (Go.Operand.const (Go.Value.bool true)) (Go.Operand.tmp 137), type := 4, pos := "law.go:70", after := #[{ on := 5, ground := Go.Ground.data }, { on := 43, ground := Go.Ground.data }], guard := none }
abbrev o3_37_0 : Oper := { dst := some 188, op := Go.Op.move (Go.Operand.tmp 17), type := 48, pos := "law.go:85", after := #[], guard := none }
abbrev o3_37_1 : Oper := { dst := some 189, op := Go.Op.move (Go.Operand.tmp 18), type := 3, pos := "law.go:85", after := #[], guard := none }
abbrev o3_37_2 : Oper := { dst := some 190, op := Go.Op.indexAddr 48 (Go.Operand.tmp 188) (Go.Operand.tmp 189), type := 0, pos := "law.go:85", after := #[{ on := 0, ground := Go.Ground.data }, { on := 1, ground := Go.Ground.data }], guard := none }
abbrev o3_37_3 : Oper := { dst := some 191, op := Go.Op.fieldAddr 51 (Go.Operand.tmp 190) 0, type := 0, pos := "law.go:85", after := #[{ on := 2, ground := Go.Ground.data }], guard := none }
abbrev o3_37_4 : Oper := { dst := some 192, op := Go.Op.load 34 (Go.Operand.tmp 191), type := 34, pos := "law.go:85", after := #[{ on := 3, ground := Go.Ground.data }], guard := none }
abbrev o3_37_5 : Oper := { dst := some 193, op := Go.Op.move (Go.Operand.tmp 8), type := 3, pos := "law.go:85", after := #[], guard := none }
abbrev o3_37_6 : Oper := { dst := some 194, op := Go.Op.move (Go.Operand.tmp 18), type := 3, pos := "law.go:85", after := #[], guard := none }
abbrev o3_37_7 : Oper := { dst := some 195, op := Go.Op.binOp Go.BinOp.add 3 (Go.Operand.tmp 193) (Go.Operand.tmp 194) 3, type := 3, pos := "law.go:85", after := #[{ on := 5, ground := Go.Ground.data }, { on := 6, ground := Go.Ground.data }], guard := none }
abbrev o3_37_8 : Oper := { dst := some 196, op := Go.Op.binOp Go.BinOp.add 3 (Go.Operand.tmp 195) (Go.Operand.const (Go.Value.int Go.IntKind.i64 1)) 3, type := 3, pos := "law.go:85", after := #[{ on := 7, ground := Go.Ground.data }], guard := none }
abbrev o3_37_9 : Oper := { dst := some 197, op := Go.Op.convert 3 34 (Go.Operand.tmp 196), type := 34, pos := "law.go:85", after := #[{ on := 8, ground := Go.Ground.data }], guard := none }
abbrev o3_37_10 : Oper := { dst := some 198, op := Go.Op.binOp Go.BinOp.neq 34 (Go.Operand.tmp 192) (Go.Operand.tmp 197) 34, type := 4, pos := "law.go:85", after := #[{ on := 4, ground := Go.Ground.data }, { on := 9, ground := Go.Ground.data }], guard := none }
abbrev o3_37_11 : Oper := { dst := some 199, op := Go.Op.move (Go.Operand.tmp 198), type := 4, pos := "law.go:85", after := #[{ on := 10, ground := Go.Ground.data }], guard := none }
abbrev o3_37_12 : Oper := { dst := some 200, op := Go.Op.move (Go.Operand.tmp 17), type := 48, pos := "law.go:85", after := #[{ on := 11, ground := Go.Ground.guard }], guard := some (11, false) }
abbrev o3_37_13 : Oper := { dst := some 201, op := Go.Op.move (Go.Operand.tmp 18), type := 3, pos := "law.go:85", after := #[{ on := 11, ground := Go.Ground.guard }], guard := some (11, false) }
abbrev o3_37_14 : Oper := { dst := some 202, op := Go.Op.indexAddr 48 (Go.Operand.tmp 200) (Go.Operand.tmp 201), type := 0, pos := "law.go:85", after := #[{ on := 12, ground := Go.Ground.data }, { on := 13, ground := Go.Ground.data }, { on := 11, ground := Go.Ground.guard }], guard := some (11, false) }
abbrev o3_37_15 : Oper := { dst := some 203, op := Go.Op.fieldAddr 51 (Go.Operand.tmp 202) 1, type := 0, pos := "law.go:85", after := #[{ on := 14, ground := Go.Ground.data }, { on := 11, ground := Go.Ground.guard }], guard := some (11, false) }
abbrev o3_37_16 : Oper := { dst := some 204, op := Go.Op.load 39 (Go.Operand.tmp 203), type := 39, pos := "law.go:85", after := #[{ on := 15, ground := Go.Ground.data }, { on := 11, ground := Go.Ground.guard }], guard := some (11, false) }
abbrev o3_37_17 : Oper := { dst := some 205, op := Go.Op.convert 39 9 (Go.Operand.tmp 204), type := 9, pos := "law.go:85", after := #[{ on := 16, ground := Go.Ground.data }, { on := 11, ground := Go.Ground.guard }], guard := some (11, false) }
abbrev o3_37_18 : Oper := { dst := some 206, op := Go.Op.move (Go.Operand.tmp 7), type := 30, pos := "law.go:85", after := #[{ on := 11, ground := Go.Ground.guard }], guard := some (11, false) }
abbrev o3_37_19 : Oper := { dst := some 207, op := Go.Op.nilCheck (Go.Operand.tmp 206), type := 0, pos := "law.go:85", after := #[{ on := 18, ground := Go.Ground.data }, { on := 11, ground := Go.Ground.guard }], guard := some (11, false) }
abbrev o3_37_20 : Oper := { dst := some 208, op := Go.Op.fieldAddr 33 (Go.Operand.tmp 207) 3, type := 0, pos := "law.go:85", after := #[{ on := 19, ground := Go.Ground.data }, { on := 11, ground := Go.Ground.guard }], guard := some (11, false) }
abbrev o3_37_21 : Oper := { dst := some 209, op := Go.Op.load 31 (Go.Operand.tmp 208), type := 31, pos := "law.go:85", after := #[{ on := 20, ground := Go.Ground.data }, { on := 11, ground := Go.Ground.guard }], guard := some (11, false) }
abbrev o3_37_22 : Oper := { dst := some 210, op := Go.Op.move (Go.Operand.tmp 8), type := 3, pos := "law.go:85", after := #[{ on := 11, ground := Go.Ground.guard }], guard := some (11, false) }
abbrev o3_37_23 : Oper := { dst := some 211, op := Go.Op.move (Go.Operand.tmp 18), type := 3, pos := "law.go:85", after := #[{ on := 11, ground := Go.Ground.guard }], guard := some (11, false) }
abbrev o3_37_24 : Oper := { dst := some 212, op := Go.Op.binOp Go.BinOp.add 3 (Go.Operand.tmp 210) (Go.Operand.tmp 211) 3, type := 3, pos := "law.go:85", after := #[{ on := 22, ground := Go.Ground.data }, { on := 23, ground := Go.Ground.data }, { on := 11, ground := Go.Ground.guard }], guard := some (11, false) }
abbrev o3_37_25 : Oper := { dst := some 213, op := Go.Op.indexAddr 31 (Go.Operand.tmp 209) (Go.Operand.tmp 212), type := 0, pos := "law.go:85", after := #[{ on := 21, ground := Go.Ground.data }, { on := 24, ground := Go.Ground.data }, { on := 11, ground := Go.Ground.guard }], guard := some (11, false) }
abbrev o3_37_26 : Oper := { dst := some 214, op := Go.Op.load 9 (Go.Operand.tmp 213), type := 9, pos := "law.go:85", after := #[{ on := 25, ground := Go.Ground.data }, { on := 11, ground := Go.Ground.guard }], guard := some (11, false) }
abbrev o3_37_27 : Oper := { dst := some 215, op := Go.Op.binOp Go.BinOp.neq 9 (Go.Operand.tmp 205) (Go.Operand.tmp 214) 9, type := 4, pos := "law.go:85", after := #[{ on := 17, ground := Go.Ground.data }, { on := 26, ground := Go.Ground.data }, { on := 11, ground := Go.Ground.guard }], guard := some (11, false) }
abbrev o3_37_28 : Oper := { dst := some 216, op := Go.Op.pick (Go.Operand.tmp 199) (Go.Operand.const (Go.Value.bool true)) (Go.Operand.tmp 215), type := 4, pos := "law.go:85", after := #[{ on := 11, ground := Go.Ground.data }, { on := 27, ground := Go.Ground.data }], guard := none }
abbrev o3_40_0 : Oper := { dst := some 222, op := Go.Op.move (Go.Operand.tmp 5), type := 24, pos := "law.go:91", after := #[], guard := none }
abbrev o3_40_1 : Oper := { dst := some 223, op := Go.Op.call { callee := Go.Callee.value (Go.Operand.func 21), args := #[Go.Operand.tmp 222], argTypes := #[24] }, type := 3, pos := "law.go:91", after := #[{ on := 0, ground := Go.Ground.data }], guard := none }
abbrev o3_40_2 : Oper := { dst := some 224, op := Go.Op.move (Go.Operand.tmp 7), type := 30, pos := "law.go:91", after := #[], guard := none }
abbrev o3_40_3 : Oper := { dst := some 225, op := Go.Op.nilCheck (Go.Operand.tmp 224), type := 0, pos := "law.go:91", after := #[{ on := 2, ground := Go.Ground.data }], guard := none }
abbrev o3_40_4 : Oper := { dst := some 226, op := Go.Op.fieldAddr 33 (Go.Operand.tmp 225) 1, type := 0, pos := "law.go:91", after := #[{ on := 3, ground := Go.Ground.data }], guard := none }
abbrev o3_40_5 : Oper := { dst := some 227, op := Go.Op.load 31 (Go.Operand.tmp 226), type := 31, pos := "law.go:91", after := #[{ on := 4, ground := Go.Ground.data }], guard := none }
abbrev o3_40_6 : Oper := { dst := some 228, op := Go.Op.call { callee := Go.Callee.builtin Go.Builtin.len, args := #[Go.Operand.tmp 227], argTypes := #[31] }, type := 3, pos := "law.go:91", after := #[{ on := 5, ground := Go.Ground.data }], guard := none }
abbrev o3_40_7 : Oper := { dst := some 229, op := Go.Op.move (Go.Operand.tmp 7), type := 30, pos := "law.go:91", after := #[], guard := none }
abbrev o3_40_8 : Oper := { dst := some 230, op := Go.Op.nilCheck (Go.Operand.tmp 229), type := 0, pos := "law.go:91", after := #[{ on := 7, ground := Go.Ground.data }], guard := none }
abbrev o3_40_9 : Oper := { dst := some 231, op := Go.Op.fieldAddr 33 (Go.Operand.tmp 230) 2, type := 0, pos := "law.go:91", after := #[{ on := 8, ground := Go.Ground.data }], guard := none }
abbrev o3_40_10 : Oper := { dst := some 232, op := Go.Op.load 3 (Go.Operand.tmp 231), type := 3, pos := "law.go:91", after := #[{ on := 9, ground := Go.Ground.data }], guard := none }
abbrev o3_40_11 : Oper := { dst := some 233, op := Go.Op.binOp Go.BinOp.sub 3 (Go.Operand.tmp 228) (Go.Operand.tmp 232) 3, type := 3, pos := "law.go:91", after := #[{ on := 6, ground := Go.Ground.data }, { on := 10, ground := Go.Ground.data }], guard := none }
abbrev o3_40_12 : Oper := { dst := some 234, op := Go.Op.binOp Go.BinOp.neq 3 (Go.Operand.tmp 223) (Go.Operand.tmp 233) 3, type := 4, pos := "law.go:91", after := #[{ on := 1, ground := Go.Ground.data }, { on := 11, ground := Go.Ground.data }], guard := none }
theorem rget_bytes {l : List Int} {q : Rq} (h : rget l = some q) (hb : ∀ x ∈ l, IsByte x) : ∀ x ∈ q.2, IsByte x := by
  unfold rget at h
  by_cases h1 : l.length < 12
  · rw [if_pos h1] at h; cases h
  · rw [if_neg h1] at h
    by_cases h2 : lett (beVal (l.take 8)) (l.drop 12) = l
    · rw [if_pos h2] at h
      injection h with h
      subst h
      exact fun x hx => hb x (List.mem_of_mem_drop hx)
    · rw [if_neg h2] at h; cases h
theorem le_grownCap_ (w : World) (n : Nat) (e : TypeId) : n ≤ grownCap w n 0 e := grownCap_ge w n 0 e
set_option maxRecDepth 100000 in
set_option maxHeartbeats 64000000 in
theorem plays_go (me : Int) (A : Option Addr) (c n : Nat) (L : List (Int × Int × ByteArray)) (hn : L.length = n) (w : World) (hA : ActsAt w A L) :
    Calls Try.prog 3 #[.int .i64 me, .slice A n c] w fun e w' => e = .returned (.bool true) ∧ Below w.heap.size w w' := by
  have kgr := Aside0.mk (great_calls A c n L hn w hA)
  have HA := Aside0.mk hA
  have HN := Aside0.mk hn
  clear hA hn
  go_enter Try.func3, Try.ntmps3
  go_wp2_with fail
  refine kgr.out.mono ?_
  rintro e w1 ⟨r, rfl, hr, rfl⟩
  cases r
  case true =>
    go_wp2_with fail
    go_ret
    exact ⟨rfl, Below.refl _ _⟩
  obtain ⟨hn200, hsz⟩ := hr rfl
  have HN200 := Aside0.mk hn200
  have HSZ := Aside0.mk hsz
  clear hr hn200 hsz kgr
  by_cases hme : 1 ≤ me ∧ me ≤ 3
  case neg =>
    go_wp2_with fail
    refine (gNew_bad me w (by omega)).mono ?_
    rintro e w1 ⟨rfl, rfl⟩
    by_cases h1 : me < 1
    · go_wp2_with fail
      refine (asks_true _).mono ?_
      rintro e w2 ⟨rfl, hb⟩
      have HB2 := Aside0.mk hb
      clear hb
      go_wp2_with fail
      go_ret
      exact ⟨rfl, HB2.out⟩
    · have h3 : 3 < me := by omega
      go_wp2_with fail
      refine (asks_true _).mono ?_
      rintro e w2 ⟨rfl, hb⟩
      have HB2 := Aside0.mk hb
      clear hb
      go_wp2_with fail
      go_ret
      exact ⟨rfl, HB2.out⟩
  obtain ⟨hm1, hm3⟩ := hme
  have m1 : ¬ me < 1 := by omega
  have m3 : ¬ 3 < me := by omega
  go_wp2_with fail
  refine (gNew_calls me w hm1 hm3).mono ?_
  rintro e w1 ⟨g, rfl, hG, hb⟩
  obtain ⟨B, hB⟩ : ∃ B, w.heap.size = B := ⟨_, rfl⟩
  rw [hB] at hG hb
  have hbs : B ≤ w1.heap.size := by have := hb.size; omega
  have hal := below_alloc (Below.refl w1.heap.size w1) (Obj.cells #[.int .i64 me, .slice none 0 0, .int .i64 0, .slice none 0 0] 33)
  obtain ⟨vb0, hv0⟩ := GAtP.v (GAtP.mono (GAt.bound hG) (P' := fun x => x < w1.heap.size) (fun x hx => hx))
  have PX0 : Aside0 (PX w (w1.alloc (Obj.cells #[.int .i64 me, .slice none 0 0, .int .i64 0, .slice none 0 0] 33)) g w1.heap.size B me ((([] : List ByteArray).length : Nat) : Int) ((Qs [] ([] : List ByteArray).length).drop 0) (Rs27 [] 0) vb0 [] 0 [] (.slice none 0 0) (.slice none 0 0)) := ⟨⟨(hv0.below hal).mono (fun x hx _ => ⟨by omega, by simp [Value.ownBlock], by simp [Value.ownBlock]⟩), ⟨Blk.new_, Kd.R_nil _ _ _ _ _, Kd.R_nil _ _ _ _ _, hbs⟩, by have := hG.lt; omega, below_then hb hbs hal⟩⟩
  have PL0 : Aside0 (PL 0 [] 0 [] 0) := ⟨⟨Nat.le_refl _, Nat.le_refl _, by simp, rfl, Nat.le_refl _, fun s hs => by cases hs⟩⟩
  clear hG hb hv0 hal hm1 hm3
  go_wp2_with fail
  obtain ⟨w2, hw2⟩ : ∃ X, w1.alloc (Obj.cells #[.int .i64 me, .slice none 0 0, .int .i64 0, .slice none 0 0] 33) = X := ⟨_, rfl⟩
  rw [hw2] at PX0 ⊢
  obtain ⟨p, hp⟩ : ∃ p, w1.heap.size = p := ⟨_, rfl⟩
  rw [hp] at PX0 ⊢
  clear hw2 hp hbs
  go_loopw [8, 9] (fun tv i wr => ∃ (j told : Nat) (asks : List ByteArray) (done : Nat) (ans : List ByteArray) (va vs vb : Value), j ≤ n ∧ i = .int .i64 j ∧ tv = .int .i64 told ∧ Aside0 (PX w wr g p B me (asks.length : Int) ((Qs asks asks.length).drop done) (Rs27 ans told) vb asks done ans va vs) ∧ Aside0 (PL j asks done ans told)) (fun _ i _ => n - (intOf i).toNat)
  case atStart => exact ⟨0, 0, [], 0, [], _, _, vb0, Nat.zero_le _, rfl, rfl, PX0, PL0⟩
  case round =>
    obtain ⟨j, told, asks, done, ans, va, vs, vb, hj, rfl, rfl, HPX, HPJ⟩ := hrel
    clear PX0 PL0
    by_cases hlt : j < n
    · have hlt1 : (j : Int) < (n : Int) := by omega
      have HJ := Aside0.mk (show j < 200 by have := HN200.out; omega)
      have ewj : IntKind.i64.wrap ((j : Int) + 1) = (j : Int) + 1 := by have := HJ.out; rw [IntKind.wrap_i64]; omega
      have hBw : B ≤ wr.heap.size := by have := HPX.out.2.2.2.size; omega
      obtain ⟨ab, ao, ea, c0, c1, c2⟩ := (HA.out.below (hB ▸ HPX.out.2.2.2)).at j (by have := HN.out; omega)
      cases ea
      have hmem : L.getD j (0, 0, ByteArray.empty) ∈ L := by
        have hjl : j < L.length := by have := HN.out; omega
        simp only [List.getD_eq_getElem?_getD, List.getElem?_eq_getElem hjl]; exact List.getElem_mem hjl
      have hrange := HA.out.1 _ hmem
      have hss := HSZ.out j hlt
      obtain ⟨⟨dd, nn, s⟩, hact⟩ : ∃ x, L.getD j (0, 0, ByteArray.empty) = x := ⟨_, rfl⟩
      rw [hact] at c0 c1 c2 hrange hss
      obtain ⟨r1, r2, r3, r4, _⟩ := hrange
      dsimp only at c0 c1 c2 r1 r2 r3 r4 hss
      have HNN := Aside0.mk (show 0 ≤ nn ∧ nn < 18446744073709551616 from ⟨r3, r4⟩)
      have HSS := Aside0.mk hss
      have kcs : ∀ W : World, (convert 9 39 (.string s)).run Try.prog W = .ok (.slice (some ⟨W.heap.size, 0, none⟩) s.size (grownCap W s.size 0 5)) (Lib.bytesWorld W 5 s) := fun W => Lib.run_convert_string_bytes (P := Try.prog) W 9 39 5 s Try.underlying9 Try.underlying39 Try.underlying5
      have hx : dd.tmod 5 = 0 ∨ dd.tmod 5 = 1 ∨ dd.tmod 5 = 2 ∨ dd.tmod 5 = 3 ∨ dd.tmod 5 = 4 := by rw [Int.tmod_eq_emod_of_nonneg r1]; omega
      have PX1 := Aside0.mk (HPX.out.below (below_alloc (Below.refl wr.heap.size wr) (Obj.cells #[.int .u8 dd, .int .u64 nn, .string s] 36)))
      have XA1 : Aside0 (Blk (wr.alloc (Obj.cells #[.int .u8 dd, .int .u64 nn, .string s] 36)) wr.heap.size (Obj.cells #[.int .u8 dd, .int .u64 nn, .string s] 36 (0, 0))) := ⟨Blk.new_⟩
      have HPA := Aside0.mk (show g < wr.heap.size ∧ p < wr.heap.size from ⟨HPX.out.1.at.lt, HPX.out.2.1.lt⟩)
      clear hmem hss hact r1 r2 r3 r4
      rcases hx with hx | hx | hx | hx | hx
      · by_cases hfull : 32 ≤ asks.length - done
        · by_cases hlong : 1000 < s.size
          · as_aux_lemma =>
              have hq : 32 ≤ asks.length - done := hfull
              have PXb := Aside0.mk (PX1.out.below (str_below (wr.alloc (Obj.cells #[.int .u8 dd, .int .u64 nn, .string s] 36)) 5 s))
              have XAb := Aside0.mk (XA1.out.below (str_below (wr.alloc (Obj.cells #[.int .u8 dd, .int .u64 nn, .string s] 36)) 5 s))
              go_wp2_with fail
              obtain ⟨w2, hw2⟩ : ∃ X, (Lib.bytesWorld (wr.alloc (Obj.cells #[.int .u8 dd, .int .u64 nn, .string s] 36)) 5 s) = X := ⟨_, rfl⟩
              rw [hw2] at PXb XAb ⊢
              refine (Ask_full g B me (asks.length : Int) _ _ _ _ s.size w2 PXb.out.1.at (by rw [Qs_qlen]; omega)).mono ?_
              rintro e w3 ⟨rfl, rfl⟩
              have c2 := (XAb.out.cell 2).trans (rfl : _ = some (Value.string s))
              clear hw2
              go_wp2_with fail
              refine (RAsk_full p B me asks done ans _ _ s w2 PXb.out.2.1 HPJ.out.hd (by have := HPJ.out.hl; have := HJ.out; omega) hq).mono ?_
              rintro e w4 ⟨rfl, hb⟩
              have PX4 := Aside0.mk (PXb.out.below hb)
              clear hb c2
              go_wp2_with fail
              obtain ⟨asks2, done2, ans2, va2, vs2, vb2, HPX, HPL⟩ : ∃ (asks2 : List ByteArray) (done2 : Nat) (ans2 : List ByteArray) (va2 vs2 vb2 : Value), Aside0 (PX w w4 g p B me (asks2.length : Int) ((Qs asks2 asks2.length).drop done2) (Rs27 ans2 told) vb2 asks2 done2 ans2 va2 vs2) ∧ Aside0 (PL (j + 1) asks2 done2 ans2 told) := ⟨_, _, _, _, _, _, ⟨PX4.out⟩, ⟨HPJ.out.more⟩⟩
              obtain ⟨A8, c8, e8⟩ := Kd.R_slice HPX.out.2.1.2.1
              subst e8
              have ew8 : IntKind.i64.wrap ((asks2.length : Int) - (done2 : Int)) = (asks2.length : Int) - (done2 : Int) := by have := HPL.out.hd; have := HPL.out.hl; have := HJ.out; rw [IntKind.wrap_i64]; omega
              have hql : (((Qs asks2 asks2.length).drop done2).length : Int) = (asks2.length : Int) - (done2 : Int) := by rw [Qs_qlen]; have := HPL.out.hd; omega
              have K0 := Aside0.mk (below_drew (Below.refl w4.heap.size w4))
              have Sall : Aside0 (∀ X : World, Below w4.heap.size w4 X → X.cell? ⟨p, 1, none⟩ = some (.slice A8 asks2.length c8) ∧ X.cell? ⟨p, 2, none⟩ = some (.int .i64 (done2 : Int))) := ⟨fun X hX => ⟨((HPX.out.2.1.1.below hX).cell 1).trans rfl, ((HPX.out.2.1.1.below hX).cell 2).trans rfl⟩⟩
              refine wp_region_noPanic ?_
              refine wp_region_held_drew (S := fun X : World => X.cell? ⟨p, 1, none⟩ = some (.slice A8 asks2.length c8) ∧ X.cell? ⟨p, 2, none⟩ = some (.int .i64 (done2 : Int))) (by kernel_rfl) ?_ (fun hHeld => ?_)
              · exact Sall.out _ K0.out
              refine tq_ (i := 0) (oi := o3_40_0) (v := ?vafq0) (Or.inl ⟨by rfl, ?hyafq0⟩) hHeld ?restafq0
              case hyafq0 => (intro w hSw; (try dsimp only at hSw); unfold o3_40_0; go_simp <;> with_reducible rfl)
              try simp only [o3_40_0, Act.put, q1_, q2_, q3_]
              refine tq_ (i := 2) (oi := o3_40_2) (v := ?vafq2) (Or.inl ⟨by rfl, ?hyafq2⟩) hHeld ?restafq2
              case hyafq2 => (intro w hSw; (try dsimp only at hSw); unfold o3_40_2; go_simp <;> with_reducible rfl)
              try simp only [o3_40_2, Act.put, q1_, q2_, q3_]
              refine tq_ (i := 3) (oi := o3_40_3) (v := ?vafq3) (Or.inl ⟨by rfl, ?hyafq3⟩) hHeld ?restafq3
              case hyafq3 => (intro w hSw; (try dsimp only at hSw); unfold o3_40_3; go_simp <;> with_reducible rfl)
              try simp only [o3_40_3, Act.put, q1_, q2_, q3_]
              refine tq_ (i := 4) (oi := o3_40_4) (v := ?vafq4) (Or.inl ⟨by rfl, ?hyafq4⟩) hHeld ?restafq4
              case hyafq4 => (intro w hSw; (try dsimp only at hSw); unfold o3_40_4; go_simp <;> with_reducible rfl)
              try simp only [o3_40_4, Act.put, q1_, q2_, q3_]
              refine tq_ (i := 5) (oi := o3_40_5) (v := ?vafq5) (Or.inl ⟨by rfl, ?hyafq5⟩) hHeld ?restafq5
              case hyafq5 => (intro w hSw; (try dsimp only at hSw); unfold o3_40_5; go_simp <;> with_reducible rfl)
              try simp only [o3_40_5, Act.put, q1_, q2_, q3_]
              refine tq_ (i := 6) (oi := o3_40_6) (v := ?vafq6) (Or.inl ⟨by rfl, ?hyafq6⟩) hHeld ?restafq6
              case hyafq6 => (intro w hSw; (try dsimp only at hSw); unfold o3_40_6; go_simp <;> with_reducible rfl)
              try simp only [o3_40_6, Act.put, q1_, q2_, q3_]
              refine tq_ (i := 7) (oi := o3_40_7) (v := ?vafq7) (Or.inl ⟨by rfl, ?hyafq7⟩) hHeld ?restafq7
              case hyafq7 => (intro w hSw; (try dsimp only at hSw); unfold o3_40_7; go_simp <;> with_reducible rfl)
              try simp only [o3_40_7, Act.put, q1_, q2_, q3_]
              refine tq_ (i := 8) (oi := o3_40_8) (v := ?vafq8) (Or.inl ⟨by rfl, ?hyafq8⟩) hHeld ?restafq8
              case hyafq8 => (intro w hSw; (try dsimp only at hSw); unfold o3_40_8; go_simp <;> with_reducible rfl)
              try simp only [o3_40_8, Act.put, q1_, q2_, q3_]
              refine tq_ (i := 9) (oi := o3_40_9) (v := ?vafq9) (Or.inl ⟨by rfl, ?hyafq9⟩) hHeld ?restafq9
              case hyafq9 => (intro w hSw; (try dsimp only at hSw); unfold o3_40_9; go_simp <;> with_reducible rfl)
              try simp only [o3_40_9, Act.put, q1_, q2_, q3_]
              refine tq_ (i := 10) (oi := o3_40_10) (v := ?vafq10) (Or.inl ⟨by rfl, ?hyafq10⟩) hHeld ?restafq10
              case hyafq10 => (intro w hSw; (try dsimp only at hSw); unfold o3_40_10; go_simp <;> with_reducible rfl)
              try simp only [o3_40_10, Act.put, q1_, q2_, q3_]
              refine tq_ (i := 11) (oi := o3_40_11) (v := ?vafq11) (Or.inl ⟨by rfl, ?hyafq11⟩) hHeld ?restafq11
              case hyafq11 => (intro w hSw; (try dsimp only at hSw); unfold o3_40_11; go_simp <;> with_reducible rfl)
              try simp only [o3_40_11, Act.put, q1_, q2_, q3_]
              refine wpAnyH_ready (rs := [1]) (by kernel_rfl) (by simp) ?_
              refine AllReadyH.cons (o := o3_40_1) rfl (fun K hK => ?_) AllReadyH.nil
              unfold o3_40_1; go_simp
              go_wp2_with (first | (go_at_call 21; refine (Queue_calls g B me _ _ _ _ (HPX.out.below K0.out).1.at).mono ?_; rintro e w9 ⟨rfl, rfl⟩; rw [hql]))
              refine hK.out _ _ (Sall.out _ K0.out) (fun hHeld' => ?_)
              clear hK K hHeld
              have hHeld := hHeld'
              clear hHeld'
              try simp only [Act.put, q1_, q2_, q3_]
              refine tq_ (i := 12) (oi := o3_40_12) (v := ?vafq12) (Or.inl ⟨by rfl, ?hyafq12⟩) hHeld ?restafq12
              case hyafq12 => (intro w hSw; (try dsimp only at hSw); unfold o3_40_12; go_simp <;> with_reducible rfl)
              try simp only [o3_40_12, Act.put, q1_, q2_, q3_]
              refine wpAnyH_done (by kernel_rfl) ?_ _
              refine NoPanic.normal ?_
              have HPX2 := Aside0.mk (HPX.out.below K0.out)
              clear Sall HPX hHeld
              go_wp2_with fail
              exact ⟨⟨j + 1, told, asks2, done2, ans2, .slice A8 asks2.length c8, vs2, vb2, by omega, by simp, rfl, HPX2, HPL⟩, by simp [intOf]; omega⟩
          · as_aux_lemma =>
              have hq : 32 ≤ asks.length - done := hfull
              have PXb := Aside0.mk (PX1.out.below (str_below (wr.alloc (Obj.cells #[.int .u8 dd, .int .u64 nn, .string s] 36)) 5 s))
              have XAb := Aside0.mk (XA1.out.below (str_below (wr.alloc (Obj.cells #[.int .u8 dd, .int .u64 nn, .string s] 36)) 5 s))
              go_wp2_with fail
              obtain ⟨w2, hw2⟩ : ∃ X, (Lib.bytesWorld (wr.alloc (Obj.cells #[.int .u8 dd, .int .u64 nn, .string s] 36)) 5 s) = X := ⟨_, rfl⟩
              rw [hw2] at PXb XAb ⊢
              refine (Ask_full g B me (asks.length : Int) _ _ _ _ s.size w2 PXb.out.1.at (by rw [Qs_qlen]; omega)).mono ?_
              rintro e w3 ⟨rfl, rfl⟩
              have c2 := (XAb.out.cell 2).trans (rfl : _ = some (Value.string s))
              clear hw2
              go_wp2_with fail
              refine (RAsk_full p B me asks done ans _ _ s w2 PXb.out.2.1 HPJ.out.hd (by have := HPJ.out.hl; have := HJ.out; omega) hq).mono ?_
              rintro e w4 ⟨rfl, hb⟩
              have PX4 := Aside0.mk (PXb.out.below hb)
              clear hb c2
              go_wp2_with fail
              obtain ⟨asks2, done2, ans2, va2, vs2, vb2, HPX, HPL⟩ : ∃ (asks2 : List ByteArray) (done2 : Nat) (ans2 : List ByteArray) (va2 vs2 vb2 : Value), Aside0 (PX w w4 g p B me (asks2.length : Int) ((Qs asks2 asks2.length).drop done2) (Rs27 ans2 told) vb2 asks2 done2 ans2 va2 vs2) ∧ Aside0 (PL (j + 1) asks2 done2 ans2 told) := ⟨_, _, _, _, _, _, ⟨PX4.out⟩, ⟨HPJ.out.more⟩⟩
              obtain ⟨A8, c8, e8⟩ := Kd.R_slice HPX.out.2.1.2.1
              subst e8
              have ew8 : IntKind.i64.wrap ((asks2.length : Int) - (done2 : Int)) = (asks2.length : Int) - (done2 : Int) := by have := HPL.out.hd; have := HPL.out.hl; have := HJ.out; rw [IntKind.wrap_i64]; omega
              have hql : (((Qs asks2 asks2.length).drop done2).length : Int) = (asks2.length : Int) - (done2 : Int) := by rw [Qs_qlen]; have := HPL.out.hd; omega
              have K0 := Aside0.mk (below_drew (Below.refl w4.heap.size w4))
              have Sall : Aside0 (∀ X : World, Below w4.heap.size w4 X → X.cell? ⟨p, 1, none⟩ = some (.slice A8 asks2.length c8) ∧ X.cell? ⟨p, 2, none⟩ = some (.int .i64 (done2 : Int))) := ⟨fun X hX => ⟨((HPX.out.2.1.1.below hX).cell 1).trans rfl, ((HPX.out.2.1.1.below hX).cell 2).trans rfl⟩⟩
              refine wp_region_noPanic ?_
              refine wp_region_held_drew (S := fun X : World => X.cell? ⟨p, 1, none⟩ = some (.slice A8 asks2.length c8) ∧ X.cell? ⟨p, 2, none⟩ = some (.int .i64 (done2 : Int))) (by kernel_rfl) ?_ (fun hHeld => ?_)
              · exact Sall.out _ K0.out
              refine tq_ (i := 0) (oi := o3_40_0) (v := ?vagq0) (Or.inl ⟨by rfl, ?hyagq0⟩) hHeld ?restagq0
              case hyagq0 => (intro w hSw; (try dsimp only at hSw); unfold o3_40_0; go_simp <;> with_reducible rfl)
              try simp only [o3_40_0, Act.put, q1_, q2_, q3_]
              refine tq_ (i := 2) (oi := o3_40_2) (v := ?vagq2) (Or.inl ⟨by rfl, ?hyagq2⟩) hHeld ?restagq2
              case hyagq2 => (intro w hSw; (try dsimp only at hSw); unfold o3_40_2; go_simp <;> with_reducible rfl)
              try simp only [o3_40_2, Act.put, q1_, q2_, q3_]
              refine tq_ (i := 3) (oi := o3_40_3) (v := ?vagq3) (Or.inl ⟨by rfl, ?hyagq3⟩) hHeld ?restagq3
              case hyagq3 => (intro w hSw; (try dsimp only at hSw); unfold o3_40_3; go_simp <;> with_reducible rfl)
              try simp only [o3_40_3, Act.put, q1_, q2_, q3_]
              refine tq_ (i := 4) (oi := o3_40_4) (v := ?vagq4) (Or.inl ⟨by rfl, ?hyagq4⟩) hHeld ?restagq4
              case hyagq4 => (intro w hSw; (try dsimp only at hSw); unfold o3_40_4; go_simp <;> with_reducible rfl)
              try simp only [o3_40_4, Act.put, q1_, q2_, q3_]
              refine tq_ (i := 5) (oi := o3_40_5) (v := ?vagq5) (Or.inl ⟨by rfl, ?hyagq5⟩) hHeld ?restagq5
              case hyagq5 => (intro w hSw; (try dsimp only at hSw); unfold o3_40_5; go_simp <;> with_reducible rfl)
              try simp only [o3_40_5, Act.put, q1_, q2_, q3_]
              refine tq_ (i := 6) (oi := o3_40_6) (v := ?vagq6) (Or.inl ⟨by rfl, ?hyagq6⟩) hHeld ?restagq6
              case hyagq6 => (intro w hSw; (try dsimp only at hSw); unfold o3_40_6; go_simp <;> with_reducible rfl)
              try simp only [o3_40_6, Act.put, q1_, q2_, q3_]
              refine tq_ (i := 7) (oi := o3_40_7) (v := ?vagq7) (Or.inl ⟨by rfl, ?hyagq7⟩) hHeld ?restagq7
              case hyagq7 => (intro w hSw; (try dsimp only at hSw); unfold o3_40_7; go_simp <;> with_reducible rfl)
              try simp only [o3_40_7, Act.put, q1_, q2_, q3_]
              refine tq_ (i := 8) (oi := o3_40_8) (v := ?vagq8) (Or.inl ⟨by rfl, ?hyagq8⟩) hHeld ?restagq8
              case hyagq8 => (intro w hSw; (try dsimp only at hSw); unfold o3_40_8; go_simp <;> with_reducible rfl)
              try simp only [o3_40_8, Act.put, q1_, q2_, q3_]
              refine tq_ (i := 9) (oi := o3_40_9) (v := ?vagq9) (Or.inl ⟨by rfl, ?hyagq9⟩) hHeld ?restagq9
              case hyagq9 => (intro w hSw; (try dsimp only at hSw); unfold o3_40_9; go_simp <;> with_reducible rfl)
              try simp only [o3_40_9, Act.put, q1_, q2_, q3_]
              refine tq_ (i := 10) (oi := o3_40_10) (v := ?vagq10) (Or.inl ⟨by rfl, ?hyagq10⟩) hHeld ?restagq10
              case hyagq10 => (intro w hSw; (try dsimp only at hSw); unfold o3_40_10; go_simp <;> with_reducible rfl)
              try simp only [o3_40_10, Act.put, q1_, q2_, q3_]
              refine tq_ (i := 11) (oi := o3_40_11) (v := ?vagq11) (Or.inl ⟨by rfl, ?hyagq11⟩) hHeld ?restagq11
              case hyagq11 => (intro w hSw; (try dsimp only at hSw); unfold o3_40_11; go_simp <;> with_reducible rfl)
              try simp only [o3_40_11, Act.put, q1_, q2_, q3_]
              refine wpAnyH_ready (rs := [1]) (by kernel_rfl) (by simp) ?_
              refine AllReadyH.cons (o := o3_40_1) rfl (fun K hK => ?_) AllReadyH.nil
              unfold o3_40_1; go_simp
              go_wp2_with (first | (go_at_call 21; refine (Queue_calls g B me _ _ _ _ (HPX.out.below K0.out).1.at).mono ?_; rintro e w9 ⟨rfl, rfl⟩; rw [hql]))
              refine hK.out _ _ (Sall.out _ K0.out) (fun hHeld' => ?_)
              clear hK K hHeld
              have hHeld := hHeld'
              clear hHeld'
              try simp only [Act.put, q1_, q2_, q3_]
              refine tq_ (i := 12) (oi := o3_40_12) (v := ?vagq12) (Or.inl ⟨by rfl, ?hyagq12⟩) hHeld ?restagq12
              case hyagq12 => (intro w hSw; (try dsimp only at hSw); unfold o3_40_12; go_simp <;> with_reducible rfl)
              try simp only [o3_40_12, Act.put, q1_, q2_, q3_]
              refine wpAnyH_done (by kernel_rfl) ?_ _
              refine NoPanic.normal ?_
              have HPX2 := Aside0.mk (HPX.out.below K0.out)
              clear Sall HPX hHeld
              go_wp2_with fail
              exact ⟨⟨j + 1, told, asks2, done2, ans2, .slice A8 asks2.length c8, vs2, vb2, by omega, by simp, rfl, HPX2, HPL⟩, by simp [intOf]; omega⟩
        · by_cases hlong : 1000 < s.size
          · as_aux_lemma =>
              have hq : asks.length - done < 32 := by omega
              have hs0 : 1000 < s.size := hlong
              have PXb := Aside0.mk (PX1.out.below (str_below (wr.alloc (Obj.cells #[.int .u8 dd, .int .u64 nn, .string s] 36)) 5 s))
              have XAb := Aside0.mk (XA1.out.below (str_below (wr.alloc (Obj.cells #[.int .u8 dd, .int .u64 nn, .string s] 36)) 5 s))
              go_wp2_with fail
              obtain ⟨w2, hw2⟩ : ∃ X, (Lib.bytesWorld (wr.alloc (Obj.cells #[.int .u8 dd, .int .u64 nn, .string s] 36)) 5 s) = X := ⟨_, rfl⟩
              rw [hw2] at PXb XAb ⊢
              refine (Ask_long g B me (asks.length : Int) _ _ _ _ s.size w2 PXb.out.1.at (by rw [Qs_qlen]; omega) hs0).mono ?_
              rintro e w3 ⟨rfl, rfl⟩
              have c2 := (XAb.out.cell 2).trans (rfl : _ = some (Value.string s))
              clear hw2
              go_wp2_with fail
              refine (RAsk_long p B me asks done ans _ _ s w2 PXb.out.2.1 HPJ.out.hd (by have := HPJ.out.hl; have := HJ.out; omega) hq hs0).mono ?_
              rintro e w4 ⟨rfl, hb⟩
              have PX4 := Aside0.mk (PXb.out.below hb)
              clear hb c2
              go_wp2_with fail
              obtain ⟨asks2, done2, ans2, va2, vs2, vb2, HPX, HPL⟩ : ∃ (asks2 : List ByteArray) (done2 : Nat) (ans2 : List ByteArray) (va2 vs2 vb2 : Value), Aside0 (PX w w4 g p B me (asks2.length : Int) ((Qs asks2 asks2.length).drop done2) (Rs27 ans2 told) vb2 asks2 done2 ans2 va2 vs2) ∧ Aside0 (PL (j + 1) asks2 done2 ans2 told) := ⟨_, _, _, _, _, _, ⟨PX4.out⟩, ⟨HPJ.out.more⟩⟩
              obtain ⟨A8, c8, e8⟩ := Kd.R_slice HPX.out.2.1.2.1
              subst e8
              have ew8 : IntKind.i64.wrap ((asks2.length : Int) - (done2 : Int)) = (asks2.length : Int) - (done2 : Int) := by have := HPL.out.hd; have := HPL.out.hl; have := HJ.out; rw [IntKind.wrap_i64]; omega
              have hql : (((Qs asks2 asks2.length).drop done2).length : Int) = (asks2.length : Int) - (done2 : Int) := by rw [Qs_qlen]; have := HPL.out.hd; omega
              have K0 := Aside0.mk (below_drew (Below.refl w4.heap.size w4))
              have Sall : Aside0 (∀ X : World, Below w4.heap.size w4 X → X.cell? ⟨p, 1, none⟩ = some (.slice A8 asks2.length c8) ∧ X.cell? ⟨p, 2, none⟩ = some (.int .i64 (done2 : Int))) := ⟨fun X hX => ⟨((HPX.out.2.1.1.below hX).cell 1).trans rfl, ((HPX.out.2.1.1.below hX).cell 2).trans rfl⟩⟩
              refine wp_region_noPanic ?_
              refine wp_region_held_drew (S := fun X : World => X.cell? ⟨p, 1, none⟩ = some (.slice A8 asks2.length c8) ∧ X.cell? ⟨p, 2, none⟩ = some (.int .i64 (done2 : Int))) (by kernel_rfl) ?_ (fun hHeld => ?_)
              · exact Sall.out _ K0.out
              refine tq_ (i := 0) (oi := o3_40_0) (v := ?valq0) (Or.inl ⟨by rfl, ?hyalq0⟩) hHeld ?restalq0
              case hyalq0 => (intro w hSw; (try dsimp only at hSw); unfold o3_40_0; go_simp <;> with_reducible rfl)
              try simp only [o3_40_0, Act.put, q1_, q2_, q3_]
              refine tq_ (i := 2) (oi := o3_40_2) (v := ?valq2) (Or.inl ⟨by rfl, ?hyalq2⟩) hHeld ?restalq2
              case hyalq2 => (intro w hSw; (try dsimp only at hSw); unfold o3_40_2; go_simp <;> with_reducible rfl)
              try simp only [o3_40_2, Act.put, q1_, q2_, q3_]
              refine tq_ (i := 3) (oi := o3_40_3) (v := ?valq3) (Or.inl ⟨by rfl, ?hyalq3⟩) hHeld ?restalq3
              case hyalq3 => (intro w hSw; (try dsimp only at hSw); unfold o3_40_3; go_simp <;> with_reducible rfl)
              try simp only [o3_40_3, Act.put, q1_, q2_, q3_]
              refine tq_ (i := 4) (oi := o3_40_4) (v := ?valq4) (Or.inl ⟨by rfl, ?hyalq4⟩) hHeld ?restalq4
              case hyalq4 => (intro w hSw; (try dsimp only at hSw); unfold o3_40_4; go_simp <;> with_reducible rfl)
              try simp only [o3_40_4, Act.put, q1_, q2_, q3_]
              refine tq_ (i := 5) (oi := o3_40_5) (v := ?valq5) (Or.inl ⟨by rfl, ?hyalq5⟩) hHeld ?restalq5
              case hyalq5 => (intro w hSw; (try dsimp only at hSw); unfold o3_40_5; go_simp <;> with_reducible rfl)
              try simp only [o3_40_5, Act.put, q1_, q2_, q3_]
              refine tq_ (i := 6) (oi := o3_40_6) (v := ?valq6) (Or.inl ⟨by rfl, ?hyalq6⟩) hHeld ?restalq6
              case hyalq6 => (intro w hSw; (try dsimp only at hSw); unfold o3_40_6; go_simp <;> with_reducible rfl)
              try simp only [o3_40_6, Act.put, q1_, q2_, q3_]
              refine tq_ (i := 7) (oi := o3_40_7) (v := ?valq7) (Or.inl ⟨by rfl, ?hyalq7⟩) hHeld ?restalq7
              case hyalq7 => (intro w hSw; (try dsimp only at hSw); unfold o3_40_7; go_simp <;> with_reducible rfl)
              try simp only [o3_40_7, Act.put, q1_, q2_, q3_]
              refine tq_ (i := 8) (oi := o3_40_8) (v := ?valq8) (Or.inl ⟨by rfl, ?hyalq8⟩) hHeld ?restalq8
              case hyalq8 => (intro w hSw; (try dsimp only at hSw); unfold o3_40_8; go_simp <;> with_reducible rfl)
              try simp only [o3_40_8, Act.put, q1_, q2_, q3_]
              refine tq_ (i := 9) (oi := o3_40_9) (v := ?valq9) (Or.inl ⟨by rfl, ?hyalq9⟩) hHeld ?restalq9
              case hyalq9 => (intro w hSw; (try dsimp only at hSw); unfold o3_40_9; go_simp <;> with_reducible rfl)
              try simp only [o3_40_9, Act.put, q1_, q2_, q3_]
              refine tq_ (i := 10) (oi := o3_40_10) (v := ?valq10) (Or.inl ⟨by rfl, ?hyalq10⟩) hHeld ?restalq10
              case hyalq10 => (intro w hSw; (try dsimp only at hSw); unfold o3_40_10; go_simp <;> with_reducible rfl)
              try simp only [o3_40_10, Act.put, q1_, q2_, q3_]
              refine tq_ (i := 11) (oi := o3_40_11) (v := ?valq11) (Or.inl ⟨by rfl, ?hyalq11⟩) hHeld ?restalq11
              case hyalq11 => (intro w hSw; (try dsimp only at hSw); unfold o3_40_11; go_simp <;> with_reducible rfl)
              try simp only [o3_40_11, Act.put, q1_, q2_, q3_]
              refine wpAnyH_ready (rs := [1]) (by kernel_rfl) (by simp) ?_
              refine AllReadyH.cons (o := o3_40_1) rfl (fun K hK => ?_) AllReadyH.nil
              unfold o3_40_1; go_simp
              go_wp2_with (first | (go_at_call 21; refine (Queue_calls g B me _ _ _ _ (HPX.out.below K0.out).1.at).mono ?_; rintro e w9 ⟨rfl, rfl⟩; rw [hql]))
              refine hK.out _ _ (Sall.out _ K0.out) (fun hHeld' => ?_)
              clear hK K hHeld
              have hHeld := hHeld'
              clear hHeld'
              try simp only [Act.put, q1_, q2_, q3_]
              refine tq_ (i := 12) (oi := o3_40_12) (v := ?valq12) (Or.inl ⟨by rfl, ?hyalq12⟩) hHeld ?restalq12
              case hyalq12 => (intro w hSw; (try dsimp only at hSw); unfold o3_40_12; go_simp <;> with_reducible rfl)
              try simp only [o3_40_12, Act.put, q1_, q2_, q3_]
              refine wpAnyH_done (by kernel_rfl) ?_ _
              refine NoPanic.normal ?_
              have HPX2 := Aside0.mk (HPX.out.below K0.out)
              clear Sall HPX hHeld
              go_wp2_with fail
              exact ⟨⟨j + 1, told, asks2, done2, ans2, .slice A8 asks2.length c8, vs2, vb2, by omega, by simp, rfl, HPX2, HPL⟩, by simp [intOf]; omega⟩
          · as_aux_lemma =>
              have hq : asks.length - done < 32 := by omega
              have hs0 : s.size ≤ 1000 := by omega
              have PXb := Aside0.mk (PX1.out.below (str_below (wr.alloc (Obj.cells #[.int .u8 dd, .int .u64 nn, .string s] 36)) 5 s))
              have XAb := Aside0.mk (XA1.out.below (str_below (wr.alloc (Obj.cells #[.int .u8 dd, .int .u64 nn, .string s] 36)) 5 s))
              have kask := Aside0.mk (fun c => Ask_strP g B _ me (asks.length : Int) _ _ c s (wr.alloc (Obj.cells #[.int .u8 dd, .int .u64 nn, .string s] 36)) vb PX1.out.1 (fun k hk => PX1.out.fresh k hk) hs0 (by rw [Qs_qlen]; omega) (by omega) (by have := HPJ.out.hl; have := HJ.out; omega))
              rw [size_alloc] at kask
              clear hfull hlong
              go_wp2_with fail
              refine (kask.out _).mono ?_
              rintro e w3 ⟨rfl, ⟨vb3, hG⟩, hK, hb⟩
              have PX3 := Aside0.mk (PX1.out.gate hG hK hb)
              have XA3 := Aside0.mk (KT_blk hK XA1.out (fun e => by have := PX1.out.1.at.lt; have := HPA.out; omega) (by decide) (by decide))
              have c2 := (XA3.out.cell 2).trans (rfl : _ = some (Value.string s))
              clear hG hK hb kask PXb XAb
              go_wp2_with fail
              refine (RAsk_ok p B me asks done ans _ _ s w3 PX3.out.2.1 HPJ.out.hd (by have := HPJ.out.hl; have := HJ.out; omega) hq hs0).mono ?_
              rintro e w4 ⟨rfl, ⟨va4, hR, hat⟩, hK, hb⟩
              have PX4 := Aside0.mk (PX3.out.ref hR hK (.inl rfl) hat (.inl rfl) hb)
              have PL4 := Aside0.mk (HPJ.out.ask hs0 hq)
              have PX4' : Aside0 (PX w w4 g p B me ((asks ++ [s]).length : Int) ((Qs (asks ++ [s]) (asks ++ [s]).length).drop done) (Rs27 ans told) vb3 (asks ++ [s]) done ans va4 _) := ⟨by
                have := PX4.out
                rw [Qs_ask asks done s HPJ.out.hd] at this
                rw [List.length_append, List.length_singleton] at this ⊢
                exact this⟩
              clear hR hK hb hat PX4 PX3 XA3 c2
              go_wp2_with fail
              obtain ⟨asks2, done2, ans2, va2, vs2, vb2, HPX, HPL⟩ : ∃ (asks2 : List ByteArray) (done2 : Nat) (ans2 : List ByteArray) (va2 vs2 vb2 : Value), Aside0 (PX w w4 g p B me (asks2.length : Int) ((Qs asks2 asks2.length).drop done2) (Rs27 ans2 told) vb2 asks2 done2 ans2 va2 vs2) ∧ Aside0 (PL (j + 1) asks2 done2 ans2 told) := ⟨_, _, _, _, _, _, ⟨PX4'.out⟩, ⟨PL4.out⟩⟩
              obtain ⟨A8, c8, e8⟩ := Kd.R_slice HPX.out.2.1.2.1
              subst e8
              have ew8 : IntKind.i64.wrap ((asks2.length : Int) - (done2 : Int)) = (asks2.length : Int) - (done2 : Int) := by have := HPL.out.hd; have := HPL.out.hl; have := HJ.out; rw [IntKind.wrap_i64]; omega
              have hql : (((Qs asks2 asks2.length).drop done2).length : Int) = (asks2.length : Int) - (done2 : Int) := by rw [Qs_qlen]; have := HPL.out.hd; omega
              have K0 := Aside0.mk (below_drew (Below.refl w4.heap.size w4))
              have Sall : Aside0 (∀ X : World, Below w4.heap.size w4 X → X.cell? ⟨p, 1, none⟩ = some (.slice A8 asks2.length c8) ∧ X.cell? ⟨p, 2, none⟩ = some (.int .i64 (done2 : Int))) := ⟨fun X hX => ⟨((HPX.out.2.1.1.below hX).cell 1).trans rfl, ((HPX.out.2.1.1.below hX).cell 2).trans rfl⟩⟩
              refine wp_region_noPanic ?_
              refine wp_region_held_drew (S := fun X : World => X.cell? ⟨p, 1, none⟩ = some (.slice A8 asks2.length c8) ∧ X.cell? ⟨p, 2, none⟩ = some (.int .i64 (done2 : Int))) (by kernel_rfl) ?_ (fun hHeld => ?_)
              · exact Sall.out _ K0.out
              refine tq_ (i := 0) (oi := o3_40_0) (v := ?vaoq0) (Or.inl ⟨by rfl, ?hyaoq0⟩) hHeld ?restaoq0
              case hyaoq0 => (intro w hSw; (try dsimp only at hSw); unfold o3_40_0; go_simp <;> with_reducible rfl)
              try simp only [o3_40_0, Act.put, q1_, q2_, q3_]
              refine tq_ (i := 2) (oi := o3_40_2) (v := ?vaoq2) (Or.inl ⟨by rfl, ?hyaoq2⟩) hHeld ?restaoq2
              case hyaoq2 => (intro w hSw; (try dsimp only at hSw); unfold o3_40_2; go_simp <;> with_reducible rfl)
              try simp only [o3_40_2, Act.put, q1_, q2_, q3_]
              refine tq_ (i := 3) (oi := o3_40_3) (v := ?vaoq3) (Or.inl ⟨by rfl, ?hyaoq3⟩) hHeld ?restaoq3
              case hyaoq3 => (intro w hSw; (try dsimp only at hSw); unfold o3_40_3; go_simp <;> with_reducible rfl)
              try simp only [o3_40_3, Act.put, q1_, q2_, q3_]
              refine tq_ (i := 4) (oi := o3_40_4) (v := ?vaoq4) (Or.inl ⟨by rfl, ?hyaoq4⟩) hHeld ?restaoq4
              case hyaoq4 => (intro w hSw; (try dsimp only at hSw); unfold o3_40_4; go_simp <;> with_reducible rfl)
              try simp only [o3_40_4, Act.put, q1_, q2_, q3_]
              refine tq_ (i := 5) (oi := o3_40_5) (v := ?vaoq5) (Or.inl ⟨by rfl, ?hyaoq5⟩) hHeld ?restaoq5
              case hyaoq5 => (intro w hSw; (try dsimp only at hSw); unfold o3_40_5; go_simp <;> with_reducible rfl)
              try simp only [o3_40_5, Act.put, q1_, q2_, q3_]
              refine tq_ (i := 6) (oi := o3_40_6) (v := ?vaoq6) (Or.inl ⟨by rfl, ?hyaoq6⟩) hHeld ?restaoq6
              case hyaoq6 => (intro w hSw; (try dsimp only at hSw); unfold o3_40_6; go_simp <;> with_reducible rfl)
              try simp only [o3_40_6, Act.put, q1_, q2_, q3_]
              refine tq_ (i := 7) (oi := o3_40_7) (v := ?vaoq7) (Or.inl ⟨by rfl, ?hyaoq7⟩) hHeld ?restaoq7
              case hyaoq7 => (intro w hSw; (try dsimp only at hSw); unfold o3_40_7; go_simp <;> with_reducible rfl)
              try simp only [o3_40_7, Act.put, q1_, q2_, q3_]
              refine tq_ (i := 8) (oi := o3_40_8) (v := ?vaoq8) (Or.inl ⟨by rfl, ?hyaoq8⟩) hHeld ?restaoq8
              case hyaoq8 => (intro w hSw; (try dsimp only at hSw); unfold o3_40_8; go_simp <;> with_reducible rfl)
              try simp only [o3_40_8, Act.put, q1_, q2_, q3_]
              refine tq_ (i := 9) (oi := o3_40_9) (v := ?vaoq9) (Or.inl ⟨by rfl, ?hyaoq9⟩) hHeld ?restaoq9
              case hyaoq9 => (intro w hSw; (try dsimp only at hSw); unfold o3_40_9; go_simp <;> with_reducible rfl)
              try simp only [o3_40_9, Act.put, q1_, q2_, q3_]
              refine tq_ (i := 10) (oi := o3_40_10) (v := ?vaoq10) (Or.inl ⟨by rfl, ?hyaoq10⟩) hHeld ?restaoq10
              case hyaoq10 => (intro w hSw; (try dsimp only at hSw); unfold o3_40_10; go_simp <;> with_reducible rfl)
              try simp only [o3_40_10, Act.put, q1_, q2_, q3_]
              refine tq_ (i := 11) (oi := o3_40_11) (v := ?vaoq11) (Or.inl ⟨by rfl, ?hyaoq11⟩) hHeld ?restaoq11
              case hyaoq11 => (intro w hSw; (try dsimp only at hSw); unfold o3_40_11; go_simp <;> with_reducible rfl)
              try simp only [o3_40_11, Act.put, q1_, q2_, q3_]
              refine wpAnyH_ready (rs := [1]) (by kernel_rfl) (by simp) ?_
              refine AllReadyH.cons (o := o3_40_1) rfl (fun K hK => ?_) AllReadyH.nil
              unfold o3_40_1; go_simp
              go_wp2_with (first | (go_at_call 21; refine (Queue_calls g B me _ _ _ _ (HPX.out.below K0.out).1.at).mono ?_; rintro e w9 ⟨rfl, rfl⟩; rw [hql]))
              refine hK.out _ _ (Sall.out _ K0.out) (fun hHeld' => ?_)
              clear hK K hHeld
              have hHeld := hHeld'
              clear hHeld'
              try simp only [Act.put, q1_, q2_, q3_]
              refine tq_ (i := 12) (oi := o3_40_12) (v := ?vaoq12) (Or.inl ⟨by rfl, ?hyaoq12⟩) hHeld ?restaoq12
              case hyaoq12 => (intro w hSw; (try dsimp only at hSw); unfold o3_40_12; go_simp <;> with_reducible rfl)
              try simp only [o3_40_12, Act.put, q1_, q2_, q3_]
              refine wpAnyH_done (by kernel_rfl) ?_ _
              refine NoPanic.normal ?_
              have HPX2 := Aside0.mk (HPX.out.below K0.out)
              clear Sall HPX hHeld
              go_wp2_with fail
              exact ⟨⟨j + 1, told, asks2, done2, ans2, .slice A8 asks2.length c8, vs2, vb2, by omega, by simp, rfl, HPX2, HPL⟩, by simp [intOf]; omega⟩
      · by_cases hopen : done < asks.length
        · as_aux_lemma =>
            have hn : done < asks.length := hopen
            have hQd := Qs_drop asks asks.length done hn
            obtain ⟨sd, hsd⟩ : ∃ x, asks.getD done ByteArray.empty = x := ⟨_, rfl⟩
            have hlenl : (lett ((done : Int) + 1) (bytesOf sd)).length = 12 + sd.size := by rw [lett_length, bytesOf_length]
            rw [hsd] at hQd
            have HSD := Aside0.mk hsd
            have HQD := Aside0.mk hQd
            have HLL := Aside0.mk hlenl
            obtain ⟨SL, hSL⟩ : ∃ x, strOfNums (lett ((done : Int) + 1) (bytesOf sd)) = x := ⟨_, rfl⟩
            have HSL := Aside0.mk hSL
            clear hQd hsd hlenl hSL
            go_wp2_with fail
            obtain ⟨w2, hw2⟩ : ∃ X, (wr.alloc (Obj.cells #[.int .u8 dd, .int .u64 nn, .string s] 36)) = X := ⟨_, rfl⟩
            rw [hw2] at PX1 XA1 ⊢
            refine (Tick_calls g B me _ _ _ w2 PX1.out.1.at (Qs_all_req asks done (by have := HPJ.out.hl; have := HJ.out; omega) HPJ.out.hs)).mono ?_
            rintro e w3 ⟨ht, hb⟩
            rw [HQD.out] at ht
            obtain ⟨h1, Al, cl, rfl, hx1, _, hV1⟩ := ht
            rw [HLL.out] at hx1 hV1
            have PX3 := Aside0.mk (PX1.out.below hb)
            have HX1 := Aside0.mk hx1
            have HV1 := Aside0.mk hV1
            clear hx1 hV1 hb hw2
            go_wp2_with fail
            refine (RTick_some p B me asks done ans _ _ w3 PX3.out.2.1 HPJ.out.hd (by have := HPJ.out.hl; have := HJ.out; omega) hn HPJ.out.hs).mono ?_
            rintro e w4 ⟨ht, hb⟩
            rw [HSD.out] at ht
            obtain ⟨h2, Am, cm, rfl, hx2, _, hV2⟩ := ht
            rw [HLL.out] at hx2 hV2
            have PX4 := Aside0.mk (PX3.out.below hb)
            have HX2 := Aside0.mk hx2
            have HV2 := Aside0.mk hV2
            have HX1' := Aside0.mk (HX1.out.below hb)
            have HV1' := Aside0.mk (Kd.R_below HV1.out hb)
            clear hx2 hV2 hb HX1 HV1
            go_wp2_with fail
            have K0 := Aside0.mk (below_drew (Below.refl w4.heap.size w4))
            have Sall : Aside0 (∀ W : World, Below w4.heap.size w4 W → W.cell? ⟨h1, 0, none⟩ = some (.int .i64 me) ∧ W.cell? ⟨h1, 1, none⟩ = some (.int .i64 0) ∧ W.cell? ⟨h1, 2, none⟩ = some (.slice Al (12 + sd.size) cl) ∧ (convert 39 9 (.slice Al (12 + sd.size) cl)).run Try.prog W = .ok (.string SL) W ∧ W.cell? ⟨h2, 0, none⟩ = some (.int .i64 me) ∧ W.cell? ⟨h2, 1, none⟩ = some (.int .i64 0) ∧ W.cell? ⟨h2, 2, none⟩ = some (.slice Am (12 + sd.size) cm) ∧ (convert 39 9 (.slice Am (12 + sd.size) cm)).run Try.prog W = .ok (.string SL) W) := ⟨fun W hW => by
              have s1 := str_own (Kd.R_below HV1'.out hW)
              have s2 := str_own (Kd.R_below HV2.out hW)
              rw [HSL.out] at s1 s2
              exact ⟨((HX1'.out.below hW).cell 0).trans rfl, ((HX1'.out.below hW).cell 1).trans rfl, ((HX1'.out.below hW).cell 2).trans rfl, s1, ((HX2.out.below hW).cell 0).trans rfl, ((HX2.out.below hW).cell 1).trans rfl, ((HX2.out.below hW).cell 2).trans rfl, s2⟩⟩
            refine wp_region_noPanic ?_
            refine wp_region_held_drew (S := fun W : World => W.cell? ⟨h1, 0, none⟩ = some (.int .i64 me) ∧ W.cell? ⟨h1, 1, none⟩ = some (.int .i64 0) ∧ W.cell? ⟨h1, 2, none⟩ = some (.slice Al (12 + sd.size) cl) ∧ (convert 39 9 (.slice Al (12 + sd.size) cl)).run Try.prog W = .ok (.string SL) W ∧ W.cell? ⟨h2, 0, none⟩ = some (.int .i64 me) ∧ W.cell? ⟨h2, 1, none⟩ = some (.int .i64 0) ∧ W.cell? ⟨h2, 2, none⟩ = some (.slice Am (12 + sd.size) cm) ∧ (convert 39 9 (.slice Am (12 + sd.size) cm)).run Try.prog W = .ok (.string SL) W) (by kernel_rfl) ?_ (fun hHeld => ?_)
            · exact Sall.out _ K0.out
            refine tq_ (i := 0) (oi := o3_22_0) (v := ?vts0) (Or.inl ⟨by rfl, ?hyts0⟩) hHeld ?restts0
            case hyts0 => (intro w hSw; (try dsimp only at hSw); unfold o3_22_0; go_simp <;> with_reducible rfl)
            try simp only [o3_22_0, Act.put, q1_, q2_, q3_]
            refine tq_ (i := 1) (oi := o3_22_1) (v := ?vts1) (Or.inl ⟨by rfl, ?hyts1⟩) hHeld ?restts1
            case hyts1 => (intro w hSw; (try dsimp only at hSw); unfold o3_22_1; go_simp <;> with_reducible rfl)
            try simp only [o3_22_1, Act.put, q1_, q2_, q3_]
            refine tq_ (i := 2) (oi := o3_22_2) (v := ?vts2) (Or.inl ⟨by rfl, ?hyts2⟩) hHeld ?restts2
            case hyts2 => (intro w hSw; (try dsimp only at hSw); unfold o3_22_2; go_simp <;> with_reducible rfl)
            try simp only [o3_22_2, Act.put, q1_, q2_, q3_]
            refine tq_ (i := 3) (oi := o3_22_3) (v := ?vts3) (Or.inl ⟨by rfl, ?hyts3⟩) hHeld ?restts3
            case hyts3 => (intro w hSw; (try dsimp only at hSw); unfold o3_22_3; go_simp <;> with_reducible rfl)
            try simp only [o3_22_3, Act.put, q1_, q2_, q3_]
            refine tq_ (i := 4) (oi := o3_22_4) (v := ?vts4) (Or.inl ⟨by rfl, ?hyts4⟩) hHeld ?restts4
            case hyts4 => (intro w hSw; (try dsimp only at hSw); unfold o3_22_4; go_simp <;> with_reducible rfl)
            try simp only [o3_22_4, Act.put, q1_, q2_, q3_]
            refine tq_ (i := 5) (oi := o3_22_5) (v := ?vts5) (Or.inl ⟨by rfl, ?hyts5⟩) hHeld ?restts5
            case hyts5 => (intro w hSw; (try dsimp only at hSw); unfold o3_22_5; go_simp <;> with_reducible rfl)
            try simp only [o3_22_5, Act.put, q1_, q2_, q3_]
            refine tq_ (i := 6) (oi := o3_22_6) (v := ?vts6) (Or.inl ⟨by rfl, ?hyts6⟩) hHeld ?restts6
            case hyts6 => (intro w hSw; (try dsimp only at hSw); unfold o3_22_6; go_simp <;> with_reducible rfl)
            try simp only [o3_22_6, Act.put, q1_, q2_, q3_]
            refine tq_ (i := 7) (oi := o3_22_7) (v := ?vts7) (Or.inl ⟨by rfl, ?hyts7⟩) hHeld ?restts7
            case hyts7 => (intro w hSw; (try dsimp only at hSw); unfold o3_22_7; go_simp <;> with_reducible rfl)
            try simp only [o3_22_7, Act.put, q1_, q2_, q3_]
            refine tq_ (i := 8) (oi := o3_22_8) (v := ?vts8) (Or.inl ⟨by rfl, ?hyts8⟩) hHeld ?restts8
            case hyts8 => (intro w hSw; (try dsimp only at hSw); unfold o3_22_8; go_simp <;> with_reducible rfl)
            try simp only [o3_22_8, Act.put, q1_, q2_, q3_]
            refine tq_ (i := 9) (oi := o3_22_9) (v := ?vts9) (Or.inl ⟨by rfl, ?hyts9⟩) hHeld ?restts9
            case hyts9 => (intro w hSw; (try dsimp only at hSw); unfold o3_22_9; go_simp <;> with_reducible rfl)
            try simp only [o3_22_9, Act.put, q1_, q2_, q3_]
            refine tq_ (i := 10) (oi := o3_22_10) (v := ?vts10) (Or.inl ⟨by rfl, ?hyts10⟩) hHeld ?restts10
            case hyts10 => (intro w hSw; (try dsimp only at hSw); unfold o3_22_10; go_simp <;> with_reducible rfl)
            try simp only [o3_22_10, Act.put, q1_, q2_, q3_]
            refine tq_ (i := 11) (oi := o3_22_11) (v := ?vts11) (Or.inl ⟨by rfl, ?hyts11⟩) hHeld ?restts11
            case hyts11 => (intro w hSw; (try dsimp only at hSw); unfold o3_22_11; go_simp <;> with_reducible rfl)
            try simp only [o3_22_11, Act.put, q1_, q2_, q3_]
            refine tq_ (i := 12) (oi := o3_22_12) (v := ?vts12) (Or.inl ⟨by rfl, ?hyts12⟩) hHeld ?restts12
            case hyts12 => (intro w hSw; (try dsimp only at hSw); unfold o3_22_12; go_simp <;> with_reducible rfl)
            try simp only [o3_22_12, Act.put, q1_, q2_, q3_]
            refine tq_ (i := 13) (oi := o3_22_13) (v := ?vts13) (Or.inl ⟨by rfl, ?hyts13⟩) hHeld ?restts13
            case hyts13 => (intro w hSw; (try dsimp only at hSw); unfold o3_22_13; go_simp <;> with_reducible rfl)
            try simp only [o3_22_13, Act.put, q1_, q2_, q3_]
            refine tq_ (i := 14) (oi := o3_22_14) (v := ?vts14) (Or.inl ⟨by rfl, ?hyts14⟩) hHeld ?restts14
            case hyts14 => (intro w hSw; (try dsimp only at hSw); unfold o3_22_14; go_simp <;> with_reducible rfl)
            try simp only [o3_22_14, Act.put, q1_, q2_, q3_]
            refine tq_ (i := 15) (oi := o3_22_15) (v := ?vts15) (Or.inl ⟨by rfl, ?hyts15⟩) hHeld ?restts15
            case hyts15 => (intro w hSw; (try dsimp only at hSw); unfold o3_22_15; go_simp <;> with_reducible rfl)
            try simp only [o3_22_15, Act.put, q1_, q2_, q3_]
            refine tq_ (i := 16) (oi := o3_22_16) (v := ?vts16) (Or.inl ⟨by rfl, ?hyts16⟩) hHeld ?restts16
            case hyts16 => (intro w hSw; (try dsimp only at hSw); unfold o3_22_16; go_simp <;> with_reducible rfl)
            try simp only [o3_22_16, Act.put, q1_, q2_, q3_]
            refine tq_ (i := 17) (oi := o3_22_17) (v := ?vts17) (Or.inl ⟨by rfl, ?hyts17⟩) hHeld ?restts17
            case hyts17 => (intro w hSw; (try dsimp only at hSw); unfold o3_22_17; go_simp <;> with_reducible rfl)
            try simp only [o3_22_17, Act.put, q1_, q2_, q3_]
            refine tq_ (i := 18) (oi := o3_22_18) (v := ?vts18) (Or.inl ⟨by rfl, ?hyts18⟩) hHeld ?restts18
            case hyts18 => (intro w hSw; (try dsimp only at hSw); unfold o3_22_18; go_simp <;> with_reducible rfl)
            try simp only [o3_22_18, Act.put, q1_, q2_, q3_]
            refine tq_ (i := 19) (oi := o3_22_19) (v := ?vts19) (Or.inl ⟨by rfl, ?hyts19⟩) hHeld ?restts19
            case hyts19 => (intro w hSw; (try dsimp only at hSw); unfold o3_22_19; go_simp <;> with_reducible rfl)
            try simp only [o3_22_19, Act.put, q1_, q2_, q3_]
            refine tq_ (i := 20) (oi := o3_22_20) (v := ?vts20) (Or.inl ⟨by rfl, ?hyts20⟩) hHeld ?restts20
            case hyts20 => (intro w hSw; (try dsimp only at hSw); unfold o3_22_20; go_simp <;> with_reducible rfl)
            try simp only [o3_22_20, Act.put, q1_, q2_, q3_]
            refine tq_ (i := 21) (oi := o3_22_21) (v := ?vts21) (Or.inl ⟨by rfl, ?hyts21⟩) hHeld ?restts21
            case hyts21 => (intro w hSw; (try dsimp only at hSw); unfold o3_22_21; go_simp <;> with_reducible rfl)
            try simp only [o3_22_21, Act.put, q1_, q2_, q3_]
            refine tq_ (i := 22) (oi := o3_22_22) (v := ?vts22) (Or.inl ⟨by rfl, ?hyts22⟩) hHeld ?restts22
            case hyts22 => (intro w hSw; (try dsimp only at hSw); unfold o3_22_22; go_simp <;> with_reducible rfl)
            try simp only [o3_22_22, Act.put, q1_, q2_, q3_]
            refine tq_ (i := 23) (oi := o3_22_23) (v := ?vts23) (Or.inl ⟨by rfl, ?hyts23⟩) hHeld ?restts23
            case hyts23 => (intro w hSw; (try dsimp only at hSw); unfold o3_22_23; go_simp <;> with_reducible rfl)
            try simp only [o3_22_23, Act.put, q1_, q2_, q3_]
            refine tq_ (i := 24) (oi := o3_22_24) (v := ?vts24) (Or.inl ⟨by rfl, ?hyts24⟩) hHeld ?restts24
            case hyts24 => (intro w hSw; (try dsimp only at hSw); unfold o3_22_24; go_simp <;> with_reducible rfl)
            try simp only [o3_22_24, Act.put, q1_, q2_, q3_]
            refine tq_ (i := 25) (oi := o3_22_25) (v := ?vts25) (Or.inl ⟨by rfl, ?hyts25⟩) hHeld ?restts25
            case hyts25 => (intro w hSw; (try dsimp only at hSw); unfold o3_22_25; go_simp <;> with_reducible rfl)
            try simp only [o3_22_25, Act.put, q1_, q2_, q3_]
            refine tq_ (i := 26) (oi := o3_22_26) (v := ?vts26) (Or.inl ⟨by rfl, ?hyts26⟩) hHeld ?restts26
            case hyts26 => (intro w hSw; (try dsimp only at hSw); unfold o3_22_26; go_simp <;> with_reducible rfl)
            try simp only [o3_22_26, Act.put, q1_, q2_, q3_]
            refine tq_ (i := 27) (oi := o3_22_27) (v := ?vts27) (Or.inl ⟨by rfl, ?hyts27⟩) hHeld ?restts27
            case hyts27 => (intro w hSw; (try dsimp only at hSw); unfold o3_22_27; go_simp <;> with_reducible rfl)
            try simp only [o3_22_27, Act.put, q1_, q2_, q3_]
            refine tq_ (i := 28) (oi := o3_22_28) (v := ?vts28) (Or.inl ⟨by rfl, ?hyts28⟩) hHeld ?restts28
            case hyts28 => (intro w hSw; (try dsimp only at hSw); unfold o3_22_28; go_simp <;> with_reducible rfl)
            try simp only [o3_22_28, Act.put, q1_, q2_, q3_]
            refine tq_ (i := 29) (oi := o3_22_29) (v := ?vts29) (Or.inl ⟨by rfl, ?hyts29⟩) hHeld ?restts29
            case hyts29 => (intro w hSw; (try dsimp only at hSw); unfold o3_22_29; go_simp <;> with_reducible rfl)
            try simp only [o3_22_29, Act.put, q1_, q2_, q3_]
            refine tq_ (i := 30) (oi := o3_22_30) (v := ?vts30) (Or.inl ⟨by rfl, ?hyts30⟩) hHeld ?restts30
            case hyts30 => (intro w hSw; (try dsimp only at hSw); unfold o3_22_30; go_simp <;> with_reducible rfl)
            try simp only [o3_22_30, Act.put, q1_, q2_, q3_]
            refine tq_ (i := 31) (oi := o3_22_31) (v := ?vts31) (Or.inl ⟨by rfl, ?hyts31⟩) hHeld ?restts31
            case hyts31 => (intro w hSw; (try dsimp only at hSw); unfold o3_22_31; go_simp <;> with_reducible rfl)
            try simp only [o3_22_31, Act.put, q1_, q2_, q3_]
            refine tq_ (i := 32) (oi := o3_22_32) (v := ?vts32) (Or.inl ⟨by rfl, ?hyts32⟩) hHeld ?restts32
            case hyts32 => (intro w hSw; (try dsimp only at hSw); unfold o3_22_32; go_simp <;> with_reducible rfl)
            try simp only [o3_22_32, Act.put, q1_, q2_, q3_]
            refine tq_ (i := 33) (oi := o3_22_33) (v := ?vts33) (Or.inl ⟨by rfl, ?hyts33⟩) hHeld ?restts33
            case hyts33 => (intro w hSw; (try dsimp only at hSw); unfold o3_22_33; go_simp <;> with_reducible rfl)
            try simp only [o3_22_33, Act.put, q1_, q2_, q3_]
            refine tq_ (i := 34) (oi := o3_22_34) (v := ?vts34) (Or.inl ⟨by rfl, ?hyts34⟩) hHeld ?restts34
            case hyts34 => (intro w hSw; (try dsimp only at hSw); unfold o3_22_34; go_simp <;> with_reducible rfl)
            try simp only [o3_22_34, Act.put, q1_, q2_, q3_]
            refine tq_ (i := 35) (oi := o3_22_35) (v := ?vts35) (Or.inl ⟨by rfl, ?hyts35⟩) hHeld ?restts35
            case hyts35 => (intro w hSw; (try dsimp only at hSw); unfold o3_22_35; go_simp <;> with_reducible rfl)
            try simp only [o3_22_35, Act.put, q1_, q2_, q3_]
            refine tq_ (i := 36) (oi := o3_22_36) (v := ?vts36) (Or.inl ⟨by rfl, ?hyts36⟩) hHeld ?restts36
            case hyts36 => (intro w hSw; (try dsimp only at hSw); unfold o3_22_36; go_simp <;> with_reducible rfl)
            try simp only [o3_22_36, Act.put, q1_, q2_, q3_]
            refine tq_ (i := 37) (oi := o3_22_37) (v := ?vts37) (Or.inl ⟨by rfl, ?hyts37⟩) hHeld ?restts37
            case hyts37 => (intro w hSw; (try dsimp only at hSw); unfold o3_22_37; go_simp <;> with_reducible rfl)
            try simp only [o3_22_37, Act.put, q1_, q2_, q3_]
            refine tq_ (i := 38) (oi := o3_22_38) (v := ?vts38) (Or.inl ⟨by rfl, ?hyts38⟩) hHeld ?restts38
            case hyts38 => (intro w hSw; (try dsimp only at hSw); unfold o3_22_38; go_simp <;> with_reducible rfl)
            try simp only [o3_22_38, Act.put, q1_, q2_, q3_]
            refine tq_ (i := 39) (oi := o3_22_39) (v := ?vts39) (Or.inl ⟨by rfl, ?hyts39⟩) hHeld ?restts39
            case hyts39 => (intro w hSw; (try dsimp only at hSw); unfold o3_22_39; go_simp <;> with_reducible rfl)
            try simp only [o3_22_39, Act.put, q1_, q2_, q3_]
            refine tq_ (i := 40) (oi := o3_22_40) (v := ?vts40) (Or.inl ⟨by rfl, ?hyts40⟩) hHeld ?restts40
            case hyts40 => (intro w hSw; (try dsimp only at hSw); unfold o3_22_40; go_simp <;> with_reducible rfl)
            try simp only [o3_22_40, Act.put, q1_, q2_, q3_]
            refine tq_ (i := 41) (oi := o3_22_41) (v := ?vts41) (Or.inl ⟨by rfl, ?hyts41⟩) hHeld ?restts41
            case hyts41 => (intro w hSw; (try dsimp only at hSw); unfold o3_22_41; go_simp <;> with_reducible rfl)
            try simp only [o3_22_41, Act.put, q1_, q2_, q3_]
            refine tq_ (i := 42) (oi := o3_22_42) (v := ?vts42) (Or.inl ⟨by rfl, ?hyts42⟩) hHeld ?restts42
            case hyts42 => (intro w hSw; (try dsimp only at hSw); unfold o3_22_42; go_simp <;> with_reducible rfl)
            try simp only [o3_22_42, Act.put, q1_, q2_, q3_]
            refine tq_ (i := 43) (oi := o3_22_43) (v := ?vts43) (Or.inl ⟨by rfl, ?hyts43⟩) hHeld ?restts43
            case hyts43 => (intro w hSw; (try dsimp only at hSw); unfold o3_22_43; go_simp <;> with_reducible rfl)
            try simp only [o3_22_43, Act.put, q1_, q2_, q3_]
            refine tq_ (i := 44) (oi := o3_22_44) (v := ?vts44) (Or.inl ⟨by rfl, ?hyts44⟩) hHeld ?restts44
            case hyts44 => (intro w hSw; (try dsimp only at hSw); unfold o3_22_44; go_simp <;> with_reducible rfl)
            try simp only [o3_22_44, Act.put, q1_, q2_, q3_]
            refine wpAnyH_done (by kernel_rfl) ?_ _
            refine NoPanic.normal ?_
            have PX5 := Aside0.mk (PX4.out.below K0.out)
            clear hHeld K0 PX4 PX3 Sall HX1' HV1' HX2 HV2
            generalize w4.drew = w5 at PX5 ⊢
            go_wp2_with fail
            obtain ⟨asks2, done2, ans2, va2, vs2, vb2, HPX, HPL⟩ : ∃ (asks2 : List ByteArray) (done2 : Nat) (ans2 : List ByteArray) (va2 vs2 vb2 : Value), Aside0 (PX w w5 g p B me (asks2.length : Int) ((Qs asks2 asks2.length).drop done2) (Rs27 ans2 told) vb2 asks2 done2 ans2 va2 vs2) ∧ Aside0 (PL (j + 1) asks2 done2 ans2 told) := ⟨_, _, _, _, _, _, ⟨PX5.out⟩, ⟨HPJ.out.more⟩⟩
            obtain ⟨A8, c8, e8⟩ := Kd.R_slice HPX.out.2.1.2.1
            subst e8
            have ew8 : IntKind.i64.wrap ((asks2.length : Int) - (done2 : Int)) = (asks2.length : Int) - (done2 : Int) := by have := HPL.out.hd; have := HPL.out.hl; have := HJ.out; rw [IntKind.wrap_i64]; omega
            have hql : (((Qs asks2 asks2.length).drop done2).length : Int) = (asks2.length : Int) - (done2 : Int) := by rw [Qs_qlen]; have := HPL.out.hd; omega
            have K0 := Aside0.mk (below_drew (Below.refl w5.heap.size w5))
            have Sall : Aside0 (∀ X : World, Below w5.heap.size w5 X → X.cell? ⟨p, 1, none⟩ = some (.slice A8 asks2.length c8) ∧ X.cell? ⟨p, 2, none⟩ = some (.int .i64 (done2 : Int))) := ⟨fun X hX => ⟨((HPX.out.2.1.1.below hX).cell 1).trans rfl, ((HPX.out.2.1.1.below hX).cell 2).trans rfl⟩⟩
            refine wp_region_noPanic ?_
            refine wp_region_held_drew (S := fun X : World => X.cell? ⟨p, 1, none⟩ = some (.slice A8 asks2.length c8) ∧ X.cell? ⟨p, 2, none⟩ = some (.int .i64 (done2 : Int))) (by kernel_rfl) ?_ (fun hHeld => ?_)
            · exact Sall.out _ K0.out
            refine tq_ (i := 0) (oi := o3_40_0) (v := ?vtsq0) (Or.inl ⟨by rfl, ?hytsq0⟩) hHeld ?resttsq0
            case hytsq0 => (intro w hSw; (try dsimp only at hSw); unfold o3_40_0; go_simp <;> with_reducible rfl)
            try simp only [o3_40_0, Act.put, q1_, q2_, q3_]
            refine tq_ (i := 2) (oi := o3_40_2) (v := ?vtsq2) (Or.inl ⟨by rfl, ?hytsq2⟩) hHeld ?resttsq2
            case hytsq2 => (intro w hSw; (try dsimp only at hSw); unfold o3_40_2; go_simp <;> with_reducible rfl)
            try simp only [o3_40_2, Act.put, q1_, q2_, q3_]
            refine tq_ (i := 3) (oi := o3_40_3) (v := ?vtsq3) (Or.inl ⟨by rfl, ?hytsq3⟩) hHeld ?resttsq3
            case hytsq3 => (intro w hSw; (try dsimp only at hSw); unfold o3_40_3; go_simp <;> with_reducible rfl)
            try simp only [o3_40_3, Act.put, q1_, q2_, q3_]
            refine tq_ (i := 4) (oi := o3_40_4) (v := ?vtsq4) (Or.inl ⟨by rfl, ?hytsq4⟩) hHeld ?resttsq4
            case hytsq4 => (intro w hSw; (try dsimp only at hSw); unfold o3_40_4; go_simp <;> with_reducible rfl)
            try simp only [o3_40_4, Act.put, q1_, q2_, q3_]
            refine tq_ (i := 5) (oi := o3_40_5) (v := ?vtsq5) (Or.inl ⟨by rfl, ?hytsq5⟩) hHeld ?resttsq5
            case hytsq5 => (intro w hSw; (try dsimp only at hSw); unfold o3_40_5; go_simp <;> with_reducible rfl)
            try simp only [o3_40_5, Act.put, q1_, q2_, q3_]
            refine tq_ (i := 6) (oi := o3_40_6) (v := ?vtsq6) (Or.inl ⟨by rfl, ?hytsq6⟩) hHeld ?resttsq6
            case hytsq6 => (intro w hSw; (try dsimp only at hSw); unfold o3_40_6; go_simp <;> with_reducible rfl)
            try simp only [o3_40_6, Act.put, q1_, q2_, q3_]
            refine tq_ (i := 7) (oi := o3_40_7) (v := ?vtsq7) (Or.inl ⟨by rfl, ?hytsq7⟩) hHeld ?resttsq7
            case hytsq7 => (intro w hSw; (try dsimp only at hSw); unfold o3_40_7; go_simp <;> with_reducible rfl)
            try simp only [o3_40_7, Act.put, q1_, q2_, q3_]
            refine tq_ (i := 8) (oi := o3_40_8) (v := ?vtsq8) (Or.inl ⟨by rfl, ?hytsq8⟩) hHeld ?resttsq8
            case hytsq8 => (intro w hSw; (try dsimp only at hSw); unfold o3_40_8; go_simp <;> with_reducible rfl)
            try simp only [o3_40_8, Act.put, q1_, q2_, q3_]
            refine tq_ (i := 9) (oi := o3_40_9) (v := ?vtsq9) (Or.inl ⟨by rfl, ?hytsq9⟩) hHeld ?resttsq9
            case hytsq9 => (intro w hSw; (try dsimp only at hSw); unfold o3_40_9; go_simp <;> with_reducible rfl)
            try simp only [o3_40_9, Act.put, q1_, q2_, q3_]
            refine tq_ (i := 10) (oi := o3_40_10) (v := ?vtsq10) (Or.inl ⟨by rfl, ?hytsq10⟩) hHeld ?resttsq10
            case hytsq10 => (intro w hSw; (try dsimp only at hSw); unfold o3_40_10; go_simp <;> with_reducible rfl)
            try simp only [o3_40_10, Act.put, q1_, q2_, q3_]
            refine tq_ (i := 11) (oi := o3_40_11) (v := ?vtsq11) (Or.inl ⟨by rfl, ?hytsq11⟩) hHeld ?resttsq11
            case hytsq11 => (intro w hSw; (try dsimp only at hSw); unfold o3_40_11; go_simp <;> with_reducible rfl)
            try simp only [o3_40_11, Act.put, q1_, q2_, q3_]
            refine wpAnyH_ready (rs := [1]) (by kernel_rfl) (by simp) ?_
            refine AllReadyH.cons (o := o3_40_1) rfl (fun K hK => ?_) AllReadyH.nil
            unfold o3_40_1; go_simp
            go_wp2_with (first | (go_at_call 21; refine (Queue_calls g B me _ _ _ _ (HPX.out.below K0.out).1.at).mono ?_; rintro e w9 ⟨rfl, rfl⟩; rw [hql]))
            refine hK.out _ _ (Sall.out _ K0.out) (fun hHeld' => ?_)
            clear hK K hHeld
            have hHeld := hHeld'
            clear hHeld'
            try simp only [Act.put, q1_, q2_, q3_]
            refine tq_ (i := 12) (oi := o3_40_12) (v := ?vtsq12) (Or.inl ⟨by rfl, ?hytsq12⟩) hHeld ?resttsq12
            case hytsq12 => (intro w hSw; (try dsimp only at hSw); unfold o3_40_12; go_simp <;> with_reducible rfl)
            try simp only [o3_40_12, Act.put, q1_, q2_, q3_]
            refine wpAnyH_done (by kernel_rfl) ?_ _
            refine NoPanic.normal ?_
            have HPX2 := Aside0.mk (HPX.out.below K0.out)
            clear Sall HPX hHeld
            go_wp2_with fail
            exact ⟨⟨j + 1, told, asks2, done2, ans2, .slice A8 asks2.length c8, vs2, vb2, by omega, by simp, rfl, HPX2, HPL⟩, by simp [intOf]; omega⟩
        · as_aux_lemma =>
            have hn : done = asks.length := by have := HPJ.out.hd; omega
            have hQd : (Qs asks asks.length).drop done = [] := List.drop_eq_nil_iff.2 (by rw [Qs_length]; omega)
            have HQD := Aside0.mk hQd
            clear hQd
            go_wp2_with fail
            obtain ⟨w2, hw2⟩ : ∃ X, (wr.alloc (Obj.cells #[.int .u8 dd, .int .u64 nn, .string s] 36)) = X := ⟨_, rfl⟩
            rw [hw2] at PX1 XA1 ⊢
            refine (Tick_calls g B me _ _ _ w2 PX1.out.1.at (Qs_all_req asks done (by have := HPJ.out.hl; have := HJ.out; omega) HPJ.out.hs)).mono ?_
            rintro e w3 ⟨ht, hb⟩
            rw [HQD.out] at ht
            have ht' : e = .returned (.slice none 0 0) := ht
            subst ht'
            have PX3 := Aside0.mk (PX1.out.below hb)
            clear ht hb hw2
            go_wp2_with fail
            refine (RTick_none p B me asks done ans _ _ w3 PX3.out.2.1 HPJ.out.hd (by have := HPJ.out.hl; have := HJ.out; omega) hn).mono ?_
            rintro e w4 ⟨rfl, hb⟩
            have PX4 := Aside0.mk (PX3.out.below hb)
            clear hb
            go_wp2_with fail
            have K0 := Aside0.mk (below_drew (Below.refl w4.heap.size w4))
            refine wp_region_noPanic ?_
            refine wp_region_held_drew (S := fun W : World => True) (by kernel_rfl) ?_ (fun hHeld => ?_)
            · exact trivial
            refine tq_ (i := 0) (oi := o3_22_0) (v := ?vtn0) (Or.inl ⟨by rfl, ?hytn0⟩) hHeld ?resttn0
            case hytn0 => (intro w hSw; (try dsimp only at hSw); unfold o3_22_0; go_simp <;> with_reducible rfl)
            try simp only [o3_22_0, Act.put, q1_, q2_, q3_]
            refine tq_ (i := 1) (oi := o3_22_1) (v := ?vtn1) (Or.inl ⟨by rfl, ?hytn1⟩) hHeld ?resttn1
            case hytn1 => (intro w hSw; (try dsimp only at hSw); unfold o3_22_1; go_simp <;> with_reducible rfl)
            try simp only [o3_22_1, Act.put, q1_, q2_, q3_]
            refine tq_ (i := 2) (oi := o3_22_2) (v := ?vtn2) (Or.inl ⟨by rfl, ?hytn2⟩) hHeld ?resttn2
            case hytn2 => (intro w hSw; (try dsimp only at hSw); unfold o3_22_2; go_simp <;> with_reducible rfl)
            try simp only [o3_22_2, Act.put, q1_, q2_, q3_]
            refine tq_ (i := 3) (oi := o3_22_3) (v := ?vtn3) (Or.inl ⟨by rfl, ?hytn3⟩) hHeld ?resttn3
            case hytn3 => (intro w hSw; (try dsimp only at hSw); unfold o3_22_3; go_simp <;> with_reducible rfl)
            try simp only [o3_22_3, Act.put, q1_, q2_, q3_]
            refine tq_ (i := 4) (oi := o3_22_4) (v := ?vtn4) (Or.inl ⟨by rfl, ?hytn4⟩) hHeld ?resttn4
            case hytn4 => (intro w hSw; (try dsimp only at hSw); unfold o3_22_4; go_simp <;> with_reducible rfl)
            try simp only [o3_22_4, Act.put, q1_, q2_, q3_]
            refine tq_ (i := 5) (oi := o3_22_5) (v := ?vtn5) (Or.inl ⟨by rfl, ?hytn5⟩) hHeld ?resttn5
            case hytn5 => (intro w hSw; (try dsimp only at hSw); unfold o3_22_5; go_simp <;> with_reducible rfl)
            try simp only [o3_22_5, Act.put, q1_, q2_, q3_]
            refine tq_ (i := 6) (oi := o3_22_6) (v := ?vtn6) (Or.inl ⟨by rfl, ?hytn6⟩) hHeld ?resttn6
            case hytn6 => (intro w hSw; (try dsimp only at hSw); unfold o3_22_6; go_simp <;> with_reducible rfl)
            try simp only [o3_22_6, Act.put, q1_, q2_, q3_]
            refine tq_ (i := 7) (oi := o3_22_7) (v := ?vtn7) (Or.inl ⟨by rfl, ?hytn7⟩) hHeld ?resttn7
            case hytn7 => (intro w hSw; (try dsimp only at hSw); unfold o3_22_7; go_simp <;> with_reducible rfl)
            try simp only [o3_22_7, Act.put, q1_, q2_, q3_]
            refine tq_ (i := 8) (oi := o3_22_8) (v := ?vtn8) (Or.inl ⟨by rfl, ?hytn8⟩) hHeld ?resttn8
            case hytn8 => (intro w hSw; (try dsimp only at hSw); unfold o3_22_8; go_simp <;> with_reducible rfl)
            try simp only [o3_22_8, Act.put, q1_, q2_, q3_]
            refine tq_ (i := 9) (oi := o3_22_9) (v := ?vtn9) (Or.inl ⟨by rfl, ?hytn9⟩) hHeld ?resttn9
            case hytn9 => (intro w hSw; (try dsimp only at hSw); unfold o3_22_9; go_simp <;> with_reducible rfl)
            try simp only [o3_22_9, Act.put, q1_, q2_, q3_]
            refine tq_ (i := 10) (oi := o3_22_10) (v := undef) (Or.inr ⟨by rfl, rfl⟩) hHeld ?_
            try simp only [o3_22_10, Act.put, q1_, q2_, q3_]
            refine tq_ (i := 11) (oi := o3_22_11) (v := undef) (Or.inr ⟨by rfl, rfl⟩) hHeld ?_
            try simp only [o3_22_11, Act.put, q1_, q2_, q3_]
            refine tq_ (i := 12) (oi := o3_22_12) (v := undef) (Or.inr ⟨by rfl, rfl⟩) hHeld ?_
            try simp only [o3_22_12, Act.put, q1_, q2_, q3_]
            refine tq_ (i := 13) (oi := o3_22_13) (v := undef) (Or.inr ⟨by rfl, rfl⟩) hHeld ?_
            try simp only [o3_22_13, Act.put, q1_, q2_, q3_]
            refine tq_ (i := 14) (oi := o3_22_14) (v := undef) (Or.inr ⟨by rfl, rfl⟩) hHeld ?_
            try simp only [o3_22_14, Act.put, q1_, q2_, q3_]
            refine tq_ (i := 15) (oi := o3_22_15) (v := undef) (Or.inr ⟨by rfl, rfl⟩) hHeld ?_
            try simp only [o3_22_15, Act.put, q1_, q2_, q3_]
            refine tq_ (i := 16) (oi := o3_22_16) (v := undef) (Or.inr ⟨by rfl, rfl⟩) hHeld ?_
            try simp only [o3_22_16, Act.put, q1_, q2_, q3_]
            refine tq_ (i := 17) (oi := o3_22_17) (v := undef) (Or.inr ⟨by rfl, rfl⟩) hHeld ?_
            try simp only [o3_22_17, Act.put, q1_, q2_, q3_]
            refine tq_ (i := 18) (oi := o3_22_18) (v := undef) (Or.inr ⟨by rfl, rfl⟩) hHeld ?_
            try simp only [o3_22_18, Act.put, q1_, q2_, q3_]
            refine tq_ (i := 19) (oi := o3_22_19) (v := undef) (Or.inr ⟨by rfl, rfl⟩) hHeld ?_
            try simp only [o3_22_19, Act.put, q1_, q2_, q3_]
            refine tq_ (i := 20) (oi := o3_22_20) (v := undef) (Or.inr ⟨by rfl, rfl⟩) hHeld ?_
            try simp only [o3_22_20, Act.put, q1_, q2_, q3_]
            refine tq_ (i := 21) (oi := o3_22_21) (v := undef) (Or.inr ⟨by rfl, rfl⟩) hHeld ?_
            try simp only [o3_22_21, Act.put, q1_, q2_, q3_]
            refine tq_ (i := 22) (oi := o3_22_22) (v := undef) (Or.inr ⟨by rfl, rfl⟩) hHeld ?_
            try simp only [o3_22_22, Act.put, q1_, q2_, q3_]
            refine tq_ (i := 23) (oi := o3_22_23) (v := undef) (Or.inr ⟨by rfl, rfl⟩) hHeld ?_
            try simp only [o3_22_23, Act.put, q1_, q2_, q3_]
            refine tq_ (i := 24) (oi := o3_22_24) (v := undef) (Or.inr ⟨by rfl, rfl⟩) hHeld ?_
            try simp only [o3_22_24, Act.put, q1_, q2_, q3_]
            refine tq_ (i := 25) (oi := o3_22_25) (v := undef) (Or.inr ⟨by rfl, rfl⟩) hHeld ?_
            try simp only [o3_22_25, Act.put, q1_, q2_, q3_]
            refine tq_ (i := 26) (oi := o3_22_26) (v := undef) (Or.inr ⟨by rfl, rfl⟩) hHeld ?_
            try simp only [o3_22_26, Act.put, q1_, q2_, q3_]
            refine tq_ (i := 27) (oi := o3_22_27) (v := undef) (Or.inr ⟨by rfl, rfl⟩) hHeld ?_
            try simp only [o3_22_27, Act.put, q1_, q2_, q3_]
            refine tq_ (i := 28) (oi := o3_22_28) (v := undef) (Or.inr ⟨by rfl, rfl⟩) hHeld ?_
            try simp only [o3_22_28, Act.put, q1_, q2_, q3_]
            refine tq_ (i := 29) (oi := o3_22_29) (v := undef) (Or.inr ⟨by rfl, rfl⟩) hHeld ?_
            try simp only [o3_22_29, Act.put, q1_, q2_, q3_]
            refine tq_ (i := 30) (oi := o3_22_30) (v := undef) (Or.inr ⟨by rfl, rfl⟩) hHeld ?_
            try simp only [o3_22_30, Act.put, q1_, q2_, q3_]
            refine tq_ (i := 31) (oi := o3_22_31) (v := undef) (Or.inr ⟨by rfl, rfl⟩) hHeld ?_
            try simp only [o3_22_31, Act.put, q1_, q2_, q3_]
            refine tq_ (i := 32) (oi := o3_22_32) (v := undef) (Or.inr ⟨by rfl, rfl⟩) hHeld ?_
            try simp only [o3_22_32, Act.put, q1_, q2_, q3_]
            refine tq_ (i := 33) (oi := o3_22_33) (v := undef) (Or.inr ⟨by rfl, rfl⟩) hHeld ?_
            try simp only [o3_22_33, Act.put, q1_, q2_, q3_]
            refine tq_ (i := 34) (oi := o3_22_34) (v := undef) (Or.inr ⟨by rfl, rfl⟩) hHeld ?_
            try simp only [o3_22_34, Act.put, q1_, q2_, q3_]
            refine tq_ (i := 35) (oi := o3_22_35) (v := undef) (Or.inr ⟨by rfl, rfl⟩) hHeld ?_
            try simp only [o3_22_35, Act.put, q1_, q2_, q3_]
            refine tq_ (i := 36) (oi := o3_22_36) (v := undef) (Or.inr ⟨by rfl, rfl⟩) hHeld ?_
            try simp only [o3_22_36, Act.put, q1_, q2_, q3_]
            refine tq_ (i := 37) (oi := o3_22_37) (v := undef) (Or.inr ⟨by rfl, rfl⟩) hHeld ?_
            try simp only [o3_22_37, Act.put, q1_, q2_, q3_]
            refine tq_ (i := 38) (oi := o3_22_38) (v := undef) (Or.inr ⟨by rfl, rfl⟩) hHeld ?_
            try simp only [o3_22_38, Act.put, q1_, q2_, q3_]
            refine tq_ (i := 39) (oi := o3_22_39) (v := undef) (Or.inr ⟨by rfl, rfl⟩) hHeld ?_
            try simp only [o3_22_39, Act.put, q1_, q2_, q3_]
            refine tq_ (i := 40) (oi := o3_22_40) (v := undef) (Or.inr ⟨by rfl, rfl⟩) hHeld ?_
            try simp only [o3_22_40, Act.put, q1_, q2_, q3_]
            refine tq_ (i := 41) (oi := o3_22_41) (v := undef) (Or.inr ⟨by rfl, rfl⟩) hHeld ?_
            try simp only [o3_22_41, Act.put, q1_, q2_, q3_]
            refine tq_ (i := 42) (oi := o3_22_42) (v := undef) (Or.inr ⟨by rfl, rfl⟩) hHeld ?_
            try simp only [o3_22_42, Act.put, q1_, q2_, q3_]
            refine tq_ (i := 43) (oi := o3_22_43) (v := ?vtn43) (Or.inl ⟨by rfl, ?hytn43⟩) hHeld ?resttn43
            case hytn43 => (intro w hSw; (try dsimp only at hSw); unfold o3_22_43; go_simp <;> with_reducible rfl)
            try simp only [o3_22_43, Act.put, q1_, q2_, q3_]
            refine tq_ (i := 44) (oi := o3_22_44) (v := ?vtn44) (Or.inl ⟨by rfl, ?hytn44⟩) hHeld ?resttn44
            case hytn44 => (intro w hSw; (try dsimp only at hSw); unfold o3_22_44; go_simp <;> with_reducible rfl)
            try simp only [o3_22_44, Act.put, q1_, q2_, q3_]
            refine wpAnyH_done (by kernel_rfl) ?_ _
            refine NoPanic.normal ?_
            have PX5 := Aside0.mk (PX4.out.below K0.out)
            clear hHeld K0 PX4 PX3
            generalize w4.drew = w5 at PX5 ⊢
            go_wp2_with fail
            obtain ⟨asks2, done2, ans2, va2, vs2, vb2, HPX, HPL⟩ : ∃ (asks2 : List ByteArray) (done2 : Nat) (ans2 : List ByteArray) (va2 vs2 vb2 : Value), Aside0 (PX w w5 g p B me (asks2.length : Int) ((Qs asks2 asks2.length).drop done2) (Rs27 ans2 told) vb2 asks2 done2 ans2 va2 vs2) ∧ Aside0 (PL (j + 1) asks2 done2 ans2 told) := ⟨_, _, _, _, _, _, ⟨PX5.out⟩, ⟨HPJ.out.more⟩⟩
            obtain ⟨A8, c8, e8⟩ := Kd.R_slice HPX.out.2.1.2.1
            subst e8
            have ew8 : IntKind.i64.wrap ((asks2.length : Int) - (done2 : Int)) = (asks2.length : Int) - (done2 : Int) := by have := HPL.out.hd; have := HPL.out.hl; have := HJ.out; rw [IntKind.wrap_i64]; omega
            have hql : (((Qs asks2 asks2.length).drop done2).length : Int) = (asks2.length : Int) - (done2 : Int) := by rw [Qs_qlen]; have := HPL.out.hd; omega
            have K0 := Aside0.mk (below_drew (Below.refl w5.heap.size w5))
            have Sall : Aside0 (∀ X : World, Below w5.heap.size w5 X → X.cell? ⟨p, 1, none⟩ = some (.slice A8 asks2.length c8) ∧ X.cell? ⟨p, 2, none⟩ = some (.int .i64 (done2 : Int))) := ⟨fun X hX => ⟨((HPX.out.2.1.1.below hX).cell 1).trans rfl, ((HPX.out.2.1.1.below hX).cell 2).trans rfl⟩⟩
            refine wp_region_noPanic ?_
            refine wp_region_held_drew (S := fun X : World => X.cell? ⟨p, 1, none⟩ = some (.slice A8 asks2.length c8) ∧ X.cell? ⟨p, 2, none⟩ = some (.int .i64 (done2 : Int))) (by kernel_rfl) ?_ (fun hHeld => ?_)
            · exact Sall.out _ K0.out
            refine tq_ (i := 0) (oi := o3_40_0) (v := ?vtnq0) (Or.inl ⟨by rfl, ?hytnq0⟩) hHeld ?resttnq0
            case hytnq0 => (intro w hSw; (try dsimp only at hSw); unfold o3_40_0; go_simp <;> with_reducible rfl)
            try simp only [o3_40_0, Act.put, q1_, q2_, q3_]
            refine tq_ (i := 2) (oi := o3_40_2) (v := ?vtnq2) (Or.inl ⟨by rfl, ?hytnq2⟩) hHeld ?resttnq2
            case hytnq2 => (intro w hSw; (try dsimp only at hSw); unfold o3_40_2; go_simp <;> with_reducible rfl)
            try simp only [o3_40_2, Act.put, q1_, q2_, q3_]
            refine tq_ (i := 3) (oi := o3_40_3) (v := ?vtnq3) (Or.inl ⟨by rfl, ?hytnq3⟩) hHeld ?resttnq3
            case hytnq3 => (intro w hSw; (try dsimp only at hSw); unfold o3_40_3; go_simp <;> with_reducible rfl)
            try simp only [o3_40_3, Act.put, q1_, q2_, q3_]
            refine tq_ (i := 4) (oi := o3_40_4) (v := ?vtnq4) (Or.inl ⟨by rfl, ?hytnq4⟩) hHeld ?resttnq4
            case hytnq4 => (intro w hSw; (try dsimp only at hSw); unfold o3_40_4; go_simp <;> with_reducible rfl)
            try simp only [o3_40_4, Act.put, q1_, q2_, q3_]
            refine tq_ (i := 5) (oi := o3_40_5) (v := ?vtnq5) (Or.inl ⟨by rfl, ?hytnq5⟩) hHeld ?resttnq5
            case hytnq5 => (intro w hSw; (try dsimp only at hSw); unfold o3_40_5; go_simp <;> with_reducible rfl)
            try simp only [o3_40_5, Act.put, q1_, q2_, q3_]
            refine tq_ (i := 6) (oi := o3_40_6) (v := ?vtnq6) (Or.inl ⟨by rfl, ?hytnq6⟩) hHeld ?resttnq6
            case hytnq6 => (intro w hSw; (try dsimp only at hSw); unfold o3_40_6; go_simp <;> with_reducible rfl)
            try simp only [o3_40_6, Act.put, q1_, q2_, q3_]
            refine tq_ (i := 7) (oi := o3_40_7) (v := ?vtnq7) (Or.inl ⟨by rfl, ?hytnq7⟩) hHeld ?resttnq7
            case hytnq7 => (intro w hSw; (try dsimp only at hSw); unfold o3_40_7; go_simp <;> with_reducible rfl)
            try simp only [o3_40_7, Act.put, q1_, q2_, q3_]
            refine tq_ (i := 8) (oi := o3_40_8) (v := ?vtnq8) (Or.inl ⟨by rfl, ?hytnq8⟩) hHeld ?resttnq8
            case hytnq8 => (intro w hSw; (try dsimp only at hSw); unfold o3_40_8; go_simp <;> with_reducible rfl)
            try simp only [o3_40_8, Act.put, q1_, q2_, q3_]
            refine tq_ (i := 9) (oi := o3_40_9) (v := ?vtnq9) (Or.inl ⟨by rfl, ?hytnq9⟩) hHeld ?resttnq9
            case hytnq9 => (intro w hSw; (try dsimp only at hSw); unfold o3_40_9; go_simp <;> with_reducible rfl)
            try simp only [o3_40_9, Act.put, q1_, q2_, q3_]
            refine tq_ (i := 10) (oi := o3_40_10) (v := ?vtnq10) (Or.inl ⟨by rfl, ?hytnq10⟩) hHeld ?resttnq10
            case hytnq10 => (intro w hSw; (try dsimp only at hSw); unfold o3_40_10; go_simp <;> with_reducible rfl)
            try simp only [o3_40_10, Act.put, q1_, q2_, q3_]
            refine tq_ (i := 11) (oi := o3_40_11) (v := ?vtnq11) (Or.inl ⟨by rfl, ?hytnq11⟩) hHeld ?resttnq11
            case hytnq11 => (intro w hSw; (try dsimp only at hSw); unfold o3_40_11; go_simp <;> with_reducible rfl)
            try simp only [o3_40_11, Act.put, q1_, q2_, q3_]
            refine wpAnyH_ready (rs := [1]) (by kernel_rfl) (by simp) ?_
            refine AllReadyH.cons (o := o3_40_1) rfl (fun K hK => ?_) AllReadyH.nil
            unfold o3_40_1; go_simp
            go_wp2_with (first | (go_at_call 21; refine (Queue_calls g B me _ _ _ _ (HPX.out.below K0.out).1.at).mono ?_; rintro e w9 ⟨rfl, rfl⟩; rw [hql]))
            refine hK.out _ _ (Sall.out _ K0.out) (fun hHeld' => ?_)
            clear hK K hHeld
            have hHeld := hHeld'
            clear hHeld'
            try simp only [Act.put, q1_, q2_, q3_]
            refine tq_ (i := 12) (oi := o3_40_12) (v := ?vtnq12) (Or.inl ⟨by rfl, ?hytnq12⟩) hHeld ?resttnq12
            case hytnq12 => (intro w hSw; (try dsimp only at hSw); unfold o3_40_12; go_simp <;> with_reducible rfl)
            try simp only [o3_40_12, Act.put, q1_, q2_, q3_]
            refine wpAnyH_done (by kernel_rfl) ?_ _
            refine NoPanic.normal ?_
            have HPX2 := Aside0.mk (HPX.out.below K0.out)
            clear Sall HPX hHeld
            go_wp2_with fail
            exact ⟨⟨j + 1, told, asks2, done2, ans2, .slice A8 asks2.length c8, vs2, vb2, by omega, by simp, rfl, HPX2, HPL⟩, by simp [intOf]; omega⟩
      · by_cases hopen : done < asks.length
        · by_cases heq : nn = (done : Int) + 1
          · as_aux_lemma =>
              have HEQ := Aside0.mk heq
              clear heq
              have hg := gGet_lett2 nn (bytesOf s) HNN.out.1 HNN.out.2 (by rw [bytesOf_length]; have := HSS.out; omega)
              have hby : ∀ x ∈ (lett nn (bytesOf s)), IsByte x := lett_byte _ _ (bytesOf_bytes s)
              have hlen : (lett nn (bytesOf s)).length = 12 + s.size := by rw [lett_length, bytesOf_length]
              have hr27 := gGet_rget (lett nn (bytesOf s)) hby (by rw [hlen]; have := HSS.out; omega)
              rw [hg] at hr27
              have hgo := hg
              have hro := hr27.symm
              have hhear : hear (gGet (lett nn (bytesOf s))) ((Qs asks asks.length).drop done) (Rs27 ans told) = ((Qs asks asks.length).drop (done + 1), Rs27 ans told ++ [(nn, bytesOf s)]) := by
                rw [hgo]
                rw [Qs_drop asks asks.length done hopen, hear_take _ _ _ _ (by have h0 := HEQ.out; first | omega | (dsimp only at h0 ⊢; omega) | (dsimp only at h0; omega) | (dsimp only; omega))]
              have PXb := Aside0.mk (PX1.out.below (str_below (wr.alloc (Obj.cells #[.int .u8 dd, .int .u64 nn, .string s] 36)) 5 s))
              have XAb := Aside0.mk (XA1.out.below (str_below (wr.alloc (Obj.cells #[.int .u8 dd, .int .u64 nn, .string s] 36)) 5 s))
              have HH := Aside0.mk hhear
              have HRO := Aside0.mk hro
              have HBY := Aside0.mk hby
              have HLE := Aside0.mk hlen
              have HHL : Aside0 ((Rs27 ans told).length ≤ 1000) := ⟨by rw [Rs27_length]; have := HPJ.out.ha; have := HPJ.out.hd; have := HPJ.out.hl; have := HJ.out; omega⟩
              have HQL : Aside0 (((Qs asks asks.length).drop done).length ≤ 1000) := ⟨by rw [Qs_qlen]; have := HPJ.out.hl; have := HJ.out; omega⟩
              clear hhear hgo hro hby hlen hr27 hg
              have CS := Aside0.mk (C_str (wr.alloc (Obj.cells #[.int .u8 dd, .int .u64 nn, .string s] 36)) 5 s (by have := HSS.out; omega))
              go_wp2_with fail
              have kput : Aside0 (∀ c : Nat, Calls Try.prog 17 #[.int .u64 nn, .slice (some ⟨(wr.alloc (Obj.cells #[.int .u8 dd, .int .u64 nn, .string s] 36)).heap.size, 0, none⟩) s.size c] (Lib.bytesWorld (wr.alloc (Obj.cells #[.int .u8 dd, .int .u64 nn, .string s] 36)) 5 s) fun e w' => ∃ v0 : Value, e = .returned v0 ∧ Kd.R (Kd.int .u8) 5 w' (Lib.bytesWorld (wr.alloc (Obj.cells #[.int .u8 dd, .int .u64 nn, .string s] 36)) 5 s).heap.size (fun _ => True) v0 (lett nn (bytesOf s)) ∧ Below (Lib.bytesWorld (wr.alloc (Obj.cells #[.int .u8 dd, .int .u64 nn, .string s] 36)) 5 s).heap.size (Lib.bytesWorld (wr.alloc (Obj.cells #[.int .u8 dd, .int .u64 nn, .string s] 36)) 5 s) w') := ⟨fun c => by
                have := gPut_calls nn _ c (bytesOf s) _ CS.out (by rw [bytesOf_length]; have := HSS.out; omega) HNN.out.1 HNN.out.2
                rw [bytesOf_length] at this
                exact this⟩
              rw [size_alloc] at kput
              refine (kput.out _).mono ?_
              rintro e w3 ⟨v3, rfl, hV, hb⟩
              obtain ⟨A3, c3, ev⟩ := Kd.R_slice hV
              subst ev
              have PX3 := Aside0.mk (PXb.out.below hb)
              have XA3 := Aside0.mk (XAb.out.below hb)
              have C3 := Aside0.mk (Kd.R_reads' hV).2.2
              clear hV hb kput CS PXb XAb
              go_wp2_with fail
              refine (HearV g B me _ _ _ A3 c3 (lett nn (bytesOf s)) w3 vb _ (fun k hk => PX3.out.fresh k hk) PX3.out.1 C3.out HBY.out (by rw [HLE.out]; have := HSS.out; omega) (Nat.le_trans HQL.out (by decide)) (Nat.le_trans HHL.out (by decide))).mono ?_
              rintro e w4 ⟨rfl, ⟨vb4, hG⟩, hK, hb⟩
              rw [HH.out] at hG
              have PX4 : Aside0 (PX w w4 g p B me (asks.length : Int) ((Qs asks asks.length).drop (done + 1)) (Rs27 ans told ++ [(nn, bytesOf s)]) vb4 asks done ans _ _) := ⟨PX3.out.gate hG (KT_hear PX3.out.1 hK) hb⟩
              have XA4 := Aside0.mk (KT_blk (KT_hear PX3.out.1 hK) XA3.out (fun e => by have := PX1.out.1.at.lt; have := HPA.out; omega) (by decide) (by decide))
              have c1 := (XA4.out.cell 1).trans (rfl : _ = some (Value.int .u64 nn))
              have c2 := (XA4.out.cell 2).trans (rfl : _ = some (Value.string s))
              clear hG hK hb C3 PX3 XA3 HH
              go_wp2_with fail
              refine (rPut_calls nn s w4 HNN.out.1 (by have := HSS.out; omega)).mono ?_
              rintro e w5 ⟨v5, rfl, hV, hb⟩
              obtain ⟨A5, c5, ev⟩ := Kd.R_slice hV
              subst ev
              have PX5 := Aside0.mk (PX4.out.below hb)
              have C5 := Aside0.mk (Kd.R_reads' hV).2.2
              have L5 := Aside0.mk (Kd.R_reads' hV).2.1
              clear hV hb c1 c2 XA4 PX4
              go_wp2_with fail
              refine (RHear_take p B me asks done ans _ _ A5 c5 (lett nn (bytesOf s)) w5 PX5.out.2.1 HPJ.out.hd (by have := HPJ.out.hl; have := HJ.out; omega) C5.out L5.out HBY.out (by rw [HLE.out]; have := HSS.out; omega) (nn, bytesOf s) HRO.out hopen (by have h0 := HEQ.out; first | omega | (dsimp only at h0 ⊢; omega) | (dsimp only at h0; omega) | (dsimp only; omega)) (by have := HPJ.out.ha; have := HPJ.out.hd; have := HPJ.out.hl; have := HJ.out; omega)).mono ?_
              rintro e w6 ⟨rfl, ⟨vs6, hR, hat⟩, hK, hb⟩
              have PX6 := Aside0.mk (PX5.out.ref hR hK (.inr rfl) (.inl rfl) hat hb)
              have PX6' : Aside0 (PX w w6 g p B me (asks.length : Int) ((Qs asks asks.length).drop (done + 1)) (Rs27 (ans ++ [strOfNums (bytesOf s)]) told) vb4 asks (done + 1) (ans ++ [strOfNums (bytesOf s)]) _ vs6) := ⟨by
                have h := PX6.out
                rw [Rs27_more ans told _ (by rw [HPJ.out.ha]; exact HPJ.out.ht), bytesOf_str _ (bytesOf_bytes s), HPJ.out.ha, ← HEQ.out]
                exact h⟩
              clear hR hK hb hat PX6 PX5
              go_wp2_with fail
              obtain ⟨asks2, done2, ans2, va2, vs2, vb2, HPX, HPL⟩ : ∃ (asks2 : List ByteArray) (done2 : Nat) (ans2 : List ByteArray) (va2 vs2 vb2 : Value), Aside0 (PX w w6 g p B me (asks2.length : Int) ((Qs asks2 asks2.length).drop done2) (Rs27 ans2 told) vb2 asks2 done2 ans2 va2 vs2) ∧ Aside0 (PL (j + 1) asks2 done2 ans2 told) := ⟨_, _, _, _, _, _, ⟨PX6'.out⟩, ⟨HPJ.out.take hopen _⟩⟩
              obtain ⟨A8, c8, e8⟩ := Kd.R_slice HPX.out.2.1.2.1
              subst e8
              have ew8 : IntKind.i64.wrap ((asks2.length : Int) - (done2 : Int)) = (asks2.length : Int) - (done2 : Int) := by have := HPL.out.hd; have := HPL.out.hl; have := HJ.out; rw [IntKind.wrap_i64]; omega
              have hql : (((Qs asks2 asks2.length).drop done2).length : Int) = (asks2.length : Int) - (done2 : Int) := by rw [Qs_qlen]; have := HPL.out.hd; omega
              have K0 := Aside0.mk (below_drew (Below.refl w6.heap.size w6))
              have Sall : Aside0 (∀ X : World, Below w6.heap.size w6 X → X.cell? ⟨p, 1, none⟩ = some (.slice A8 asks2.length c8) ∧ X.cell? ⟨p, 2, none⟩ = some (.int .i64 (done2 : Int))) := ⟨fun X hX => ⟨((HPX.out.2.1.1.below hX).cell 1).trans rfl, ((HPX.out.2.1.1.below hX).cell 2).trans rfl⟩⟩
              refine wp_region_noPanic ?_
              refine wp_region_held_drew (S := fun X : World => X.cell? ⟨p, 1, none⟩ = some (.slice A8 asks2.length c8) ∧ X.cell? ⟨p, 2, none⟩ = some (.int .i64 (done2 : Int))) (by kernel_rfl) ?_ (fun hHeld => ?_)
              · exact Sall.out _ K0.out
              refine tq_ (i := 0) (oi := o3_40_0) (v := ?vh2tq0) (Or.inl ⟨by rfl, ?hyh2tq0⟩) hHeld ?resth2tq0
              case hyh2tq0 => (intro w hSw; (try dsimp only at hSw); unfold o3_40_0; go_simp <;> with_reducible rfl)
              try simp only [o3_40_0, Act.put, q1_, q2_, q3_]
              refine tq_ (i := 2) (oi := o3_40_2) (v := ?vh2tq2) (Or.inl ⟨by rfl, ?hyh2tq2⟩) hHeld ?resth2tq2
              case hyh2tq2 => (intro w hSw; (try dsimp only at hSw); unfold o3_40_2; go_simp <;> with_reducible rfl)
              try simp only [o3_40_2, Act.put, q1_, q2_, q3_]
              refine tq_ (i := 3) (oi := o3_40_3) (v := ?vh2tq3) (Or.inl ⟨by rfl, ?hyh2tq3⟩) hHeld ?resth2tq3
              case hyh2tq3 => (intro w hSw; (try dsimp only at hSw); unfold o3_40_3; go_simp <;> with_reducible rfl)
              try simp only [o3_40_3, Act.put, q1_, q2_, q3_]
              refine tq_ (i := 4) (oi := o3_40_4) (v := ?vh2tq4) (Or.inl ⟨by rfl, ?hyh2tq4⟩) hHeld ?resth2tq4
              case hyh2tq4 => (intro w hSw; (try dsimp only at hSw); unfold o3_40_4; go_simp <;> with_reducible rfl)
              try simp only [o3_40_4, Act.put, q1_, q2_, q3_]
              refine tq_ (i := 5) (oi := o3_40_5) (v := ?vh2tq5) (Or.inl ⟨by rfl, ?hyh2tq5⟩) hHeld ?resth2tq5
              case hyh2tq5 => (intro w hSw; (try dsimp only at hSw); unfold o3_40_5; go_simp <;> with_reducible rfl)
              try simp only [o3_40_5, Act.put, q1_, q2_, q3_]
              refine tq_ (i := 6) (oi := o3_40_6) (v := ?vh2tq6) (Or.inl ⟨by rfl, ?hyh2tq6⟩) hHeld ?resth2tq6
              case hyh2tq6 => (intro w hSw; (try dsimp only at hSw); unfold o3_40_6; go_simp <;> with_reducible rfl)
              try simp only [o3_40_6, Act.put, q1_, q2_, q3_]
              refine tq_ (i := 7) (oi := o3_40_7) (v := ?vh2tq7) (Or.inl ⟨by rfl, ?hyh2tq7⟩) hHeld ?resth2tq7
              case hyh2tq7 => (intro w hSw; (try dsimp only at hSw); unfold o3_40_7; go_simp <;> with_reducible rfl)
              try simp only [o3_40_7, Act.put, q1_, q2_, q3_]
              refine tq_ (i := 8) (oi := o3_40_8) (v := ?vh2tq8) (Or.inl ⟨by rfl, ?hyh2tq8⟩) hHeld ?resth2tq8
              case hyh2tq8 => (intro w hSw; (try dsimp only at hSw); unfold o3_40_8; go_simp <;> with_reducible rfl)
              try simp only [o3_40_8, Act.put, q1_, q2_, q3_]
              refine tq_ (i := 9) (oi := o3_40_9) (v := ?vh2tq9) (Or.inl ⟨by rfl, ?hyh2tq9⟩) hHeld ?resth2tq9
              case hyh2tq9 => (intro w hSw; (try dsimp only at hSw); unfold o3_40_9; go_simp <;> with_reducible rfl)
              try simp only [o3_40_9, Act.put, q1_, q2_, q3_]
              refine tq_ (i := 10) (oi := o3_40_10) (v := ?vh2tq10) (Or.inl ⟨by rfl, ?hyh2tq10⟩) hHeld ?resth2tq10
              case hyh2tq10 => (intro w hSw; (try dsimp only at hSw); unfold o3_40_10; go_simp <;> with_reducible rfl)
              try simp only [o3_40_10, Act.put, q1_, q2_, q3_]
              refine tq_ (i := 11) (oi := o3_40_11) (v := ?vh2tq11) (Or.inl ⟨by rfl, ?hyh2tq11⟩) hHeld ?resth2tq11
              case hyh2tq11 => (intro w hSw; (try dsimp only at hSw); unfold o3_40_11; go_simp <;> with_reducible rfl)
              try simp only [o3_40_11, Act.put, q1_, q2_, q3_]
              refine wpAnyH_ready (rs := [1]) (by kernel_rfl) (by simp) ?_
              refine AllReadyH.cons (o := o3_40_1) rfl (fun K hK => ?_) AllReadyH.nil
              unfold o3_40_1; go_simp
              go_wp2_with (first | (go_at_call 21; refine (Queue_calls g B me _ _ _ _ (HPX.out.below K0.out).1.at).mono ?_; rintro e w9 ⟨rfl, rfl⟩; rw [hql]))
              refine hK.out _ _ (Sall.out _ K0.out) (fun hHeld' => ?_)
              clear hK K hHeld
              have hHeld := hHeld'
              clear hHeld'
              try simp only [Act.put, q1_, q2_, q3_]
              refine tq_ (i := 12) (oi := o3_40_12) (v := ?vh2tq12) (Or.inl ⟨by rfl, ?hyh2tq12⟩) hHeld ?resth2tq12
              case hyh2tq12 => (intro w hSw; (try dsimp only at hSw); unfold o3_40_12; go_simp <;> with_reducible rfl)
              try simp only [o3_40_12, Act.put, q1_, q2_, q3_]
              refine wpAnyH_done (by kernel_rfl) ?_ _
              refine NoPanic.normal ?_
              have HPX2 := Aside0.mk (HPX.out.below K0.out)
              clear Sall HPX hHeld
              go_wp2_with fail
              exact ⟨⟨j + 1, told, asks2, done2, ans2, .slice A8 asks2.length c8, vs2, vb2, by omega, by simp, rfl, HPX2, HPL⟩, by simp [intOf]; omega⟩
          · have hne : ¬ (nn : Int) = (done : Int) + 1 := heq
            as_aux_lemma =>
              have HNE := Aside0.mk hne
              clear hne
              have hg := gGet_lett2 nn (bytesOf s) HNN.out.1 HNN.out.2 (by rw [bytesOf_length]; have := HSS.out; omega)
              have hby : ∀ x ∈ (lett nn (bytesOf s)), IsByte x := lett_byte _ _ (bytesOf_bytes s)
              have hlen : (lett nn (bytesOf s)).length = 12 + s.size := by rw [lett_length, bytesOf_length]
              have hr27 := gGet_rget (lett nn (bytesOf s)) hby (by rw [hlen]; have := HSS.out; omega)
              rw [hg] at hr27
              have hgo := hg
              have hro := hr27.symm
              have hhear : hear (gGet (lett nn (bytesOf s))) ((Qs asks asks.length).drop done) (Rs27 ans told) = ((Qs asks asks.length).drop done, Rs27 ans told) := by
                rw [hgo]
                rw [Qs_drop asks asks.length done hopen, hear_other _ _ _ _ (by have h0 := HNE.out; first | omega | (dsimp only at h0 ⊢; omega) | (dsimp only at h0; omega) | (dsimp only; omega))]
              have PXb := Aside0.mk (PX1.out.below (str_below (wr.alloc (Obj.cells #[.int .u8 dd, .int .u64 nn, .string s] 36)) 5 s))
              have XAb := Aside0.mk (XA1.out.below (str_below (wr.alloc (Obj.cells #[.int .u8 dd, .int .u64 nn, .string s] 36)) 5 s))
              have HH := Aside0.mk hhear
              have HRO := Aside0.mk hro
              have HBY := Aside0.mk hby
              have HLE := Aside0.mk hlen
              have HHL : Aside0 ((Rs27 ans told).length ≤ 1000) := ⟨by rw [Rs27_length]; have := HPJ.out.ha; have := HPJ.out.hd; have := HPJ.out.hl; have := HJ.out; omega⟩
              have HQL : Aside0 (((Qs asks asks.length).drop done).length ≤ 1000) := ⟨by rw [Qs_qlen]; have := HPJ.out.hl; have := HJ.out; omega⟩
              clear hhear hgo hro hby hlen hr27 hg
              have CS := Aside0.mk (C_str (wr.alloc (Obj.cells #[.int .u8 dd, .int .u64 nn, .string s] 36)) 5 s (by have := HSS.out; omega))
              go_wp2_with fail
              have kput : Aside0 (∀ c : Nat, Calls Try.prog 17 #[.int .u64 nn, .slice (some ⟨(wr.alloc (Obj.cells #[.int .u8 dd, .int .u64 nn, .string s] 36)).heap.size, 0, none⟩) s.size c] (Lib.bytesWorld (wr.alloc (Obj.cells #[.int .u8 dd, .int .u64 nn, .string s] 36)) 5 s) fun e w' => ∃ v0 : Value, e = .returned v0 ∧ Kd.R (Kd.int .u8) 5 w' (Lib.bytesWorld (wr.alloc (Obj.cells #[.int .u8 dd, .int .u64 nn, .string s] 36)) 5 s).heap.size (fun _ => True) v0 (lett nn (bytesOf s)) ∧ Below (Lib.bytesWorld (wr.alloc (Obj.cells #[.int .u8 dd, .int .u64 nn, .string s] 36)) 5 s).heap.size (Lib.bytesWorld (wr.alloc (Obj.cells #[.int .u8 dd, .int .u64 nn, .string s] 36)) 5 s) w') := ⟨fun c => by
                have := gPut_calls nn _ c (bytesOf s) _ CS.out (by rw [bytesOf_length]; have := HSS.out; omega) HNN.out.1 HNN.out.2
                rw [bytesOf_length] at this
                exact this⟩
              rw [size_alloc] at kput
              refine (kput.out _).mono ?_
              rintro e w3 ⟨v3, rfl, hV, hb⟩
              obtain ⟨A3, c3, ev⟩ := Kd.R_slice hV
              subst ev
              have PX3 := Aside0.mk (PXb.out.below hb)
              have XA3 := Aside0.mk (XAb.out.below hb)
              have C3 := Aside0.mk (Kd.R_reads' hV).2.2
              clear hV hb kput CS PXb XAb
              go_wp2_with fail
              refine (HearV g B me _ _ _ A3 c3 (lett nn (bytesOf s)) w3 vb _ (fun k hk => PX3.out.fresh k hk) PX3.out.1 C3.out HBY.out (by rw [HLE.out]; have := HSS.out; omega) (Nat.le_trans HQL.out (by decide)) (Nat.le_trans HHL.out (by decide))).mono ?_
              rintro e w4 ⟨rfl, ⟨vb4, hG⟩, hK, hb⟩
              rw [HH.out] at hG
              have PX4 : Aside0 (PX w w4 g p B me (asks.length : Int) ((Qs asks asks.length).drop done) (Rs27 ans told) vb4 asks done ans _ _) := ⟨PX3.out.gate hG (KT_hear PX3.out.1 hK) hb⟩
              have XA4 := Aside0.mk (KT_blk (KT_hear PX3.out.1 hK) XA3.out (fun e => by have := PX1.out.1.at.lt; have := HPA.out; omega) (by decide) (by decide))
              have c1 := (XA4.out.cell 1).trans (rfl : _ = some (Value.int .u64 nn))
              have c2 := (XA4.out.cell 2).trans (rfl : _ = some (Value.string s))
              clear hG hK hb C3 PX3 XA3 HH
              go_wp2_with fail
              refine (rPut_calls nn s w4 HNN.out.1 (by have := HSS.out; omega)).mono ?_
              rintro e w5 ⟨v5, rfl, hV, hb⟩
              obtain ⟨A5, c5, ev⟩ := Kd.R_slice hV
              subst ev
              have PX5 := Aside0.mk (PX4.out.below hb)
              have C5 := Aside0.mk (Kd.R_reads' hV).2.2
              have L5 := Aside0.mk (Kd.R_reads' hV).2.1
              clear hV hb c1 c2 XA4 PX4
              go_wp2_with fail
              refine (RHear_other p B me asks done ans _ _ A5 c5 (lett nn (bytesOf s)) w5 PX5.out.2.1 HPJ.out.hd (by have := HPJ.out.hl; have := HJ.out; omega) C5.out L5.out HBY.out (by rw [HLE.out]; have := HSS.out; omega) (nn, bytesOf s) HRO.out hopen (by have h0 := HNE.out; first | omega | (dsimp only at h0 ⊢; omega) | (dsimp only at h0; omega) | (dsimp only; omega))).mono ?_
              rintro e w6 ⟨rfl, hb⟩
              have PX6 := Aside0.mk (PX5.out.below hb)
              clear hb PX5
              go_wp2_with fail
              obtain ⟨asks2, done2, ans2, va2, vs2, vb2, HPX, HPL⟩ : ∃ (asks2 : List ByteArray) (done2 : Nat) (ans2 : List ByteArray) (va2 vs2 vb2 : Value), Aside0 (PX w w6 g p B me (asks2.length : Int) ((Qs asks2 asks2.length).drop done2) (Rs27 ans2 told) vb2 asks2 done2 ans2 va2 vs2) ∧ Aside0 (PL (j + 1) asks2 done2 ans2 told) := ⟨_, _, _, _, _, _, ⟨PX6.out⟩, ⟨HPJ.out.more⟩⟩
              obtain ⟨A8, c8, e8⟩ := Kd.R_slice HPX.out.2.1.2.1
              subst e8
              have ew8 : IntKind.i64.wrap ((asks2.length : Int) - (done2 : Int)) = (asks2.length : Int) - (done2 : Int) := by have := HPL.out.hd; have := HPL.out.hl; have := HJ.out; rw [IntKind.wrap_i64]; omega
              have hql : (((Qs asks2 asks2.length).drop done2).length : Int) = (asks2.length : Int) - (done2 : Int) := by rw [Qs_qlen]; have := HPL.out.hd; omega
              have K0 := Aside0.mk (below_drew (Below.refl w6.heap.size w6))
              have Sall : Aside0 (∀ X : World, Below w6.heap.size w6 X → X.cell? ⟨p, 1, none⟩ = some (.slice A8 asks2.length c8) ∧ X.cell? ⟨p, 2, none⟩ = some (.int .i64 (done2 : Int))) := ⟨fun X hX => ⟨((HPX.out.2.1.1.below hX).cell 1).trans rfl, ((HPX.out.2.1.1.below hX).cell 2).trans rfl⟩⟩
              refine wp_region_noPanic ?_
              refine wp_region_held_drew (S := fun X : World => X.cell? ⟨p, 1, none⟩ = some (.slice A8 asks2.length c8) ∧ X.cell? ⟨p, 2, none⟩ = some (.int .i64 (done2 : Int))) (by kernel_rfl) ?_ (fun hHeld => ?_)
              · exact Sall.out _ K0.out
              refine tq_ (i := 0) (oi := o3_40_0) (v := ?vh2oq0) (Or.inl ⟨by rfl, ?hyh2oq0⟩) hHeld ?resth2oq0
              case hyh2oq0 => (intro w hSw; (try dsimp only at hSw); unfold o3_40_0; go_simp <;> with_reducible rfl)
              try simp only [o3_40_0, Act.put, q1_, q2_, q3_]
              refine tq_ (i := 2) (oi := o3_40_2) (v := ?vh2oq2) (Or.inl ⟨by rfl, ?hyh2oq2⟩) hHeld ?resth2oq2
              case hyh2oq2 => (intro w hSw; (try dsimp only at hSw); unfold o3_40_2; go_simp <;> with_reducible rfl)
              try simp only [o3_40_2, Act.put, q1_, q2_, q3_]
              refine tq_ (i := 3) (oi := o3_40_3) (v := ?vh2oq3) (Or.inl ⟨by rfl, ?hyh2oq3⟩) hHeld ?resth2oq3
              case hyh2oq3 => (intro w hSw; (try dsimp only at hSw); unfold o3_40_3; go_simp <;> with_reducible rfl)
              try simp only [o3_40_3, Act.put, q1_, q2_, q3_]
              refine tq_ (i := 4) (oi := o3_40_4) (v := ?vh2oq4) (Or.inl ⟨by rfl, ?hyh2oq4⟩) hHeld ?resth2oq4
              case hyh2oq4 => (intro w hSw; (try dsimp only at hSw); unfold o3_40_4; go_simp <;> with_reducible rfl)
              try simp only [o3_40_4, Act.put, q1_, q2_, q3_]
              refine tq_ (i := 5) (oi := o3_40_5) (v := ?vh2oq5) (Or.inl ⟨by rfl, ?hyh2oq5⟩) hHeld ?resth2oq5
              case hyh2oq5 => (intro w hSw; (try dsimp only at hSw); unfold o3_40_5; go_simp <;> with_reducible rfl)
              try simp only [o3_40_5, Act.put, q1_, q2_, q3_]
              refine tq_ (i := 6) (oi := o3_40_6) (v := ?vh2oq6) (Or.inl ⟨by rfl, ?hyh2oq6⟩) hHeld ?resth2oq6
              case hyh2oq6 => (intro w hSw; (try dsimp only at hSw); unfold o3_40_6; go_simp <;> with_reducible rfl)
              try simp only [o3_40_6, Act.put, q1_, q2_, q3_]
              refine tq_ (i := 7) (oi := o3_40_7) (v := ?vh2oq7) (Or.inl ⟨by rfl, ?hyh2oq7⟩) hHeld ?resth2oq7
              case hyh2oq7 => (intro w hSw; (try dsimp only at hSw); unfold o3_40_7; go_simp <;> with_reducible rfl)
              try simp only [o3_40_7, Act.put, q1_, q2_, q3_]
              refine tq_ (i := 8) (oi := o3_40_8) (v := ?vh2oq8) (Or.inl ⟨by rfl, ?hyh2oq8⟩) hHeld ?resth2oq8
              case hyh2oq8 => (intro w hSw; (try dsimp only at hSw); unfold o3_40_8; go_simp <;> with_reducible rfl)
              try simp only [o3_40_8, Act.put, q1_, q2_, q3_]
              refine tq_ (i := 9) (oi := o3_40_9) (v := ?vh2oq9) (Or.inl ⟨by rfl, ?hyh2oq9⟩) hHeld ?resth2oq9
              case hyh2oq9 => (intro w hSw; (try dsimp only at hSw); unfold o3_40_9; go_simp <;> with_reducible rfl)
              try simp only [o3_40_9, Act.put, q1_, q2_, q3_]
              refine tq_ (i := 10) (oi := o3_40_10) (v := ?vh2oq10) (Or.inl ⟨by rfl, ?hyh2oq10⟩) hHeld ?resth2oq10
              case hyh2oq10 => (intro w hSw; (try dsimp only at hSw); unfold o3_40_10; go_simp <;> with_reducible rfl)
              try simp only [o3_40_10, Act.put, q1_, q2_, q3_]
              refine tq_ (i := 11) (oi := o3_40_11) (v := ?vh2oq11) (Or.inl ⟨by rfl, ?hyh2oq11⟩) hHeld ?resth2oq11
              case hyh2oq11 => (intro w hSw; (try dsimp only at hSw); unfold o3_40_11; go_simp <;> with_reducible rfl)
              try simp only [o3_40_11, Act.put, q1_, q2_, q3_]
              refine wpAnyH_ready (rs := [1]) (by kernel_rfl) (by simp) ?_
              refine AllReadyH.cons (o := o3_40_1) rfl (fun K hK => ?_) AllReadyH.nil
              unfold o3_40_1; go_simp
              go_wp2_with (first | (go_at_call 21; refine (Queue_calls g B me _ _ _ _ (HPX.out.below K0.out).1.at).mono ?_; rintro e w9 ⟨rfl, rfl⟩; rw [hql]))
              refine hK.out _ _ (Sall.out _ K0.out) (fun hHeld' => ?_)
              clear hK K hHeld
              have hHeld := hHeld'
              clear hHeld'
              try simp only [Act.put, q1_, q2_, q3_]
              refine tq_ (i := 12) (oi := o3_40_12) (v := ?vh2oq12) (Or.inl ⟨by rfl, ?hyh2oq12⟩) hHeld ?resth2oq12
              case hyh2oq12 => (intro w hSw; (try dsimp only at hSw); unfold o3_40_12; go_simp <;> with_reducible rfl)
              try simp only [o3_40_12, Act.put, q1_, q2_, q3_]
              refine wpAnyH_done (by kernel_rfl) ?_ _
              refine NoPanic.normal ?_
              have HPX2 := Aside0.mk (HPX.out.below K0.out)
              clear Sall HPX hHeld
              go_wp2_with fail
              exact ⟨⟨j + 1, told, asks2, done2, ans2, .slice A8 asks2.length c8, vs2, vb2, by omega, by simp, rfl, HPX2, HPL⟩, by simp [intOf]; omega⟩
        · as_aux_lemma =>
            have hg := gGet_lett2 nn (bytesOf s) HNN.out.1 HNN.out.2 (by rw [bytesOf_length]; have := HSS.out; omega)
            have hby : ∀ x ∈ (lett nn (bytesOf s)), IsByte x := lett_byte _ _ (bytesOf_bytes s)
            have hlen : (lett nn (bytesOf s)).length = 12 + s.size := by rw [lett_length, bytesOf_length]
            have hr27 := gGet_rget (lett nn (bytesOf s)) hby (by rw [hlen]; have := HSS.out; omega)
            rw [hg] at hr27
            have hgo := hg
            have hro := hr27.symm
            have hhear : hear (gGet (lett nn (bytesOf s))) ((Qs asks asks.length).drop done) (Rs27 ans told) = ((Qs asks asks.length).drop done, Rs27 ans told) := by
              rw [hgo]
              rw [show (Qs asks asks.length).drop done = [] from List.drop_eq_nil_iff.2 (by rw [Qs_length]; have := HPJ.out.hd; omega), hear_empty]
            have PXb := Aside0.mk (PX1.out.below (str_below (wr.alloc (Obj.cells #[.int .u8 dd, .int .u64 nn, .string s] 36)) 5 s))
            have XAb := Aside0.mk (XA1.out.below (str_below (wr.alloc (Obj.cells #[.int .u8 dd, .int .u64 nn, .string s] 36)) 5 s))
            have HH := Aside0.mk hhear
            have HRO := Aside0.mk hro
            have HBY := Aside0.mk hby
            have HLE := Aside0.mk hlen
            have HHL : Aside0 ((Rs27 ans told).length ≤ 1000) := ⟨by rw [Rs27_length]; have := HPJ.out.ha; have := HPJ.out.hd; have := HPJ.out.hl; have := HJ.out; omega⟩
            have HQL : Aside0 (((Qs asks asks.length).drop done).length ≤ 1000) := ⟨by rw [Qs_qlen]; have := HPJ.out.hl; have := HJ.out; omega⟩
            clear hhear hgo hro hby hlen hr27 hg
            have CS := Aside0.mk (C_str (wr.alloc (Obj.cells #[.int .u8 dd, .int .u64 nn, .string s] 36)) 5 s (by have := HSS.out; omega))
            go_wp2_with fail
            have kput : Aside0 (∀ c : Nat, Calls Try.prog 17 #[.int .u64 nn, .slice (some ⟨(wr.alloc (Obj.cells #[.int .u8 dd, .int .u64 nn, .string s] 36)).heap.size, 0, none⟩) s.size c] (Lib.bytesWorld (wr.alloc (Obj.cells #[.int .u8 dd, .int .u64 nn, .string s] 36)) 5 s) fun e w' => ∃ v0 : Value, e = .returned v0 ∧ Kd.R (Kd.int .u8) 5 w' (Lib.bytesWorld (wr.alloc (Obj.cells #[.int .u8 dd, .int .u64 nn, .string s] 36)) 5 s).heap.size (fun _ => True) v0 (lett nn (bytesOf s)) ∧ Below (Lib.bytesWorld (wr.alloc (Obj.cells #[.int .u8 dd, .int .u64 nn, .string s] 36)) 5 s).heap.size (Lib.bytesWorld (wr.alloc (Obj.cells #[.int .u8 dd, .int .u64 nn, .string s] 36)) 5 s) w') := ⟨fun c => by
              have := gPut_calls nn _ c (bytesOf s) _ CS.out (by rw [bytesOf_length]; have := HSS.out; omega) HNN.out.1 HNN.out.2
              rw [bytesOf_length] at this
              exact this⟩
            rw [size_alloc] at kput
            refine (kput.out _).mono ?_
            rintro e w3 ⟨v3, rfl, hV, hb⟩
            obtain ⟨A3, c3, ev⟩ := Kd.R_slice hV
            subst ev
            have PX3 := Aside0.mk (PXb.out.below hb)
            have XA3 := Aside0.mk (XAb.out.below hb)
            have C3 := Aside0.mk (Kd.R_reads' hV).2.2
            clear hV hb kput CS PXb XAb
            go_wp2_with fail
            refine (HearV g B me _ _ _ A3 c3 (lett nn (bytesOf s)) w3 vb _ (fun k hk => PX3.out.fresh k hk) PX3.out.1 C3.out HBY.out (by rw [HLE.out]; have := HSS.out; omega) (Nat.le_trans HQL.out (by decide)) (Nat.le_trans HHL.out (by decide))).mono ?_
            rintro e w4 ⟨rfl, ⟨vb4, hG⟩, hK, hb⟩
            rw [HH.out] at hG
            have PX4 : Aside0 (PX w w4 g p B me (asks.length : Int) ((Qs asks asks.length).drop done) (Rs27 ans told) vb4 asks done ans _ _) := ⟨PX3.out.gate hG (KT_hear PX3.out.1 hK) hb⟩
            have XA4 := Aside0.mk (KT_blk (KT_hear PX3.out.1 hK) XA3.out (fun e => by have := PX1.out.1.at.lt; have := HPA.out; omega) (by decide) (by decide))
            have c1 := (XA4.out.cell 1).trans (rfl : _ = some (Value.int .u64 nn))
            have c2 := (XA4.out.cell 2).trans (rfl : _ = some (Value.string s))
            clear hG hK hb C3 PX3 XA3 HH
            go_wp2_with fail
            refine (rPut_calls nn s w4 HNN.out.1 (by have := HSS.out; omega)).mono ?_
            rintro e w5 ⟨v5, rfl, hV, hb⟩
            obtain ⟨A5, c5, ev⟩ := Kd.R_slice hV
            subst ev
            have PX5 := Aside0.mk (PX4.out.below hb)
            have C5 := Aside0.mk (Kd.R_reads' hV).2.2
            have L5 := Aside0.mk (Kd.R_reads' hV).2.1
            clear hV hb c1 c2 XA4 PX4
            go_wp2_with fail
            refine (RHear_all p B me asks done ans _ _ A5 c5 (lett nn (bytesOf s)) w5 PX5.out.2.1 HPJ.out.hd (by have := HPJ.out.hl; have := HJ.out; omega) C5.out L5.out HBY.out (by rw [HLE.out]; have := HSS.out; omega) (nn, bytesOf s) HRO.out (by have := HPJ.out.hd; omega)).mono ?_
            rintro e w6 ⟨rfl, hb⟩
            have PX6 := Aside0.mk (PX5.out.below hb)
            clear hb PX5
            go_wp2_with fail
            obtain ⟨asks2, done2, ans2, va2, vs2, vb2, HPX, HPL⟩ : ∃ (asks2 : List ByteArray) (done2 : Nat) (ans2 : List ByteArray) (va2 vs2 vb2 : Value), Aside0 (PX w w6 g p B me (asks2.length : Int) ((Qs asks2 asks2.length).drop done2) (Rs27 ans2 told) vb2 asks2 done2 ans2 va2 vs2) ∧ Aside0 (PL (j + 1) asks2 done2 ans2 told) := ⟨_, _, _, _, _, _, ⟨PX6.out⟩, ⟨HPJ.out.more⟩⟩
            obtain ⟨A8, c8, e8⟩ := Kd.R_slice HPX.out.2.1.2.1
            subst e8
            have ew8 : IntKind.i64.wrap ((asks2.length : Int) - (done2 : Int)) = (asks2.length : Int) - (done2 : Int) := by have := HPL.out.hd; have := HPL.out.hl; have := HJ.out; rw [IntKind.wrap_i64]; omega
            have hql : (((Qs asks2 asks2.length).drop done2).length : Int) = (asks2.length : Int) - (done2 : Int) := by rw [Qs_qlen]; have := HPL.out.hd; omega
            have K0 := Aside0.mk (below_drew (Below.refl w6.heap.size w6))
            have Sall : Aside0 (∀ X : World, Below w6.heap.size w6 X → X.cell? ⟨p, 1, none⟩ = some (.slice A8 asks2.length c8) ∧ X.cell? ⟨p, 2, none⟩ = some (.int .i64 (done2 : Int))) := ⟨fun X hX => ⟨((HPX.out.2.1.1.below hX).cell 1).trans rfl, ((HPX.out.2.1.1.below hX).cell 2).trans rfl⟩⟩
            refine wp_region_noPanic ?_
            refine wp_region_held_drew (S := fun X : World => X.cell? ⟨p, 1, none⟩ = some (.slice A8 asks2.length c8) ∧ X.cell? ⟨p, 2, none⟩ = some (.int .i64 (done2 : Int))) (by kernel_rfl) ?_ (fun hHeld => ?_)
            · exact Sall.out _ K0.out
            refine tq_ (i := 0) (oi := o3_40_0) (v := ?vh2aq0) (Or.inl ⟨by rfl, ?hyh2aq0⟩) hHeld ?resth2aq0
            case hyh2aq0 => (intro w hSw; (try dsimp only at hSw); unfold o3_40_0; go_simp <;> with_reducible rfl)
            try simp only [o3_40_0, Act.put, q1_, q2_, q3_]
            refine tq_ (i := 2) (oi := o3_40_2) (v := ?vh2aq2) (Or.inl ⟨by rfl, ?hyh2aq2⟩) hHeld ?resth2aq2
            case hyh2aq2 => (intro w hSw; (try dsimp only at hSw); unfold o3_40_2; go_simp <;> with_reducible rfl)
            try simp only [o3_40_2, Act.put, q1_, q2_, q3_]
            refine tq_ (i := 3) (oi := o3_40_3) (v := ?vh2aq3) (Or.inl ⟨by rfl, ?hyh2aq3⟩) hHeld ?resth2aq3
            case hyh2aq3 => (intro w hSw; (try dsimp only at hSw); unfold o3_40_3; go_simp <;> with_reducible rfl)
            try simp only [o3_40_3, Act.put, q1_, q2_, q3_]
            refine tq_ (i := 4) (oi := o3_40_4) (v := ?vh2aq4) (Or.inl ⟨by rfl, ?hyh2aq4⟩) hHeld ?resth2aq4
            case hyh2aq4 => (intro w hSw; (try dsimp only at hSw); unfold o3_40_4; go_simp <;> with_reducible rfl)
            try simp only [o3_40_4, Act.put, q1_, q2_, q3_]
            refine tq_ (i := 5) (oi := o3_40_5) (v := ?vh2aq5) (Or.inl ⟨by rfl, ?hyh2aq5⟩) hHeld ?resth2aq5
            case hyh2aq5 => (intro w hSw; (try dsimp only at hSw); unfold o3_40_5; go_simp <;> with_reducible rfl)
            try simp only [o3_40_5, Act.put, q1_, q2_, q3_]
            refine tq_ (i := 6) (oi := o3_40_6) (v := ?vh2aq6) (Or.inl ⟨by rfl, ?hyh2aq6⟩) hHeld ?resth2aq6
            case hyh2aq6 => (intro w hSw; (try dsimp only at hSw); unfold o3_40_6; go_simp <;> with_reducible rfl)
            try simp only [o3_40_6, Act.put, q1_, q2_, q3_]
            refine tq_ (i := 7) (oi := o3_40_7) (v := ?vh2aq7) (Or.inl ⟨by rfl, ?hyh2aq7⟩) hHeld ?resth2aq7
            case hyh2aq7 => (intro w hSw; (try dsimp only at hSw); unfold o3_40_7; go_simp <;> with_reducible rfl)
            try simp only [o3_40_7, Act.put, q1_, q2_, q3_]
            refine tq_ (i := 8) (oi := o3_40_8) (v := ?vh2aq8) (Or.inl ⟨by rfl, ?hyh2aq8⟩) hHeld ?resth2aq8
            case hyh2aq8 => (intro w hSw; (try dsimp only at hSw); unfold o3_40_8; go_simp <;> with_reducible rfl)
            try simp only [o3_40_8, Act.put, q1_, q2_, q3_]
            refine tq_ (i := 9) (oi := o3_40_9) (v := ?vh2aq9) (Or.inl ⟨by rfl, ?hyh2aq9⟩) hHeld ?resth2aq9
            case hyh2aq9 => (intro w hSw; (try dsimp only at hSw); unfold o3_40_9; go_simp <;> with_reducible rfl)
            try simp only [o3_40_9, Act.put, q1_, q2_, q3_]
            refine tq_ (i := 10) (oi := o3_40_10) (v := ?vh2aq10) (Or.inl ⟨by rfl, ?hyh2aq10⟩) hHeld ?resth2aq10
            case hyh2aq10 => (intro w hSw; (try dsimp only at hSw); unfold o3_40_10; go_simp <;> with_reducible rfl)
            try simp only [o3_40_10, Act.put, q1_, q2_, q3_]
            refine tq_ (i := 11) (oi := o3_40_11) (v := ?vh2aq11) (Or.inl ⟨by rfl, ?hyh2aq11⟩) hHeld ?resth2aq11
            case hyh2aq11 => (intro w hSw; (try dsimp only at hSw); unfold o3_40_11; go_simp <;> with_reducible rfl)
            try simp only [o3_40_11, Act.put, q1_, q2_, q3_]
            refine wpAnyH_ready (rs := [1]) (by kernel_rfl) (by simp) ?_
            refine AllReadyH.cons (o := o3_40_1) rfl (fun K hK => ?_) AllReadyH.nil
            unfold o3_40_1; go_simp
            go_wp2_with (first | (go_at_call 21; refine (Queue_calls g B me _ _ _ _ (HPX.out.below K0.out).1.at).mono ?_; rintro e w9 ⟨rfl, rfl⟩; rw [hql]))
            refine hK.out _ _ (Sall.out _ K0.out) (fun hHeld' => ?_)
            clear hK K hHeld
            have hHeld := hHeld'
            clear hHeld'
            try simp only [Act.put, q1_, q2_, q3_]
            refine tq_ (i := 12) (oi := o3_40_12) (v := ?vh2aq12) (Or.inl ⟨by rfl, ?hyh2aq12⟩) hHeld ?resth2aq12
            case hyh2aq12 => (intro w hSw; (try dsimp only at hSw); unfold o3_40_12; go_simp <;> with_reducible rfl)
            try simp only [o3_40_12, Act.put, q1_, q2_, q3_]
            refine wpAnyH_done (by kernel_rfl) ?_ _
            refine NoPanic.normal ?_
            have HPX2 := Aside0.mk (HPX.out.below K0.out)
            clear Sall HPX hHeld
            go_wp2_with fail
            exact ⟨⟨j + 1, told, asks2, done2, ans2, .slice A8 asks2.length c8, vs2, vb2, by omega, by simp, rfl, HPX2, HPL⟩, by simp [intOf]; omega⟩
      · cases hrg : rget (bytesOf s) with
        | none => 
          as_aux_lemma =>
            have hby : ∀ x ∈ (bytesOf s), IsByte x := bytesOf_bytes s
            have hlen : (bytesOf s).length = s.size := bytesOf_length s
            have hr27 := gGet_rget (bytesOf s) hby (by rw [hlen]; have := HSS.out; omega)
            have hgo : gGet (bytesOf s) = none := hr27.trans hrg
            have hro := hrg
            have hhear : hear (gGet (bytesOf s)) ((Qs asks asks.length).drop done) (Rs27 ans told) = ((Qs asks asks.length).drop done, Rs27 ans told) := by
              rw [hgo]
              rw [hear_none]
            have PXb := Aside0.mk (PX1.out.below (str_below (wr.alloc (Obj.cells #[.int .u8 dd, .int .u64 nn, .string s] 36)) 5 s))
            have XAb := Aside0.mk (XA1.out.below (str_below (wr.alloc (Obj.cells #[.int .u8 dd, .int .u64 nn, .string s] 36)) 5 s))
            have HH := Aside0.mk hhear
            have HRO := Aside0.mk hro
            have HBY := Aside0.mk hby
            have HLE := Aside0.mk hlen
            have HHL : Aside0 ((Rs27 ans told).length ≤ 1000) := ⟨by rw [Rs27_length]; have := HPJ.out.ha; have := HPJ.out.hd; have := HPJ.out.hl; have := HJ.out; omega⟩
            have HQL : Aside0 (((Qs asks asks.length).drop done).length ≤ 1000) := ⟨by rw [Qs_qlen]; have := HPJ.out.hl; have := HJ.out; omega⟩
            clear hhear hgo hro hby hlen hr27
            have C3 := Aside0.mk (C_str (wr.alloc (Obj.cells #[.int .u8 dd, .int .u64 nn, .string s] 36)) 5 s (by have := HSS.out; omega))
            have PX3 := PXb
            have XA3 := XAb
            go_wp2_with fail
            obtain ⟨w3, hw3⟩ : ∃ X, (Lib.bytesWorld (wr.alloc (Obj.cells #[.int .u8 dd, .int .u64 nn, .string s] 36)) 5 s) = X := ⟨_, rfl⟩
            rw [hw3, size_alloc] at C3
            rw [hw3] at PX3 XA3 ⊢
            have khe := Aside0.mk (fun c => HearV g B me _ _ _ _ c (bytesOf s) w3 vb _ (fun k hk => PX3.out.fresh k hk) PX3.out.1 C3.out HBY.out (by rw [HLE.out]; have := HSS.out; omega) (Nat.le_trans HQL.out (by decide)) (Nat.le_trans HHL.out (by decide)))
            rw [HLE.out] at khe
            clear PXb XAb hw3
            refine (khe.out _).mono ?_
            rintro e w4 ⟨rfl, ⟨vb4, hG⟩, hK, hb⟩
            rw [HH.out] at hG
            have PX4 : Aside0 (PX w w4 g p B me (asks.length : Int) ((Qs asks asks.length).drop done) (Rs27 ans told) vb4 asks done ans _ _) := ⟨PX3.out.gate hG (KT_hear PX3.out.1 hK) hb⟩
            have XA4 := Aside0.mk (KT_blk (KT_hear PX3.out.1 hK) XA3.out (fun e => by have := PX1.out.1.at.lt; have := HPA.out; omega) (by decide) (by decide))
            have c1 := (XA4.out.cell 1).trans (rfl : _ = some (Value.int .u64 nn))
            have c2 := (XA4.out.cell 2).trans (rfl : _ = some (Value.string s))
            clear hG hK hb C3 PX3 XA3 HH khe
            have PX5 := Aside0.mk (PX4.out.below (str_below w4 5 s))
            have C5 := Aside0.mk (C_str w4 5 s (by have := HSS.out; omega))
            go_wp2_with fail
            obtain ⟨w5, hw5⟩ : ∃ X, Lib.bytesWorld w4 5 s = X := ⟨_, rfl⟩
            rw [hw5] at C5 PX5 ⊢
            have khe := Aside0.mk (fun c (hc : (bytesOf s).length ≤ c) => RHear_none p B me asks done ans _ _ _ c (bytesOf s) w5 PX5.out.2.1 HPJ.out.hd (by have := HPJ.out.hl; have := HJ.out; omega) C5.out hc HBY.out (by rw [HLE.out]; have := HSS.out; omega) HRO.out)
            rw [HLE.out] at khe
            clear c1 c2 XA4 PX4 hw5
            refine (khe.out _ (le_grownCap_ _ _ _)).mono ?_
            rintro e w6 ⟨rfl, hb⟩
            have PX6 := Aside0.mk (PX5.out.below hb)
            clear hb PX5
            go_wp2_with fail
            obtain ⟨asks2, done2, ans2, va2, vs2, vb2, HPX, HPL⟩ : ∃ (asks2 : List ByteArray) (done2 : Nat) (ans2 : List ByteArray) (va2 vs2 vb2 : Value), Aside0 (PX w w6 g p B me (asks2.length : Int) ((Qs asks2 asks2.length).drop done2) (Rs27 ans2 told) vb2 asks2 done2 ans2 va2 vs2) ∧ Aside0 (PL (j + 1) asks2 done2 ans2 told) := ⟨_, _, _, _, _, _, ⟨PX6.out⟩, ⟨HPJ.out.more⟩⟩
            obtain ⟨A8, c8, e8⟩ := Kd.R_slice HPX.out.2.1.2.1
            subst e8
            have ew8 : IntKind.i64.wrap ((asks2.length : Int) - (done2 : Int)) = (asks2.length : Int) - (done2 : Int) := by have := HPL.out.hd; have := HPL.out.hl; have := HJ.out; rw [IntKind.wrap_i64]; omega
            have hql : (((Qs asks2 asks2.length).drop done2).length : Int) = (asks2.length : Int) - (done2 : Int) := by rw [Qs_qlen]; have := HPL.out.hd; omega
            have K0 := Aside0.mk (below_drew (Below.refl w6.heap.size w6))
            have Sall : Aside0 (∀ X : World, Below w6.heap.size w6 X → X.cell? ⟨p, 1, none⟩ = some (.slice A8 asks2.length c8) ∧ X.cell? ⟨p, 2, none⟩ = some (.int .i64 (done2 : Int))) := ⟨fun X hX => ⟨((HPX.out.2.1.1.below hX).cell 1).trans rfl, ((HPX.out.2.1.1.below hX).cell 2).trans rfl⟩⟩
            refine wp_region_noPanic ?_
            refine wp_region_held_drew (S := fun X : World => X.cell? ⟨p, 1, none⟩ = some (.slice A8 asks2.length c8) ∧ X.cell? ⟨p, 2, none⟩ = some (.int .i64 (done2 : Int))) (by kernel_rfl) ?_ (fun hHeld => ?_)
            · exact Sall.out _ K0.out
            refine tq_ (i := 0) (oi := o3_40_0) (v := ?vh3nq0) (Or.inl ⟨by rfl, ?hyh3nq0⟩) hHeld ?resth3nq0
            case hyh3nq0 => (intro w hSw; (try dsimp only at hSw); unfold o3_40_0; go_simp <;> with_reducible rfl)
            try simp only [o3_40_0, Act.put, q1_, q2_, q3_]
            refine tq_ (i := 2) (oi := o3_40_2) (v := ?vh3nq2) (Or.inl ⟨by rfl, ?hyh3nq2⟩) hHeld ?resth3nq2
            case hyh3nq2 => (intro w hSw; (try dsimp only at hSw); unfold o3_40_2; go_simp <;> with_reducible rfl)
            try simp only [o3_40_2, Act.put, q1_, q2_, q3_]
            refine tq_ (i := 3) (oi := o3_40_3) (v := ?vh3nq3) (Or.inl ⟨by rfl, ?hyh3nq3⟩) hHeld ?resth3nq3
            case hyh3nq3 => (intro w hSw; (try dsimp only at hSw); unfold o3_40_3; go_simp <;> with_reducible rfl)
            try simp only [o3_40_3, Act.put, q1_, q2_, q3_]
            refine tq_ (i := 4) (oi := o3_40_4) (v := ?vh3nq4) (Or.inl ⟨by rfl, ?hyh3nq4⟩) hHeld ?resth3nq4
            case hyh3nq4 => (intro w hSw; (try dsimp only at hSw); unfold o3_40_4; go_simp <;> with_reducible rfl)
            try simp only [o3_40_4, Act.put, q1_, q2_, q3_]
            refine tq_ (i := 5) (oi := o3_40_5) (v := ?vh3nq5) (Or.inl ⟨by rfl, ?hyh3nq5⟩) hHeld ?resth3nq5
            case hyh3nq5 => (intro w hSw; (try dsimp only at hSw); unfold o3_40_5; go_simp <;> with_reducible rfl)
            try simp only [o3_40_5, Act.put, q1_, q2_, q3_]
            refine tq_ (i := 6) (oi := o3_40_6) (v := ?vh3nq6) (Or.inl ⟨by rfl, ?hyh3nq6⟩) hHeld ?resth3nq6
            case hyh3nq6 => (intro w hSw; (try dsimp only at hSw); unfold o3_40_6; go_simp <;> with_reducible rfl)
            try simp only [o3_40_6, Act.put, q1_, q2_, q3_]
            refine tq_ (i := 7) (oi := o3_40_7) (v := ?vh3nq7) (Or.inl ⟨by rfl, ?hyh3nq7⟩) hHeld ?resth3nq7
            case hyh3nq7 => (intro w hSw; (try dsimp only at hSw); unfold o3_40_7; go_simp <;> with_reducible rfl)
            try simp only [o3_40_7, Act.put, q1_, q2_, q3_]
            refine tq_ (i := 8) (oi := o3_40_8) (v := ?vh3nq8) (Or.inl ⟨by rfl, ?hyh3nq8⟩) hHeld ?resth3nq8
            case hyh3nq8 => (intro w hSw; (try dsimp only at hSw); unfold o3_40_8; go_simp <;> with_reducible rfl)
            try simp only [o3_40_8, Act.put, q1_, q2_, q3_]
            refine tq_ (i := 9) (oi := o3_40_9) (v := ?vh3nq9) (Or.inl ⟨by rfl, ?hyh3nq9⟩) hHeld ?resth3nq9
            case hyh3nq9 => (intro w hSw; (try dsimp only at hSw); unfold o3_40_9; go_simp <;> with_reducible rfl)
            try simp only [o3_40_9, Act.put, q1_, q2_, q3_]
            refine tq_ (i := 10) (oi := o3_40_10) (v := ?vh3nq10) (Or.inl ⟨by rfl, ?hyh3nq10⟩) hHeld ?resth3nq10
            case hyh3nq10 => (intro w hSw; (try dsimp only at hSw); unfold o3_40_10; go_simp <;> with_reducible rfl)
            try simp only [o3_40_10, Act.put, q1_, q2_, q3_]
            refine tq_ (i := 11) (oi := o3_40_11) (v := ?vh3nq11) (Or.inl ⟨by rfl, ?hyh3nq11⟩) hHeld ?resth3nq11
            case hyh3nq11 => (intro w hSw; (try dsimp only at hSw); unfold o3_40_11; go_simp <;> with_reducible rfl)
            try simp only [o3_40_11, Act.put, q1_, q2_, q3_]
            refine wpAnyH_ready (rs := [1]) (by kernel_rfl) (by simp) ?_
            refine AllReadyH.cons (o := o3_40_1) rfl (fun K hK => ?_) AllReadyH.nil
            unfold o3_40_1; go_simp
            go_wp2_with (first | (go_at_call 21; refine (Queue_calls g B me _ _ _ _ (HPX.out.below K0.out).1.at).mono ?_; rintro e w9 ⟨rfl, rfl⟩; rw [hql]))
            refine hK.out _ _ (Sall.out _ K0.out) (fun hHeld' => ?_)
            clear hK K hHeld
            have hHeld := hHeld'
            clear hHeld'
            try simp only [Act.put, q1_, q2_, q3_]
            refine tq_ (i := 12) (oi := o3_40_12) (v := ?vh3nq12) (Or.inl ⟨by rfl, ?hyh3nq12⟩) hHeld ?resth3nq12
            case hyh3nq12 => (intro w hSw; (try dsimp only at hSw); unfold o3_40_12; go_simp <;> with_reducible rfl)
            try simp only [o3_40_12, Act.put, q1_, q2_, q3_]
            refine wpAnyH_done (by kernel_rfl) ?_ _
            refine NoPanic.normal ?_
            have HPX2 := Aside0.mk (HPX.out.below K0.out)
            clear Sall HPX hHeld
            go_wp2_with fail
            exact ⟨⟨j + 1, told, asks2, done2, ans2, .slice A8 asks2.length c8, vs2, vb2, by omega, by simp, rfl, HPX2, HPL⟩, by simp [intOf]; omega⟩
        | some q =>
          have HQB : Aside0 (∀ x ∈ q.2, IsByte x) := ⟨rget_bytes hrg (bytesOf_bytes s)⟩
          by_cases hopen : done < asks.length
          · by_cases heq : q.1 = (done : Int) + 1
            · as_aux_lemma =>
                have HEQ := Aside0.mk heq
                clear heq
                have hby : ∀ x ∈ (bytesOf s), IsByte x := bytesOf_bytes s
                have hlen : (bytesOf s).length = s.size := bytesOf_length s
                have hr27 := gGet_rget (bytesOf s) hby (by rw [hlen]; have := HSS.out; omega)
                have hgo : gGet (bytesOf s) = some q := hr27.trans hrg
                have hro := hrg
                have hhear : hear (gGet (bytesOf s)) ((Qs asks asks.length).drop done) (Rs27 ans told) = ((Qs asks asks.length).drop (done + 1), Rs27 ans told ++ [q]) := by
                  rw [hgo]
                  rw [Qs_drop asks asks.length done hopen, hear_take _ _ _ _ (by have h0 := HEQ.out; first | omega | (dsimp only at h0 ⊢; omega) | (dsimp only at h0; omega) | (dsimp only; omega))]
                have PXb := Aside0.mk (PX1.out.below (str_below (wr.alloc (Obj.cells #[.int .u8 dd, .int .u64 nn, .string s] 36)) 5 s))
                have XAb := Aside0.mk (XA1.out.below (str_below (wr.alloc (Obj.cells #[.int .u8 dd, .int .u64 nn, .string s] 36)) 5 s))
                have HH := Aside0.mk hhear
                have HRO := Aside0.mk hro
                have HBY := Aside0.mk hby
                have HLE := Aside0.mk hlen
                have HHL : Aside0 ((Rs27 ans told).length ≤ 1000) := ⟨by rw [Rs27_length]; have := HPJ.out.ha; have := HPJ.out.hd; have := HPJ.out.hl; have := HJ.out; omega⟩
                have HQL : Aside0 (((Qs asks asks.length).drop done).length ≤ 1000) := ⟨by rw [Qs_qlen]; have := HPJ.out.hl; have := HJ.out; omega⟩
                clear hhear hgo hro hby hlen hr27
                have C3 := Aside0.mk (C_str (wr.alloc (Obj.cells #[.int .u8 dd, .int .u64 nn, .string s] 36)) 5 s (by have := HSS.out; omega))
                have PX3 := PXb
                have XA3 := XAb
                go_wp2_with fail
                obtain ⟨w3, hw3⟩ : ∃ X, (Lib.bytesWorld (wr.alloc (Obj.cells #[.int .u8 dd, .int .u64 nn, .string s] 36)) 5 s) = X := ⟨_, rfl⟩
                rw [hw3, size_alloc] at C3
                rw [hw3] at PX3 XA3 ⊢
                have khe := Aside0.mk (fun c => HearV g B me _ _ _ _ c (bytesOf s) w3 vb _ (fun k hk => PX3.out.fresh k hk) PX3.out.1 C3.out HBY.out (by rw [HLE.out]; have := HSS.out; omega) (Nat.le_trans HQL.out (by decide)) (Nat.le_trans HHL.out (by decide)))
                rw [HLE.out] at khe
                clear PXb XAb hw3
                refine (khe.out _).mono ?_
                rintro e w4 ⟨rfl, ⟨vb4, hG⟩, hK, hb⟩
                rw [HH.out] at hG
                have PX4 : Aside0 (PX w w4 g p B me (asks.length : Int) ((Qs asks asks.length).drop (done + 1)) (Rs27 ans told ++ [q]) vb4 asks done ans _ _) := ⟨PX3.out.gate hG (KT_hear PX3.out.1 hK) hb⟩
                have XA4 := Aside0.mk (KT_blk (KT_hear PX3.out.1 hK) XA3.out (fun e => by have := PX1.out.1.at.lt; have := HPA.out; omega) (by decide) (by decide))
                have c1 := (XA4.out.cell 1).trans (rfl : _ = some (Value.int .u64 nn))
                have c2 := (XA4.out.cell 2).trans (rfl : _ = some (Value.string s))
                clear hG hK hb C3 PX3 XA3 HH khe
                have PX5 := Aside0.mk (PX4.out.below (str_below w4 5 s))
                have C5 := Aside0.mk (C_str w4 5 s (by have := HSS.out; omega))
                go_wp2_with fail
                obtain ⟨w5, hw5⟩ : ∃ X, Lib.bytesWorld w4 5 s = X := ⟨_, rfl⟩
                rw [hw5] at C5 PX5 ⊢
                have khe := Aside0.mk (fun c (hc : (bytesOf s).length ≤ c) => RHear_take p B me asks done ans _ _ _ c (bytesOf s) w5 PX5.out.2.1 HPJ.out.hd (by have := HPJ.out.hl; have := HJ.out; omega) C5.out hc HBY.out (by rw [HLE.out]; have := HSS.out; omega) q HRO.out hopen (by have h0 := HEQ.out; first | omega | (dsimp only at h0 ⊢; omega) | (dsimp only at h0; omega) | (dsimp only; omega)) (by have := HPJ.out.ha; have := HPJ.out.hd; have := HPJ.out.hl; have := HJ.out; omega))
                rw [HLE.out] at khe
                clear c1 c2 XA4 PX4 hw5
                refine (khe.out _ (le_grownCap_ _ _ _)).mono ?_
                rintro e w6 ⟨rfl, ⟨vs6, hR, hat⟩, hK, hb⟩
                have PX6 := Aside0.mk (PX5.out.ref hR hK (.inr rfl) (.inl rfl) hat hb)
                have PX6' : Aside0 (PX w w6 g p B me (asks.length : Int) ((Qs asks asks.length).drop (done + 1)) (Rs27 (ans ++ [strOfNums (q.2)]) told) vb4 asks (done + 1) (ans ++ [strOfNums (q.2)]) _ vs6) := ⟨by
                  have h := PX6.out
                  rw [Rs27_more ans told _ (by rw [HPJ.out.ha]; exact HPJ.out.ht), bytesOf_str _ (HQB.out), HPJ.out.ha, ← HEQ.out]
                  exact h⟩
                clear hR hK hb hat PX6 PX5
                go_wp2_with fail
                obtain ⟨asks2, done2, ans2, va2, vs2, vb2, HPX, HPL⟩ : ∃ (asks2 : List ByteArray) (done2 : Nat) (ans2 : List ByteArray) (va2 vs2 vb2 : Value), Aside0 (PX w w6 g p B me (asks2.length : Int) ((Qs asks2 asks2.length).drop done2) (Rs27 ans2 told) vb2 asks2 done2 ans2 va2 vs2) ∧ Aside0 (PL (j + 1) asks2 done2 ans2 told) := ⟨_, _, _, _, _, _, ⟨PX6'.out⟩, ⟨HPJ.out.take hopen _⟩⟩
                obtain ⟨A8, c8, e8⟩ := Kd.R_slice HPX.out.2.1.2.1
                subst e8
                have ew8 : IntKind.i64.wrap ((asks2.length : Int) - (done2 : Int)) = (asks2.length : Int) - (done2 : Int) := by have := HPL.out.hd; have := HPL.out.hl; have := HJ.out; rw [IntKind.wrap_i64]; omega
                have hql : (((Qs asks2 asks2.length).drop done2).length : Int) = (asks2.length : Int) - (done2 : Int) := by rw [Qs_qlen]; have := HPL.out.hd; omega
                have K0 := Aside0.mk (below_drew (Below.refl w6.heap.size w6))
                have Sall : Aside0 (∀ X : World, Below w6.heap.size w6 X → X.cell? ⟨p, 1, none⟩ = some (.slice A8 asks2.length c8) ∧ X.cell? ⟨p, 2, none⟩ = some (.int .i64 (done2 : Int))) := ⟨fun X hX => ⟨((HPX.out.2.1.1.below hX).cell 1).trans rfl, ((HPX.out.2.1.1.below hX).cell 2).trans rfl⟩⟩
                refine wp_region_noPanic ?_
                refine wp_region_held_drew (S := fun X : World => X.cell? ⟨p, 1, none⟩ = some (.slice A8 asks2.length c8) ∧ X.cell? ⟨p, 2, none⟩ = some (.int .i64 (done2 : Int))) (by kernel_rfl) ?_ (fun hHeld => ?_)
                · exact Sall.out _ K0.out
                refine tq_ (i := 0) (oi := o3_40_0) (v := ?vh3tq0) (Or.inl ⟨by rfl, ?hyh3tq0⟩) hHeld ?resth3tq0
                case hyh3tq0 => (intro w hSw; (try dsimp only at hSw); unfold o3_40_0; go_simp <;> with_reducible rfl)
                try simp only [o3_40_0, Act.put, q1_, q2_, q3_]
                refine tq_ (i := 2) (oi := o3_40_2) (v := ?vh3tq2) (Or.inl ⟨by rfl, ?hyh3tq2⟩) hHeld ?resth3tq2
                case hyh3tq2 => (intro w hSw; (try dsimp only at hSw); unfold o3_40_2; go_simp <;> with_reducible rfl)
                try simp only [o3_40_2, Act.put, q1_, q2_, q3_]
                refine tq_ (i := 3) (oi := o3_40_3) (v := ?vh3tq3) (Or.inl ⟨by rfl, ?hyh3tq3⟩) hHeld ?resth3tq3
                case hyh3tq3 => (intro w hSw; (try dsimp only at hSw); unfold o3_40_3; go_simp <;> with_reducible rfl)
                try simp only [o3_40_3, Act.put, q1_, q2_, q3_]
                refine tq_ (i := 4) (oi := o3_40_4) (v := ?vh3tq4) (Or.inl ⟨by rfl, ?hyh3tq4⟩) hHeld ?resth3tq4
                case hyh3tq4 => (intro w hSw; (try dsimp only at hSw); unfold o3_40_4; go_simp <;> with_reducible rfl)
                try simp only [o3_40_4, Act.put, q1_, q2_, q3_]
                refine tq_ (i := 5) (oi := o3_40_5) (v := ?vh3tq5) (Or.inl ⟨by rfl, ?hyh3tq5⟩) hHeld ?resth3tq5
                case hyh3tq5 => (intro w hSw; (try dsimp only at hSw); unfold o3_40_5; go_simp <;> with_reducible rfl)
                try simp only [o3_40_5, Act.put, q1_, q2_, q3_]
                refine tq_ (i := 6) (oi := o3_40_6) (v := ?vh3tq6) (Or.inl ⟨by rfl, ?hyh3tq6⟩) hHeld ?resth3tq6
                case hyh3tq6 => (intro w hSw; (try dsimp only at hSw); unfold o3_40_6; go_simp <;> with_reducible rfl)
                try simp only [o3_40_6, Act.put, q1_, q2_, q3_]
                refine tq_ (i := 7) (oi := o3_40_7) (v := ?vh3tq7) (Or.inl ⟨by rfl, ?hyh3tq7⟩) hHeld ?resth3tq7
                case hyh3tq7 => (intro w hSw; (try dsimp only at hSw); unfold o3_40_7; go_simp <;> with_reducible rfl)
                try simp only [o3_40_7, Act.put, q1_, q2_, q3_]
                refine tq_ (i := 8) (oi := o3_40_8) (v := ?vh3tq8) (Or.inl ⟨by rfl, ?hyh3tq8⟩) hHeld ?resth3tq8
                case hyh3tq8 => (intro w hSw; (try dsimp only at hSw); unfold o3_40_8; go_simp <;> with_reducible rfl)
                try simp only [o3_40_8, Act.put, q1_, q2_, q3_]
                refine tq_ (i := 9) (oi := o3_40_9) (v := ?vh3tq9) (Or.inl ⟨by rfl, ?hyh3tq9⟩) hHeld ?resth3tq9
                case hyh3tq9 => (intro w hSw; (try dsimp only at hSw); unfold o3_40_9; go_simp <;> with_reducible rfl)
                try simp only [o3_40_9, Act.put, q1_, q2_, q3_]
                refine tq_ (i := 10) (oi := o3_40_10) (v := ?vh3tq10) (Or.inl ⟨by rfl, ?hyh3tq10⟩) hHeld ?resth3tq10
                case hyh3tq10 => (intro w hSw; (try dsimp only at hSw); unfold o3_40_10; go_simp <;> with_reducible rfl)
                try simp only [o3_40_10, Act.put, q1_, q2_, q3_]
                refine tq_ (i := 11) (oi := o3_40_11) (v := ?vh3tq11) (Or.inl ⟨by rfl, ?hyh3tq11⟩) hHeld ?resth3tq11
                case hyh3tq11 => (intro w hSw; (try dsimp only at hSw); unfold o3_40_11; go_simp <;> with_reducible rfl)
                try simp only [o3_40_11, Act.put, q1_, q2_, q3_]
                refine wpAnyH_ready (rs := [1]) (by kernel_rfl) (by simp) ?_
                refine AllReadyH.cons (o := o3_40_1) rfl (fun K hK => ?_) AllReadyH.nil
                unfold o3_40_1; go_simp
                go_wp2_with (first | (go_at_call 21; refine (Queue_calls g B me _ _ _ _ (HPX.out.below K0.out).1.at).mono ?_; rintro e w9 ⟨rfl, rfl⟩; rw [hql]))
                refine hK.out _ _ (Sall.out _ K0.out) (fun hHeld' => ?_)
                clear hK K hHeld
                have hHeld := hHeld'
                clear hHeld'
                try simp only [Act.put, q1_, q2_, q3_]
                refine tq_ (i := 12) (oi := o3_40_12) (v := ?vh3tq12) (Or.inl ⟨by rfl, ?hyh3tq12⟩) hHeld ?resth3tq12
                case hyh3tq12 => (intro w hSw; (try dsimp only at hSw); unfold o3_40_12; go_simp <;> with_reducible rfl)
                try simp only [o3_40_12, Act.put, q1_, q2_, q3_]
                refine wpAnyH_done (by kernel_rfl) ?_ _
                refine NoPanic.normal ?_
                have HPX2 := Aside0.mk (HPX.out.below K0.out)
                clear Sall HPX hHeld
                go_wp2_with fail
                exact ⟨⟨j + 1, told, asks2, done2, ans2, .slice A8 asks2.length c8, vs2, vb2, by omega, by simp, rfl, HPX2, HPL⟩, by simp [intOf]; omega⟩
            · have hne : ¬ q.1 = (done : Int) + 1 := heq
              as_aux_lemma =>
                have HNE := Aside0.mk hne
                clear hne
                have hby : ∀ x ∈ (bytesOf s), IsByte x := bytesOf_bytes s
                have hlen : (bytesOf s).length = s.size := bytesOf_length s
                have hr27 := gGet_rget (bytesOf s) hby (by rw [hlen]; have := HSS.out; omega)
                have hgo : gGet (bytesOf s) = some q := hr27.trans hrg
                have hro := hrg
                have hhear : hear (gGet (bytesOf s)) ((Qs asks asks.length).drop done) (Rs27 ans told) = ((Qs asks asks.length).drop done, Rs27 ans told) := by
                  rw [hgo]
                  rw [Qs_drop asks asks.length done hopen, hear_other _ _ _ _ (by have h0 := HNE.out; first | omega | (dsimp only at h0 ⊢; omega) | (dsimp only at h0; omega) | (dsimp only; omega))]
                have PXb := Aside0.mk (PX1.out.below (str_below (wr.alloc (Obj.cells #[.int .u8 dd, .int .u64 nn, .string s] 36)) 5 s))
                have XAb := Aside0.mk (XA1.out.below (str_below (wr.alloc (Obj.cells #[.int .u8 dd, .int .u64 nn, .string s] 36)) 5 s))
                have HH := Aside0.mk hhear
                have HRO := Aside0.mk hro
                have HBY := Aside0.mk hby
                have HLE := Aside0.mk hlen
                have HHL : Aside0 ((Rs27 ans told).length ≤ 1000) := ⟨by rw [Rs27_length]; have := HPJ.out.ha; have := HPJ.out.hd; have := HPJ.out.hl; have := HJ.out; omega⟩
                have HQL : Aside0 (((Qs asks asks.length).drop done).length ≤ 1000) := ⟨by rw [Qs_qlen]; have := HPJ.out.hl; have := HJ.out; omega⟩
                clear hhear hgo hro hby hlen hr27
                have C3 := Aside0.mk (C_str (wr.alloc (Obj.cells #[.int .u8 dd, .int .u64 nn, .string s] 36)) 5 s (by have := HSS.out; omega))
                have PX3 := PXb
                have XA3 := XAb
                go_wp2_with fail
                obtain ⟨w3, hw3⟩ : ∃ X, (Lib.bytesWorld (wr.alloc (Obj.cells #[.int .u8 dd, .int .u64 nn, .string s] 36)) 5 s) = X := ⟨_, rfl⟩
                rw [hw3, size_alloc] at C3
                rw [hw3] at PX3 XA3 ⊢
                have khe := Aside0.mk (fun c => HearV g B me _ _ _ _ c (bytesOf s) w3 vb _ (fun k hk => PX3.out.fresh k hk) PX3.out.1 C3.out HBY.out (by rw [HLE.out]; have := HSS.out; omega) (Nat.le_trans HQL.out (by decide)) (Nat.le_trans HHL.out (by decide)))
                rw [HLE.out] at khe
                clear PXb XAb hw3
                refine (khe.out _).mono ?_
                rintro e w4 ⟨rfl, ⟨vb4, hG⟩, hK, hb⟩
                rw [HH.out] at hG
                have PX4 : Aside0 (PX w w4 g p B me (asks.length : Int) ((Qs asks asks.length).drop done) (Rs27 ans told) vb4 asks done ans _ _) := ⟨PX3.out.gate hG (KT_hear PX3.out.1 hK) hb⟩
                have XA4 := Aside0.mk (KT_blk (KT_hear PX3.out.1 hK) XA3.out (fun e => by have := PX1.out.1.at.lt; have := HPA.out; omega) (by decide) (by decide))
                have c1 := (XA4.out.cell 1).trans (rfl : _ = some (Value.int .u64 nn))
                have c2 := (XA4.out.cell 2).trans (rfl : _ = some (Value.string s))
                clear hG hK hb C3 PX3 XA3 HH khe
                have PX5 := Aside0.mk (PX4.out.below (str_below w4 5 s))
                have C5 := Aside0.mk (C_str w4 5 s (by have := HSS.out; omega))
                go_wp2_with fail
                obtain ⟨w5, hw5⟩ : ∃ X, Lib.bytesWorld w4 5 s = X := ⟨_, rfl⟩
                rw [hw5] at C5 PX5 ⊢
                have khe := Aside0.mk (fun c (hc : (bytesOf s).length ≤ c) => RHear_other p B me asks done ans _ _ _ c (bytesOf s) w5 PX5.out.2.1 HPJ.out.hd (by have := HPJ.out.hl; have := HJ.out; omega) C5.out hc HBY.out (by rw [HLE.out]; have := HSS.out; omega) q HRO.out hopen (by have h0 := HNE.out; first | omega | (dsimp only at h0 ⊢; omega) | (dsimp only at h0; omega) | (dsimp only; omega)))
                rw [HLE.out] at khe
                clear c1 c2 XA4 PX4 hw5
                refine (khe.out _ (le_grownCap_ _ _ _)).mono ?_
                rintro e w6 ⟨rfl, hb⟩
                have PX6 := Aside0.mk (PX5.out.below hb)
                clear hb PX5
                go_wp2_with fail
                obtain ⟨asks2, done2, ans2, va2, vs2, vb2, HPX, HPL⟩ : ∃ (asks2 : List ByteArray) (done2 : Nat) (ans2 : List ByteArray) (va2 vs2 vb2 : Value), Aside0 (PX w w6 g p B me (asks2.length : Int) ((Qs asks2 asks2.length).drop done2) (Rs27 ans2 told) vb2 asks2 done2 ans2 va2 vs2) ∧ Aside0 (PL (j + 1) asks2 done2 ans2 told) := ⟨_, _, _, _, _, _, ⟨PX6.out⟩, ⟨HPJ.out.more⟩⟩
                obtain ⟨A8, c8, e8⟩ := Kd.R_slice HPX.out.2.1.2.1
                subst e8
                have ew8 : IntKind.i64.wrap ((asks2.length : Int) - (done2 : Int)) = (asks2.length : Int) - (done2 : Int) := by have := HPL.out.hd; have := HPL.out.hl; have := HJ.out; rw [IntKind.wrap_i64]; omega
                have hql : (((Qs asks2 asks2.length).drop done2).length : Int) = (asks2.length : Int) - (done2 : Int) := by rw [Qs_qlen]; have := HPL.out.hd; omega
                have K0 := Aside0.mk (below_drew (Below.refl w6.heap.size w6))
                have Sall : Aside0 (∀ X : World, Below w6.heap.size w6 X → X.cell? ⟨p, 1, none⟩ = some (.slice A8 asks2.length c8) ∧ X.cell? ⟨p, 2, none⟩ = some (.int .i64 (done2 : Int))) := ⟨fun X hX => ⟨((HPX.out.2.1.1.below hX).cell 1).trans rfl, ((HPX.out.2.1.1.below hX).cell 2).trans rfl⟩⟩
                refine wp_region_noPanic ?_
                refine wp_region_held_drew (S := fun X : World => X.cell? ⟨p, 1, none⟩ = some (.slice A8 asks2.length c8) ∧ X.cell? ⟨p, 2, none⟩ = some (.int .i64 (done2 : Int))) (by kernel_rfl) ?_ (fun hHeld => ?_)
                · exact Sall.out _ K0.out
                refine tq_ (i := 0) (oi := o3_40_0) (v := ?vh3oq0) (Or.inl ⟨by rfl, ?hyh3oq0⟩) hHeld ?resth3oq0
                case hyh3oq0 => (intro w hSw; (try dsimp only at hSw); unfold o3_40_0; go_simp <;> with_reducible rfl)
                try simp only [o3_40_0, Act.put, q1_, q2_, q3_]
                refine tq_ (i := 2) (oi := o3_40_2) (v := ?vh3oq2) (Or.inl ⟨by rfl, ?hyh3oq2⟩) hHeld ?resth3oq2
                case hyh3oq2 => (intro w hSw; (try dsimp only at hSw); unfold o3_40_2; go_simp <;> with_reducible rfl)
                try simp only [o3_40_2, Act.put, q1_, q2_, q3_]
                refine tq_ (i := 3) (oi := o3_40_3) (v := ?vh3oq3) (Or.inl ⟨by rfl, ?hyh3oq3⟩) hHeld ?resth3oq3
                case hyh3oq3 => (intro w hSw; (try dsimp only at hSw); unfold o3_40_3; go_simp <;> with_reducible rfl)
                try simp only [o3_40_3, Act.put, q1_, q2_, q3_]
                refine tq_ (i := 4) (oi := o3_40_4) (v := ?vh3oq4) (Or.inl ⟨by rfl, ?hyh3oq4⟩) hHeld ?resth3oq4
                case hyh3oq4 => (intro w hSw; (try dsimp only at hSw); unfold o3_40_4; go_simp <;> with_reducible rfl)
                try simp only [o3_40_4, Act.put, q1_, q2_, q3_]
                refine tq_ (i := 5) (oi := o3_40_5) (v := ?vh3oq5) (Or.inl ⟨by rfl, ?hyh3oq5⟩) hHeld ?resth3oq5
                case hyh3oq5 => (intro w hSw; (try dsimp only at hSw); unfold o3_40_5; go_simp <;> with_reducible rfl)
                try simp only [o3_40_5, Act.put, q1_, q2_, q3_]
                refine tq_ (i := 6) (oi := o3_40_6) (v := ?vh3oq6) (Or.inl ⟨by rfl, ?hyh3oq6⟩) hHeld ?resth3oq6
                case hyh3oq6 => (intro w hSw; (try dsimp only at hSw); unfold o3_40_6; go_simp <;> with_reducible rfl)
                try simp only [o3_40_6, Act.put, q1_, q2_, q3_]
                refine tq_ (i := 7) (oi := o3_40_7) (v := ?vh3oq7) (Or.inl ⟨by rfl, ?hyh3oq7⟩) hHeld ?resth3oq7
                case hyh3oq7 => (intro w hSw; (try dsimp only at hSw); unfold o3_40_7; go_simp <;> with_reducible rfl)
                try simp only [o3_40_7, Act.put, q1_, q2_, q3_]
                refine tq_ (i := 8) (oi := o3_40_8) (v := ?vh3oq8) (Or.inl ⟨by rfl, ?hyh3oq8⟩) hHeld ?resth3oq8
                case hyh3oq8 => (intro w hSw; (try dsimp only at hSw); unfold o3_40_8; go_simp <;> with_reducible rfl)
                try simp only [o3_40_8, Act.put, q1_, q2_, q3_]
                refine tq_ (i := 9) (oi := o3_40_9) (v := ?vh3oq9) (Or.inl ⟨by rfl, ?hyh3oq9⟩) hHeld ?resth3oq9
                case hyh3oq9 => (intro w hSw; (try dsimp only at hSw); unfold o3_40_9; go_simp <;> with_reducible rfl)
                try simp only [o3_40_9, Act.put, q1_, q2_, q3_]
                refine tq_ (i := 10) (oi := o3_40_10) (v := ?vh3oq10) (Or.inl ⟨by rfl, ?hyh3oq10⟩) hHeld ?resth3oq10
                case hyh3oq10 => (intro w hSw; (try dsimp only at hSw); unfold o3_40_10; go_simp <;> with_reducible rfl)
                try simp only [o3_40_10, Act.put, q1_, q2_, q3_]
                refine tq_ (i := 11) (oi := o3_40_11) (v := ?vh3oq11) (Or.inl ⟨by rfl, ?hyh3oq11⟩) hHeld ?resth3oq11
                case hyh3oq11 => (intro w hSw; (try dsimp only at hSw); unfold o3_40_11; go_simp <;> with_reducible rfl)
                try simp only [o3_40_11, Act.put, q1_, q2_, q3_]
                refine wpAnyH_ready (rs := [1]) (by kernel_rfl) (by simp) ?_
                refine AllReadyH.cons (o := o3_40_1) rfl (fun K hK => ?_) AllReadyH.nil
                unfold o3_40_1; go_simp
                go_wp2_with (first | (go_at_call 21; refine (Queue_calls g B me _ _ _ _ (HPX.out.below K0.out).1.at).mono ?_; rintro e w9 ⟨rfl, rfl⟩; rw [hql]))
                refine hK.out _ _ (Sall.out _ K0.out) (fun hHeld' => ?_)
                clear hK K hHeld
                have hHeld := hHeld'
                clear hHeld'
                try simp only [Act.put, q1_, q2_, q3_]
                refine tq_ (i := 12) (oi := o3_40_12) (v := ?vh3oq12) (Or.inl ⟨by rfl, ?hyh3oq12⟩) hHeld ?resth3oq12
                case hyh3oq12 => (intro w hSw; (try dsimp only at hSw); unfold o3_40_12; go_simp <;> with_reducible rfl)
                try simp only [o3_40_12, Act.put, q1_, q2_, q3_]
                refine wpAnyH_done (by kernel_rfl) ?_ _
                refine NoPanic.normal ?_
                have HPX2 := Aside0.mk (HPX.out.below K0.out)
                clear Sall HPX hHeld
                go_wp2_with fail
                exact ⟨⟨j + 1, told, asks2, done2, ans2, .slice A8 asks2.length c8, vs2, vb2, by omega, by simp, rfl, HPX2, HPL⟩, by simp [intOf]; omega⟩
          · as_aux_lemma =>
              have hby : ∀ x ∈ (bytesOf s), IsByte x := bytesOf_bytes s
              have hlen : (bytesOf s).length = s.size := bytesOf_length s
              have hr27 := gGet_rget (bytesOf s) hby (by rw [hlen]; have := HSS.out; omega)
              have hgo : gGet (bytesOf s) = some q := hr27.trans hrg
              have hro := hrg
              have hhear : hear (gGet (bytesOf s)) ((Qs asks asks.length).drop done) (Rs27 ans told) = ((Qs asks asks.length).drop done, Rs27 ans told) := by
                rw [hgo]
                rw [show (Qs asks asks.length).drop done = [] from List.drop_eq_nil_iff.2 (by rw [Qs_length]; have := HPJ.out.hd; omega), hear_empty]
              have PXb := Aside0.mk (PX1.out.below (str_below (wr.alloc (Obj.cells #[.int .u8 dd, .int .u64 nn, .string s] 36)) 5 s))
              have XAb := Aside0.mk (XA1.out.below (str_below (wr.alloc (Obj.cells #[.int .u8 dd, .int .u64 nn, .string s] 36)) 5 s))
              have HH := Aside0.mk hhear
              have HRO := Aside0.mk hro
              have HBY := Aside0.mk hby
              have HLE := Aside0.mk hlen
              have HHL : Aside0 ((Rs27 ans told).length ≤ 1000) := ⟨by rw [Rs27_length]; have := HPJ.out.ha; have := HPJ.out.hd; have := HPJ.out.hl; have := HJ.out; omega⟩
              have HQL : Aside0 (((Qs asks asks.length).drop done).length ≤ 1000) := ⟨by rw [Qs_qlen]; have := HPJ.out.hl; have := HJ.out; omega⟩
              clear hhear hgo hro hby hlen hr27
              have C3 := Aside0.mk (C_str (wr.alloc (Obj.cells #[.int .u8 dd, .int .u64 nn, .string s] 36)) 5 s (by have := HSS.out; omega))
              have PX3 := PXb
              have XA3 := XAb
              go_wp2_with fail
              obtain ⟨w3, hw3⟩ : ∃ X, (Lib.bytesWorld (wr.alloc (Obj.cells #[.int .u8 dd, .int .u64 nn, .string s] 36)) 5 s) = X := ⟨_, rfl⟩
              rw [hw3, size_alloc] at C3
              rw [hw3] at PX3 XA3 ⊢
              have khe := Aside0.mk (fun c => HearV g B me _ _ _ _ c (bytesOf s) w3 vb _ (fun k hk => PX3.out.fresh k hk) PX3.out.1 C3.out HBY.out (by rw [HLE.out]; have := HSS.out; omega) (Nat.le_trans HQL.out (by decide)) (Nat.le_trans HHL.out (by decide)))
              rw [HLE.out] at khe
              clear PXb XAb hw3
              refine (khe.out _).mono ?_
              rintro e w4 ⟨rfl, ⟨vb4, hG⟩, hK, hb⟩
              rw [HH.out] at hG
              have PX4 : Aside0 (PX w w4 g p B me (asks.length : Int) ((Qs asks asks.length).drop done) (Rs27 ans told) vb4 asks done ans _ _) := ⟨PX3.out.gate hG (KT_hear PX3.out.1 hK) hb⟩
              have XA4 := Aside0.mk (KT_blk (KT_hear PX3.out.1 hK) XA3.out (fun e => by have := PX1.out.1.at.lt; have := HPA.out; omega) (by decide) (by decide))
              have c1 := (XA4.out.cell 1).trans (rfl : _ = some (Value.int .u64 nn))
              have c2 := (XA4.out.cell 2).trans (rfl : _ = some (Value.string s))
              clear hG hK hb C3 PX3 XA3 HH khe
              have PX5 := Aside0.mk (PX4.out.below (str_below w4 5 s))
              have C5 := Aside0.mk (C_str w4 5 s (by have := HSS.out; omega))
              go_wp2_with fail
              obtain ⟨w5, hw5⟩ : ∃ X, Lib.bytesWorld w4 5 s = X := ⟨_, rfl⟩
              rw [hw5] at C5 PX5 ⊢
              have khe := Aside0.mk (fun c (hc : (bytesOf s).length ≤ c) => RHear_all p B me asks done ans _ _ _ c (bytesOf s) w5 PX5.out.2.1 HPJ.out.hd (by have := HPJ.out.hl; have := HJ.out; omega) C5.out hc HBY.out (by rw [HLE.out]; have := HSS.out; omega) q HRO.out (by have := HPJ.out.hd; omega))
              rw [HLE.out] at khe
              clear c1 c2 XA4 PX4 hw5
              refine (khe.out _ (le_grownCap_ _ _ _)).mono ?_
              rintro e w6 ⟨rfl, hb⟩
              have PX6 := Aside0.mk (PX5.out.below hb)
              clear hb PX5
              go_wp2_with fail
              obtain ⟨asks2, done2, ans2, va2, vs2, vb2, HPX, HPL⟩ : ∃ (asks2 : List ByteArray) (done2 : Nat) (ans2 : List ByteArray) (va2 vs2 vb2 : Value), Aside0 (PX w w6 g p B me (asks2.length : Int) ((Qs asks2 asks2.length).drop done2) (Rs27 ans2 told) vb2 asks2 done2 ans2 va2 vs2) ∧ Aside0 (PL (j + 1) asks2 done2 ans2 told) := ⟨_, _, _, _, _, _, ⟨PX6.out⟩, ⟨HPJ.out.more⟩⟩
              obtain ⟨A8, c8, e8⟩ := Kd.R_slice HPX.out.2.1.2.1
              subst e8
              have ew8 : IntKind.i64.wrap ((asks2.length : Int) - (done2 : Int)) = (asks2.length : Int) - (done2 : Int) := by have := HPL.out.hd; have := HPL.out.hl; have := HJ.out; rw [IntKind.wrap_i64]; omega
              have hql : (((Qs asks2 asks2.length).drop done2).length : Int) = (asks2.length : Int) - (done2 : Int) := by rw [Qs_qlen]; have := HPL.out.hd; omega
              have K0 := Aside0.mk (below_drew (Below.refl w6.heap.size w6))
              have Sall : Aside0 (∀ X : World, Below w6.heap.size w6 X → X.cell? ⟨p, 1, none⟩ = some (.slice A8 asks2.length c8) ∧ X.cell? ⟨p, 2, none⟩ = some (.int .i64 (done2 : Int))) := ⟨fun X hX => ⟨((HPX.out.2.1.1.below hX).cell 1).trans rfl, ((HPX.out.2.1.1.below hX).cell 2).trans rfl⟩⟩
              refine wp_region_noPanic ?_
              refine wp_region_held_drew (S := fun X : World => X.cell? ⟨p, 1, none⟩ = some (.slice A8 asks2.length c8) ∧ X.cell? ⟨p, 2, none⟩ = some (.int .i64 (done2 : Int))) (by kernel_rfl) ?_ (fun hHeld => ?_)
              · exact Sall.out _ K0.out
              refine tq_ (i := 0) (oi := o3_40_0) (v := ?vh3aq0) (Or.inl ⟨by rfl, ?hyh3aq0⟩) hHeld ?resth3aq0
              case hyh3aq0 => (intro w hSw; (try dsimp only at hSw); unfold o3_40_0; go_simp <;> with_reducible rfl)
              try simp only [o3_40_0, Act.put, q1_, q2_, q3_]
              refine tq_ (i := 2) (oi := o3_40_2) (v := ?vh3aq2) (Or.inl ⟨by rfl, ?hyh3aq2⟩) hHeld ?resth3aq2
              case hyh3aq2 => (intro w hSw; (try dsimp only at hSw); unfold o3_40_2; go_simp <;> with_reducible rfl)
              try simp only [o3_40_2, Act.put, q1_, q2_, q3_]
              refine tq_ (i := 3) (oi := o3_40_3) (v := ?vh3aq3) (Or.inl ⟨by rfl, ?hyh3aq3⟩) hHeld ?resth3aq3
              case hyh3aq3 => (intro w hSw; (try dsimp only at hSw); unfold o3_40_3; go_simp <;> with_reducible rfl)
              try simp only [o3_40_3, Act.put, q1_, q2_, q3_]
              refine tq_ (i := 4) (oi := o3_40_4) (v := ?vh3aq4) (Or.inl ⟨by rfl, ?hyh3aq4⟩) hHeld ?resth3aq4
              case hyh3aq4 => (intro w hSw; (try dsimp only at hSw); unfold o3_40_4; go_simp <;> with_reducible rfl)
              try simp only [o3_40_4, Act.put, q1_, q2_, q3_]
              refine tq_ (i := 5) (oi := o3_40_5) (v := ?vh3aq5) (Or.inl ⟨by rfl, ?hyh3aq5⟩) hHeld ?resth3aq5
              case hyh3aq5 => (intro w hSw; (try dsimp only at hSw); unfold o3_40_5; go_simp <;> with_reducible rfl)
              try simp only [o3_40_5, Act.put, q1_, q2_, q3_]
              refine tq_ (i := 6) (oi := o3_40_6) (v := ?vh3aq6) (Or.inl ⟨by rfl, ?hyh3aq6⟩) hHeld ?resth3aq6
              case hyh3aq6 => (intro w hSw; (try dsimp only at hSw); unfold o3_40_6; go_simp <;> with_reducible rfl)
              try simp only [o3_40_6, Act.put, q1_, q2_, q3_]
              refine tq_ (i := 7) (oi := o3_40_7) (v := ?vh3aq7) (Or.inl ⟨by rfl, ?hyh3aq7⟩) hHeld ?resth3aq7
              case hyh3aq7 => (intro w hSw; (try dsimp only at hSw); unfold o3_40_7; go_simp <;> with_reducible rfl)
              try simp only [o3_40_7, Act.put, q1_, q2_, q3_]
              refine tq_ (i := 8) (oi := o3_40_8) (v := ?vh3aq8) (Or.inl ⟨by rfl, ?hyh3aq8⟩) hHeld ?resth3aq8
              case hyh3aq8 => (intro w hSw; (try dsimp only at hSw); unfold o3_40_8; go_simp <;> with_reducible rfl)
              try simp only [o3_40_8, Act.put, q1_, q2_, q3_]
              refine tq_ (i := 9) (oi := o3_40_9) (v := ?vh3aq9) (Or.inl ⟨by rfl, ?hyh3aq9⟩) hHeld ?resth3aq9
              case hyh3aq9 => (intro w hSw; (try dsimp only at hSw); unfold o3_40_9; go_simp <;> with_reducible rfl)
              try simp only [o3_40_9, Act.put, q1_, q2_, q3_]
              refine tq_ (i := 10) (oi := o3_40_10) (v := ?vh3aq10) (Or.inl ⟨by rfl, ?hyh3aq10⟩) hHeld ?resth3aq10
              case hyh3aq10 => (intro w hSw; (try dsimp only at hSw); unfold o3_40_10; go_simp <;> with_reducible rfl)
              try simp only [o3_40_10, Act.put, q1_, q2_, q3_]
              refine tq_ (i := 11) (oi := o3_40_11) (v := ?vh3aq11) (Or.inl ⟨by rfl, ?hyh3aq11⟩) hHeld ?resth3aq11
              case hyh3aq11 => (intro w hSw; (try dsimp only at hSw); unfold o3_40_11; go_simp <;> with_reducible rfl)
              try simp only [o3_40_11, Act.put, q1_, q2_, q3_]
              refine wpAnyH_ready (rs := [1]) (by kernel_rfl) (by simp) ?_
              refine AllReadyH.cons (o := o3_40_1) rfl (fun K hK => ?_) AllReadyH.nil
              unfold o3_40_1; go_simp
              go_wp2_with (first | (go_at_call 21; refine (Queue_calls g B me _ _ _ _ (HPX.out.below K0.out).1.at).mono ?_; rintro e w9 ⟨rfl, rfl⟩; rw [hql]))
              refine hK.out _ _ (Sall.out _ K0.out) (fun hHeld' => ?_)
              clear hK K hHeld
              have hHeld := hHeld'
              clear hHeld'
              try simp only [Act.put, q1_, q2_, q3_]
              refine tq_ (i := 12) (oi := o3_40_12) (v := ?vh3aq12) (Or.inl ⟨by rfl, ?hyh3aq12⟩) hHeld ?resth3aq12
              case hyh3aq12 => (intro w hSw; (try dsimp only at hSw); unfold o3_40_12; go_simp <;> with_reducible rfl)
              try simp only [o3_40_12, Act.put, q1_, q2_, q3_]
              refine wpAnyH_done (by kernel_rfl) ?_ _
              refine NoPanic.normal ?_
              have HPX2 := Aside0.mk (HPX.out.below K0.out)
              clear Sall HPX hHeld
              go_wp2_with fail
              exact ⟨⟨j + 1, told, asks2, done2, ans2, .slice A8 asks2.length c8, vs2, vb2, by omega, by simp, rfl, HPX2, HPL⟩, by simp [intOf]; omega⟩
      · as_aux_lemma =>
          go_wp2_with fail
          obtain ⟨w2, hw2⟩ : ∃ X, (wr.alloc (Obj.cells #[.int .u8 dd, .int .u64 nn, .string s] 36)) = X := ⟨_, rfl⟩
          rw [hw2] at PX1 XA1 ⊢
          refine (AnswersV g B me _ _ _ w2 vb _ PX1.out.1).mono ?_
          rintro e w3 ⟨vx, rfl, hN, hG, hK, hb⟩
          have PX3 := Aside0.mk (PX1.out.gate hG (KT.of_keep hK (fun k h => by cases h)) hb)
          obtain ⟨cnt, hcnt⟩ : ∃ x, ans.length - told = x := ⟨_, rfl⟩
          have hlen := Rs27_length ans told
          rw [hcnt] at hlen
          obtain ⟨Ax, cx, ev⟩ := Kd.N_slice hN
          rw [hlen] at ev
          subst ev
          have HNX := Aside0.mk hN
          have HLEN := Aside0.mk hlen
          have HCNT := Aside0.mk hcnt
          have hcn : (cnt : Int) = (ans.length : Int) - (told : Int) := by have := HPJ.out.ht; have := HPJ.out.ha; omega
          have ew1 : IntKind.i64.wrap ((ans.length : Int) - (told : Int)) = (cnt : Int) := by rw [hcn]; have := HPJ.out.ht; have := HPJ.out.ha; have := HPJ.out.hd; have := HPJ.out.hl; have := HJ.out; rw [IntKind.wrap_i64]; omega
          obtain ⟨As, cs, es⟩ := Kd.R_slice PX3.out.2.1.2.2.1
          subst es
          have z3 := (PX3.out.2.1.1.cell 3).trans (rfl : _ = some (Value.slice As ans.length cs))
          have HCN := Aside0.mk hcn
          have HB30 := Aside0.mk (Below.refl w3.heap.size w3)
          clear hN hG hK hb hcnt hlen hw2 hcn
          go_wp2_with fail
          clear z3
          go_loopw [18] (fun i wq => ∃ k : Nat, k ≤ cnt ∧ i = .int .i64 k ∧ Aside0 (Below w3.heap.size w3 wq)) (fun i _ => cnt - (intOf i).toNat)
          case atStart => exact ⟨0, Nat.zero_le _, rfl, HB30⟩
          case round =>
            obtain ⟨k, hk, rfl, HBq⟩ := hrel
            clear HB30
            by_cases hkc : k < cnt
            · have hk1 : (k : Int) < (cnt : Int) := by omega
              have hlim : ans.length ≤ 1000 := by have := HPJ.out.ha; have := HPJ.out.hd; have := HPJ.out.hl; have := HJ.out; omega
              have hta : told + k < ans.length := by have := HCNT.out; omega
              have wa : IntKind.i64.wrap ((told : Int) + (k : Int)) = (told : Int) + (k : Int) := by rw [IntKind.wrap_i64]; omega
              have wb : IntKind.i64.wrap ((told : Int) + (k : Int) + 1) = (told : Int) + (k : Int) + 1 := by rw [IntKind.wrap_i64]; omega
              have wc : IntKind.u64.wrap ((told : Int) + (k : Int) + 1) = (told : Int) + (k : Int) + 1 := by rw [IntKind.wrap_u64]; omega
              have wd : IntKind.i64.wrap ((k : Int) + 1) = (k : Int) + 1 := by have := HCNT.out; rw [IntKind.wrap_i64]; omega
              have i0 : (0 : Int) ≤ (told : Int) + (k : Int) := by omega
              have i1 : (told : Int) + (k : Int) < (ans.length : Int) := by omega
              have hNq := Kd.N_below HNX.out HBq.out
              obtain ⟨gx, kx, ex, _, _, _⟩ := Kd.N_form hNq (by rw [HLEN.out]; omega)
              rw [HLEN.out] at ex
              injection ex with ex1 _ ex3
              subst ex1
              subst ex3
              obtain ⟨cc, hcl, hfk, hcc, _⟩ := Kd.N_elem hNq (0, []) (k : Int) (by omega) (by omega)
              rw [Int.toNat_natCast, Rs27_at ans told k (by rw [HCNT.out]; exact hkc)] at hfk
              obtain ⟨A3, c3, rfl, hk7, hF⟩ := fk_open hfk
              obtain ⟨ads, eas, hst⟩ := strs_at (Kd.R_below PX3.out.2.1.2.2.1 HBq.out) (told + k) hta
              subst eas
              have d0 := hcc 0 _ rfl
              have d1 := hcc 1 _ rfl
              obtain ⟨t, htt⟩ : ∃ x, ans.getD (told + k) ByteArray.empty = x := ⟨_, rfl⟩
              rw [htt] at hF hst d1
              rw [bytesOf_length] at d1
              have D0 : Aside0 (wr.cell? ⟨gx, k * 2, none⟩ = some (.int .u64 (((told + k : Nat) : Int) + 1))) := ⟨by simpa [show DQ.sz = 2 from rfl] using d0⟩
              have D1 : Aside0 (wr.cell? ⟨gx, k * 2 + 1, none⟩ = some (.slice A3 t.size c3)) := ⟨by simpa [show DQ.sz = 2 from rfl] using d1⟩
              have HF := Aside0.mk hF
              rw [show told + k = ((told : Int) + (k : Int)).toNat from by omega] at hst
              have HST := Aside0.mk hst
              have hgb := World.block_lt_of_cell? wr _ D0.out
              have hsb := World.block_lt_of_cell? wr _ hst
              have HGB := Aside0.mk hgb
              have HSB := Aside0.mk hsb
              have hnum : ((told + k : Nat) : Int) + 1 = (told : Int) + (k : Int) + 1 := by omega
              have nq1 : (((told + k : Nat) : Int) + 1 != (told : Int) + (k : Int) + 1) = false := by rw [hnum]; simp
              have nq2 : (((told : Int) + (k : Int) + 1) != (told : Int) + (k : Int) + 1) = false := by simp
              have Sall : Aside0 (∀ W : World, Below wr.heap.size wr W → W.cell? ⟨gx, k * 2, none⟩ = some (.int .u64 (((told + k : Nat) : Int) + 1)) ∧ W.cell? ⟨gx, k * 2 + 1, none⟩ = some (.slice A3 t.size c3) ∧ (convert 39 9 (.slice A3 t.size c3)).run Try.prog W = .ok (.string t) W ∧ W.cell? ⟨p, 3, none⟩ = some (.slice (some ads) ans.length cs) ∧ W.cell? (ads.add ((told : Int) + (k : Int)).toNat) = some (.string t)) := ⟨fun W hW => by
                have h1 := str_came (c := c3) (Kd.C_below (Kd.F_now HF.out) hW) (str_bytes t)
                rw [bytesOf_length] at h1
                exact ⟨(World.cell?_of_block (a := ⟨gx, k * 2, none⟩) (hW.block gx HGB.out)).trans D0.out, (World.cell?_of_block (a := ⟨gx, k * 2 + 1, none⟩) (hW.block gx HGB.out)).trans D1.out, h1, ((PX3.out.2.1.1.below (HBq.out.trans (below_weak hW HBq.out.size))).cell 3).trans rfl, (World.cell?_of_block (hW.block _ HSB.out)).trans HST.out⟩⟩
              clear hNq hcl hfk hcc d0 d1 hF hst hk7 htt hgb hsb hnum
              go_wp2_with fail
              have K0 := Aside0.mk (below_drew (Below.refl wr.heap.size wr))
              refine wp_region_noPanic ?_
              refine wp_region_held_drew (S := fun W : World => W.cell? ⟨gx, k * 2, none⟩ = some (.int .u64 (((told + k : Nat) : Int) + 1)) ∧ W.cell? ⟨gx, k * 2 + 1, none⟩ = some (.slice A3 t.size c3) ∧ (convert 39 9 (.slice A3 t.size c3)).run Try.prog W = .ok (.string t) W ∧ W.cell? ⟨p, 3, none⟩ = some (.slice (some ads) ans.length cs) ∧ W.cell? (ads.add ((told : Int) + (k : Int)).toNat) = some (.string t)) (by kernel_rfl) ?_ (fun hHeld => ?_)
              · exact Sall.out _ K0.out
              refine tq_ (i := 0) (oi := o3_37_0) (v := ?vn0) (Or.inl ⟨by rfl, ?hyn0⟩) hHeld ?restn0
              case hyn0 => (intro w hSw; (try dsimp only at hSw); unfold o3_37_0; go_simp <;> with_reducible rfl)
              try simp only [o3_37_0, Act.put, q1_, q2_, q3_]
              refine tq_ (i := 1) (oi := o3_37_1) (v := ?vn1) (Or.inl ⟨by rfl, ?hyn1⟩) hHeld ?restn1
              case hyn1 => (intro w hSw; (try dsimp only at hSw); unfold o3_37_1; go_simp <;> with_reducible rfl)
              try simp only [o3_37_1, Act.put, q1_, q2_, q3_]
              refine tq_ (i := 2) (oi := o3_37_2) (v := ?vn2) (Or.inl ⟨by rfl, ?hyn2⟩) hHeld ?restn2
              case hyn2 => (intro w hSw; (try dsimp only at hSw); unfold o3_37_2; go_simp <;> with_reducible rfl)
              try simp only [o3_37_2, Act.put, q1_, q2_, q3_]
              refine tq_ (i := 3) (oi := o3_37_3) (v := ?vn3) (Or.inl ⟨by rfl, ?hyn3⟩) hHeld ?restn3
              case hyn3 => (intro w hSw; (try dsimp only at hSw); unfold o3_37_3; go_simp <;> with_reducible rfl)
              try simp only [o3_37_3, Act.put, q1_, q2_, q3_]
              refine tq_ (i := 4) (oi := o3_37_4) (v := ?vn4) (Or.inl ⟨by rfl, ?hyn4⟩) hHeld ?restn4
              case hyn4 => (intro w hSw; (try dsimp only at hSw); unfold o3_37_4; go_simp <;> with_reducible rfl)
              try simp only [o3_37_4, Act.put, q1_, q2_, q3_]
              refine tq_ (i := 5) (oi := o3_37_5) (v := ?vn5) (Or.inl ⟨by rfl, ?hyn5⟩) hHeld ?restn5
              case hyn5 => (intro w hSw; (try dsimp only at hSw); unfold o3_37_5; go_simp <;> with_reducible rfl)
              try simp only [o3_37_5, Act.put, q1_, q2_, q3_]
              refine tq_ (i := 6) (oi := o3_37_6) (v := ?vn6) (Or.inl ⟨by rfl, ?hyn6⟩) hHeld ?restn6
              case hyn6 => (intro w hSw; (try dsimp only at hSw); unfold o3_37_6; go_simp <;> with_reducible rfl)
              try simp only [o3_37_6, Act.put, q1_, q2_, q3_]
              refine tq_ (i := 7) (oi := o3_37_7) (v := ?vn7) (Or.inl ⟨by rfl, ?hyn7⟩) hHeld ?restn7
              case hyn7 => (intro w hSw; (try dsimp only at hSw); unfold o3_37_7; go_simp <;> with_reducible rfl)
              try simp only [o3_37_7, Act.put, q1_, q2_, q3_]
              refine tq_ (i := 8) (oi := o3_37_8) (v := ?vn8) (Or.inl ⟨by rfl, ?hyn8⟩) hHeld ?restn8
              case hyn8 => (intro w hSw; (try dsimp only at hSw); unfold o3_37_8; go_simp <;> with_reducible rfl)
              try simp only [o3_37_8, Act.put, q1_, q2_, q3_]
              refine tq_ (i := 9) (oi := o3_37_9) (v := ?vn9) (Or.inl ⟨by rfl, ?hyn9⟩) hHeld ?restn9
              case hyn9 => (intro w hSw; (try dsimp only at hSw); unfold o3_37_9; go_simp <;> with_reducible rfl)
              try simp only [o3_37_9, Act.put, q1_, q2_, q3_]
              refine tq_ (i := 10) (oi := o3_37_10) (v := ?vn10) (Or.inl ⟨by rfl, ?hyn10⟩) hHeld ?restn10
              case hyn10 => (intro w hSw; (try dsimp only at hSw); unfold o3_37_10; go_simp <;> with_reducible rfl)
              try simp only [o3_37_10, Act.put, q1_, q2_, q3_]
              refine tq_ (i := 11) (oi := o3_37_11) (v := ?vn11) (Or.inl ⟨by rfl, ?hyn11⟩) hHeld ?restn11
              case hyn11 => (intro w hSw; (try dsimp only at hSw); unfold o3_37_11; go_simp <;> with_reducible rfl)
              try simp only [o3_37_11, Act.put, q1_, q2_, q3_]
              refine tq_ (i := 12) (oi := o3_37_12) (v := ?vn12) (Or.inl ⟨by rfl, ?hyn12⟩) hHeld ?restn12
              case hyn12 => (intro w hSw; (try dsimp only at hSw); unfold o3_37_12; go_simp <;> with_reducible rfl)
              try simp only [o3_37_12, Act.put, q1_, q2_, q3_]
              refine tq_ (i := 13) (oi := o3_37_13) (v := ?vn13) (Or.inl ⟨by rfl, ?hyn13⟩) hHeld ?restn13
              case hyn13 => (intro w hSw; (try dsimp only at hSw); unfold o3_37_13; go_simp <;> with_reducible rfl)
              try simp only [o3_37_13, Act.put, q1_, q2_, q3_]
              refine tq_ (i := 14) (oi := o3_37_14) (v := ?vn14) (Or.inl ⟨by rfl, ?hyn14⟩) hHeld ?restn14
              case hyn14 => (intro w hSw; (try dsimp only at hSw); unfold o3_37_14; go_simp <;> with_reducible rfl)
              try simp only [o3_37_14, Act.put, q1_, q2_, q3_]
              refine tq_ (i := 15) (oi := o3_37_15) (v := ?vn15) (Or.inl ⟨by rfl, ?hyn15⟩) hHeld ?restn15
              case hyn15 => (intro w hSw; (try dsimp only at hSw); unfold o3_37_15; go_simp <;> with_reducible rfl)
              try simp only [o3_37_15, Act.put, q1_, q2_, q3_]
              refine tq_ (i := 16) (oi := o3_37_16) (v := ?vn16) (Or.inl ⟨by rfl, ?hyn16⟩) hHeld ?restn16
              case hyn16 => (intro w hSw; (try dsimp only at hSw); unfold o3_37_16; go_simp <;> with_reducible rfl)
              try simp only [o3_37_16, Act.put, q1_, q2_, q3_]
              refine tq_ (i := 17) (oi := o3_37_17) (v := ?vn17) (Or.inl ⟨by rfl, ?hyn17⟩) hHeld ?restn17
              case hyn17 => (intro w hSw; (try dsimp only at hSw); unfold o3_37_17; go_simp <;> with_reducible rfl)
              try simp only [o3_37_17, Act.put, q1_, q2_, q3_]
              refine tq_ (i := 18) (oi := o3_37_18) (v := ?vn18) (Or.inl ⟨by rfl, ?hyn18⟩) hHeld ?restn18
              case hyn18 => (intro w hSw; (try dsimp only at hSw); unfold o3_37_18; go_simp <;> with_reducible rfl)
              try simp only [o3_37_18, Act.put, q1_, q2_, q3_]
              refine tq_ (i := 19) (oi := o3_37_19) (v := ?vn19) (Or.inl ⟨by rfl, ?hyn19⟩) hHeld ?restn19
              case hyn19 => (intro w hSw; (try dsimp only at hSw); unfold o3_37_19; go_simp <;> with_reducible rfl)
              try simp only [o3_37_19, Act.put, q1_, q2_, q3_]
              refine tq_ (i := 20) (oi := o3_37_20) (v := ?vn20) (Or.inl ⟨by rfl, ?hyn20⟩) hHeld ?restn20
              case hyn20 => (intro w hSw; (try dsimp only at hSw); unfold o3_37_20; go_simp <;> with_reducible rfl)
              try simp only [o3_37_20, Act.put, q1_, q2_, q3_]
              refine tq_ (i := 21) (oi := o3_37_21) (v := ?vn21) (Or.inl ⟨by rfl, ?hyn21⟩) hHeld ?restn21
              case hyn21 => (intro w hSw; (try dsimp only at hSw); unfold o3_37_21; go_simp <;> with_reducible rfl)
              try simp only [o3_37_21, Act.put, q1_, q2_, q3_]
              refine tq_ (i := 22) (oi := o3_37_22) (v := ?vn22) (Or.inl ⟨by rfl, ?hyn22⟩) hHeld ?restn22
              case hyn22 => (intro w hSw; (try dsimp only at hSw); unfold o3_37_22; go_simp <;> with_reducible rfl)
              try simp only [o3_37_22, Act.put, q1_, q2_, q3_]
              refine tq_ (i := 23) (oi := o3_37_23) (v := ?vn23) (Or.inl ⟨by rfl, ?hyn23⟩) hHeld ?restn23
              case hyn23 => (intro w hSw; (try dsimp only at hSw); unfold o3_37_23; go_simp <;> with_reducible rfl)
              try simp only [o3_37_23, Act.put, q1_, q2_, q3_]
              refine tq_ (i := 24) (oi := o3_37_24) (v := ?vn24) (Or.inl ⟨by rfl, ?hyn24⟩) hHeld ?restn24
              case hyn24 => (intro w hSw; (try dsimp only at hSw); unfold o3_37_24; go_simp <;> with_reducible rfl)
              try simp only [o3_37_24, Act.put, q1_, q2_, q3_]
              refine tq_ (i := 25) (oi := o3_37_25) (v := ?vn25) (Or.inl ⟨by rfl, ?hyn25⟩) hHeld ?restn25
              case hyn25 => (intro w hSw; (try dsimp only at hSw); unfold o3_37_25; go_simp <;> with_reducible rfl)
              try simp only [o3_37_25, Act.put, q1_, q2_, q3_]
              refine tq_ (i := 26) (oi := o3_37_26) (v := ?vn26) (Or.inl ⟨by rfl, ?hyn26⟩) hHeld ?restn26
              case hyn26 => (intro w hSw; (try dsimp only at hSw); unfold o3_37_26; go_simp <;> with_reducible rfl)
              try simp only [o3_37_26, Act.put, q1_, q2_, q3_]
              refine tq_ (i := 27) (oi := o3_37_27) (v := ?vn27) (Or.inl ⟨by rfl, ?hyn27⟩) hHeld ?restn27
              case hyn27 => (intro w hSw; (try dsimp only at hSw); unfold o3_37_27; go_simp <;> with_reducible rfl)
              try simp only [o3_37_27, Act.put, q1_, q2_, q3_]
              refine tq_ (i := 28) (oi := o3_37_28) (v := ?vn28) (Or.inl ⟨by rfl, ?hyn28⟩) hHeld ?restn28
              case hyn28 => (intro w hSw; (try dsimp only at hSw); unfold o3_37_28; go_simp <;> with_reducible rfl)
              try simp only [o3_37_28, Act.put, q1_, q2_, q3_]
              refine wpAnyH_done (by kernel_rfl) ?_ _
              refine NoPanic.normal ?_
              have HB4 := Aside0.mk (HBq.out.trans (below_weak K0.out HBq.out.size))
              clear hHeld Sall K0 D0 D1 HF HST
              go_wp2_with fail
              exact ⟨⟨k + 1, by omega, by simp, HB4⟩, by simp [intOf]; omega⟩
            · have hkn : k = cnt := by omega
              subst hkn
              have PX4 := Aside0.mk (PX3.out.below HBq.out)
              have z3 := (PX4.out.2.1.1.cell 3).trans (rfl : _ = some (Value.slice As ans.length cs))
              have PX4' : Aside0 (PX w wr g p B me (asks.length : Int) ((Qs asks asks.length).drop done) (Rs27 ans done) (.slice none 0 0) asks done ans _ _) := ⟨by
                have := PX4.out
                rw [← Rs27_told ans, HPJ.out.ha] at this
                exact this⟩
              have had := HPJ.out.ha
              rw [had] at z3
              clear PX4 PX3 had
              go_wp2_with fail
              obtain ⟨asks2, done2, ans2, va2, vs2, vb2, HPX, HPL⟩ : ∃ (asks2 : List ByteArray) (done2 : Nat) (ans2 : List ByteArray) (va2 vs2 vb2 : Value), Aside0 (PX w wr g p B me (asks2.length : Int) ((Qs asks2 asks2.length).drop done2) (Rs27 ans2 done) vb2 asks2 done2 ans2 va2 vs2) ∧ Aside0 (PL (j + 1) asks2 done2 ans2 done) := ⟨_, _, _, _, _, _, ⟨PX4'.out⟩, ⟨HPJ.out.tell⟩⟩
              obtain ⟨A8, c8, e8⟩ := Kd.R_slice HPX.out.2.1.2.1
              subst e8
              have ew8 : IntKind.i64.wrap ((asks2.length : Int) - (done2 : Int)) = (asks2.length : Int) - (done2 : Int) := by have := HPL.out.hd; have := HPL.out.hl; have := HJ.out; rw [IntKind.wrap_i64]; omega
              have hql : (((Qs asks2 asks2.length).drop done2).length : Int) = (asks2.length : Int) - (done2 : Int) := by rw [Qs_qlen]; have := HPL.out.hd; omega
              have K0 := Aside0.mk (below_drew (Below.refl wr.heap.size wr))
              have Sall : Aside0 (∀ X : World, Below wr.heap.size wr X → X.cell? ⟨p, 1, none⟩ = some (.slice A8 asks2.length c8) ∧ X.cell? ⟨p, 2, none⟩ = some (.int .i64 (done2 : Int))) := ⟨fun X hX => ⟨((HPX.out.2.1.1.below hX).cell 1).trans rfl, ((HPX.out.2.1.1.below hX).cell 2).trans rfl⟩⟩
              refine wp_region_noPanic ?_
              refine wp_region_held_drew (S := fun X : World => X.cell? ⟨p, 1, none⟩ = some (.slice A8 asks2.length c8) ∧ X.cell? ⟨p, 2, none⟩ = some (.int .i64 (done2 : Int))) (by kernel_rfl) ?_ (fun hHeld => ?_)
              · exact Sall.out _ K0.out
              refine tq_ (i := 0) (oi := o3_40_0) (v := ?vntq0) (Or.inl ⟨by rfl, ?hyntq0⟩) hHeld ?restntq0
              case hyntq0 => (intro w hSw; (try dsimp only at hSw); unfold o3_40_0; go_simp <;> with_reducible rfl)
              try simp only [o3_40_0, Act.put, q1_, q2_, q3_]
              refine tq_ (i := 2) (oi := o3_40_2) (v := ?vntq2) (Or.inl ⟨by rfl, ?hyntq2⟩) hHeld ?restntq2
              case hyntq2 => (intro w hSw; (try dsimp only at hSw); unfold o3_40_2; go_simp <;> with_reducible rfl)
              try simp only [o3_40_2, Act.put, q1_, q2_, q3_]
              refine tq_ (i := 3) (oi := o3_40_3) (v := ?vntq3) (Or.inl ⟨by rfl, ?hyntq3⟩) hHeld ?restntq3
              case hyntq3 => (intro w hSw; (try dsimp only at hSw); unfold o3_40_3; go_simp <;> with_reducible rfl)
              try simp only [o3_40_3, Act.put, q1_, q2_, q3_]
              refine tq_ (i := 4) (oi := o3_40_4) (v := ?vntq4) (Or.inl ⟨by rfl, ?hyntq4⟩) hHeld ?restntq4
              case hyntq4 => (intro w hSw; (try dsimp only at hSw); unfold o3_40_4; go_simp <;> with_reducible rfl)
              try simp only [o3_40_4, Act.put, q1_, q2_, q3_]
              refine tq_ (i := 5) (oi := o3_40_5) (v := ?vntq5) (Or.inl ⟨by rfl, ?hyntq5⟩) hHeld ?restntq5
              case hyntq5 => (intro w hSw; (try dsimp only at hSw); unfold o3_40_5; go_simp <;> with_reducible rfl)
              try simp only [o3_40_5, Act.put, q1_, q2_, q3_]
              refine tq_ (i := 6) (oi := o3_40_6) (v := ?vntq6) (Or.inl ⟨by rfl, ?hyntq6⟩) hHeld ?restntq6
              case hyntq6 => (intro w hSw; (try dsimp only at hSw); unfold o3_40_6; go_simp <;> with_reducible rfl)
              try simp only [o3_40_6, Act.put, q1_, q2_, q3_]
              refine tq_ (i := 7) (oi := o3_40_7) (v := ?vntq7) (Or.inl ⟨by rfl, ?hyntq7⟩) hHeld ?restntq7
              case hyntq7 => (intro w hSw; (try dsimp only at hSw); unfold o3_40_7; go_simp <;> with_reducible rfl)
              try simp only [o3_40_7, Act.put, q1_, q2_, q3_]
              refine tq_ (i := 8) (oi := o3_40_8) (v := ?vntq8) (Or.inl ⟨by rfl, ?hyntq8⟩) hHeld ?restntq8
              case hyntq8 => (intro w hSw; (try dsimp only at hSw); unfold o3_40_8; go_simp <;> with_reducible rfl)
              try simp only [o3_40_8, Act.put, q1_, q2_, q3_]
              refine tq_ (i := 9) (oi := o3_40_9) (v := ?vntq9) (Or.inl ⟨by rfl, ?hyntq9⟩) hHeld ?restntq9
              case hyntq9 => (intro w hSw; (try dsimp only at hSw); unfold o3_40_9; go_simp <;> with_reducible rfl)
              try simp only [o3_40_9, Act.put, q1_, q2_, q3_]
              refine tq_ (i := 10) (oi := o3_40_10) (v := ?vntq10) (Or.inl ⟨by rfl, ?hyntq10⟩) hHeld ?restntq10
              case hyntq10 => (intro w hSw; (try dsimp only at hSw); unfold o3_40_10; go_simp <;> with_reducible rfl)
              try simp only [o3_40_10, Act.put, q1_, q2_, q3_]
              refine tq_ (i := 11) (oi := o3_40_11) (v := ?vntq11) (Or.inl ⟨by rfl, ?hyntq11⟩) hHeld ?restntq11
              case hyntq11 => (intro w hSw; (try dsimp only at hSw); unfold o3_40_11; go_simp <;> with_reducible rfl)
              try simp only [o3_40_11, Act.put, q1_, q2_, q3_]
              refine wpAnyH_ready (rs := [1]) (by kernel_rfl) (by simp) ?_
              refine AllReadyH.cons (o := o3_40_1) rfl (fun K hK => ?_) AllReadyH.nil
              unfold o3_40_1; go_simp
              go_wp2_with (first | (go_at_call 21; refine (Queue_calls g B me _ _ _ _ (HPX.out.below K0.out).1.at).mono ?_; rintro e w9 ⟨rfl, rfl⟩; rw [hql]))
              refine hK.out _ _ (Sall.out _ K0.out) (fun hHeld' => ?_)
              clear hK K hHeld
              have hHeld := hHeld'
              clear hHeld'
              try simp only [Act.put, q1_, q2_, q3_]
              refine tq_ (i := 12) (oi := o3_40_12) (v := ?vntq12) (Or.inl ⟨by rfl, ?hyntq12⟩) hHeld ?restntq12
              case hyntq12 => (intro w hSw; (try dsimp only at hSw); unfold o3_40_12; go_simp <;> with_reducible rfl)
              try simp only [o3_40_12, Act.put, q1_, q2_, q3_]
              refine wpAnyH_done (by kernel_rfl) ?_ _
              refine NoPanic.normal ?_
              have HPX2 := Aside0.mk (HPX.out.below K0.out)
              clear Sall HPX hHeld
              go_wp2_with fail
              exact ⟨⟨j + 1, done, asks2, done2, ans2, .slice A8 asks2.length c8, vs2, vb2, by omega, by simp, rfl, HPX2, HPL⟩, by simp [intOf]; omega⟩
    · obtain rfl : n = j := by omega
      go_wp2_with fail
      refine (asks_true _).mono ?_
      rintro e w3 ⟨rfl, hb⟩
      have HB3 := Aside0.mk (below_then HPX.out.2.2.2 (by have := HPX.out.2.2.2.size; omega) hb)
      clear hb
      go_wp2_with fail
      go_ret
      exact ⟨rfl, by rw [hB]; exact HB3.out⟩
end Go.Proofs.Ytpadajkdpldliaa.Ext
