/- EntryReads, proved by walking its code (printed by mkreads.py). -/
import Derived.Test.YtdfmganmchmbjaaEReadF
import Derived.Deep.RegionHeld3
namespace Go.Proofs.Ytdfmganmchmbjaa.Ext
open Go.RowKit Go.Proofs.YtdfmganmchmbjaaW.PrintWords Go.Proofs.YtdfmganmchmbjaaW.PrintLast Go.Proofs.YtdfmganmchmbjaaW.PrintMore Go.Proofs.YtdfmganmchmbjaaW.Hand Go.Proofs.Ytdfmganmchmbjaa.PZ
attribute [local go_sem high] eqA42 eqA40
set_option linter.unusedVariables false
set_option linter.unusedSimpArgs false
abbrev o9_0 : Oper := { dst := some 48, op := Go.Op.move (Go.Operand.tmp 4), type := 32, pos := "outright.go:50", after := #[], guard := none }
abbrev o9_1 : Oper := { dst := some 49, op := Go.Op.binOp Go.BinOp.eql 32 (Go.Operand.tmp 48) (Go.Operand.const (Go.Value.int Go.IntKind.i64 0)) 32, type := 4, pos := "outright.go:50", after := #[{ on := 0, ground := Go.Ground.data }], guard := none }
abbrev o9_2 : Oper := { dst := some 50, op := Go.Op.move (Go.Operand.tmp 49), type := 4, pos := "outright.go:50", after := #[{ on := 1, ground := Go.Ground.data }], guard := none }
abbrev o9_3 : Oper := { dst := some 51, op := Go.Op.move (Go.Operand.tmp 12), type := 32, pos := "outright.go:50", after := #[{ on := 2, ground := Go.Ground.guard }], guard := some (2, true) }
abbrev o9_4 : Oper := { dst := some 52, op := Go.Op.binOp Go.BinOp.neq 32 (Go.Operand.tmp 51) (Go.Operand.const (Go.Value.int Go.IntKind.i64 0)) 32, type := 4, pos := "outright.go:50", after := #[{ on := 3, ground := Go.Ground.data }, { on := 2, ground := Go.Ground.guard }], guard := some (2, true) }
abbrev o9_5 : Oper := { dst := some 53, op := Go.Op.move (Go.Operand.tmp 52), type := 4, pos := "outright.go:50", after := #[{ on := 4, ground := Go.Ground.data }, { on := 2, ground := Go.Ground.chain }, { on := 2, ground := Go.Ground.guard }], guard := some (2, true) }
abbrev o9_6 : Oper := { dst := some 54, op := Go.Op.move (Go.Operand.tmp 11), type := 31, pos := "outright.go:50", after := #[{ on := 5, ground := Go.Ground.guard }], guard := some (5, false) }
abbrev o9_7 : Oper := { dst := some 55, op := Go.Op.convert 31 9 (Go.Operand.tmp 54), type := 9, pos := "outright.go:50", after := #[{ on := 6, ground := Go.Ground.data }, { on := 5, ground := Go.Ground.guard }], guard := some (5, false) }
abbrev o9_8 : Oper := { dst := some 56, op := Go.Op.move (Go.Operand.tmp 0), type := 31, pos := "outright.go:50", after := #[{ on := 5, ground := Go.Ground.guard }], guard := some (5, false) }
abbrev o9_9 : Oper := { dst := some 57, op := Go.Op.convert 31 9 (Go.Operand.tmp 56), type := 9, pos := "outright.go:50", after := #[{ on := 8, ground := Go.Ground.data }, { on := 5, ground := Go.Ground.guard }], guard := some (5, false) }
abbrev o9_10 : Oper := { dst := some 58, op := Go.Op.binOp Go.BinOp.neq 9 (Go.Operand.tmp 55) (Go.Operand.tmp 57) 9, type := 4, pos := "outright.go:50", after := #[{ on := 7, ground := Go.Ground.data }, { on := 9, ground := Go.Ground.data }, { on := 5, ground := Go.Ground.guard }], guard := some (5, false) }
abbrev o9_11 : Oper := { dst := some 59, op := Go.Op.pick (Go.Operand.tmp 53) (Go.Operand.const (Go.Value.bool true)) (Go.Operand.tmp 58), type := 4, pos := "outright.go:50", after := #[{ on := 5, ground := Go.Ground.data }, { on := 10, ground := Go.Ground.data }, { on := 2, ground := Go.Ground.guard }], guard := some (2, true) }
abbrev o9_12 : Oper := { dst := some 60, op := Go.Op.pick (Go.Operand.tmp 50) (Go.Operand.tmp 59) (Go.Operand.const (Go.Value.bool false)), type := 4, pos := "outright.go:50", after := #[{ on := 2, ground := Go.Ground.data }, { on := 11, ground := Go.Ground.data }], guard := none }
abbrev o9_13 : Oper := { dst := some 61, op := Go.Op.move (Go.Operand.tmp 60), type := 4, pos := "outright.go:50", after := #[{ on := 12, ground := Go.Ground.data }, { on := 5, ground := Go.Ground.chain }], guard := none }
abbrev o9_14 : Oper := { dst := some 62, op := Go.Op.move (Go.Operand.tmp 6), type := 32, pos := "outright.go:50", after := #[{ on := 13, ground := Go.Ground.guard }], guard := some (13, false) }
abbrev o9_15 : Oper := { dst := some 63, op := Go.Op.binOp Go.BinOp.eql 32 (Go.Operand.tmp 62) (Go.Operand.const (Go.Value.int Go.IntKind.i64 0)) 32, type := 4, pos := "outright.go:50", after := #[{ on := 14, ground := Go.Ground.data }, { on := 13, ground := Go.Ground.guard }], guard := some (13, false) }
abbrev o9_16 : Oper := { dst := some 64, op := Go.Op.move (Go.Operand.tmp 63), type := 4, pos := "outright.go:50", after := #[{ on := 15, ground := Go.Ground.data }, { on := 13, ground := Go.Ground.chain }, { on := 13, ground := Go.Ground.guard }], guard := some (13, false) }
abbrev o9_17 : Oper := { dst := some 65, op := Go.Op.move (Go.Operand.tmp 14), type := 32, pos := "outright.go:50", after := #[{ on := 16, ground := Go.Ground.guard }], guard := some (16, true) }
abbrev o9_18 : Oper := { dst := some 66, op := Go.Op.binOp Go.BinOp.neq 32 (Go.Operand.tmp 65) (Go.Operand.const (Go.Value.int Go.IntKind.i64 0)) 32, type := 4, pos := "outright.go:50", after := #[{ on := 17, ground := Go.Ground.data }, { on := 16, ground := Go.Ground.guard }], guard := some (16, true) }
abbrev o9_19 : Oper := { dst := some 67, op := Go.Op.move (Go.Operand.tmp 66), type := 4, pos := "outright.go:50", after := #[{ on := 18, ground := Go.Ground.data }, { on := 16, ground := Go.Ground.chain }, { on := 16, ground := Go.Ground.guard }], guard := some (16, true) }
abbrev o9_20 : Oper := { dst := some 68, op := Go.Op.move (Go.Operand.tmp 13), type := 31, pos := "outright.go:50", after := #[{ on := 19, ground := Go.Ground.guard }], guard := some (19, false) }
abbrev o9_21 : Oper := { dst := some 69, op := Go.Op.convert 31 9 (Go.Operand.tmp 68), type := 9, pos := "outright.go:50", after := #[{ on := 20, ground := Go.Ground.data }, { on := 19, ground := Go.Ground.guard }], guard := some (19, false) }
abbrev o9_22 : Oper := { dst := some 70, op := Go.Op.move (Go.Operand.tmp 0), type := 31, pos := "outright.go:50", after := #[{ on := 19, ground := Go.Ground.guard }], guard := some (19, false) }
abbrev o9_23 : Oper := { dst := some 71, op := Go.Op.convert 31 9 (Go.Operand.tmp 70), type := 9, pos := "outright.go:50", after := #[{ on := 22, ground := Go.Ground.data }, { on := 19, ground := Go.Ground.guard }], guard := some (19, false) }
abbrev o9_24 : Oper := { dst := some 72, op := Go.Op.binOp Go.BinOp.neq 9 (Go.Operand.tmp 69) (Go.Operand.tmp 71) 9, type := 4, pos := "outright.go:50", after := #[{ on := 21, ground := Go.Ground.data }, { on := 23, ground := Go.Ground.data }, { on := 19, ground := Go.Ground.guard }], guard := some (19, false) }
abbrev o9_25 : Oper := { dst := some 73, op := Go.Op.pick (Go.Operand.tmp 67) (Go.Operand.const (Go.Value.bool true)) (Go.Operand.tmp 72), type := 4, pos := "outright.go:50", after := #[{ on := 19, ground := Go.Ground.data }, { on := 24, ground := Go.Ground.data }, { on := 16, ground := Go.Ground.guard }], guard := some (16, true) }
abbrev o9_26 : Oper := { dst := some 74, op := Go.Op.pick (Go.Operand.tmp 64) (Go.Operand.tmp 73) (Go.Operand.const (Go.Value.bool false)), type := 4, pos := "outright.go:50", after := #[{ on := 16, ground := Go.Ground.data }, { on := 25, ground := Go.Ground.data }, { on := 13, ground := Go.Ground.guard }], guard := some (13, false) }
abbrev o9_27 : Oper := { dst := some 75, op := Go.Op.pick (Go.Operand.tmp 61) (Go.Operand.const (Go.Value.bool true)) (Go.Operand.tmp 74), type := 4, pos := "outright.go:50", after := #[{ on := 13, ground := Go.Ground.data }, { on := 26, ground := Go.Ground.data }], guard := none }
abbrev o9_28 : Oper := { dst := some 76, op := Go.Op.move (Go.Operand.tmp 75), type := 4, pos := "outright.go:50", after := #[{ on := 27, ground := Go.Ground.data }, { on := 19, ground := Go.Ground.chain }], guard := none }
abbrev o9_29 : Oper := { dst := some 77, op := Go.Op.move (Go.Operand.tmp 8), type := 32, pos := "outright.go:50", after := #[{ on := 28, ground := Go.Ground.guard }], guard := some (28, false) }
abbrev o9_30 : Oper := { dst := some 78, op := Go.Op.binOp Go.BinOp.eql 32 (Go.Operand.tmp 77) (Go.Operand.const (Go.Value.int Go.IntKind.i64 0)) 32, type := 4, pos := "outright.go:50", after := #[{ on := 29, ground := Go.Ground.data }, { on := 28, ground := Go.Ground.guard }], guard := some (28, false) }
abbrev o9_31 : Oper := { dst := some 79, op := Go.Op.move (Go.Operand.tmp 78), type := 4, pos := "outright.go:50", after := #[{ on := 30, ground := Go.Ground.data }, { on := 28, ground := Go.Ground.chain }, { on := 28, ground := Go.Ground.guard }], guard := some (28, false) }
abbrev o9_32 : Oper := { dst := some 80, op := Go.Op.load 40 (Go.Operand.tmp 7), type := 40, pos := "outright.go:50", after := #[{ on := 31, ground := Go.Ground.guard }], guard := some (31, true) }
abbrev o9_33 : Oper := { dst := some 81, op := Go.Op.call { callee := Go.Callee.value (Go.Operand.func 16), args := #[Go.Operand.tmp 80], argTypes := #[40] }, type := 31, pos := "outright.go:50", after := #[{ on := 32, ground := Go.Ground.data }, { on := 31, ground := Go.Ground.chain }, { on := 31, ground := Go.Ground.guard }], guard := some (31, true) }
abbrev o9_34 : Oper := { dst := some 82, op := Go.Op.convert 31 9 (Go.Operand.tmp 81), type := 9, pos := "outright.go:50", after := #[{ on := 33, ground := Go.Ground.data }, { on := 31, ground := Go.Ground.guard }], guard := some (31, true) }
abbrev o9_35 : Oper := { dst := some 83, op := Go.Op.move (Go.Operand.tmp 0), type := 31, pos := "outright.go:50", after := #[{ on := 31, ground := Go.Ground.guard }], guard := some (31, true) }
abbrev o9_36 : Oper := { dst := some 84, op := Go.Op.convert 31 9 (Go.Operand.tmp 83), type := 9, pos := "outright.go:50", after := #[{ on := 35, ground := Go.Ground.data }, { on := 31, ground := Go.Ground.guard }], guard := some (31, true) }
abbrev o9_37 : Oper := { dst := some 85, op := Go.Op.binOp Go.BinOp.neq 9 (Go.Operand.tmp 82) (Go.Operand.tmp 84) 9, type := 4, pos := "outright.go:50", after := #[{ on := 34, ground := Go.Ground.data }, { on := 36, ground := Go.Ground.data }, { on := 31, ground := Go.Ground.guard }], guard := some (31, true) }
abbrev o9_38 : Oper := { dst := some 86, op := Go.Op.pick (Go.Operand.tmp 79) (Go.Operand.tmp 85) (Go.Operand.const (Go.Value.bool false)), type := 4, pos := "outright.go:50", after := #[{ on := 31, ground := Go.Ground.data }, { on := 37, ground := Go.Ground.data }, { on := 28, ground := Go.Ground.guard }], guard := some (28, false) }
abbrev o9_39 : Oper := { dst := some 87, op := Go.Op.pick (Go.Operand.tmp 76) (Go.Operand.const (Go.Value.bool true)) (Go.Operand.tmp 86), type := 4, pos := "outright.go:50", after := #[{ on := 28, ground := Go.Ground.data }, { on := 38, ground := Go.Ground.data }], guard := none }
abbrev o9_40 : Oper := { dst := some 88, op := Go.Op.move (Go.Operand.tmp 87), type := 4, pos := "outright.go:50", after := #[{ on := 39, ground := Go.Ground.data }, { on := 33, ground := Go.Ground.chain }], guard := none }
abbrev o9_41 : Oper := { dst := some 89, op := Go.Op.move (Go.Operand.tmp 10), type := 32, pos := "outright.go:50", after := #[{ on := 40, ground := Go.Ground.guard }], guard := some (40, false) }
abbrev o9_42 : Oper := { dst := some 90, op := Go.Op.binOp Go.BinOp.eql 32 (Go.Operand.tmp 89) (Go.Operand.const (Go.Value.int Go.IntKind.i64 0)) 32, type := 4, pos := "outright.go:50", after := #[{ on := 41, ground := Go.Ground.data }, { on := 40, ground := Go.Ground.guard }], guard := some (40, false) }
abbrev o9_43 : Oper := { dst := some 91, op := Go.Op.move (Go.Operand.tmp 90), type := 4, pos := "outright.go:50", after := #[{ on := 42, ground := Go.Ground.data }, { on := 40, ground := Go.Ground.chain }, { on := 40, ground := Go.Ground.guard }], guard := some (40, false) }
abbrev o9_44 : Oper := { dst := some 92, op := Go.Op.load 42 (Go.Operand.tmp 9), type := 42, pos := "outright.go:50", after := #[{ on := 43, ground := Go.Ground.guard }], guard := some (43, true) }
abbrev o9_45 : Oper := { dst := some 93, op := Go.Op.call { callee := Go.Callee.value (Go.Operand.func 18), args := #[Go.Operand.tmp 92], argTypes := #[42] }, type := 31, pos := "outright.go:50", after := #[{ on := 44, ground := Go.Ground.data }, { on := 43, ground := Go.Ground.chain }, { on := 43, ground := Go.Ground.guard }], guard := some (43, true) }
abbrev o9_46 : Oper := { dst := some 94, op := Go.Op.convert 31 9 (Go.Operand.tmp 93), type := 9, pos := "outright.go:50", after := #[{ on := 45, ground := Go.Ground.data }, { on := 43, ground := Go.Ground.guard }], guard := some (43, true) }
abbrev o9_47 : Oper := { dst := some 95, op := Go.Op.move (Go.Operand.tmp 0), type := 31, pos := "outright.go:50", after := #[{ on := 43, ground := Go.Ground.guard }], guard := some (43, true) }
abbrev o9_48 : Oper := { dst := some 96, op := Go.Op.convert 31 9 (Go.Operand.tmp 95), type := 9, pos := "outright.go:50", after := #[{ on := 47, ground := Go.Ground.data }, { on := 43, ground := Go.Ground.guard }], guard := some (43, true) }
abbrev o9_49 : Oper := { dst := some 97, op := Go.Op.binOp Go.BinOp.neq 9 (Go.Operand.tmp 94) (Go.Operand.tmp 96) 9, type := 4, pos := "outright.go:50", after := #[{ on := 46, ground := Go.Ground.data }, { on := 48, ground := Go.Ground.data }, { on := 43, ground := Go.Ground.guard }], guard := some (43, true) }
abbrev o9_50 : Oper := { dst := some 98, op := Go.Op.pick (Go.Operand.tmp 91) (Go.Operand.tmp 97) (Go.Operand.const (Go.Value.bool false)), type := 4, pos := "outright.go:50", after := #[{ on := 43, ground := Go.Ground.data }, { on := 49, ground := Go.Ground.data }, { on := 40, ground := Go.Ground.guard }], guard := some (40, false) }
abbrev o9_51 : Oper := { dst := some 99, op := Go.Op.pick (Go.Operand.tmp 88) (Go.Operand.const (Go.Value.bool true)) (Go.Operand.tmp 98), type := 4, pos := "outright.go:50", after := #[{ on := 40, ground := Go.Ground.data }, { on := 50, ground := Go.Ground.data }], guard := none }
set_option maxRecDepth 100000 in
theorem reads_long (A : Option Addr) (c : Nat) (l : List Int) (w : World) (hlen : ¬ l.length ≤ 3000) :
    Calls Try.prog 7 #[.slice A l.length c] w fun e w' => e = .returned (.bool true) ∧ Below w.heap.size w w' := by
  have d30 : decide ((l.length : Int) > 3000) = true := decide_eq_true (by omega)
  have d31 : (3000 < (l.length : Int)) := by omega
  clear hlen
  go_enter Try.func7, Try.ntmps7
  go_wp2_with fail
  go_ret
  exact ⟨rfl, Below.refl _ _⟩
set_option maxRecDepth 100000 in
set_option maxHeartbeats 6400000 in
theorem reads_ttff (A : Option Addr) (c : Nat) (l : List Int) (w : World) (hC : Kd.C (Kd.int .u8) w A l.length l) (hby : ∀ x ∈ l, IsByte x) (hlen : l.length ≤ 3000) (a0 a1 a2 : Int) (L : List S37) (ha : 0 ≤ a0 ∧ a0 < top64) (hP : eposts a0 a1 L = true) (hEl : l = epost a0 a1 a2 L) (b0 b1 b2 b4 b5 : Int) (M : List S53) (hI : ebills b0 b1 b4 b5 M = true) (hFl : l = einv b0 b1 b2 b4 b5 M) (hE : gposting l = ((a0, a1, a2, L), 0)) (hF : ginvoice l = ((b0, b1, b2, b4, b5, M), 0)) (hG : glease l = ((0, 0, 0, 0, 0), 21)) (hH : gpack l = ((0, 0), 21)) :
    Calls Try.prog 7 #[.slice A l.length c] w fun e w' => e = .returned (.bool true) ∧ Below w.heap.size w w' := by
  have kp := Aside0.mk (fun w hC => Getposting_all A c l w hC hby (by omega) a0 a1 a2 0 L hE)
  have ki := Aside0.mk (fun w hC => Getinvoice_all A c l w hC hby (by omega) b0 b1 b2 b4 b5 0 M hF)
  have kl := Aside0.mk (fun w hC => bgetl A c l.length l rfl 0 0 0 0 0 21 w hC hby (by omega) hG)
  have kk := Aside0.mk (fun w hC => bgetk A c l.length l rfl 0 0 21 w hC hby (by omega) hH)
  have kst : Aside0 (∀ W : World, Kd.C (Kd.int .u8) W A l.length l → (convert 31 9 (.slice A l.length c)).run Try.prog W = .ok (.string (strOfNums l)) W) := ⟨fun W h => Kd.C_string (P := Try.prog) (c := c) Try.underlying31 Try.underlying5 Try.underlying9 h⟩
  have kP := Aside0.mk (fun Ap cp w hC => putposting_yes a0 a1 a2 Ap cp L w hC ha.1 ha.2 hP)
  rw [← hEl] at kP
  have HLp := Aside0.mk (show L.length ≤ 50 by have := (eposts_facts hP).2.1; omega)
  have kI := Aside0.mk (fun Ai ci w hC => putinvoice_yes b0 b1 b2 b4 b5 Ai ci M w hC hI)
  rw [← hFl] at kI
  have kgo := Aside0.mk (fun w => PZ.quitrentlaw14_goes.calls true w goes_is)
  obtain ⟨SB, hSB⟩ : ∃ s, strOfNums l = s := ⟨_, rfl⟩
  rw [hSB] at kst
  have HSB := Aside0.mk hSB
  have d30 : decide ((l.length : Int) > 3000) = false := decide_eq_false (by omega)
  have d31 : ¬ (3000 < (l.length : Int)) := by omega
  have HC := Aside0.mk hC
  have HB0 := Aside0.mk (Below.refl w.heap.size w)
  have HN := Aside0.mk hlen
  clear hC hby hlen hE hF hG hH hSB ha hP hEl hI hFl
  go_enter Try.func7, Try.ntmps7
  go_wp2_with fail
  clear d30 d31
  refine (kp.out w (Kd.C_below HC.out HB0.out)).mono ?_
  rintro e w1 ⟨v, rfl, hV, hb⟩
  obtain ⟨Ap, cp, ev⟩ := Kd.R_slice hV
  subst ev
  have HB1 := Aside0.mk (below_step HB0.out hb)
  clear HB0 
  have Cp1 := Aside0.mk (Kd.R_reads' hV).2.2
  have Lp := Aside0.mk (Kd.R_reads' hV).2.1
  clear hV hb
  have hal := below_alloc (Below.refl w1.heap.size w1) (Obj.cells #[.int .u64 a0, .int .i64 a1, .int .u32 a2, .slice Ap L.length cp] 26)
  have HB2 := Aside0.mk (below_step HB1.out hal)
  have Cp2 := Aside0.mk (Kd.C_below Cp1.out hal)
  have Xp2 : Aside0 (Blk (w1.alloc (Obj.cells #[.int .u64 a0, .int .i64 a1, .int .u32 a2, .slice Ap L.length cp] 26)) w1.heap.size (Obj.cells #[.int .u64 a0, .int .i64 a1, .int .u32 a2, .slice Ap L.length cp] 26 (0, 0))) := ⟨Blk.new_⟩
  go_wp2_with fail
  obtain ⟨w2, hwx⟩ : ∃ W, w1.alloc (Obj.cells #[.int .u64 a0, .int .i64 a1, .int .u32 a2, .slice Ap L.length cp] 26) = W := ⟨_, rfl⟩
  rw [hwx] at Xp2 HB2 Cp2 ⊢
  obtain ⟨bp, hbx⟩ : ∃ b, w1.heap.size = b := ⟨_, rfl⟩
  rw [hbx] at Xp2 ⊢
  clear hal hwx hbx HB1 Cp1
  refine (ki.out w2 (Kd.C_below HC.out HB2.out)).mono ?_
  rintro e w3 ⟨v, rfl, hV, hb⟩
  obtain ⟨Ai, ci, ev⟩ := Kd.R_slice hV
  subst ev
  have HB3 := Aside0.mk (below_step HB2.out hb)
  have Cp3 := Aside0.mk (Kd.C_below Cp2.out hb)
  have Xp3 := Aside0.mk (Xp2.out.below hb)
  clear HB2 Cp2 Xp2
  have Ci3 := Aside0.mk (Kd.R_reads' hV).2.2
  have Li := Aside0.mk (Kd.R_reads' hV).2.1
  clear hV hb
  have hal := below_alloc (Below.refl w3.heap.size w3) (Obj.cells #[.int .u32 b0, .int .u32 b1, .int .i64 b2, .slice Ai M.length ci, .int .i64 b4, .int .i64 b5] 30)
  have HB4 := Aside0.mk (below_step HB3.out hal)
  have Cp4 := Aside0.mk (Kd.C_below Cp3.out hal)
  have Xp4 := Aside0.mk (Xp3.out.below hal)
  have Ci4 := Aside0.mk (Kd.C_below Ci3.out hal)
  have Xi4 : Aside0 (Blk (w3.alloc (Obj.cells #[.int .u32 b0, .int .u32 b1, .int .i64 b2, .slice Ai M.length ci, .int .i64 b4, .int .i64 b5] 30)) w3.heap.size (Obj.cells #[.int .u32 b0, .int .u32 b1, .int .i64 b2, .slice Ai M.length ci, .int .i64 b4, .int .i64 b5] 30 (0, 0))) := ⟨Blk.new_⟩
  go_wp2_with fail
  obtain ⟨w4, hwx⟩ : ∃ W, w3.alloc (Obj.cells #[.int .u32 b0, .int .u32 b1, .int .i64 b2, .slice Ai M.length ci, .int .i64 b4, .int .i64 b5] 30) = W := ⟨_, rfl⟩
  rw [hwx] at Xi4 HB4 Cp4 Xp4 Ci4 ⊢
  obtain ⟨bi, hbx⟩ : ∃ b, w3.heap.size = b := ⟨_, rfl⟩
  rw [hbx] at Xi4 ⊢
  clear hal hwx hbx HB3 Cp3 Xp3 Ci3
  refine (kl.out w4 (Kd.C_below HC.out HB4.out)).mono ?_
  rintro e w5 ⟨rfl, hb⟩
  have HB5 := Aside0.mk (below_step HB4.out hb)
  have Cp5 := Aside0.mk (Kd.C_below Cp4.out hb)
  have Xp5 := Aside0.mk (Xp4.out.below hb)
  have Ci5 := Aside0.mk (Kd.C_below Ci4.out hb)
  have Xi5 := Aside0.mk (Xi4.out.below hb)
  clear HB4 Cp4 Xp4 Ci4 Xi4
  clear hb
  have hal := below_alloc (Below.refl w5.heap.size w5) (Obj.cells #[.int .u32 0, .int .i64 0, .int .i64 0, .int .i64 0, .int .i64 0] 40)
  have HB6 := Aside0.mk (below_step HB5.out hal)
  have Cp6 := Aside0.mk (Kd.C_below Cp5.out hal)
  have Xp6 := Aside0.mk (Xp5.out.below hal)
  have Ci6 := Aside0.mk (Kd.C_below Ci5.out hal)
  have Xi6 := Aside0.mk (Xi5.out.below hal)
  have Xl6 : Aside0 (Blk (w5.alloc (Obj.cells #[.int .u32 0, .int .i64 0, .int .i64 0, .int .i64 0, .int .i64 0] 40)) w5.heap.size (Obj.cells #[.int .u32 0, .int .i64 0, .int .i64 0, .int .i64 0, .int .i64 0] 40 (0, 0))) := ⟨Blk.new_⟩
  go_wp2_with fail
  obtain ⟨w6, hwx⟩ : ∃ W, w5.alloc (Obj.cells #[.int .u32 0, .int .i64 0, .int .i64 0, .int .i64 0, .int .i64 0] 40) = W := ⟨_, rfl⟩
  rw [hwx] at Xl6 HB6 Cp6 Xp6 Ci6 Xi6 ⊢
  obtain ⟨bl, hbx⟩ : ∃ b, w5.heap.size = b := ⟨_, rfl⟩
  rw [hbx] at Xl6 ⊢
  clear hal hwx hbx HB5 Cp5 Xp5 Ci5 Xi5
  refine (kk.out w6 (Kd.C_below HC.out HB6.out)).mono ?_
  rintro e w7 ⟨rfl, hb⟩
  have HB7 := Aside0.mk (below_step HB6.out hb)
  have Cp7 := Aside0.mk (Kd.C_below Cp6.out hb)
  have Xp7 := Aside0.mk (Xp6.out.below hb)
  have Ci7 := Aside0.mk (Kd.C_below Ci6.out hb)
  have Xi7 := Aside0.mk (Xi6.out.below hb)
  have Xl7 := Aside0.mk (Xl6.out.below hb)
  clear HB6 Cp6 Xp6 Ci6 Xi6 Xl6
  clear hb
  have hal := below_alloc (Below.refl w7.heap.size w7) (Obj.cells #[.int .u32 0, .int .i64 0] 42)
  have HB8 := Aside0.mk (below_step HB7.out hal)
  have Cp8 := Aside0.mk (Kd.C_below Cp7.out hal)
  have Xp8 := Aside0.mk (Xp7.out.below hal)
  have Ci8 := Aside0.mk (Kd.C_below Ci7.out hal)
  have Xi8 := Aside0.mk (Xi7.out.below hal)
  have Xl8 := Aside0.mk (Xl7.out.below hal)
  have Xk8 : Aside0 (Blk (w7.alloc (Obj.cells #[.int .u32 0, .int .i64 0] 42)) w7.heap.size (Obj.cells #[.int .u32 0, .int .i64 0] 42 (0, 0))) := ⟨Blk.new_⟩
  have cz : (w7.alloc (Obj.cells #[.int .u32 0, .int .i64 0] 42)).cell? ⟨bp, 0, none⟩ = some (.int .u64 a0) ∧ (w7.alloc (Obj.cells #[.int .u32 0, .int .i64 0] 42)).cell? ⟨bp, 1, none⟩ = some (.int .i64 a1) ∧ (w7.alloc (Obj.cells #[.int .u32 0, .int .i64 0] 42)).cell? ⟨bp, 2, none⟩ = some (.int .u32 a2) ∧ (w7.alloc (Obj.cells #[.int .u32 0, .int .i64 0] 42)).cell? ⟨bp, 3, none⟩ = some (.slice Ap L.length cp) := ⟨(Xp8.out.cell 0).trans rfl, (Xp8.out.cell 1).trans rfl, (Xp8.out.cell 2).trans rfl, (Xp8.out.cell 3).trans rfl⟩
  obtain ⟨p0_, p1_, p2_, p3_⟩ := cz
  go_wp2_with fail
  clear p0_ p1_ p2_ p3_
  obtain ⟨w8, hwx⟩ : ∃ W, w7.alloc (Obj.cells #[.int .u32 0, .int .i64 0] 42) = W := ⟨_, rfl⟩
  rw [hwx] at Xk8 HB8 Cp8 Xp8 Ci8 Xi8 Xl8 ⊢
  obtain ⟨bk, hbx⟩ : ∃ b, w7.heap.size = b := ⟨_, rfl⟩
  rw [hbx] at Xk8 ⊢
  clear hal hwx hbx HB7 Cp7 Xp7 Ci7 Xi7 Xl7
  have XB : Aside0 (∀ W : World, Below w8.heap.size w8 W → (W.cell? ⟨bp, 0, none⟩ = some (.int .u64 a0) ∧ W.cell? ⟨bp, 1, none⟩ = some (.int .i64 a1) ∧ W.cell? ⟨bp, 2, none⟩ = some (.int .u32 a2) ∧ W.cell? ⟨bp, 3, none⟩ = some (.slice Ap L.length cp)) ∧ (W.cell? ⟨bi, 0, none⟩ = some (.int .u32 b0) ∧ W.cell? ⟨bi, 1, none⟩ = some (.int .u32 b1) ∧ W.cell? ⟨bi, 2, none⟩ = some (.int .i64 b2) ∧ W.cell? ⟨bi, 3, none⟩ = some (.slice Ai M.length ci) ∧ W.cell? ⟨bi, 4, none⟩ = some (.int .i64 b4) ∧ W.cell? ⟨bi, 5, none⟩ = some (.int .i64 b5)) ∧ (W.cell? ⟨bl, 0, none⟩ = some (.int .u32 0) ∧ W.cell? ⟨bl, 1, none⟩ = some (.int .i64 0) ∧ W.cell? ⟨bl, 2, none⟩ = some (.int .i64 0) ∧ W.cell? ⟨bl, 3, none⟩ = some (.int .i64 0) ∧ W.cell? ⟨bl, 4, none⟩ = some (.int .i64 0)) ∧ (W.cell? ⟨bk, 0, none⟩ = some (.int .u32 0) ∧ W.cell? ⟨bk, 1, none⟩ = some (.int .i64 0))) := ⟨fun W hW => by
    have Yp := Xp8.out.below hW
    have Yi := Xi8.out.below hW
    have Yl := Xl8.out.below hW
    have Yk := Xk8.out.below hW
    exact ⟨⟨(Yp.cell 0).trans rfl, (Yp.cell 1).trans rfl, (Yp.cell 2).trans rfl, (Yp.cell 3).trans rfl⟩, ⟨(Yi.cell 0).trans rfl, (Yi.cell 1).trans rfl, (Yi.cell 2).trans rfl, (Yi.cell 3).trans rfl, (Yi.cell 4).trans rfl, (Yi.cell 5).trans rfl⟩, ⟨(Yl.cell 0).trans rfl, (Yl.cell 1).trans rfl, (Yl.cell 2).trans rfl, (Yl.cell 3).trans rfl, (Yl.cell 4).trans rfl⟩, ⟨(Yk.cell 0).trans rfl, (Yk.cell 1).trans rfl⟩⟩⟩
  have HCn := Aside0.mk (Kd.C_below HC.out HB8.out)
  have D8 := Aside0.mk (Below.refl w8.heap.size w8)
  clear Xp8 Xi8 Xl8 Xk8 HC
  refine (kP.out Ap cp w8 Cp8.out).mono ?_
  rintro e w9 ⟨v1, rfl, hV, hb⟩
  have D9 := Aside0.mk hb
  have V1 := Aside0.mk hV
  clear hV hb D8
  obtain ⟨_, ⟨i0_, i1_, i2_, i3_, i4_, i5_⟩, _⟩ := XB.out w9 D9.out
  go_wp2_with fail
  clear i0_ i1_ i2_ i3_ i4_ i5_
  refine (kI.out Ai ci w9 (Kd.C_below Ci8.out D9.out)).mono ?_
  rintro e w10 ⟨v2, rfl, hV, hb⟩
  have D10 := Aside0.mk (below_step D9.out hb)
  have V2 := Aside0.mk hV
  have V1' := Aside0.mk (Kd.R_below V1.out hb)
  clear V1
  have V1 := V1'
  clear V1'
  clear hb D9 hV
  go_wp2_with fail
  have Sall : Aside0 (∀ W : World, Below w10.heap.size w10 W → (convert 31 9 (.slice A l.length c)).run Try.prog W = .ok (.string SB) W ∧ (convert 31 9 v1).run Try.prog W = .ok (.string SB) W ∧ (convert 31 9 v2).run Try.prog W = .ok (.string SB) W) := ⟨fun W hW => ⟨kst.out W (Kd.C_below HCn.out (D10.out.trans (below_weak_ hW D10.out.size))), by have h1 := r_str (Kd.R_below V1.out hW); rw [HSB.out] at h1; exact h1, by have h1 := r_str (Kd.R_below V2.out hW); rw [HSB.out] at h1; exact h1⟩⟩
  have K0 := Aside0.mk (below_drew (Below.refl w10.heap.size w10))
  refine wp_region_noPanic ?_
  refine wp_region_held_drew (S := fun W : World => (convert 31 9 (.slice A l.length c)).run Try.prog W = .ok (.string SB) W ∧ (convert 31 9 v1).run Try.prog W = .ok (.string SB) W ∧ (convert 31 9 v2).run Try.prog W = .ok (.string SB) W) (by kernel_rfl) ?_ (fun hH_ => ?_)
  · exact Sall.out _ K0.out
  refine tk_ (i := 0) (oi := o9_0) (v := ?vr0) (Or.inl ⟨by rfl, ?hyr0⟩) hH_ ?zr0
  case hyr0 => (intro w hSw; (try dsimp only at hSw); unfold o9_0; go_simp <;> with_reducible rfl)
  try simp only [o9_0, Act.put, p1_, p2_, p3_]
  refine tk_ (i := 1) (oi := o9_1) (v := ?vr1) (Or.inl ⟨by rfl, ?hyr1⟩) hH_ ?zr1
  case hyr1 => (intro w hSw; (try dsimp only at hSw); unfold o9_1; go_simp <;> with_reducible rfl)
  try simp only [o9_1, Act.put, p1_, p2_, p3_]
  refine tk_ (i := 2) (oi := o9_2) (v := ?vr2) (Or.inl ⟨by rfl, ?hyr2⟩) hH_ ?zr2
  case hyr2 => (intro w hSw; (try dsimp only at hSw); unfold o9_2; go_simp <;> with_reducible rfl)
  try simp only [o9_2, Act.put, p1_, p2_, p3_]
  refine tk_ (i := 3) (oi := o9_3) (v := ?vr3) (Or.inl ⟨by rfl, ?hyr3⟩) hH_ ?zr3
  case hyr3 => (intro w hSw; (try dsimp only at hSw); unfold o9_3; go_simp <;> with_reducible rfl)
  try simp only [o9_3, Act.put, p1_, p2_, p3_]
  refine tk_ (i := 4) (oi := o9_4) (v := ?vr4) (Or.inl ⟨by rfl, ?hyr4⟩) hH_ ?zr4
  case hyr4 => (intro w hSw; (try dsimp only at hSw); unfold o9_4; go_simp <;> with_reducible rfl)
  try simp only [o9_4, Act.put, p1_, p2_, p3_]
  refine tk_ (i := 5) (oi := o9_5) (v := ?vr5) (Or.inl ⟨by rfl, ?hyr5⟩) hH_ ?zr5
  case hyr5 => (intro w hSw; (try dsimp only at hSw); unfold o9_5; go_simp <;> with_reducible rfl)
  try simp only [o9_5, Act.put, p1_, p2_, p3_]
  refine tk_ (i := 6) (oi := o9_6) (v := ?vr6) (Or.inl ⟨by rfl, ?hyr6⟩) hH_ ?zr6
  case hyr6 => (intro w hSw; (try dsimp only at hSw); unfold o9_6; go_simp <;> with_reducible rfl)
  try simp only [o9_6, Act.put, p1_, p2_, p3_]
  refine tk_ (i := 7) (oi := o9_7) (v := ?vr7) (Or.inl ⟨by rfl, ?hyr7⟩) hH_ ?zr7
  case hyr7 => (intro w hSw; (try dsimp only at hSw); unfold o9_7; go_simp <;> with_reducible rfl)
  try simp only [o9_7, Act.put, p1_, p2_, p3_]
  refine tk_ (i := 8) (oi := o9_8) (v := ?vr8) (Or.inl ⟨by rfl, ?hyr8⟩) hH_ ?zr8
  case hyr8 => (intro w hSw; (try dsimp only at hSw); unfold o9_8; go_simp <;> with_reducible rfl)
  try simp only [o9_8, Act.put, p1_, p2_, p3_]
  refine tk_ (i := 9) (oi := o9_9) (v := ?vr9) (Or.inl ⟨by rfl, ?hyr9⟩) hH_ ?zr9
  case hyr9 => (intro w hSw; (try dsimp only at hSw); unfold o9_9; go_simp <;> with_reducible rfl)
  try simp only [o9_9, Act.put, p1_, p2_, p3_]
  refine tk_ (i := 10) (oi := o9_10) (v := ?vr10) (Or.inl ⟨by rfl, ?hyr10⟩) hH_ ?zr10
  case hyr10 => (intro w hSw; (try dsimp only at hSw); unfold o9_10; go_simp <;> with_reducible rfl)
  try simp only [o9_10, Act.put, p1_, p2_, p3_]
  refine tk_ (i := 11) (oi := o9_11) (v := ?vr11) (Or.inl ⟨by rfl, ?hyr11⟩) hH_ ?zr11
  case hyr11 => (intro w hSw; (try dsimp only at hSw); unfold o9_11; go_simp <;> with_reducible rfl)
  try simp only [o9_11, Act.put, p1_, p2_, p3_]
  refine tk_ (i := 12) (oi := o9_12) (v := ?vr12) (Or.inl ⟨by rfl, ?hyr12⟩) hH_ ?zr12
  case hyr12 => (intro w hSw; (try dsimp only at hSw); unfold o9_12; go_simp <;> with_reducible rfl)
  try simp only [o9_12, Act.put, p1_, p2_, p3_]
  refine tk_ (i := 13) (oi := o9_13) (v := ?vr13) (Or.inl ⟨by rfl, ?hyr13⟩) hH_ ?zr13
  case hyr13 => (intro w hSw; (try dsimp only at hSw); unfold o9_13; go_simp <;> with_reducible rfl)
  try simp only [o9_13, Act.put, p1_, p2_, p3_]
  refine tk_ (i := 14) (oi := o9_14) (v := ?vr14) (Or.inl ⟨by rfl, ?hyr14⟩) hH_ ?zr14
  case hyr14 => (intro w hSw; (try dsimp only at hSw); unfold o9_14; go_simp <;> with_reducible rfl)
  try simp only [o9_14, Act.put, p1_, p2_, p3_]
  refine tk_ (i := 15) (oi := o9_15) (v := ?vr15) (Or.inl ⟨by rfl, ?hyr15⟩) hH_ ?zr15
  case hyr15 => (intro w hSw; (try dsimp only at hSw); unfold o9_15; go_simp <;> with_reducible rfl)
  try simp only [o9_15, Act.put, p1_, p2_, p3_]
  refine tk_ (i := 16) (oi := o9_16) (v := ?vr16) (Or.inl ⟨by rfl, ?hyr16⟩) hH_ ?zr16
  case hyr16 => (intro w hSw; (try dsimp only at hSw); unfold o9_16; go_simp <;> with_reducible rfl)
  try simp only [o9_16, Act.put, p1_, p2_, p3_]
  refine tk_ (i := 17) (oi := o9_17) (v := ?vr17) (Or.inl ⟨by rfl, ?hyr17⟩) hH_ ?zr17
  case hyr17 => (intro w hSw; (try dsimp only at hSw); unfold o9_17; go_simp <;> with_reducible rfl)
  try simp only [o9_17, Act.put, p1_, p2_, p3_]
  refine tk_ (i := 18) (oi := o9_18) (v := ?vr18) (Or.inl ⟨by rfl, ?hyr18⟩) hH_ ?zr18
  case hyr18 => (intro w hSw; (try dsimp only at hSw); unfold o9_18; go_simp <;> with_reducible rfl)
  try simp only [o9_18, Act.put, p1_, p2_, p3_]
  refine tk_ (i := 19) (oi := o9_19) (v := ?vr19) (Or.inl ⟨by rfl, ?hyr19⟩) hH_ ?zr19
  case hyr19 => (intro w hSw; (try dsimp only at hSw); unfold o9_19; go_simp <;> with_reducible rfl)
  try simp only [o9_19, Act.put, p1_, p2_, p3_]
  refine tk_ (i := 20) (oi := o9_20) (v := ?vr20) (Or.inl ⟨by rfl, ?hyr20⟩) hH_ ?zr20
  case hyr20 => (intro w hSw; (try dsimp only at hSw); unfold o9_20; go_simp <;> with_reducible rfl)
  try simp only [o9_20, Act.put, p1_, p2_, p3_]
  refine tk_ (i := 21) (oi := o9_21) (v := ?vr21) (Or.inl ⟨by rfl, ?hyr21⟩) hH_ ?zr21
  case hyr21 => (intro w hSw; (try dsimp only at hSw); unfold o9_21; go_simp <;> with_reducible rfl)
  try simp only [o9_21, Act.put, p1_, p2_, p3_]
  refine tk_ (i := 22) (oi := o9_22) (v := ?vr22) (Or.inl ⟨by rfl, ?hyr22⟩) hH_ ?zr22
  case hyr22 => (intro w hSw; (try dsimp only at hSw); unfold o9_22; go_simp <;> with_reducible rfl)
  try simp only [o9_22, Act.put, p1_, p2_, p3_]
  refine tk_ (i := 23) (oi := o9_23) (v := ?vr23) (Or.inl ⟨by rfl, ?hyr23⟩) hH_ ?zr23
  case hyr23 => (intro w hSw; (try dsimp only at hSw); unfold o9_23; go_simp <;> with_reducible rfl)
  try simp only [o9_23, Act.put, p1_, p2_, p3_]
  refine tk_ (i := 24) (oi := o9_24) (v := ?vr24) (Or.inl ⟨by rfl, ?hyr24⟩) hH_ ?zr24
  case hyr24 => (intro w hSw; (try dsimp only at hSw); unfold o9_24; go_simp <;> with_reducible rfl)
  try simp only [o9_24, Act.put, p1_, p2_, p3_]
  refine tk_ (i := 25) (oi := o9_25) (v := ?vr25) (Or.inl ⟨by rfl, ?hyr25⟩) hH_ ?zr25
  case hyr25 => (intro w hSw; (try dsimp only at hSw); unfold o9_25; go_simp <;> with_reducible rfl)
  try simp only [o9_25, Act.put, p1_, p2_, p3_]
  refine tk_ (i := 26) (oi := o9_26) (v := ?vr26) (Or.inl ⟨by rfl, ?hyr26⟩) hH_ ?zr26
  case hyr26 => (intro w hSw; (try dsimp only at hSw); unfold o9_26; go_simp <;> with_reducible rfl)
  try simp only [o9_26, Act.put, p1_, p2_, p3_]
  refine tk_ (i := 27) (oi := o9_27) (v := ?vr27) (Or.inl ⟨by rfl, ?hyr27⟩) hH_ ?zr27
  case hyr27 => (intro w hSw; (try dsimp only at hSw); unfold o9_27; go_simp <;> with_reducible rfl)
  try simp only [o9_27, Act.put, p1_, p2_, p3_]
  refine tk_ (i := 28) (oi := o9_28) (v := ?vr28) (Or.inl ⟨by rfl, ?hyr28⟩) hH_ ?zr28
  case hyr28 => (intro w hSw; (try dsimp only at hSw); unfold o9_28; go_simp <;> with_reducible rfl)
  try simp only [o9_28, Act.put, p1_, p2_, p3_]
  refine tk_ (i := 29) (oi := o9_29) (v := ?vr29) (Or.inl ⟨by rfl, ?hyr29⟩) hH_ ?zr29
  case hyr29 => (intro w hSw; (try dsimp only at hSw); unfold o9_29; go_simp <;> with_reducible rfl)
  try simp only [o9_29, Act.put, p1_, p2_, p3_]
  refine tk_ (i := 30) (oi := o9_30) (v := ?vr30) (Or.inl ⟨by rfl, ?hyr30⟩) hH_ ?zr30
  case hyr30 => (intro w hSw; (try dsimp only at hSw); unfold o9_30; go_simp <;> with_reducible rfl)
  try simp only [o9_30, Act.put, p1_, p2_, p3_]
  refine tk_ (i := 31) (oi := o9_31) (v := ?vr31) (Or.inl ⟨by rfl, ?hyr31⟩) hH_ ?zr31
  case hyr31 => (intro w hSw; (try dsimp only at hSw); unfold o9_31; go_simp <;> with_reducible rfl)
  try simp only [o9_31, Act.put, p1_, p2_, p3_]
  refine tk_ (i := 32) (oi := o9_32) (v := undef) (Or.inr ⟨by rfl, rfl⟩) hH_ ?_
  try simp only [o9_32, Act.put, p1_, p2_, p3_]
  refine tk_ (i := 33) (oi := o9_33) (v := undef) (Or.inr ⟨by rfl, rfl⟩) hH_ ?_
  try simp only [o9_33, Act.put, p1_, p2_, p3_]
  refine tk_ (i := 34) (oi := o9_34) (v := undef) (Or.inr ⟨by rfl, rfl⟩) hH_ ?_
  try simp only [o9_34, Act.put, p1_, p2_, p3_]
  refine tk_ (i := 35) (oi := o9_35) (v := undef) (Or.inr ⟨by rfl, rfl⟩) hH_ ?_
  try simp only [o9_35, Act.put, p1_, p2_, p3_]
  refine tk_ (i := 36) (oi := o9_36) (v := undef) (Or.inr ⟨by rfl, rfl⟩) hH_ ?_
  try simp only [o9_36, Act.put, p1_, p2_, p3_]
  refine tk_ (i := 37) (oi := o9_37) (v := undef) (Or.inr ⟨by rfl, rfl⟩) hH_ ?_
  try simp only [o9_37, Act.put, p1_, p2_, p3_]
  refine tk_ (i := 38) (oi := o9_38) (v := ?vr38) (Or.inl ⟨by rfl, ?hyr38⟩) hH_ ?zr38
  case hyr38 => (intro w hSw; (try dsimp only at hSw); unfold o9_38; go_simp <;> with_reducible rfl)
  try simp only [o9_38, Act.put, p1_, p2_, p3_]
  refine tk_ (i := 39) (oi := o9_39) (v := ?vr39) (Or.inl ⟨by rfl, ?hyr39⟩) hH_ ?zr39
  case hyr39 => (intro w hSw; (try dsimp only at hSw); unfold o9_39; go_simp <;> with_reducible rfl)
  try simp only [o9_39, Act.put, p1_, p2_, p3_]
  refine tk_ (i := 40) (oi := o9_40) (v := ?vr40) (Or.inl ⟨by rfl, ?hyr40⟩) hH_ ?zr40
  case hyr40 => (intro w hSw; (try dsimp only at hSw); unfold o9_40; go_simp <;> with_reducible rfl)
  try simp only [o9_40, Act.put, p1_, p2_, p3_]
  refine tk_ (i := 41) (oi := o9_41) (v := ?vr41) (Or.inl ⟨by rfl, ?hyr41⟩) hH_ ?zr41
  case hyr41 => (intro w hSw; (try dsimp only at hSw); unfold o9_41; go_simp <;> with_reducible rfl)
  try simp only [o9_41, Act.put, p1_, p2_, p3_]
  refine tk_ (i := 42) (oi := o9_42) (v := ?vr42) (Or.inl ⟨by rfl, ?hyr42⟩) hH_ ?zr42
  case hyr42 => (intro w hSw; (try dsimp only at hSw); unfold o9_42; go_simp <;> with_reducible rfl)
  try simp only [o9_42, Act.put, p1_, p2_, p3_]
  refine tk_ (i := 43) (oi := o9_43) (v := ?vr43) (Or.inl ⟨by rfl, ?hyr43⟩) hH_ ?zr43
  case hyr43 => (intro w hSw; (try dsimp only at hSw); unfold o9_43; go_simp <;> with_reducible rfl)
  try simp only [o9_43, Act.put, p1_, p2_, p3_]
  refine tk_ (i := 44) (oi := o9_44) (v := undef) (Or.inr ⟨by rfl, rfl⟩) hH_ ?_
  try simp only [o9_44, Act.put, p1_, p2_, p3_]
  refine tk_ (i := 45) (oi := o9_45) (v := undef) (Or.inr ⟨by rfl, rfl⟩) hH_ ?_
  try simp only [o9_45, Act.put, p1_, p2_, p3_]
  refine tk_ (i := 46) (oi := o9_46) (v := undef) (Or.inr ⟨by rfl, rfl⟩) hH_ ?_
  try simp only [o9_46, Act.put, p1_, p2_, p3_]
  refine tk_ (i := 47) (oi := o9_47) (v := undef) (Or.inr ⟨by rfl, rfl⟩) hH_ ?_
  try simp only [o9_47, Act.put, p1_, p2_, p3_]
  refine tk_ (i := 48) (oi := o9_48) (v := undef) (Or.inr ⟨by rfl, rfl⟩) hH_ ?_
  try simp only [o9_48, Act.put, p1_, p2_, p3_]
  refine tk_ (i := 49) (oi := o9_49) (v := undef) (Or.inr ⟨by rfl, rfl⟩) hH_ ?_
  try simp only [o9_49, Act.put, p1_, p2_, p3_]
  refine tk_ (i := 50) (oi := o9_50) (v := ?vr50) (Or.inl ⟨by rfl, ?hyr50⟩) hH_ ?zr50
  case hyr50 => (intro w hSw; (try dsimp only at hSw); unfold o9_50; go_simp <;> with_reducible rfl)
  try simp only [o9_50, Act.put, p1_, p2_, p3_]
  refine tk_ (i := 51) (oi := o9_51) (v := ?vr51) (Or.inl ⟨by rfl, ?hyr51⟩) hH_ ?zr51
  case hyr51 => (intro w hSw; (try dsimp only at hSw); unfold o9_51; go_simp <;> with_reducible rfl)
  try simp only [o9_51, Act.put, p1_, p2_, p3_]
  refine wpAnyH_done (by kernel_rfl) ?_ _
  refine NoPanic.normal ?_
  have D11 := Aside0.mk (below_step D10.out K0.out)
  generalize w10.drew = w11 at D11 ⊢
  clear Sall K0 hH_ D10 V1 V2
  obtain ⟨⟨p0_, p1_, p2_, p3_⟩, ⟨i0_, i1_, i2_, i3_, i4_, i5_⟩, ⟨l0_, l1_, l2_, l3_, l4_⟩, ⟨k0_, k1_⟩⟩ := XB.out w11 D11.out
  go_wp2_with fail
  clear p0_ p1_ p2_ p3_ i0_ i1_ i2_ i3_ i4_ i5_ l0_ l1_ l2_ l3_ l4_ k0_ k1_
  refine (kgo.out _).mono ?_
  rintro e w12 ⟨rfl, hb⟩
  have D12 := Aside0.mk (below_step D11.out hb)
  clear hb
  go_wp2_with fail
  go_ret
  exact ⟨rfl, HB8.out.trans (below_weak_ D12.out HB8.out.size)⟩
set_option maxRecDepth 100000 in
set_option maxHeartbeats 6400000 in
theorem reads_tfff (A : Option Addr) (c : Nat) (l : List Int) (w : World) (hC : Kd.C (Kd.int .u8) w A l.length l) (hby : ∀ x ∈ l, IsByte x) (hlen : l.length ≤ 3000) (a0 a1 a2 : Int) (L : List S37) (ha : 0 ≤ a0 ∧ a0 < top64) (hP : eposts a0 a1 L = true) (hEl : l = epost a0 a1 a2 L) (hE : gposting l = ((a0, a1, a2, L), 0)) (hF : ginvoice l = ((0, 0, 0, 0, 0, []), 21)) (hG : glease l = ((0, 0, 0, 0, 0), 21)) (hH : gpack l = ((0, 0), 21)) :
    Calls Try.prog 7 #[.slice A l.length c] w fun e w' => e = .returned (.bool true) ∧ Below w.heap.size w w' := by
  have kp := Aside0.mk (fun w hC => Getposting_all A c l w hC hby (by omega) a0 a1 a2 0 L hE)
  have ki := Aside0.mk (fun w hC => Getinvoice_all A c l w hC hby (by omega) 0 0 0 0 0 21 [] hF)
  have kl := Aside0.mk (fun w hC => bgetl A c l.length l rfl 0 0 0 0 0 21 w hC hby (by omega) hG)
  have kk := Aside0.mk (fun w hC => bgetk A c l.length l rfl 0 0 21 w hC hby (by omega) hH)
  have kst : Aside0 (∀ W : World, Kd.C (Kd.int .u8) W A l.length l → (convert 31 9 (.slice A l.length c)).run Try.prog W = .ok (.string (strOfNums l)) W) := ⟨fun W h => Kd.C_string (P := Try.prog) (c := c) Try.underlying31 Try.underlying5 Try.underlying9 h⟩
  have kP := Aside0.mk (fun Ap cp w hC => putposting_yes a0 a1 a2 Ap cp L w hC ha.1 ha.2 hP)
  rw [← hEl] at kP
  have HLp := Aside0.mk (show L.length ≤ 50 by have := (eposts_facts hP).2.1; omega)
  have kI := Aside0.mk (fun Ai ci w hC => putinvoice_no 0 0 0 0 0 Ai ci [] w hC rfl)
  have kgo := Aside0.mk (fun w => PZ.quitrentlaw14_goes.calls true w goes_is)
  obtain ⟨SB, hSB⟩ : ∃ s, strOfNums l = s := ⟨_, rfl⟩
  rw [hSB] at kst
  have HSB := Aside0.mk hSB
  have d30 : decide ((l.length : Int) > 3000) = false := decide_eq_false (by omega)
  have d31 : ¬ (3000 < (l.length : Int)) := by omega
  have HC := Aside0.mk hC
  have HB0 := Aside0.mk (Below.refl w.heap.size w)
  have HN := Aside0.mk hlen
  clear hC hby hlen hE hF hG hH hSB ha hP hEl
  go_enter Try.func7, Try.ntmps7
  go_wp2_with fail
  clear d30 d31
  refine (kp.out w (Kd.C_below HC.out HB0.out)).mono ?_
  rintro e w1 ⟨v, rfl, hV, hb⟩
  obtain ⟨Ap, cp, ev⟩ := Kd.R_slice hV
  subst ev
  have HB1 := Aside0.mk (below_step HB0.out hb)
  clear HB0 
  have Cp1 := Aside0.mk (Kd.R_reads' hV).2.2
  have Lp := Aside0.mk (Kd.R_reads' hV).2.1
  clear hV hb
  have hal := below_alloc (Below.refl w1.heap.size w1) (Obj.cells #[.int .u64 a0, .int .i64 a1, .int .u32 a2, .slice Ap L.length cp] 26)
  have HB2 := Aside0.mk (below_step HB1.out hal)
  have Cp2 := Aside0.mk (Kd.C_below Cp1.out hal)
  have Xp2 : Aside0 (Blk (w1.alloc (Obj.cells #[.int .u64 a0, .int .i64 a1, .int .u32 a2, .slice Ap L.length cp] 26)) w1.heap.size (Obj.cells #[.int .u64 a0, .int .i64 a1, .int .u32 a2, .slice Ap L.length cp] 26 (0, 0))) := ⟨Blk.new_⟩
  go_wp2_with fail
  obtain ⟨w2, hwx⟩ : ∃ W, w1.alloc (Obj.cells #[.int .u64 a0, .int .i64 a1, .int .u32 a2, .slice Ap L.length cp] 26) = W := ⟨_, rfl⟩
  rw [hwx] at Xp2 HB2 Cp2 ⊢
  obtain ⟨bp, hbx⟩ : ∃ b, w1.heap.size = b := ⟨_, rfl⟩
  rw [hbx] at Xp2 ⊢
  clear hal hwx hbx HB1 Cp1
  refine (ki.out w2 (Kd.C_below HC.out HB2.out)).mono ?_
  rintro e w3 ⟨v, rfl, hV, hb⟩
  obtain ⟨Ai, ci, ev⟩ := Kd.R_slice hV
  subst ev
  have HB3 := Aside0.mk (below_step HB2.out hb)
  have Cp3 := Aside0.mk (Kd.C_below Cp2.out hb)
  have Xp3 := Aside0.mk (Xp2.out.below hb)
  clear HB2 Cp2 Xp2
  have Ci3 := Aside0.mk (Kd.R_reads' hV).2.2
  have Li := Aside0.mk (Kd.R_reads' hV).2.1
  clear hV hb
  have hal := below_alloc (Below.refl w3.heap.size w3) (Obj.cells #[.int .u32 0, .int .u32 0, .int .i64 0, .slice Ai 0 ci, .int .i64 0, .int .i64 0] 30)
  have HB4 := Aside0.mk (below_step HB3.out hal)
  have Cp4 := Aside0.mk (Kd.C_below Cp3.out hal)
  have Xp4 := Aside0.mk (Xp3.out.below hal)
  have Ci4 := Aside0.mk (Kd.C_below Ci3.out hal)
  have Xi4 : Aside0 (Blk (w3.alloc (Obj.cells #[.int .u32 0, .int .u32 0, .int .i64 0, .slice Ai 0 ci, .int .i64 0, .int .i64 0] 30)) w3.heap.size (Obj.cells #[.int .u32 0, .int .u32 0, .int .i64 0, .slice Ai 0 ci, .int .i64 0, .int .i64 0] 30 (0, 0))) := ⟨Blk.new_⟩
  go_wp2_with fail
  obtain ⟨w4, hwx⟩ : ∃ W, w3.alloc (Obj.cells #[.int .u32 0, .int .u32 0, .int .i64 0, .slice Ai 0 ci, .int .i64 0, .int .i64 0] 30) = W := ⟨_, rfl⟩
  rw [hwx] at Xi4 HB4 Cp4 Xp4 Ci4 ⊢
  obtain ⟨bi, hbx⟩ : ∃ b, w3.heap.size = b := ⟨_, rfl⟩
  rw [hbx] at Xi4 ⊢
  clear hal hwx hbx HB3 Cp3 Xp3 Ci3
  refine (kl.out w4 (Kd.C_below HC.out HB4.out)).mono ?_
  rintro e w5 ⟨rfl, hb⟩
  have HB5 := Aside0.mk (below_step HB4.out hb)
  have Cp5 := Aside0.mk (Kd.C_below Cp4.out hb)
  have Xp5 := Aside0.mk (Xp4.out.below hb)
  have Ci5 := Aside0.mk (Kd.C_below Ci4.out hb)
  have Xi5 := Aside0.mk (Xi4.out.below hb)
  clear HB4 Cp4 Xp4 Ci4 Xi4
  clear hb
  have hal := below_alloc (Below.refl w5.heap.size w5) (Obj.cells #[.int .u32 0, .int .i64 0, .int .i64 0, .int .i64 0, .int .i64 0] 40)
  have HB6 := Aside0.mk (below_step HB5.out hal)
  have Cp6 := Aside0.mk (Kd.C_below Cp5.out hal)
  have Xp6 := Aside0.mk (Xp5.out.below hal)
  have Ci6 := Aside0.mk (Kd.C_below Ci5.out hal)
  have Xi6 := Aside0.mk (Xi5.out.below hal)
  have Xl6 : Aside0 (Blk (w5.alloc (Obj.cells #[.int .u32 0, .int .i64 0, .int .i64 0, .int .i64 0, .int .i64 0] 40)) w5.heap.size (Obj.cells #[.int .u32 0, .int .i64 0, .int .i64 0, .int .i64 0, .int .i64 0] 40 (0, 0))) := ⟨Blk.new_⟩
  go_wp2_with fail
  obtain ⟨w6, hwx⟩ : ∃ W, w5.alloc (Obj.cells #[.int .u32 0, .int .i64 0, .int .i64 0, .int .i64 0, .int .i64 0] 40) = W := ⟨_, rfl⟩
  rw [hwx] at Xl6 HB6 Cp6 Xp6 Ci6 Xi6 ⊢
  obtain ⟨bl, hbx⟩ : ∃ b, w5.heap.size = b := ⟨_, rfl⟩
  rw [hbx] at Xl6 ⊢
  clear hal hwx hbx HB5 Cp5 Xp5 Ci5 Xi5
  refine (kk.out w6 (Kd.C_below HC.out HB6.out)).mono ?_
  rintro e w7 ⟨rfl, hb⟩
  have HB7 := Aside0.mk (below_step HB6.out hb)
  have Cp7 := Aside0.mk (Kd.C_below Cp6.out hb)
  have Xp7 := Aside0.mk (Xp6.out.below hb)
  have Ci7 := Aside0.mk (Kd.C_below Ci6.out hb)
  have Xi7 := Aside0.mk (Xi6.out.below hb)
  have Xl7 := Aside0.mk (Xl6.out.below hb)
  clear HB6 Cp6 Xp6 Ci6 Xi6 Xl6
  clear hb
  have hal := below_alloc (Below.refl w7.heap.size w7) (Obj.cells #[.int .u32 0, .int .i64 0] 42)
  have HB8 := Aside0.mk (below_step HB7.out hal)
  have Cp8 := Aside0.mk (Kd.C_below Cp7.out hal)
  have Xp8 := Aside0.mk (Xp7.out.below hal)
  have Ci8 := Aside0.mk (Kd.C_below Ci7.out hal)
  have Xi8 := Aside0.mk (Xi7.out.below hal)
  have Xl8 := Aside0.mk (Xl7.out.below hal)
  have Xk8 : Aside0 (Blk (w7.alloc (Obj.cells #[.int .u32 0, .int .i64 0] 42)) w7.heap.size (Obj.cells #[.int .u32 0, .int .i64 0] 42 (0, 0))) := ⟨Blk.new_⟩
  have cz : (w7.alloc (Obj.cells #[.int .u32 0, .int .i64 0] 42)).cell? ⟨bp, 0, none⟩ = some (.int .u64 a0) ∧ (w7.alloc (Obj.cells #[.int .u32 0, .int .i64 0] 42)).cell? ⟨bp, 1, none⟩ = some (.int .i64 a1) ∧ (w7.alloc (Obj.cells #[.int .u32 0, .int .i64 0] 42)).cell? ⟨bp, 2, none⟩ = some (.int .u32 a2) ∧ (w7.alloc (Obj.cells #[.int .u32 0, .int .i64 0] 42)).cell? ⟨bp, 3, none⟩ = some (.slice Ap L.length cp) := ⟨(Xp8.out.cell 0).trans rfl, (Xp8.out.cell 1).trans rfl, (Xp8.out.cell 2).trans rfl, (Xp8.out.cell 3).trans rfl⟩
  obtain ⟨p0_, p1_, p2_, p3_⟩ := cz
  go_wp2_with fail
  clear p0_ p1_ p2_ p3_
  obtain ⟨w8, hwx⟩ : ∃ W, w7.alloc (Obj.cells #[.int .u32 0, .int .i64 0] 42) = W := ⟨_, rfl⟩
  rw [hwx] at Xk8 HB8 Cp8 Xp8 Ci8 Xi8 Xl8 ⊢
  obtain ⟨bk, hbx⟩ : ∃ b, w7.heap.size = b := ⟨_, rfl⟩
  rw [hbx] at Xk8 ⊢
  clear hal hwx hbx HB7 Cp7 Xp7 Ci7 Xi7 Xl7
  have XB : Aside0 (∀ W : World, Below w8.heap.size w8 W → (W.cell? ⟨bp, 0, none⟩ = some (.int .u64 a0) ∧ W.cell? ⟨bp, 1, none⟩ = some (.int .i64 a1) ∧ W.cell? ⟨bp, 2, none⟩ = some (.int .u32 a2) ∧ W.cell? ⟨bp, 3, none⟩ = some (.slice Ap L.length cp)) ∧ (W.cell? ⟨bi, 0, none⟩ = some (.int .u32 0) ∧ W.cell? ⟨bi, 1, none⟩ = some (.int .u32 0) ∧ W.cell? ⟨bi, 2, none⟩ = some (.int .i64 0) ∧ W.cell? ⟨bi, 3, none⟩ = some (.slice Ai 0 ci) ∧ W.cell? ⟨bi, 4, none⟩ = some (.int .i64 0) ∧ W.cell? ⟨bi, 5, none⟩ = some (.int .i64 0)) ∧ (W.cell? ⟨bl, 0, none⟩ = some (.int .u32 0) ∧ W.cell? ⟨bl, 1, none⟩ = some (.int .i64 0) ∧ W.cell? ⟨bl, 2, none⟩ = some (.int .i64 0) ∧ W.cell? ⟨bl, 3, none⟩ = some (.int .i64 0) ∧ W.cell? ⟨bl, 4, none⟩ = some (.int .i64 0)) ∧ (W.cell? ⟨bk, 0, none⟩ = some (.int .u32 0) ∧ W.cell? ⟨bk, 1, none⟩ = some (.int .i64 0))) := ⟨fun W hW => by
    have Yp := Xp8.out.below hW
    have Yi := Xi8.out.below hW
    have Yl := Xl8.out.below hW
    have Yk := Xk8.out.below hW
    exact ⟨⟨(Yp.cell 0).trans rfl, (Yp.cell 1).trans rfl, (Yp.cell 2).trans rfl, (Yp.cell 3).trans rfl⟩, ⟨(Yi.cell 0).trans rfl, (Yi.cell 1).trans rfl, (Yi.cell 2).trans rfl, (Yi.cell 3).trans rfl, (Yi.cell 4).trans rfl, (Yi.cell 5).trans rfl⟩, ⟨(Yl.cell 0).trans rfl, (Yl.cell 1).trans rfl, (Yl.cell 2).trans rfl, (Yl.cell 3).trans rfl, (Yl.cell 4).trans rfl⟩, ⟨(Yk.cell 0).trans rfl, (Yk.cell 1).trans rfl⟩⟩⟩
  have HCn := Aside0.mk (Kd.C_below HC.out HB8.out)
  have D8 := Aside0.mk (Below.refl w8.heap.size w8)
  clear Xp8 Xi8 Xl8 Xk8 HC
  refine (kP.out Ap cp w8 Cp8.out).mono ?_
  rintro e w9 ⟨v1, rfl, hV, hb⟩
  have D9 := Aside0.mk hb
  have V1 := Aside0.mk hV
  clear hV hb D8
  obtain ⟨_, ⟨i0_, i1_, i2_, i3_, i4_, i5_⟩, _⟩ := XB.out w9 D9.out
  go_wp2_with fail
  clear i0_ i1_ i2_ i3_ i4_ i5_
  refine (kI.out Ai ci w9 (Kd.C_below Ci8.out D9.out)).mono ?_
  rintro e w10 ⟨rfl, hb⟩
  have D10 := Aside0.mk (below_step D9.out hb)
  have V1' := Aside0.mk (Kd.R_below V1.out hb)
  clear V1
  have V1 := V1'
  clear V1'
  clear hb D9
  go_wp2_with fail
  have Sall : Aside0 (∀ W : World, Below w10.heap.size w10 W → (convert 31 9 (.slice A l.length c)).run Try.prog W = .ok (.string SB) W ∧ (convert 31 9 v1).run Try.prog W = .ok (.string SB) W) := ⟨fun W hW => ⟨kst.out W (Kd.C_below HCn.out (D10.out.trans (below_weak_ hW D10.out.size))), by have h1 := r_str (Kd.R_below V1.out hW); rw [HSB.out] at h1; exact h1⟩⟩
  have K0 := Aside0.mk (below_drew (Below.refl w10.heap.size w10))
  refine wp_region_noPanic ?_
  refine wp_region_held_drew (S := fun W : World => (convert 31 9 (.slice A l.length c)).run Try.prog W = .ok (.string SB) W ∧ (convert 31 9 v1).run Try.prog W = .ok (.string SB) W) (by kernel_rfl) ?_ (fun hH_ => ?_)
  · exact Sall.out _ K0.out
  refine tk_ (i := 0) (oi := o9_0) (v := ?vr0) (Or.inl ⟨by rfl, ?hyr0⟩) hH_ ?zr0
  case hyr0 => (intro w hSw; (try dsimp only at hSw); unfold o9_0; go_simp <;> with_reducible rfl)
  try simp only [o9_0, Act.put, p1_, p2_, p3_]
  refine tk_ (i := 1) (oi := o9_1) (v := ?vr1) (Or.inl ⟨by rfl, ?hyr1⟩) hH_ ?zr1
  case hyr1 => (intro w hSw; (try dsimp only at hSw); unfold o9_1; go_simp <;> with_reducible rfl)
  try simp only [o9_1, Act.put, p1_, p2_, p3_]
  refine tk_ (i := 2) (oi := o9_2) (v := ?vr2) (Or.inl ⟨by rfl, ?hyr2⟩) hH_ ?zr2
  case hyr2 => (intro w hSw; (try dsimp only at hSw); unfold o9_2; go_simp <;> with_reducible rfl)
  try simp only [o9_2, Act.put, p1_, p2_, p3_]
  refine tk_ (i := 3) (oi := o9_3) (v := ?vr3) (Or.inl ⟨by rfl, ?hyr3⟩) hH_ ?zr3
  case hyr3 => (intro w hSw; (try dsimp only at hSw); unfold o9_3; go_simp <;> with_reducible rfl)
  try simp only [o9_3, Act.put, p1_, p2_, p3_]
  refine tk_ (i := 4) (oi := o9_4) (v := ?vr4) (Or.inl ⟨by rfl, ?hyr4⟩) hH_ ?zr4
  case hyr4 => (intro w hSw; (try dsimp only at hSw); unfold o9_4; go_simp <;> with_reducible rfl)
  try simp only [o9_4, Act.put, p1_, p2_, p3_]
  refine tk_ (i := 5) (oi := o9_5) (v := ?vr5) (Or.inl ⟨by rfl, ?hyr5⟩) hH_ ?zr5
  case hyr5 => (intro w hSw; (try dsimp only at hSw); unfold o9_5; go_simp <;> with_reducible rfl)
  try simp only [o9_5, Act.put, p1_, p2_, p3_]
  refine tk_ (i := 6) (oi := o9_6) (v := ?vr6) (Or.inl ⟨by rfl, ?hyr6⟩) hH_ ?zr6
  case hyr6 => (intro w hSw; (try dsimp only at hSw); unfold o9_6; go_simp <;> with_reducible rfl)
  try simp only [o9_6, Act.put, p1_, p2_, p3_]
  refine tk_ (i := 7) (oi := o9_7) (v := ?vr7) (Or.inl ⟨by rfl, ?hyr7⟩) hH_ ?zr7
  case hyr7 => (intro w hSw; (try dsimp only at hSw); unfold o9_7; go_simp <;> with_reducible rfl)
  try simp only [o9_7, Act.put, p1_, p2_, p3_]
  refine tk_ (i := 8) (oi := o9_8) (v := ?vr8) (Or.inl ⟨by rfl, ?hyr8⟩) hH_ ?zr8
  case hyr8 => (intro w hSw; (try dsimp only at hSw); unfold o9_8; go_simp <;> with_reducible rfl)
  try simp only [o9_8, Act.put, p1_, p2_, p3_]
  refine tk_ (i := 9) (oi := o9_9) (v := ?vr9) (Or.inl ⟨by rfl, ?hyr9⟩) hH_ ?zr9
  case hyr9 => (intro w hSw; (try dsimp only at hSw); unfold o9_9; go_simp <;> with_reducible rfl)
  try simp only [o9_9, Act.put, p1_, p2_, p3_]
  refine tk_ (i := 10) (oi := o9_10) (v := ?vr10) (Or.inl ⟨by rfl, ?hyr10⟩) hH_ ?zr10
  case hyr10 => (intro w hSw; (try dsimp only at hSw); unfold o9_10; go_simp <;> with_reducible rfl)
  try simp only [o9_10, Act.put, p1_, p2_, p3_]
  refine tk_ (i := 11) (oi := o9_11) (v := ?vr11) (Or.inl ⟨by rfl, ?hyr11⟩) hH_ ?zr11
  case hyr11 => (intro w hSw; (try dsimp only at hSw); unfold o9_11; go_simp <;> with_reducible rfl)
  try simp only [o9_11, Act.put, p1_, p2_, p3_]
  refine tk_ (i := 12) (oi := o9_12) (v := ?vr12) (Or.inl ⟨by rfl, ?hyr12⟩) hH_ ?zr12
  case hyr12 => (intro w hSw; (try dsimp only at hSw); unfold o9_12; go_simp <;> with_reducible rfl)
  try simp only [o9_12, Act.put, p1_, p2_, p3_]
  refine tk_ (i := 13) (oi := o9_13) (v := ?vr13) (Or.inl ⟨by rfl, ?hyr13⟩) hH_ ?zr13
  case hyr13 => (intro w hSw; (try dsimp only at hSw); unfold o9_13; go_simp <;> with_reducible rfl)
  try simp only [o9_13, Act.put, p1_, p2_, p3_]
  refine tk_ (i := 14) (oi := o9_14) (v := ?vr14) (Or.inl ⟨by rfl, ?hyr14⟩) hH_ ?zr14
  case hyr14 => (intro w hSw; (try dsimp only at hSw); unfold o9_14; go_simp <;> with_reducible rfl)
  try simp only [o9_14, Act.put, p1_, p2_, p3_]
  refine tk_ (i := 15) (oi := o9_15) (v := ?vr15) (Or.inl ⟨by rfl, ?hyr15⟩) hH_ ?zr15
  case hyr15 => (intro w hSw; (try dsimp only at hSw); unfold o9_15; go_simp <;> with_reducible rfl)
  try simp only [o9_15, Act.put, p1_, p2_, p3_]
  refine tk_ (i := 16) (oi := o9_16) (v := ?vr16) (Or.inl ⟨by rfl, ?hyr16⟩) hH_ ?zr16
  case hyr16 => (intro w hSw; (try dsimp only at hSw); unfold o9_16; go_simp <;> with_reducible rfl)
  try simp only [o9_16, Act.put, p1_, p2_, p3_]
  refine tk_ (i := 17) (oi := o9_17) (v := undef) (Or.inr ⟨by rfl, rfl⟩) hH_ ?_
  try simp only [o9_17, Act.put, p1_, p2_, p3_]
  refine tk_ (i := 18) (oi := o9_18) (v := undef) (Or.inr ⟨by rfl, rfl⟩) hH_ ?_
  try simp only [o9_18, Act.put, p1_, p2_, p3_]
  refine tk_ (i := 19) (oi := o9_19) (v := undef) (Or.inr ⟨by rfl, rfl⟩) hH_ ?_
  try simp only [o9_19, Act.put, p1_, p2_, p3_]
  refine tk_ (i := 20) (oi := o9_20) (v := undef) (Or.inr ⟨by rfl, rfl⟩) hH_ ?_
  try simp only [o9_20, Act.put, p1_, p2_, p3_]
  refine tk_ (i := 21) (oi := o9_21) (v := undef) (Or.inr ⟨by rfl, rfl⟩) hH_ ?_
  try simp only [o9_21, Act.put, p1_, p2_, p3_]
  refine tk_ (i := 22) (oi := o9_22) (v := undef) (Or.inr ⟨by rfl, rfl⟩) hH_ ?_
  try simp only [o9_22, Act.put, p1_, p2_, p3_]
  refine tk_ (i := 23) (oi := o9_23) (v := undef) (Or.inr ⟨by rfl, rfl⟩) hH_ ?_
  try simp only [o9_23, Act.put, p1_, p2_, p3_]
  refine tk_ (i := 24) (oi := o9_24) (v := undef) (Or.inr ⟨by rfl, rfl⟩) hH_ ?_
  try simp only [o9_24, Act.put, p1_, p2_, p3_]
  refine tk_ (i := 25) (oi := o9_25) (v := undef) (Or.inr ⟨by rfl, rfl⟩) hH_ ?_
  try simp only [o9_25, Act.put, p1_, p2_, p3_]
  refine tk_ (i := 26) (oi := o9_26) (v := ?vr26) (Or.inl ⟨by rfl, ?hyr26⟩) hH_ ?zr26
  case hyr26 => (intro w hSw; (try dsimp only at hSw); unfold o9_26; go_simp <;> with_reducible rfl)
  try simp only [o9_26, Act.put, p1_, p2_, p3_]
  refine tk_ (i := 27) (oi := o9_27) (v := ?vr27) (Or.inl ⟨by rfl, ?hyr27⟩) hH_ ?zr27
  case hyr27 => (intro w hSw; (try dsimp only at hSw); unfold o9_27; go_simp <;> with_reducible rfl)
  try simp only [o9_27, Act.put, p1_, p2_, p3_]
  refine tk_ (i := 28) (oi := o9_28) (v := ?vr28) (Or.inl ⟨by rfl, ?hyr28⟩) hH_ ?zr28
  case hyr28 => (intro w hSw; (try dsimp only at hSw); unfold o9_28; go_simp <;> with_reducible rfl)
  try simp only [o9_28, Act.put, p1_, p2_, p3_]
  refine tk_ (i := 29) (oi := o9_29) (v := ?vr29) (Or.inl ⟨by rfl, ?hyr29⟩) hH_ ?zr29
  case hyr29 => (intro w hSw; (try dsimp only at hSw); unfold o9_29; go_simp <;> with_reducible rfl)
  try simp only [o9_29, Act.put, p1_, p2_, p3_]
  refine tk_ (i := 30) (oi := o9_30) (v := ?vr30) (Or.inl ⟨by rfl, ?hyr30⟩) hH_ ?zr30
  case hyr30 => (intro w hSw; (try dsimp only at hSw); unfold o9_30; go_simp <;> with_reducible rfl)
  try simp only [o9_30, Act.put, p1_, p2_, p3_]
  refine tk_ (i := 31) (oi := o9_31) (v := ?vr31) (Or.inl ⟨by rfl, ?hyr31⟩) hH_ ?zr31
  case hyr31 => (intro w hSw; (try dsimp only at hSw); unfold o9_31; go_simp <;> with_reducible rfl)
  try simp only [o9_31, Act.put, p1_, p2_, p3_]
  refine tk_ (i := 32) (oi := o9_32) (v := undef) (Or.inr ⟨by rfl, rfl⟩) hH_ ?_
  try simp only [o9_32, Act.put, p1_, p2_, p3_]
  refine tk_ (i := 33) (oi := o9_33) (v := undef) (Or.inr ⟨by rfl, rfl⟩) hH_ ?_
  try simp only [o9_33, Act.put, p1_, p2_, p3_]
  refine tk_ (i := 34) (oi := o9_34) (v := undef) (Or.inr ⟨by rfl, rfl⟩) hH_ ?_
  try simp only [o9_34, Act.put, p1_, p2_, p3_]
  refine tk_ (i := 35) (oi := o9_35) (v := undef) (Or.inr ⟨by rfl, rfl⟩) hH_ ?_
  try simp only [o9_35, Act.put, p1_, p2_, p3_]
  refine tk_ (i := 36) (oi := o9_36) (v := undef) (Or.inr ⟨by rfl, rfl⟩) hH_ ?_
  try simp only [o9_36, Act.put, p1_, p2_, p3_]
  refine tk_ (i := 37) (oi := o9_37) (v := undef) (Or.inr ⟨by rfl, rfl⟩) hH_ ?_
  try simp only [o9_37, Act.put, p1_, p2_, p3_]
  refine tk_ (i := 38) (oi := o9_38) (v := ?vr38) (Or.inl ⟨by rfl, ?hyr38⟩) hH_ ?zr38
  case hyr38 => (intro w hSw; (try dsimp only at hSw); unfold o9_38; go_simp <;> with_reducible rfl)
  try simp only [o9_38, Act.put, p1_, p2_, p3_]
  refine tk_ (i := 39) (oi := o9_39) (v := ?vr39) (Or.inl ⟨by rfl, ?hyr39⟩) hH_ ?zr39
  case hyr39 => (intro w hSw; (try dsimp only at hSw); unfold o9_39; go_simp <;> with_reducible rfl)
  try simp only [o9_39, Act.put, p1_, p2_, p3_]
  refine tk_ (i := 40) (oi := o9_40) (v := ?vr40) (Or.inl ⟨by rfl, ?hyr40⟩) hH_ ?zr40
  case hyr40 => (intro w hSw; (try dsimp only at hSw); unfold o9_40; go_simp <;> with_reducible rfl)
  try simp only [o9_40, Act.put, p1_, p2_, p3_]
  refine tk_ (i := 41) (oi := o9_41) (v := ?vr41) (Or.inl ⟨by rfl, ?hyr41⟩) hH_ ?zr41
  case hyr41 => (intro w hSw; (try dsimp only at hSw); unfold o9_41; go_simp <;> with_reducible rfl)
  try simp only [o9_41, Act.put, p1_, p2_, p3_]
  refine tk_ (i := 42) (oi := o9_42) (v := ?vr42) (Or.inl ⟨by rfl, ?hyr42⟩) hH_ ?zr42
  case hyr42 => (intro w hSw; (try dsimp only at hSw); unfold o9_42; go_simp <;> with_reducible rfl)
  try simp only [o9_42, Act.put, p1_, p2_, p3_]
  refine tk_ (i := 43) (oi := o9_43) (v := ?vr43) (Or.inl ⟨by rfl, ?hyr43⟩) hH_ ?zr43
  case hyr43 => (intro w hSw; (try dsimp only at hSw); unfold o9_43; go_simp <;> with_reducible rfl)
  try simp only [o9_43, Act.put, p1_, p2_, p3_]
  refine tk_ (i := 44) (oi := o9_44) (v := undef) (Or.inr ⟨by rfl, rfl⟩) hH_ ?_
  try simp only [o9_44, Act.put, p1_, p2_, p3_]
  refine tk_ (i := 45) (oi := o9_45) (v := undef) (Or.inr ⟨by rfl, rfl⟩) hH_ ?_
  try simp only [o9_45, Act.put, p1_, p2_, p3_]
  refine tk_ (i := 46) (oi := o9_46) (v := undef) (Or.inr ⟨by rfl, rfl⟩) hH_ ?_
  try simp only [o9_46, Act.put, p1_, p2_, p3_]
  refine tk_ (i := 47) (oi := o9_47) (v := undef) (Or.inr ⟨by rfl, rfl⟩) hH_ ?_
  try simp only [o9_47, Act.put, p1_, p2_, p3_]
  refine tk_ (i := 48) (oi := o9_48) (v := undef) (Or.inr ⟨by rfl, rfl⟩) hH_ ?_
  try simp only [o9_48, Act.put, p1_, p2_, p3_]
  refine tk_ (i := 49) (oi := o9_49) (v := undef) (Or.inr ⟨by rfl, rfl⟩) hH_ ?_
  try simp only [o9_49, Act.put, p1_, p2_, p3_]
  refine tk_ (i := 50) (oi := o9_50) (v := ?vr50) (Or.inl ⟨by rfl, ?hyr50⟩) hH_ ?zr50
  case hyr50 => (intro w hSw; (try dsimp only at hSw); unfold o9_50; go_simp <;> with_reducible rfl)
  try simp only [o9_50, Act.put, p1_, p2_, p3_]
  refine tk_ (i := 51) (oi := o9_51) (v := ?vr51) (Or.inl ⟨by rfl, ?hyr51⟩) hH_ ?zr51
  case hyr51 => (intro w hSw; (try dsimp only at hSw); unfold o9_51; go_simp <;> with_reducible rfl)
  try simp only [o9_51, Act.put, p1_, p2_, p3_]
  refine wpAnyH_done (by kernel_rfl) ?_ _
  refine NoPanic.normal ?_
  have D11 := Aside0.mk (below_step D10.out K0.out)
  generalize w10.drew = w11 at D11 ⊢
  clear Sall K0 hH_ D10 V1
  obtain ⟨⟨p0_, p1_, p2_, p3_⟩, ⟨i0_, i1_, i2_, i3_, i4_, i5_⟩, ⟨l0_, l1_, l2_, l3_, l4_⟩, ⟨k0_, k1_⟩⟩ := XB.out w11 D11.out
  go_wp2_with fail
  clear p0_ p1_ p2_ p3_ i0_ i1_ i2_ i3_ i4_ i5_ l0_ l1_ l2_ l3_ l4_ k0_ k1_
  refine (isame_calls 0 0 0 0 0 Ai none ci 0 [] w11 (by simp) (Kd.C_below Ci8.out D11.out) Li.out (Kd.C_nil _ _) (Nat.le_refl _)).mono ?_
  rintro e w12 ⟨rfl, hb⟩
  have D12 := Aside0.mk (below_step D11.out hb)
  clear hb
  obtain ⟨⟨p0_, p1_, p2_, p3_⟩, ⟨i0_, i1_, i2_, i3_, i4_, i5_⟩, ⟨l0_, l1_, l2_, l3_, l4_⟩, ⟨k0_, k1_⟩⟩ := XB.out w12 D12.out
  go_wp2_with fail
  clear p0_ p1_ p2_ p3_ i0_ i1_ i2_ i3_ i4_ i5_ l0_ l1_ l2_ l3_ l4_ k0_ k1_
  refine (kgo.out _).mono ?_
  rintro e w13 ⟨rfl, hb⟩
  have D13 := Aside0.mk (below_step D12.out hb)
  clear hb
  go_wp2_with fail
  go_ret
  exact ⟨rfl, HB8.out.trans (below_weak_ D13.out HB8.out.size)⟩
set_option maxRecDepth 100000 in
set_option maxHeartbeats 6400000 in
theorem reads_ftff (A : Option Addr) (c : Nat) (l : List Int) (w : World) (hC : Kd.C (Kd.int .u8) w A l.length l) (hby : ∀ x ∈ l, IsByte x) (hlen : l.length ≤ 3000) (b0 b1 b2 b4 b5 : Int) (M : List S53) (hI : ebills b0 b1 b4 b5 M = true) (hFl : l = einv b0 b1 b2 b4 b5 M) (hE : gposting l = ((0, 0, 0, []), 21)) (hF : ginvoice l = ((b0, b1, b2, b4, b5, M), 0)) (hG : glease l = ((0, 0, 0, 0, 0), 21)) (hH : gpack l = ((0, 0), 21)) :
    Calls Try.prog 7 #[.slice A l.length c] w fun e w' => e = .returned (.bool true) ∧ Below w.heap.size w w' := by
  have kp := Aside0.mk (fun w hC => Getposting_all A c l w hC hby (by omega) 0 0 0 21 [] hE)
  have ki := Aside0.mk (fun w hC => Getinvoice_all A c l w hC hby (by omega) b0 b1 b2 b4 b5 0 M hF)
  have kl := Aside0.mk (fun w hC => bgetl A c l.length l rfl 0 0 0 0 0 21 w hC hby (by omega) hG)
  have kk := Aside0.mk (fun w hC => bgetk A c l.length l rfl 0 0 21 w hC hby (by omega) hH)
  have kst : Aside0 (∀ W : World, Kd.C (Kd.int .u8) W A l.length l → (convert 31 9 (.slice A l.length c)).run Try.prog W = .ok (.string (strOfNums l)) W) := ⟨fun W h => Kd.C_string (P := Try.prog) (c := c) Try.underlying31 Try.underlying5 Try.underlying9 h⟩
  have kP := Aside0.mk (fun Ap cp w hC => putposting_no 0 0 0 Ap cp [] w hC rfl)
  have kI := Aside0.mk (fun Ai ci w hC => putinvoice_yes b0 b1 b2 b4 b5 Ai ci M w hC hI)
  rw [← hFl] at kI
  have kgo := Aside0.mk (fun w => PZ.quitrentlaw14_goes.calls true w goes_is)
  obtain ⟨SB, hSB⟩ : ∃ s, strOfNums l = s := ⟨_, rfl⟩
  rw [hSB] at kst
  have HSB := Aside0.mk hSB
  have d30 : decide ((l.length : Int) > 3000) = false := decide_eq_false (by omega)
  have d31 : ¬ (3000 < (l.length : Int)) := by omega
  have HC := Aside0.mk hC
  have HB0 := Aside0.mk (Below.refl w.heap.size w)
  have HN := Aside0.mk hlen
  clear hC hby hlen hE hF hG hH hSB hI hFl
  go_enter Try.func7, Try.ntmps7
  go_wp2_with fail
  clear d30 d31
  refine (kp.out w (Kd.C_below HC.out HB0.out)).mono ?_
  rintro e w1 ⟨v, rfl, hV, hb⟩
  obtain ⟨Ap, cp, ev⟩ := Kd.R_slice hV
  subst ev
  have HB1 := Aside0.mk (below_step HB0.out hb)
  clear HB0 
  have Cp1 := Aside0.mk (Kd.R_reads' hV).2.2
  have Lp := Aside0.mk (Kd.R_reads' hV).2.1
  clear hV hb
  have hal := below_alloc (Below.refl w1.heap.size w1) (Obj.cells #[.int .u64 0, .int .i64 0, .int .u32 0, .slice Ap 0 cp] 26)
  have HB2 := Aside0.mk (below_step HB1.out hal)
  have Cp2 := Aside0.mk (Kd.C_below Cp1.out hal)
  have Xp2 : Aside0 (Blk (w1.alloc (Obj.cells #[.int .u64 0, .int .i64 0, .int .u32 0, .slice Ap 0 cp] 26)) w1.heap.size (Obj.cells #[.int .u64 0, .int .i64 0, .int .u32 0, .slice Ap 0 cp] 26 (0, 0))) := ⟨Blk.new_⟩
  go_wp2_with fail
  obtain ⟨w2, hwx⟩ : ∃ W, w1.alloc (Obj.cells #[.int .u64 0, .int .i64 0, .int .u32 0, .slice Ap 0 cp] 26) = W := ⟨_, rfl⟩
  rw [hwx] at Xp2 HB2 Cp2 ⊢
  obtain ⟨bp, hbx⟩ : ∃ b, w1.heap.size = b := ⟨_, rfl⟩
  rw [hbx] at Xp2 ⊢
  clear hal hwx hbx HB1 Cp1
  refine (ki.out w2 (Kd.C_below HC.out HB2.out)).mono ?_
  rintro e w3 ⟨v, rfl, hV, hb⟩
  obtain ⟨Ai, ci, ev⟩ := Kd.R_slice hV
  subst ev
  have HB3 := Aside0.mk (below_step HB2.out hb)
  have Cp3 := Aside0.mk (Kd.C_below Cp2.out hb)
  have Xp3 := Aside0.mk (Xp2.out.below hb)
  clear HB2 Cp2 Xp2
  have Ci3 := Aside0.mk (Kd.R_reads' hV).2.2
  have Li := Aside0.mk (Kd.R_reads' hV).2.1
  clear hV hb
  have hal := below_alloc (Below.refl w3.heap.size w3) (Obj.cells #[.int .u32 b0, .int .u32 b1, .int .i64 b2, .slice Ai M.length ci, .int .i64 b4, .int .i64 b5] 30)
  have HB4 := Aside0.mk (below_step HB3.out hal)
  have Cp4 := Aside0.mk (Kd.C_below Cp3.out hal)
  have Xp4 := Aside0.mk (Xp3.out.below hal)
  have Ci4 := Aside0.mk (Kd.C_below Ci3.out hal)
  have Xi4 : Aside0 (Blk (w3.alloc (Obj.cells #[.int .u32 b0, .int .u32 b1, .int .i64 b2, .slice Ai M.length ci, .int .i64 b4, .int .i64 b5] 30)) w3.heap.size (Obj.cells #[.int .u32 b0, .int .u32 b1, .int .i64 b2, .slice Ai M.length ci, .int .i64 b4, .int .i64 b5] 30 (0, 0))) := ⟨Blk.new_⟩
  go_wp2_with fail
  obtain ⟨w4, hwx⟩ : ∃ W, w3.alloc (Obj.cells #[.int .u32 b0, .int .u32 b1, .int .i64 b2, .slice Ai M.length ci, .int .i64 b4, .int .i64 b5] 30) = W := ⟨_, rfl⟩
  rw [hwx] at Xi4 HB4 Cp4 Xp4 Ci4 ⊢
  obtain ⟨bi, hbx⟩ : ∃ b, w3.heap.size = b := ⟨_, rfl⟩
  rw [hbx] at Xi4 ⊢
  clear hal hwx hbx HB3 Cp3 Xp3 Ci3
  refine (kl.out w4 (Kd.C_below HC.out HB4.out)).mono ?_
  rintro e w5 ⟨rfl, hb⟩
  have HB5 := Aside0.mk (below_step HB4.out hb)
  have Cp5 := Aside0.mk (Kd.C_below Cp4.out hb)
  have Xp5 := Aside0.mk (Xp4.out.below hb)
  have Ci5 := Aside0.mk (Kd.C_below Ci4.out hb)
  have Xi5 := Aside0.mk (Xi4.out.below hb)
  clear HB4 Cp4 Xp4 Ci4 Xi4
  clear hb
  have hal := below_alloc (Below.refl w5.heap.size w5) (Obj.cells #[.int .u32 0, .int .i64 0, .int .i64 0, .int .i64 0, .int .i64 0] 40)
  have HB6 := Aside0.mk (below_step HB5.out hal)
  have Cp6 := Aside0.mk (Kd.C_below Cp5.out hal)
  have Xp6 := Aside0.mk (Xp5.out.below hal)
  have Ci6 := Aside0.mk (Kd.C_below Ci5.out hal)
  have Xi6 := Aside0.mk (Xi5.out.below hal)
  have Xl6 : Aside0 (Blk (w5.alloc (Obj.cells #[.int .u32 0, .int .i64 0, .int .i64 0, .int .i64 0, .int .i64 0] 40)) w5.heap.size (Obj.cells #[.int .u32 0, .int .i64 0, .int .i64 0, .int .i64 0, .int .i64 0] 40 (0, 0))) := ⟨Blk.new_⟩
  go_wp2_with fail
  obtain ⟨w6, hwx⟩ : ∃ W, w5.alloc (Obj.cells #[.int .u32 0, .int .i64 0, .int .i64 0, .int .i64 0, .int .i64 0] 40) = W := ⟨_, rfl⟩
  rw [hwx] at Xl6 HB6 Cp6 Xp6 Ci6 Xi6 ⊢
  obtain ⟨bl, hbx⟩ : ∃ b, w5.heap.size = b := ⟨_, rfl⟩
  rw [hbx] at Xl6 ⊢
  clear hal hwx hbx HB5 Cp5 Xp5 Ci5 Xi5
  refine (kk.out w6 (Kd.C_below HC.out HB6.out)).mono ?_
  rintro e w7 ⟨rfl, hb⟩
  have HB7 := Aside0.mk (below_step HB6.out hb)
  have Cp7 := Aside0.mk (Kd.C_below Cp6.out hb)
  have Xp7 := Aside0.mk (Xp6.out.below hb)
  have Ci7 := Aside0.mk (Kd.C_below Ci6.out hb)
  have Xi7 := Aside0.mk (Xi6.out.below hb)
  have Xl7 := Aside0.mk (Xl6.out.below hb)
  clear HB6 Cp6 Xp6 Ci6 Xi6 Xl6
  clear hb
  have hal := below_alloc (Below.refl w7.heap.size w7) (Obj.cells #[.int .u32 0, .int .i64 0] 42)
  have HB8 := Aside0.mk (below_step HB7.out hal)
  have Cp8 := Aside0.mk (Kd.C_below Cp7.out hal)
  have Xp8 := Aside0.mk (Xp7.out.below hal)
  have Ci8 := Aside0.mk (Kd.C_below Ci7.out hal)
  have Xi8 := Aside0.mk (Xi7.out.below hal)
  have Xl8 := Aside0.mk (Xl7.out.below hal)
  have Xk8 : Aside0 (Blk (w7.alloc (Obj.cells #[.int .u32 0, .int .i64 0] 42)) w7.heap.size (Obj.cells #[.int .u32 0, .int .i64 0] 42 (0, 0))) := ⟨Blk.new_⟩
  have cz : (w7.alloc (Obj.cells #[.int .u32 0, .int .i64 0] 42)).cell? ⟨bp, 0, none⟩ = some (.int .u64 0) ∧ (w7.alloc (Obj.cells #[.int .u32 0, .int .i64 0] 42)).cell? ⟨bp, 1, none⟩ = some (.int .i64 0) ∧ (w7.alloc (Obj.cells #[.int .u32 0, .int .i64 0] 42)).cell? ⟨bp, 2, none⟩ = some (.int .u32 0) ∧ (w7.alloc (Obj.cells #[.int .u32 0, .int .i64 0] 42)).cell? ⟨bp, 3, none⟩ = some (.slice Ap 0 cp) := ⟨(Xp8.out.cell 0).trans rfl, (Xp8.out.cell 1).trans rfl, (Xp8.out.cell 2).trans rfl, (Xp8.out.cell 3).trans rfl⟩
  obtain ⟨p0_, p1_, p2_, p3_⟩ := cz
  go_wp2_with fail
  clear p0_ p1_ p2_ p3_
  obtain ⟨w8, hwx⟩ : ∃ W, w7.alloc (Obj.cells #[.int .u32 0, .int .i64 0] 42) = W := ⟨_, rfl⟩
  rw [hwx] at Xk8 HB8 Cp8 Xp8 Ci8 Xi8 Xl8 ⊢
  obtain ⟨bk, hbx⟩ : ∃ b, w7.heap.size = b := ⟨_, rfl⟩
  rw [hbx] at Xk8 ⊢
  clear hal hwx hbx HB7 Cp7 Xp7 Ci7 Xi7 Xl7
  have XB : Aside0 (∀ W : World, Below w8.heap.size w8 W → (W.cell? ⟨bp, 0, none⟩ = some (.int .u64 0) ∧ W.cell? ⟨bp, 1, none⟩ = some (.int .i64 0) ∧ W.cell? ⟨bp, 2, none⟩ = some (.int .u32 0) ∧ W.cell? ⟨bp, 3, none⟩ = some (.slice Ap 0 cp)) ∧ (W.cell? ⟨bi, 0, none⟩ = some (.int .u32 b0) ∧ W.cell? ⟨bi, 1, none⟩ = some (.int .u32 b1) ∧ W.cell? ⟨bi, 2, none⟩ = some (.int .i64 b2) ∧ W.cell? ⟨bi, 3, none⟩ = some (.slice Ai M.length ci) ∧ W.cell? ⟨bi, 4, none⟩ = some (.int .i64 b4) ∧ W.cell? ⟨bi, 5, none⟩ = some (.int .i64 b5)) ∧ (W.cell? ⟨bl, 0, none⟩ = some (.int .u32 0) ∧ W.cell? ⟨bl, 1, none⟩ = some (.int .i64 0) ∧ W.cell? ⟨bl, 2, none⟩ = some (.int .i64 0) ∧ W.cell? ⟨bl, 3, none⟩ = some (.int .i64 0) ∧ W.cell? ⟨bl, 4, none⟩ = some (.int .i64 0)) ∧ (W.cell? ⟨bk, 0, none⟩ = some (.int .u32 0) ∧ W.cell? ⟨bk, 1, none⟩ = some (.int .i64 0))) := ⟨fun W hW => by
    have Yp := Xp8.out.below hW
    have Yi := Xi8.out.below hW
    have Yl := Xl8.out.below hW
    have Yk := Xk8.out.below hW
    exact ⟨⟨(Yp.cell 0).trans rfl, (Yp.cell 1).trans rfl, (Yp.cell 2).trans rfl, (Yp.cell 3).trans rfl⟩, ⟨(Yi.cell 0).trans rfl, (Yi.cell 1).trans rfl, (Yi.cell 2).trans rfl, (Yi.cell 3).trans rfl, (Yi.cell 4).trans rfl, (Yi.cell 5).trans rfl⟩, ⟨(Yl.cell 0).trans rfl, (Yl.cell 1).trans rfl, (Yl.cell 2).trans rfl, (Yl.cell 3).trans rfl, (Yl.cell 4).trans rfl⟩, ⟨(Yk.cell 0).trans rfl, (Yk.cell 1).trans rfl⟩⟩⟩
  have HCn := Aside0.mk (Kd.C_below HC.out HB8.out)
  have D8 := Aside0.mk (Below.refl w8.heap.size w8)
  clear Xp8 Xi8 Xl8 Xk8 HC
  refine (kP.out Ap cp w8 Cp8.out).mono ?_
  rintro e w9 ⟨rfl, hb⟩
  have D9 := Aside0.mk hb
  clear hb D8
  obtain ⟨_, ⟨i0_, i1_, i2_, i3_, i4_, i5_⟩, _⟩ := XB.out w9 D9.out
  go_wp2_with fail
  clear i0_ i1_ i2_ i3_ i4_ i5_
  refine (kI.out Ai ci w9 (Kd.C_below Ci8.out D9.out)).mono ?_
  rintro e w10 ⟨v2, rfl, hV, hb⟩
  have D10 := Aside0.mk (below_step D9.out hb)
  have V2 := Aside0.mk hV
  clear hb D9 hV
  go_wp2_with fail
  have Sall : Aside0 (∀ W : World, Below w10.heap.size w10 W → (convert 31 9 (.slice A l.length c)).run Try.prog W = .ok (.string SB) W ∧ (convert 31 9 v2).run Try.prog W = .ok (.string SB) W) := ⟨fun W hW => ⟨kst.out W (Kd.C_below HCn.out (D10.out.trans (below_weak_ hW D10.out.size))), by have h1 := r_str (Kd.R_below V2.out hW); rw [HSB.out] at h1; exact h1⟩⟩
  have K0 := Aside0.mk (below_drew (Below.refl w10.heap.size w10))
  refine wp_region_noPanic ?_
  refine wp_region_held_drew (S := fun W : World => (convert 31 9 (.slice A l.length c)).run Try.prog W = .ok (.string SB) W ∧ (convert 31 9 v2).run Try.prog W = .ok (.string SB) W) (by kernel_rfl) ?_ (fun hH_ => ?_)
  · exact Sall.out _ K0.out
  refine tk_ (i := 0) (oi := o9_0) (v := ?vr0) (Or.inl ⟨by rfl, ?hyr0⟩) hH_ ?zr0
  case hyr0 => (intro w hSw; (try dsimp only at hSw); unfold o9_0; go_simp <;> with_reducible rfl)
  try simp only [o9_0, Act.put, p1_, p2_, p3_]
  refine tk_ (i := 1) (oi := o9_1) (v := ?vr1) (Or.inl ⟨by rfl, ?hyr1⟩) hH_ ?zr1
  case hyr1 => (intro w hSw; (try dsimp only at hSw); unfold o9_1; go_simp <;> with_reducible rfl)
  try simp only [o9_1, Act.put, p1_, p2_, p3_]
  refine tk_ (i := 2) (oi := o9_2) (v := ?vr2) (Or.inl ⟨by rfl, ?hyr2⟩) hH_ ?zr2
  case hyr2 => (intro w hSw; (try dsimp only at hSw); unfold o9_2; go_simp <;> with_reducible rfl)
  try simp only [o9_2, Act.put, p1_, p2_, p3_]
  refine tk_ (i := 3) (oi := o9_3) (v := undef) (Or.inr ⟨by rfl, rfl⟩) hH_ ?_
  try simp only [o9_3, Act.put, p1_, p2_, p3_]
  refine tk_ (i := 4) (oi := o9_4) (v := undef) (Or.inr ⟨by rfl, rfl⟩) hH_ ?_
  try simp only [o9_4, Act.put, p1_, p2_, p3_]
  refine tk_ (i := 5) (oi := o9_5) (v := undef) (Or.inr ⟨by rfl, rfl⟩) hH_ ?_
  try simp only [o9_5, Act.put, p1_, p2_, p3_]
  refine tk_ (i := 6) (oi := o9_6) (v := undef) (Or.inr ⟨by rfl, rfl⟩) hH_ ?_
  try simp only [o9_6, Act.put, p1_, p2_, p3_]
  refine tk_ (i := 7) (oi := o9_7) (v := undef) (Or.inr ⟨by rfl, rfl⟩) hH_ ?_
  try simp only [o9_7, Act.put, p1_, p2_, p3_]
  refine tk_ (i := 8) (oi := o9_8) (v := undef) (Or.inr ⟨by rfl, rfl⟩) hH_ ?_
  try simp only [o9_8, Act.put, p1_, p2_, p3_]
  refine tk_ (i := 9) (oi := o9_9) (v := undef) (Or.inr ⟨by rfl, rfl⟩) hH_ ?_
  try simp only [o9_9, Act.put, p1_, p2_, p3_]
  refine tk_ (i := 10) (oi := o9_10) (v := undef) (Or.inr ⟨by rfl, rfl⟩) hH_ ?_
  try simp only [o9_10, Act.put, p1_, p2_, p3_]
  refine tk_ (i := 11) (oi := o9_11) (v := undef) (Or.inr ⟨by rfl, rfl⟩) hH_ ?_
  try simp only [o9_11, Act.put, p1_, p2_, p3_]
  refine tk_ (i := 12) (oi := o9_12) (v := ?vr12) (Or.inl ⟨by rfl, ?hyr12⟩) hH_ ?zr12
  case hyr12 => (intro w hSw; (try dsimp only at hSw); unfold o9_12; go_simp <;> with_reducible rfl)
  try simp only [o9_12, Act.put, p1_, p2_, p3_]
  refine tk_ (i := 13) (oi := o9_13) (v := ?vr13) (Or.inl ⟨by rfl, ?hyr13⟩) hH_ ?zr13
  case hyr13 => (intro w hSw; (try dsimp only at hSw); unfold o9_13; go_simp <;> with_reducible rfl)
  try simp only [o9_13, Act.put, p1_, p2_, p3_]
  refine tk_ (i := 14) (oi := o9_14) (v := ?vr14) (Or.inl ⟨by rfl, ?hyr14⟩) hH_ ?zr14
  case hyr14 => (intro w hSw; (try dsimp only at hSw); unfold o9_14; go_simp <;> with_reducible rfl)
  try simp only [o9_14, Act.put, p1_, p2_, p3_]
  refine tk_ (i := 15) (oi := o9_15) (v := ?vr15) (Or.inl ⟨by rfl, ?hyr15⟩) hH_ ?zr15
  case hyr15 => (intro w hSw; (try dsimp only at hSw); unfold o9_15; go_simp <;> with_reducible rfl)
  try simp only [o9_15, Act.put, p1_, p2_, p3_]
  refine tk_ (i := 16) (oi := o9_16) (v := ?vr16) (Or.inl ⟨by rfl, ?hyr16⟩) hH_ ?zr16
  case hyr16 => (intro w hSw; (try dsimp only at hSw); unfold o9_16; go_simp <;> with_reducible rfl)
  try simp only [o9_16, Act.put, p1_, p2_, p3_]
  refine tk_ (i := 17) (oi := o9_17) (v := ?vr17) (Or.inl ⟨by rfl, ?hyr17⟩) hH_ ?zr17
  case hyr17 => (intro w hSw; (try dsimp only at hSw); unfold o9_17; go_simp <;> with_reducible rfl)
  try simp only [o9_17, Act.put, p1_, p2_, p3_]
  refine tk_ (i := 18) (oi := o9_18) (v := ?vr18) (Or.inl ⟨by rfl, ?hyr18⟩) hH_ ?zr18
  case hyr18 => (intro w hSw; (try dsimp only at hSw); unfold o9_18; go_simp <;> with_reducible rfl)
  try simp only [o9_18, Act.put, p1_, p2_, p3_]
  refine tk_ (i := 19) (oi := o9_19) (v := ?vr19) (Or.inl ⟨by rfl, ?hyr19⟩) hH_ ?zr19
  case hyr19 => (intro w hSw; (try dsimp only at hSw); unfold o9_19; go_simp <;> with_reducible rfl)
  try simp only [o9_19, Act.put, p1_, p2_, p3_]
  refine tk_ (i := 20) (oi := o9_20) (v := ?vr20) (Or.inl ⟨by rfl, ?hyr20⟩) hH_ ?zr20
  case hyr20 => (intro w hSw; (try dsimp only at hSw); unfold o9_20; go_simp <;> with_reducible rfl)
  try simp only [o9_20, Act.put, p1_, p2_, p3_]
  refine tk_ (i := 21) (oi := o9_21) (v := ?vr21) (Or.inl ⟨by rfl, ?hyr21⟩) hH_ ?zr21
  case hyr21 => (intro w hSw; (try dsimp only at hSw); unfold o9_21; go_simp <;> with_reducible rfl)
  try simp only [o9_21, Act.put, p1_, p2_, p3_]
  refine tk_ (i := 22) (oi := o9_22) (v := ?vr22) (Or.inl ⟨by rfl, ?hyr22⟩) hH_ ?zr22
  case hyr22 => (intro w hSw; (try dsimp only at hSw); unfold o9_22; go_simp <;> with_reducible rfl)
  try simp only [o9_22, Act.put, p1_, p2_, p3_]
  refine tk_ (i := 23) (oi := o9_23) (v := ?vr23) (Or.inl ⟨by rfl, ?hyr23⟩) hH_ ?zr23
  case hyr23 => (intro w hSw; (try dsimp only at hSw); unfold o9_23; go_simp <;> with_reducible rfl)
  try simp only [o9_23, Act.put, p1_, p2_, p3_]
  refine tk_ (i := 24) (oi := o9_24) (v := ?vr24) (Or.inl ⟨by rfl, ?hyr24⟩) hH_ ?zr24
  case hyr24 => (intro w hSw; (try dsimp only at hSw); unfold o9_24; go_simp <;> with_reducible rfl)
  try simp only [o9_24, Act.put, p1_, p2_, p3_]
  refine tk_ (i := 25) (oi := o9_25) (v := ?vr25) (Or.inl ⟨by rfl, ?hyr25⟩) hH_ ?zr25
  case hyr25 => (intro w hSw; (try dsimp only at hSw); unfold o9_25; go_simp <;> with_reducible rfl)
  try simp only [o9_25, Act.put, p1_, p2_, p3_]
  refine tk_ (i := 26) (oi := o9_26) (v := ?vr26) (Or.inl ⟨by rfl, ?hyr26⟩) hH_ ?zr26
  case hyr26 => (intro w hSw; (try dsimp only at hSw); unfold o9_26; go_simp <;> with_reducible rfl)
  try simp only [o9_26, Act.put, p1_, p2_, p3_]
  refine tk_ (i := 27) (oi := o9_27) (v := ?vr27) (Or.inl ⟨by rfl, ?hyr27⟩) hH_ ?zr27
  case hyr27 => (intro w hSw; (try dsimp only at hSw); unfold o9_27; go_simp <;> with_reducible rfl)
  try simp only [o9_27, Act.put, p1_, p2_, p3_]
  refine tk_ (i := 28) (oi := o9_28) (v := ?vr28) (Or.inl ⟨by rfl, ?hyr28⟩) hH_ ?zr28
  case hyr28 => (intro w hSw; (try dsimp only at hSw); unfold o9_28; go_simp <;> with_reducible rfl)
  try simp only [o9_28, Act.put, p1_, p2_, p3_]
  refine tk_ (i := 29) (oi := o9_29) (v := ?vr29) (Or.inl ⟨by rfl, ?hyr29⟩) hH_ ?zr29
  case hyr29 => (intro w hSw; (try dsimp only at hSw); unfold o9_29; go_simp <;> with_reducible rfl)
  try simp only [o9_29, Act.put, p1_, p2_, p3_]
  refine tk_ (i := 30) (oi := o9_30) (v := ?vr30) (Or.inl ⟨by rfl, ?hyr30⟩) hH_ ?zr30
  case hyr30 => (intro w hSw; (try dsimp only at hSw); unfold o9_30; go_simp <;> with_reducible rfl)
  try simp only [o9_30, Act.put, p1_, p2_, p3_]
  refine tk_ (i := 31) (oi := o9_31) (v := ?vr31) (Or.inl ⟨by rfl, ?hyr31⟩) hH_ ?zr31
  case hyr31 => (intro w hSw; (try dsimp only at hSw); unfold o9_31; go_simp <;> with_reducible rfl)
  try simp only [o9_31, Act.put, p1_, p2_, p3_]
  refine tk_ (i := 32) (oi := o9_32) (v := undef) (Or.inr ⟨by rfl, rfl⟩) hH_ ?_
  try simp only [o9_32, Act.put, p1_, p2_, p3_]
  refine tk_ (i := 33) (oi := o9_33) (v := undef) (Or.inr ⟨by rfl, rfl⟩) hH_ ?_
  try simp only [o9_33, Act.put, p1_, p2_, p3_]
  refine tk_ (i := 34) (oi := o9_34) (v := undef) (Or.inr ⟨by rfl, rfl⟩) hH_ ?_
  try simp only [o9_34, Act.put, p1_, p2_, p3_]
  refine tk_ (i := 35) (oi := o9_35) (v := undef) (Or.inr ⟨by rfl, rfl⟩) hH_ ?_
  try simp only [o9_35, Act.put, p1_, p2_, p3_]
  refine tk_ (i := 36) (oi := o9_36) (v := undef) (Or.inr ⟨by rfl, rfl⟩) hH_ ?_
  try simp only [o9_36, Act.put, p1_, p2_, p3_]
  refine tk_ (i := 37) (oi := o9_37) (v := undef) (Or.inr ⟨by rfl, rfl⟩) hH_ ?_
  try simp only [o9_37, Act.put, p1_, p2_, p3_]
  refine tk_ (i := 38) (oi := o9_38) (v := ?vr38) (Or.inl ⟨by rfl, ?hyr38⟩) hH_ ?zr38
  case hyr38 => (intro w hSw; (try dsimp only at hSw); unfold o9_38; go_simp <;> with_reducible rfl)
  try simp only [o9_38, Act.put, p1_, p2_, p3_]
  refine tk_ (i := 39) (oi := o9_39) (v := ?vr39) (Or.inl ⟨by rfl, ?hyr39⟩) hH_ ?zr39
  case hyr39 => (intro w hSw; (try dsimp only at hSw); unfold o9_39; go_simp <;> with_reducible rfl)
  try simp only [o9_39, Act.put, p1_, p2_, p3_]
  refine tk_ (i := 40) (oi := o9_40) (v := ?vr40) (Or.inl ⟨by rfl, ?hyr40⟩) hH_ ?zr40
  case hyr40 => (intro w hSw; (try dsimp only at hSw); unfold o9_40; go_simp <;> with_reducible rfl)
  try simp only [o9_40, Act.put, p1_, p2_, p3_]
  refine tk_ (i := 41) (oi := o9_41) (v := ?vr41) (Or.inl ⟨by rfl, ?hyr41⟩) hH_ ?zr41
  case hyr41 => (intro w hSw; (try dsimp only at hSw); unfold o9_41; go_simp <;> with_reducible rfl)
  try simp only [o9_41, Act.put, p1_, p2_, p3_]
  refine tk_ (i := 42) (oi := o9_42) (v := ?vr42) (Or.inl ⟨by rfl, ?hyr42⟩) hH_ ?zr42
  case hyr42 => (intro w hSw; (try dsimp only at hSw); unfold o9_42; go_simp <;> with_reducible rfl)
  try simp only [o9_42, Act.put, p1_, p2_, p3_]
  refine tk_ (i := 43) (oi := o9_43) (v := ?vr43) (Or.inl ⟨by rfl, ?hyr43⟩) hH_ ?zr43
  case hyr43 => (intro w hSw; (try dsimp only at hSw); unfold o9_43; go_simp <;> with_reducible rfl)
  try simp only [o9_43, Act.put, p1_, p2_, p3_]
  refine tk_ (i := 44) (oi := o9_44) (v := undef) (Or.inr ⟨by rfl, rfl⟩) hH_ ?_
  try simp only [o9_44, Act.put, p1_, p2_, p3_]
  refine tk_ (i := 45) (oi := o9_45) (v := undef) (Or.inr ⟨by rfl, rfl⟩) hH_ ?_
  try simp only [o9_45, Act.put, p1_, p2_, p3_]
  refine tk_ (i := 46) (oi := o9_46) (v := undef) (Or.inr ⟨by rfl, rfl⟩) hH_ ?_
  try simp only [o9_46, Act.put, p1_, p2_, p3_]
  refine tk_ (i := 47) (oi := o9_47) (v := undef) (Or.inr ⟨by rfl, rfl⟩) hH_ ?_
  try simp only [o9_47, Act.put, p1_, p2_, p3_]
  refine tk_ (i := 48) (oi := o9_48) (v := undef) (Or.inr ⟨by rfl, rfl⟩) hH_ ?_
  try simp only [o9_48, Act.put, p1_, p2_, p3_]
  refine tk_ (i := 49) (oi := o9_49) (v := undef) (Or.inr ⟨by rfl, rfl⟩) hH_ ?_
  try simp only [o9_49, Act.put, p1_, p2_, p3_]
  refine tk_ (i := 50) (oi := o9_50) (v := ?vr50) (Or.inl ⟨by rfl, ?hyr50⟩) hH_ ?zr50
  case hyr50 => (intro w hSw; (try dsimp only at hSw); unfold o9_50; go_simp <;> with_reducible rfl)
  try simp only [o9_50, Act.put, p1_, p2_, p3_]
  refine tk_ (i := 51) (oi := o9_51) (v := ?vr51) (Or.inl ⟨by rfl, ?hyr51⟩) hH_ ?zr51
  case hyr51 => (intro w hSw; (try dsimp only at hSw); unfold o9_51; go_simp <;> with_reducible rfl)
  try simp only [o9_51, Act.put, p1_, p2_, p3_]
  refine wpAnyH_done (by kernel_rfl) ?_ _
  refine NoPanic.normal ?_
  have D11 := Aside0.mk (below_step D10.out K0.out)
  generalize w10.drew = w11 at D11 ⊢
  clear Sall K0 hH_ D10 V2
  obtain ⟨⟨p0_, p1_, p2_, p3_⟩, ⟨i0_, i1_, i2_, i3_, i4_, i5_⟩, ⟨l0_, l1_, l2_, l3_, l4_⟩, ⟨k0_, k1_⟩⟩ := XB.out w11 D11.out
  go_wp2_with fail
  clear p0_ p1_ p2_ p3_ i0_ i1_ i2_ i3_ i4_ i5_ l0_ l1_ l2_ l3_ l4_ k0_ k1_
  refine (psame_calls 0 0 0 Ap none cp 0 [] w11 (by simp) (Kd.C_below Cp8.out D11.out) Lp.out (Kd.C_nil _ _) (Nat.le_refl _)).mono ?_
  rintro e w12 ⟨rfl, hb⟩
  have D12 := Aside0.mk (below_step D11.out hb)
  clear hb
  obtain ⟨⟨p0_, p1_, p2_, p3_⟩, ⟨i0_, i1_, i2_, i3_, i4_, i5_⟩, ⟨l0_, l1_, l2_, l3_, l4_⟩, ⟨k0_, k1_⟩⟩ := XB.out w12 D12.out
  go_wp2_with fail
  clear p0_ p1_ p2_ p3_ i0_ i1_ i2_ i3_ i4_ i5_ l0_ l1_ l2_ l3_ l4_ k0_ k1_
  refine (kgo.out _).mono ?_
  rintro e w13 ⟨rfl, hb⟩
  have D13 := Aside0.mk (below_step D12.out hb)
  clear hb
  go_wp2_with fail
  go_ret
  exact ⟨rfl, HB8.out.trans (below_weak_ D13.out HB8.out.size)⟩
set_option maxRecDepth 100000 in
set_option maxHeartbeats 6400000 in
theorem reads_ffff (A : Option Addr) (c : Nat) (l : List Int) (w : World) (hC : Kd.C (Kd.int .u8) w A l.length l) (hby : ∀ x ∈ l, IsByte x) (hlen : l.length ≤ 3000) (hE : gposting l = ((0, 0, 0, []), 21)) (hF : ginvoice l = ((0, 0, 0, 0, 0, []), 21)) (hG : glease l = ((0, 0, 0, 0, 0), 21)) (hH : gpack l = ((0, 0), 21)) :
    Calls Try.prog 7 #[.slice A l.length c] w fun e w' => e = .returned (.bool true) ∧ Below w.heap.size w w' := by
  have kp := Aside0.mk (fun w hC => Getposting_all A c l w hC hby (by omega) 0 0 0 21 [] hE)
  have ki := Aside0.mk (fun w hC => Getinvoice_all A c l w hC hby (by omega) 0 0 0 0 0 21 [] hF)
  have kl := Aside0.mk (fun w hC => bgetl A c l.length l rfl 0 0 0 0 0 21 w hC hby (by omega) hG)
  have kk := Aside0.mk (fun w hC => bgetk A c l.length l rfl 0 0 21 w hC hby (by omega) hH)
  have kst : Aside0 (∀ W : World, Kd.C (Kd.int .u8) W A l.length l → (convert 31 9 (.slice A l.length c)).run Try.prog W = .ok (.string (strOfNums l)) W) := ⟨fun W h => Kd.C_string (P := Try.prog) (c := c) Try.underlying31 Try.underlying5 Try.underlying9 h⟩
  have kP := Aside0.mk (fun Ap cp w hC => putposting_no 0 0 0 Ap cp [] w hC rfl)
  have kI := Aside0.mk (fun Ai ci w hC => putinvoice_no 0 0 0 0 0 Ai ci [] w hC rfl)
  have kgo := Aside0.mk (fun w => PZ.quitrentlaw14_goes.calls true w goes_is)
  obtain ⟨SB, hSB⟩ : ∃ s, strOfNums l = s := ⟨_, rfl⟩
  rw [hSB] at kst
  have HSB := Aside0.mk hSB
  have d30 : decide ((l.length : Int) > 3000) = false := decide_eq_false (by omega)
  have d31 : ¬ (3000 < (l.length : Int)) := by omega
  have HC := Aside0.mk hC
  have HB0 := Aside0.mk (Below.refl w.heap.size w)
  have HN := Aside0.mk hlen
  clear hC hby hlen hE hF hG hH hSB
  go_enter Try.func7, Try.ntmps7
  go_wp2_with fail
  clear d30 d31
  refine (kp.out w (Kd.C_below HC.out HB0.out)).mono ?_
  rintro e w1 ⟨v, rfl, hV, hb⟩
  obtain ⟨Ap, cp, ev⟩ := Kd.R_slice hV
  subst ev
  have HB1 := Aside0.mk (below_step HB0.out hb)
  clear HB0 
  have Cp1 := Aside0.mk (Kd.R_reads' hV).2.2
  have Lp := Aside0.mk (Kd.R_reads' hV).2.1
  clear hV hb
  have hal := below_alloc (Below.refl w1.heap.size w1) (Obj.cells #[.int .u64 0, .int .i64 0, .int .u32 0, .slice Ap 0 cp] 26)
  have HB2 := Aside0.mk (below_step HB1.out hal)
  have Cp2 := Aside0.mk (Kd.C_below Cp1.out hal)
  have Xp2 : Aside0 (Blk (w1.alloc (Obj.cells #[.int .u64 0, .int .i64 0, .int .u32 0, .slice Ap 0 cp] 26)) w1.heap.size (Obj.cells #[.int .u64 0, .int .i64 0, .int .u32 0, .slice Ap 0 cp] 26 (0, 0))) := ⟨Blk.new_⟩
  go_wp2_with fail
  obtain ⟨w2, hwx⟩ : ∃ W, w1.alloc (Obj.cells #[.int .u64 0, .int .i64 0, .int .u32 0, .slice Ap 0 cp] 26) = W := ⟨_, rfl⟩
  rw [hwx] at Xp2 HB2 Cp2 ⊢
  obtain ⟨bp, hbx⟩ : ∃ b, w1.heap.size = b := ⟨_, rfl⟩
  rw [hbx] at Xp2 ⊢
  clear hal hwx hbx HB1 Cp1
  refine (ki.out w2 (Kd.C_below HC.out HB2.out)).mono ?_
  rintro e w3 ⟨v, rfl, hV, hb⟩
  obtain ⟨Ai, ci, ev⟩ := Kd.R_slice hV
  subst ev
  have HB3 := Aside0.mk (below_step HB2.out hb)
  have Cp3 := Aside0.mk (Kd.C_below Cp2.out hb)
  have Xp3 := Aside0.mk (Xp2.out.below hb)
  clear HB2 Cp2 Xp2
  have Ci3 := Aside0.mk (Kd.R_reads' hV).2.2
  have Li := Aside0.mk (Kd.R_reads' hV).2.1
  clear hV hb
  have hal := below_alloc (Below.refl w3.heap.size w3) (Obj.cells #[.int .u32 0, .int .u32 0, .int .i64 0, .slice Ai 0 ci, .int .i64 0, .int .i64 0] 30)
  have HB4 := Aside0.mk (below_step HB3.out hal)
  have Cp4 := Aside0.mk (Kd.C_below Cp3.out hal)
  have Xp4 := Aside0.mk (Xp3.out.below hal)
  have Ci4 := Aside0.mk (Kd.C_below Ci3.out hal)
  have Xi4 : Aside0 (Blk (w3.alloc (Obj.cells #[.int .u32 0, .int .u32 0, .int .i64 0, .slice Ai 0 ci, .int .i64 0, .int .i64 0] 30)) w3.heap.size (Obj.cells #[.int .u32 0, .int .u32 0, .int .i64 0, .slice Ai 0 ci, .int .i64 0, .int .i64 0] 30 (0, 0))) := ⟨Blk.new_⟩
  go_wp2_with fail
  obtain ⟨w4, hwx⟩ : ∃ W, w3.alloc (Obj.cells #[.int .u32 0, .int .u32 0, .int .i64 0, .slice Ai 0 ci, .int .i64 0, .int .i64 0] 30) = W := ⟨_, rfl⟩
  rw [hwx] at Xi4 HB4 Cp4 Xp4 Ci4 ⊢
  obtain ⟨bi, hbx⟩ : ∃ b, w3.heap.size = b := ⟨_, rfl⟩
  rw [hbx] at Xi4 ⊢
  clear hal hwx hbx HB3 Cp3 Xp3 Ci3
  refine (kl.out w4 (Kd.C_below HC.out HB4.out)).mono ?_
  rintro e w5 ⟨rfl, hb⟩
  have HB5 := Aside0.mk (below_step HB4.out hb)
  have Cp5 := Aside0.mk (Kd.C_below Cp4.out hb)
  have Xp5 := Aside0.mk (Xp4.out.below hb)
  have Ci5 := Aside0.mk (Kd.C_below Ci4.out hb)
  have Xi5 := Aside0.mk (Xi4.out.below hb)
  clear HB4 Cp4 Xp4 Ci4 Xi4
  clear hb
  have hal := below_alloc (Below.refl w5.heap.size w5) (Obj.cells #[.int .u32 0, .int .i64 0, .int .i64 0, .int .i64 0, .int .i64 0] 40)
  have HB6 := Aside0.mk (below_step HB5.out hal)
  have Cp6 := Aside0.mk (Kd.C_below Cp5.out hal)
  have Xp6 := Aside0.mk (Xp5.out.below hal)
  have Ci6 := Aside0.mk (Kd.C_below Ci5.out hal)
  have Xi6 := Aside0.mk (Xi5.out.below hal)
  have Xl6 : Aside0 (Blk (w5.alloc (Obj.cells #[.int .u32 0, .int .i64 0, .int .i64 0, .int .i64 0, .int .i64 0] 40)) w5.heap.size (Obj.cells #[.int .u32 0, .int .i64 0, .int .i64 0, .int .i64 0, .int .i64 0] 40 (0, 0))) := ⟨Blk.new_⟩
  go_wp2_with fail
  obtain ⟨w6, hwx⟩ : ∃ W, w5.alloc (Obj.cells #[.int .u32 0, .int .i64 0, .int .i64 0, .int .i64 0, .int .i64 0] 40) = W := ⟨_, rfl⟩
  rw [hwx] at Xl6 HB6 Cp6 Xp6 Ci6 Xi6 ⊢
  obtain ⟨bl, hbx⟩ : ∃ b, w5.heap.size = b := ⟨_, rfl⟩
  rw [hbx] at Xl6 ⊢
  clear hal hwx hbx HB5 Cp5 Xp5 Ci5 Xi5
  refine (kk.out w6 (Kd.C_below HC.out HB6.out)).mono ?_
  rintro e w7 ⟨rfl, hb⟩
  have HB7 := Aside0.mk (below_step HB6.out hb)
  have Cp7 := Aside0.mk (Kd.C_below Cp6.out hb)
  have Xp7 := Aside0.mk (Xp6.out.below hb)
  have Ci7 := Aside0.mk (Kd.C_below Ci6.out hb)
  have Xi7 := Aside0.mk (Xi6.out.below hb)
  have Xl7 := Aside0.mk (Xl6.out.below hb)
  clear HB6 Cp6 Xp6 Ci6 Xi6 Xl6
  clear hb
  have hal := below_alloc (Below.refl w7.heap.size w7) (Obj.cells #[.int .u32 0, .int .i64 0] 42)
  have HB8 := Aside0.mk (below_step HB7.out hal)
  have Cp8 := Aside0.mk (Kd.C_below Cp7.out hal)
  have Xp8 := Aside0.mk (Xp7.out.below hal)
  have Ci8 := Aside0.mk (Kd.C_below Ci7.out hal)
  have Xi8 := Aside0.mk (Xi7.out.below hal)
  have Xl8 := Aside0.mk (Xl7.out.below hal)
  have Xk8 : Aside0 (Blk (w7.alloc (Obj.cells #[.int .u32 0, .int .i64 0] 42)) w7.heap.size (Obj.cells #[.int .u32 0, .int .i64 0] 42 (0, 0))) := ⟨Blk.new_⟩
  have cz : (w7.alloc (Obj.cells #[.int .u32 0, .int .i64 0] 42)).cell? ⟨bp, 0, none⟩ = some (.int .u64 0) ∧ (w7.alloc (Obj.cells #[.int .u32 0, .int .i64 0] 42)).cell? ⟨bp, 1, none⟩ = some (.int .i64 0) ∧ (w7.alloc (Obj.cells #[.int .u32 0, .int .i64 0] 42)).cell? ⟨bp, 2, none⟩ = some (.int .u32 0) ∧ (w7.alloc (Obj.cells #[.int .u32 0, .int .i64 0] 42)).cell? ⟨bp, 3, none⟩ = some (.slice Ap 0 cp) := ⟨(Xp8.out.cell 0).trans rfl, (Xp8.out.cell 1).trans rfl, (Xp8.out.cell 2).trans rfl, (Xp8.out.cell 3).trans rfl⟩
  obtain ⟨p0_, p1_, p2_, p3_⟩ := cz
  go_wp2_with fail
  clear p0_ p1_ p2_ p3_
  obtain ⟨w8, hwx⟩ : ∃ W, w7.alloc (Obj.cells #[.int .u32 0, .int .i64 0] 42) = W := ⟨_, rfl⟩
  rw [hwx] at Xk8 HB8 Cp8 Xp8 Ci8 Xi8 Xl8 ⊢
  obtain ⟨bk, hbx⟩ : ∃ b, w7.heap.size = b := ⟨_, rfl⟩
  rw [hbx] at Xk8 ⊢
  clear hal hwx hbx HB7 Cp7 Xp7 Ci7 Xi7 Xl7
  have XB : Aside0 (∀ W : World, Below w8.heap.size w8 W → (W.cell? ⟨bp, 0, none⟩ = some (.int .u64 0) ∧ W.cell? ⟨bp, 1, none⟩ = some (.int .i64 0) ∧ W.cell? ⟨bp, 2, none⟩ = some (.int .u32 0) ∧ W.cell? ⟨bp, 3, none⟩ = some (.slice Ap 0 cp)) ∧ (W.cell? ⟨bi, 0, none⟩ = some (.int .u32 0) ∧ W.cell? ⟨bi, 1, none⟩ = some (.int .u32 0) ∧ W.cell? ⟨bi, 2, none⟩ = some (.int .i64 0) ∧ W.cell? ⟨bi, 3, none⟩ = some (.slice Ai 0 ci) ∧ W.cell? ⟨bi, 4, none⟩ = some (.int .i64 0) ∧ W.cell? ⟨bi, 5, none⟩ = some (.int .i64 0)) ∧ (W.cell? ⟨bl, 0, none⟩ = some (.int .u32 0) ∧ W.cell? ⟨bl, 1, none⟩ = some (.int .i64 0) ∧ W.cell? ⟨bl, 2, none⟩ = some (.int .i64 0) ∧ W.cell? ⟨bl, 3, none⟩ = some (.int .i64 0) ∧ W.cell? ⟨bl, 4, none⟩ = some (.int .i64 0)) ∧ (W.cell? ⟨bk, 0, none⟩ = some (.int .u32 0) ∧ W.cell? ⟨bk, 1, none⟩ = some (.int .i64 0))) := ⟨fun W hW => by
    have Yp := Xp8.out.below hW
    have Yi := Xi8.out.below hW
    have Yl := Xl8.out.below hW
    have Yk := Xk8.out.below hW
    exact ⟨⟨(Yp.cell 0).trans rfl, (Yp.cell 1).trans rfl, (Yp.cell 2).trans rfl, (Yp.cell 3).trans rfl⟩, ⟨(Yi.cell 0).trans rfl, (Yi.cell 1).trans rfl, (Yi.cell 2).trans rfl, (Yi.cell 3).trans rfl, (Yi.cell 4).trans rfl, (Yi.cell 5).trans rfl⟩, ⟨(Yl.cell 0).trans rfl, (Yl.cell 1).trans rfl, (Yl.cell 2).trans rfl, (Yl.cell 3).trans rfl, (Yl.cell 4).trans rfl⟩, ⟨(Yk.cell 0).trans rfl, (Yk.cell 1).trans rfl⟩⟩⟩
  have HCn := Aside0.mk (Kd.C_below HC.out HB8.out)
  have D8 := Aside0.mk (Below.refl w8.heap.size w8)
  clear Xp8 Xi8 Xl8 Xk8 HC
  refine (kP.out Ap cp w8 Cp8.out).mono ?_
  rintro e w9 ⟨rfl, hb⟩
  have D9 := Aside0.mk hb
  clear hb D8
  obtain ⟨_, ⟨i0_, i1_, i2_, i3_, i4_, i5_⟩, _⟩ := XB.out w9 D9.out
  go_wp2_with fail
  clear i0_ i1_ i2_ i3_ i4_ i5_
  refine (kI.out Ai ci w9 (Kd.C_below Ci8.out D9.out)).mono ?_
  rintro e w10 ⟨rfl, hb⟩
  have D10 := Aside0.mk (below_step D9.out hb)
  clear hb D9
  go_wp2_with fail
  have Sall : Aside0 (∀ W : World, Below w10.heap.size w10 W → True) := ⟨fun W hW => trivial⟩
  have K0 := Aside0.mk (below_drew (Below.refl w10.heap.size w10))
  refine wp_region_noPanic ?_
  refine wp_region_held_drew (S := fun W : World => True) (by kernel_rfl) ?_ (fun hH_ => ?_)
  · exact Sall.out _ K0.out
  refine tk_ (i := 0) (oi := o9_0) (v := ?vr0) (Or.inl ⟨by rfl, ?hyr0⟩) hH_ ?zr0
  case hyr0 => (intro w hSw; (try dsimp only at hSw); unfold o9_0; go_simp <;> with_reducible rfl)
  try simp only [o9_0, Act.put, p1_, p2_, p3_]
  refine tk_ (i := 1) (oi := o9_1) (v := ?vr1) (Or.inl ⟨by rfl, ?hyr1⟩) hH_ ?zr1
  case hyr1 => (intro w hSw; (try dsimp only at hSw); unfold o9_1; go_simp <;> with_reducible rfl)
  try simp only [o9_1, Act.put, p1_, p2_, p3_]
  refine tk_ (i := 2) (oi := o9_2) (v := ?vr2) (Or.inl ⟨by rfl, ?hyr2⟩) hH_ ?zr2
  case hyr2 => (intro w hSw; (try dsimp only at hSw); unfold o9_2; go_simp <;> with_reducible rfl)
  try simp only [o9_2, Act.put, p1_, p2_, p3_]
  refine tk_ (i := 3) (oi := o9_3) (v := undef) (Or.inr ⟨by rfl, rfl⟩) hH_ ?_
  try simp only [o9_3, Act.put, p1_, p2_, p3_]
  refine tk_ (i := 4) (oi := o9_4) (v := undef) (Or.inr ⟨by rfl, rfl⟩) hH_ ?_
  try simp only [o9_4, Act.put, p1_, p2_, p3_]
  refine tk_ (i := 5) (oi := o9_5) (v := undef) (Or.inr ⟨by rfl, rfl⟩) hH_ ?_
  try simp only [o9_5, Act.put, p1_, p2_, p3_]
  refine tk_ (i := 6) (oi := o9_6) (v := undef) (Or.inr ⟨by rfl, rfl⟩) hH_ ?_
  try simp only [o9_6, Act.put, p1_, p2_, p3_]
  refine tk_ (i := 7) (oi := o9_7) (v := undef) (Or.inr ⟨by rfl, rfl⟩) hH_ ?_
  try simp only [o9_7, Act.put, p1_, p2_, p3_]
  refine tk_ (i := 8) (oi := o9_8) (v := undef) (Or.inr ⟨by rfl, rfl⟩) hH_ ?_
  try simp only [o9_8, Act.put, p1_, p2_, p3_]
  refine tk_ (i := 9) (oi := o9_9) (v := undef) (Or.inr ⟨by rfl, rfl⟩) hH_ ?_
  try simp only [o9_9, Act.put, p1_, p2_, p3_]
  refine tk_ (i := 10) (oi := o9_10) (v := undef) (Or.inr ⟨by rfl, rfl⟩) hH_ ?_
  try simp only [o9_10, Act.put, p1_, p2_, p3_]
  refine tk_ (i := 11) (oi := o9_11) (v := undef) (Or.inr ⟨by rfl, rfl⟩) hH_ ?_
  try simp only [o9_11, Act.put, p1_, p2_, p3_]
  refine tk_ (i := 12) (oi := o9_12) (v := ?vr12) (Or.inl ⟨by rfl, ?hyr12⟩) hH_ ?zr12
  case hyr12 => (intro w hSw; (try dsimp only at hSw); unfold o9_12; go_simp <;> with_reducible rfl)
  try simp only [o9_12, Act.put, p1_, p2_, p3_]
  refine tk_ (i := 13) (oi := o9_13) (v := ?vr13) (Or.inl ⟨by rfl, ?hyr13⟩) hH_ ?zr13
  case hyr13 => (intro w hSw; (try dsimp only at hSw); unfold o9_13; go_simp <;> with_reducible rfl)
  try simp only [o9_13, Act.put, p1_, p2_, p3_]
  refine tk_ (i := 14) (oi := o9_14) (v := ?vr14) (Or.inl ⟨by rfl, ?hyr14⟩) hH_ ?zr14
  case hyr14 => (intro w hSw; (try dsimp only at hSw); unfold o9_14; go_simp <;> with_reducible rfl)
  try simp only [o9_14, Act.put, p1_, p2_, p3_]
  refine tk_ (i := 15) (oi := o9_15) (v := ?vr15) (Or.inl ⟨by rfl, ?hyr15⟩) hH_ ?zr15
  case hyr15 => (intro w hSw; (try dsimp only at hSw); unfold o9_15; go_simp <;> with_reducible rfl)
  try simp only [o9_15, Act.put, p1_, p2_, p3_]
  refine tk_ (i := 16) (oi := o9_16) (v := ?vr16) (Or.inl ⟨by rfl, ?hyr16⟩) hH_ ?zr16
  case hyr16 => (intro w hSw; (try dsimp only at hSw); unfold o9_16; go_simp <;> with_reducible rfl)
  try simp only [o9_16, Act.put, p1_, p2_, p3_]
  refine tk_ (i := 17) (oi := o9_17) (v := undef) (Or.inr ⟨by rfl, rfl⟩) hH_ ?_
  try simp only [o9_17, Act.put, p1_, p2_, p3_]
  refine tk_ (i := 18) (oi := o9_18) (v := undef) (Or.inr ⟨by rfl, rfl⟩) hH_ ?_
  try simp only [o9_18, Act.put, p1_, p2_, p3_]
  refine tk_ (i := 19) (oi := o9_19) (v := undef) (Or.inr ⟨by rfl, rfl⟩) hH_ ?_
  try simp only [o9_19, Act.put, p1_, p2_, p3_]
  refine tk_ (i := 20) (oi := o9_20) (v := undef) (Or.inr ⟨by rfl, rfl⟩) hH_ ?_
  try simp only [o9_20, Act.put, p1_, p2_, p3_]
  refine tk_ (i := 21) (oi := o9_21) (v := undef) (Or.inr ⟨by rfl, rfl⟩) hH_ ?_
  try simp only [o9_21, Act.put, p1_, p2_, p3_]
  refine tk_ (i := 22) (oi := o9_22) (v := undef) (Or.inr ⟨by rfl, rfl⟩) hH_ ?_
  try simp only [o9_22, Act.put, p1_, p2_, p3_]
  refine tk_ (i := 23) (oi := o9_23) (v := undef) (Or.inr ⟨by rfl, rfl⟩) hH_ ?_
  try simp only [o9_23, Act.put, p1_, p2_, p3_]
  refine tk_ (i := 24) (oi := o9_24) (v := undef) (Or.inr ⟨by rfl, rfl⟩) hH_ ?_
  try simp only [o9_24, Act.put, p1_, p2_, p3_]
  refine tk_ (i := 25) (oi := o9_25) (v := undef) (Or.inr ⟨by rfl, rfl⟩) hH_ ?_
  try simp only [o9_25, Act.put, p1_, p2_, p3_]
  refine tk_ (i := 26) (oi := o9_26) (v := ?vr26) (Or.inl ⟨by rfl, ?hyr26⟩) hH_ ?zr26
  case hyr26 => (intro w hSw; (try dsimp only at hSw); unfold o9_26; go_simp <;> with_reducible rfl)
  try simp only [o9_26, Act.put, p1_, p2_, p3_]
  refine tk_ (i := 27) (oi := o9_27) (v := ?vr27) (Or.inl ⟨by rfl, ?hyr27⟩) hH_ ?zr27
  case hyr27 => (intro w hSw; (try dsimp only at hSw); unfold o9_27; go_simp <;> with_reducible rfl)
  try simp only [o9_27, Act.put, p1_, p2_, p3_]
  refine tk_ (i := 28) (oi := o9_28) (v := ?vr28) (Or.inl ⟨by rfl, ?hyr28⟩) hH_ ?zr28
  case hyr28 => (intro w hSw; (try dsimp only at hSw); unfold o9_28; go_simp <;> with_reducible rfl)
  try simp only [o9_28, Act.put, p1_, p2_, p3_]
  refine tk_ (i := 29) (oi := o9_29) (v := ?vr29) (Or.inl ⟨by rfl, ?hyr29⟩) hH_ ?zr29
  case hyr29 => (intro w hSw; (try dsimp only at hSw); unfold o9_29; go_simp <;> with_reducible rfl)
  try simp only [o9_29, Act.put, p1_, p2_, p3_]
  refine tk_ (i := 30) (oi := o9_30) (v := ?vr30) (Or.inl ⟨by rfl, ?hyr30⟩) hH_ ?zr30
  case hyr30 => (intro w hSw; (try dsimp only at hSw); unfold o9_30; go_simp <;> with_reducible rfl)
  try simp only [o9_30, Act.put, p1_, p2_, p3_]
  refine tk_ (i := 31) (oi := o9_31) (v := ?vr31) (Or.inl ⟨by rfl, ?hyr31⟩) hH_ ?zr31
  case hyr31 => (intro w hSw; (try dsimp only at hSw); unfold o9_31; go_simp <;> with_reducible rfl)
  try simp only [o9_31, Act.put, p1_, p2_, p3_]
  refine tk_ (i := 32) (oi := o9_32) (v := undef) (Or.inr ⟨by rfl, rfl⟩) hH_ ?_
  try simp only [o9_32, Act.put, p1_, p2_, p3_]
  refine tk_ (i := 33) (oi := o9_33) (v := undef) (Or.inr ⟨by rfl, rfl⟩) hH_ ?_
  try simp only [o9_33, Act.put, p1_, p2_, p3_]
  refine tk_ (i := 34) (oi := o9_34) (v := undef) (Or.inr ⟨by rfl, rfl⟩) hH_ ?_
  try simp only [o9_34, Act.put, p1_, p2_, p3_]
  refine tk_ (i := 35) (oi := o9_35) (v := undef) (Or.inr ⟨by rfl, rfl⟩) hH_ ?_
  try simp only [o9_35, Act.put, p1_, p2_, p3_]
  refine tk_ (i := 36) (oi := o9_36) (v := undef) (Or.inr ⟨by rfl, rfl⟩) hH_ ?_
  try simp only [o9_36, Act.put, p1_, p2_, p3_]
  refine tk_ (i := 37) (oi := o9_37) (v := undef) (Or.inr ⟨by rfl, rfl⟩) hH_ ?_
  try simp only [o9_37, Act.put, p1_, p2_, p3_]
  refine tk_ (i := 38) (oi := o9_38) (v := ?vr38) (Or.inl ⟨by rfl, ?hyr38⟩) hH_ ?zr38
  case hyr38 => (intro w hSw; (try dsimp only at hSw); unfold o9_38; go_simp <;> with_reducible rfl)
  try simp only [o9_38, Act.put, p1_, p2_, p3_]
  refine tk_ (i := 39) (oi := o9_39) (v := ?vr39) (Or.inl ⟨by rfl, ?hyr39⟩) hH_ ?zr39
  case hyr39 => (intro w hSw; (try dsimp only at hSw); unfold o9_39; go_simp <;> with_reducible rfl)
  try simp only [o9_39, Act.put, p1_, p2_, p3_]
  refine tk_ (i := 40) (oi := o9_40) (v := ?vr40) (Or.inl ⟨by rfl, ?hyr40⟩) hH_ ?zr40
  case hyr40 => (intro w hSw; (try dsimp only at hSw); unfold o9_40; go_simp <;> with_reducible rfl)
  try simp only [o9_40, Act.put, p1_, p2_, p3_]
  refine tk_ (i := 41) (oi := o9_41) (v := ?vr41) (Or.inl ⟨by rfl, ?hyr41⟩) hH_ ?zr41
  case hyr41 => (intro w hSw; (try dsimp only at hSw); unfold o9_41; go_simp <;> with_reducible rfl)
  try simp only [o9_41, Act.put, p1_, p2_, p3_]
  refine tk_ (i := 42) (oi := o9_42) (v := ?vr42) (Or.inl ⟨by rfl, ?hyr42⟩) hH_ ?zr42
  case hyr42 => (intro w hSw; (try dsimp only at hSw); unfold o9_42; go_simp <;> with_reducible rfl)
  try simp only [o9_42, Act.put, p1_, p2_, p3_]
  refine tk_ (i := 43) (oi := o9_43) (v := ?vr43) (Or.inl ⟨by rfl, ?hyr43⟩) hH_ ?zr43
  case hyr43 => (intro w hSw; (try dsimp only at hSw); unfold o9_43; go_simp <;> with_reducible rfl)
  try simp only [o9_43, Act.put, p1_, p2_, p3_]
  refine tk_ (i := 44) (oi := o9_44) (v := undef) (Or.inr ⟨by rfl, rfl⟩) hH_ ?_
  try simp only [o9_44, Act.put, p1_, p2_, p3_]
  refine tk_ (i := 45) (oi := o9_45) (v := undef) (Or.inr ⟨by rfl, rfl⟩) hH_ ?_
  try simp only [o9_45, Act.put, p1_, p2_, p3_]
  refine tk_ (i := 46) (oi := o9_46) (v := undef) (Or.inr ⟨by rfl, rfl⟩) hH_ ?_
  try simp only [o9_46, Act.put, p1_, p2_, p3_]
  refine tk_ (i := 47) (oi := o9_47) (v := undef) (Or.inr ⟨by rfl, rfl⟩) hH_ ?_
  try simp only [o9_47, Act.put, p1_, p2_, p3_]
  refine tk_ (i := 48) (oi := o9_48) (v := undef) (Or.inr ⟨by rfl, rfl⟩) hH_ ?_
  try simp only [o9_48, Act.put, p1_, p2_, p3_]
  refine tk_ (i := 49) (oi := o9_49) (v := undef) (Or.inr ⟨by rfl, rfl⟩) hH_ ?_
  try simp only [o9_49, Act.put, p1_, p2_, p3_]
  refine tk_ (i := 50) (oi := o9_50) (v := ?vr50) (Or.inl ⟨by rfl, ?hyr50⟩) hH_ ?zr50
  case hyr50 => (intro w hSw; (try dsimp only at hSw); unfold o9_50; go_simp <;> with_reducible rfl)
  try simp only [o9_50, Act.put, p1_, p2_, p3_]
  refine tk_ (i := 51) (oi := o9_51) (v := ?vr51) (Or.inl ⟨by rfl, ?hyr51⟩) hH_ ?zr51
  case hyr51 => (intro w hSw; (try dsimp only at hSw); unfold o9_51; go_simp <;> with_reducible rfl)
  try simp only [o9_51, Act.put, p1_, p2_, p3_]
  refine wpAnyH_done (by kernel_rfl) ?_ _
  refine NoPanic.normal ?_
  have D11 := Aside0.mk (below_step D10.out K0.out)
  generalize w10.drew = w11 at D11 ⊢
  clear Sall K0 hH_ D10
  obtain ⟨⟨p0_, p1_, p2_, p3_⟩, ⟨i0_, i1_, i2_, i3_, i4_, i5_⟩, ⟨l0_, l1_, l2_, l3_, l4_⟩, ⟨k0_, k1_⟩⟩ := XB.out w11 D11.out
  go_wp2_with fail
  clear p0_ p1_ p2_ p3_ i0_ i1_ i2_ i3_ i4_ i5_ l0_ l1_ l2_ l3_ l4_ k0_ k1_
  refine (psame_calls 0 0 0 Ap none cp 0 [] w11 (by simp) (Kd.C_below Cp8.out D11.out) Lp.out (Kd.C_nil _ _) (Nat.le_refl _)).mono ?_
  rintro e w12 ⟨rfl, hb⟩
  have D12 := Aside0.mk (below_step D11.out hb)
  clear hb
  obtain ⟨⟨p0_, p1_, p2_, p3_⟩, ⟨i0_, i1_, i2_, i3_, i4_, i5_⟩, ⟨l0_, l1_, l2_, l3_, l4_⟩, ⟨k0_, k1_⟩⟩ := XB.out w12 D12.out
  go_wp2_with fail
  clear p0_ p1_ p2_ p3_ i0_ i1_ i2_ i3_ i4_ i5_ l0_ l1_ l2_ l3_ l4_ k0_ k1_
  refine (isame_calls 0 0 0 0 0 Ai none ci 0 [] w12 (by simp) (Kd.C_below Ci8.out D12.out) Li.out (Kd.C_nil _ _) (Nat.le_refl _)).mono ?_
  rintro e w13 ⟨rfl, hb⟩
  have D13 := Aside0.mk (below_step D12.out hb)
  clear hb
  obtain ⟨⟨p0_, p1_, p2_, p3_⟩, ⟨i0_, i1_, i2_, i3_, i4_, i5_⟩, ⟨l0_, l1_, l2_, l3_, l4_⟩, ⟨k0_, k1_⟩⟩ := XB.out w13 D13.out
  go_wp2_with fail
  clear p0_ p1_ p2_ p3_ i0_ i1_ i2_ i3_ i4_ i5_ l0_ l1_ l2_ l3_ l4_ k0_ k1_
  refine (kgo.out _).mono ?_
  rintro e w14 ⟨rfl, hb⟩
  have D14 := Aside0.mk (below_step D13.out hb)
  clear hb
  go_wp2_with fail
  go_ret
  exact ⟨rfl, HB8.out.trans (below_weak_ D14.out HB8.out.size)⟩
set_option maxRecDepth 100000 in
set_option maxHeartbeats 6400000 in
theorem reads_fftf (A : Option Addr) (c : Nat) (l : List Int) (w : World) (hC : Kd.C (Kd.int .u8) w A l.length l) (hby : ∀ x ∈ l, IsByte x) (hlen : l.length ≤ 3000) (l0 l1 l2 l3 l4 : Int) (hGl : l = eleaseb l0 l1 l2 l3 l4) (hE : gposting l = ((0, 0, 0, []), 21)) (hF : ginvoice l = ((0, 0, 0, 0, 0, []), 21)) (hG : glease l = ((l0, l1, l2, l3, l4), 0)) (hH : gpack l = ((0, 0), 21)) :
    Calls Try.prog 7 #[.slice A l.length c] w fun e w' => e = .returned (.bool true) ∧ Below w.heap.size w w' := by
  have kp := Aside0.mk (fun w hC => Getposting_all A c l w hC hby (by omega) 0 0 0 21 [] hE)
  have ki := Aside0.mk (fun w hC => Getinvoice_all A c l w hC hby (by omega) 0 0 0 0 0 21 [] hF)
  have kl := Aside0.mk (fun w hC => bgetl A c l.length l rfl l0 l1 l2 l3 l4 0 w hC hby (by omega) hG)
  have kk := Aside0.mk (fun w hC => bgetk A c l.length l rfl 0 0 21 w hC hby (by omega) hH)
  have kst : Aside0 (∀ W : World, Kd.C (Kd.int .u8) W A l.length l → (convert 31 9 (.slice A l.length c)).run Try.prog W = .ok (.string (strOfNums l)) W) := ⟨fun W h => Kd.C_string (P := Try.prog) (c := c) Try.underlying31 Try.underlying5 Try.underlying9 h⟩
  have kP := Aside0.mk (fun Ap cp w hC => putposting_no 0 0 0 Ap cp [] w hC rfl)
  have kI := Aside0.mk (fun Ai ci w hC => putinvoice_no 0 0 0 0 0 Ai ci [] w hC rfl)
  have kL := Aside0.mk (fun w => elease_all l0 l1 l2 l3 l4 w)
  rw [← hGl] at kL
  have kgo := Aside0.mk (fun w => PZ.quitrentlaw14_goes.calls true w goes_is)
  obtain ⟨SB, hSB⟩ : ∃ s, strOfNums l = s := ⟨_, rfl⟩
  rw [hSB] at kst
  have HSB := Aside0.mk hSB
  have d30 : decide ((l.length : Int) > 3000) = false := decide_eq_false (by omega)
  have d31 : ¬ (3000 < (l.length : Int)) := by omega
  have HC := Aside0.mk hC
  have HB0 := Aside0.mk (Below.refl w.heap.size w)
  have HN := Aside0.mk hlen
  clear hC hby hlen hE hF hG hH hSB hGl
  go_enter Try.func7, Try.ntmps7
  go_wp2_with fail
  clear d30 d31
  refine (kp.out w (Kd.C_below HC.out HB0.out)).mono ?_
  rintro e w1 ⟨v, rfl, hV, hb⟩
  obtain ⟨Ap, cp, ev⟩ := Kd.R_slice hV
  subst ev
  have HB1 := Aside0.mk (below_step HB0.out hb)
  clear HB0 
  have Cp1 := Aside0.mk (Kd.R_reads' hV).2.2
  have Lp := Aside0.mk (Kd.R_reads' hV).2.1
  clear hV hb
  have hal := below_alloc (Below.refl w1.heap.size w1) (Obj.cells #[.int .u64 0, .int .i64 0, .int .u32 0, .slice Ap 0 cp] 26)
  have HB2 := Aside0.mk (below_step HB1.out hal)
  have Cp2 := Aside0.mk (Kd.C_below Cp1.out hal)
  have Xp2 : Aside0 (Blk (w1.alloc (Obj.cells #[.int .u64 0, .int .i64 0, .int .u32 0, .slice Ap 0 cp] 26)) w1.heap.size (Obj.cells #[.int .u64 0, .int .i64 0, .int .u32 0, .slice Ap 0 cp] 26 (0, 0))) := ⟨Blk.new_⟩
  go_wp2_with fail
  obtain ⟨w2, hwx⟩ : ∃ W, w1.alloc (Obj.cells #[.int .u64 0, .int .i64 0, .int .u32 0, .slice Ap 0 cp] 26) = W := ⟨_, rfl⟩
  rw [hwx] at Xp2 HB2 Cp2 ⊢
  obtain ⟨bp, hbx⟩ : ∃ b, w1.heap.size = b := ⟨_, rfl⟩
  rw [hbx] at Xp2 ⊢
  clear hal hwx hbx HB1 Cp1
  refine (ki.out w2 (Kd.C_below HC.out HB2.out)).mono ?_
  rintro e w3 ⟨v, rfl, hV, hb⟩
  obtain ⟨Ai, ci, ev⟩ := Kd.R_slice hV
  subst ev
  have HB3 := Aside0.mk (below_step HB2.out hb)
  have Cp3 := Aside0.mk (Kd.C_below Cp2.out hb)
  have Xp3 := Aside0.mk (Xp2.out.below hb)
  clear HB2 Cp2 Xp2
  have Ci3 := Aside0.mk (Kd.R_reads' hV).2.2
  have Li := Aside0.mk (Kd.R_reads' hV).2.1
  clear hV hb
  have hal := below_alloc (Below.refl w3.heap.size w3) (Obj.cells #[.int .u32 0, .int .u32 0, .int .i64 0, .slice Ai 0 ci, .int .i64 0, .int .i64 0] 30)
  have HB4 := Aside0.mk (below_step HB3.out hal)
  have Cp4 := Aside0.mk (Kd.C_below Cp3.out hal)
  have Xp4 := Aside0.mk (Xp3.out.below hal)
  have Ci4 := Aside0.mk (Kd.C_below Ci3.out hal)
  have Xi4 : Aside0 (Blk (w3.alloc (Obj.cells #[.int .u32 0, .int .u32 0, .int .i64 0, .slice Ai 0 ci, .int .i64 0, .int .i64 0] 30)) w3.heap.size (Obj.cells #[.int .u32 0, .int .u32 0, .int .i64 0, .slice Ai 0 ci, .int .i64 0, .int .i64 0] 30 (0, 0))) := ⟨Blk.new_⟩
  go_wp2_with fail
  obtain ⟨w4, hwx⟩ : ∃ W, w3.alloc (Obj.cells #[.int .u32 0, .int .u32 0, .int .i64 0, .slice Ai 0 ci, .int .i64 0, .int .i64 0] 30) = W := ⟨_, rfl⟩
  rw [hwx] at Xi4 HB4 Cp4 Xp4 Ci4 ⊢
  obtain ⟨bi, hbx⟩ : ∃ b, w3.heap.size = b := ⟨_, rfl⟩
  rw [hbx] at Xi4 ⊢
  clear hal hwx hbx HB3 Cp3 Xp3 Ci3
  refine (kl.out w4 (Kd.C_below HC.out HB4.out)).mono ?_
  rintro e w5 ⟨rfl, hb⟩
  have HB5 := Aside0.mk (below_step HB4.out hb)
  have Cp5 := Aside0.mk (Kd.C_below Cp4.out hb)
  have Xp5 := Aside0.mk (Xp4.out.below hb)
  have Ci5 := Aside0.mk (Kd.C_below Ci4.out hb)
  have Xi5 := Aside0.mk (Xi4.out.below hb)
  clear HB4 Cp4 Xp4 Ci4 Xi4
  clear hb
  have hal := below_alloc (Below.refl w5.heap.size w5) (Obj.cells #[.int .u32 l0, .int .i64 l1, .int .i64 l2, .int .i64 l3, .int .i64 l4] 40)
  have HB6 := Aside0.mk (below_step HB5.out hal)
  have Cp6 := Aside0.mk (Kd.C_below Cp5.out hal)
  have Xp6 := Aside0.mk (Xp5.out.below hal)
  have Ci6 := Aside0.mk (Kd.C_below Ci5.out hal)
  have Xi6 := Aside0.mk (Xi5.out.below hal)
  have Xl6 : Aside0 (Blk (w5.alloc (Obj.cells #[.int .u32 l0, .int .i64 l1, .int .i64 l2, .int .i64 l3, .int .i64 l4] 40)) w5.heap.size (Obj.cells #[.int .u32 l0, .int .i64 l1, .int .i64 l2, .int .i64 l3, .int .i64 l4] 40 (0, 0))) := ⟨Blk.new_⟩
  go_wp2_with fail
  obtain ⟨w6, hwx⟩ : ∃ W, w5.alloc (Obj.cells #[.int .u32 l0, .int .i64 l1, .int .i64 l2, .int .i64 l3, .int .i64 l4] 40) = W := ⟨_, rfl⟩
  rw [hwx] at Xl6 HB6 Cp6 Xp6 Ci6 Xi6 ⊢
  obtain ⟨bl, hbx⟩ : ∃ b, w5.heap.size = b := ⟨_, rfl⟩
  rw [hbx] at Xl6 ⊢
  clear hal hwx hbx HB5 Cp5 Xp5 Ci5 Xi5
  refine (kk.out w6 (Kd.C_below HC.out HB6.out)).mono ?_
  rintro e w7 ⟨rfl, hb⟩
  have HB7 := Aside0.mk (below_step HB6.out hb)
  have Cp7 := Aside0.mk (Kd.C_below Cp6.out hb)
  have Xp7 := Aside0.mk (Xp6.out.below hb)
  have Ci7 := Aside0.mk (Kd.C_below Ci6.out hb)
  have Xi7 := Aside0.mk (Xi6.out.below hb)
  have Xl7 := Aside0.mk (Xl6.out.below hb)
  clear HB6 Cp6 Xp6 Ci6 Xi6 Xl6
  clear hb
  have hal := below_alloc (Below.refl w7.heap.size w7) (Obj.cells #[.int .u32 0, .int .i64 0] 42)
  have HB8 := Aside0.mk (below_step HB7.out hal)
  have Cp8 := Aside0.mk (Kd.C_below Cp7.out hal)
  have Xp8 := Aside0.mk (Xp7.out.below hal)
  have Ci8 := Aside0.mk (Kd.C_below Ci7.out hal)
  have Xi8 := Aside0.mk (Xi7.out.below hal)
  have Xl8 := Aside0.mk (Xl7.out.below hal)
  have Xk8 : Aside0 (Blk (w7.alloc (Obj.cells #[.int .u32 0, .int .i64 0] 42)) w7.heap.size (Obj.cells #[.int .u32 0, .int .i64 0] 42 (0, 0))) := ⟨Blk.new_⟩
  have cz : (w7.alloc (Obj.cells #[.int .u32 0, .int .i64 0] 42)).cell? ⟨bp, 0, none⟩ = some (.int .u64 0) ∧ (w7.alloc (Obj.cells #[.int .u32 0, .int .i64 0] 42)).cell? ⟨bp, 1, none⟩ = some (.int .i64 0) ∧ (w7.alloc (Obj.cells #[.int .u32 0, .int .i64 0] 42)).cell? ⟨bp, 2, none⟩ = some (.int .u32 0) ∧ (w7.alloc (Obj.cells #[.int .u32 0, .int .i64 0] 42)).cell? ⟨bp, 3, none⟩ = some (.slice Ap 0 cp) := ⟨(Xp8.out.cell 0).trans rfl, (Xp8.out.cell 1).trans rfl, (Xp8.out.cell 2).trans rfl, (Xp8.out.cell 3).trans rfl⟩
  obtain ⟨p0_, p1_, p2_, p3_⟩ := cz
  go_wp2_with fail
  clear p0_ p1_ p2_ p3_
  obtain ⟨w8, hwx⟩ : ∃ W, w7.alloc (Obj.cells #[.int .u32 0, .int .i64 0] 42) = W := ⟨_, rfl⟩
  rw [hwx] at Xk8 HB8 Cp8 Xp8 Ci8 Xi8 Xl8 ⊢
  obtain ⟨bk, hbx⟩ : ∃ b, w7.heap.size = b := ⟨_, rfl⟩
  rw [hbx] at Xk8 ⊢
  clear hal hwx hbx HB7 Cp7 Xp7 Ci7 Xi7 Xl7
  have XB : Aside0 (∀ W : World, Below w8.heap.size w8 W → (W.cell? ⟨bp, 0, none⟩ = some (.int .u64 0) ∧ W.cell? ⟨bp, 1, none⟩ = some (.int .i64 0) ∧ W.cell? ⟨bp, 2, none⟩ = some (.int .u32 0) ∧ W.cell? ⟨bp, 3, none⟩ = some (.slice Ap 0 cp)) ∧ (W.cell? ⟨bi, 0, none⟩ = some (.int .u32 0) ∧ W.cell? ⟨bi, 1, none⟩ = some (.int .u32 0) ∧ W.cell? ⟨bi, 2, none⟩ = some (.int .i64 0) ∧ W.cell? ⟨bi, 3, none⟩ = some (.slice Ai 0 ci) ∧ W.cell? ⟨bi, 4, none⟩ = some (.int .i64 0) ∧ W.cell? ⟨bi, 5, none⟩ = some (.int .i64 0)) ∧ (W.cell? ⟨bl, 0, none⟩ = some (.int .u32 l0) ∧ W.cell? ⟨bl, 1, none⟩ = some (.int .i64 l1) ∧ W.cell? ⟨bl, 2, none⟩ = some (.int .i64 l2) ∧ W.cell? ⟨bl, 3, none⟩ = some (.int .i64 l3) ∧ W.cell? ⟨bl, 4, none⟩ = some (.int .i64 l4)) ∧ (W.cell? ⟨bk, 0, none⟩ = some (.int .u32 0) ∧ W.cell? ⟨bk, 1, none⟩ = some (.int .i64 0))) := ⟨fun W hW => by
    have Yp := Xp8.out.below hW
    have Yi := Xi8.out.below hW
    have Yl := Xl8.out.below hW
    have Yk := Xk8.out.below hW
    exact ⟨⟨(Yp.cell 0).trans rfl, (Yp.cell 1).trans rfl, (Yp.cell 2).trans rfl, (Yp.cell 3).trans rfl⟩, ⟨(Yi.cell 0).trans rfl, (Yi.cell 1).trans rfl, (Yi.cell 2).trans rfl, (Yi.cell 3).trans rfl, (Yi.cell 4).trans rfl, (Yi.cell 5).trans rfl⟩, ⟨(Yl.cell 0).trans rfl, (Yl.cell 1).trans rfl, (Yl.cell 2).trans rfl, (Yl.cell 3).trans rfl, (Yl.cell 4).trans rfl⟩, ⟨(Yk.cell 0).trans rfl, (Yk.cell 1).trans rfl⟩⟩⟩
  have HCn := Aside0.mk (Kd.C_below HC.out HB8.out)
  have D8 := Aside0.mk (Below.refl w8.heap.size w8)
  clear Xp8 Xi8 Xl8 Xk8 HC
  refine (kP.out Ap cp w8 Cp8.out).mono ?_
  rintro e w9 ⟨rfl, hb⟩
  have D9 := Aside0.mk hb
  clear hb D8
  obtain ⟨_, ⟨i0_, i1_, i2_, i3_, i4_, i5_⟩, _⟩ := XB.out w9 D9.out
  go_wp2_with fail
  clear i0_ i1_ i2_ i3_ i4_ i5_
  refine (kI.out Ai ci w9 (Kd.C_below Ci8.out D9.out)).mono ?_
  rintro e w10 ⟨rfl, hb⟩
  have D10 := Aside0.mk (below_step D9.out hb)
  clear hb D9
  go_wp2_with fail
  have Sall : Aside0 (∀ W : World, Below w10.heap.size w10 W → (convert 31 9 (.slice A l.length c)).run Try.prog W = .ok (.string SB) W ∧ W.cell? ⟨bl, 0, none⟩ = some (.int .u32 l0) ∧ W.cell? ⟨bl, 1, none⟩ = some (.int .i64 l1) ∧ W.cell? ⟨bl, 2, none⟩ = some (.int .i64 l2) ∧ W.cell? ⟨bl, 3, none⟩ = some (.int .i64 l3) ∧ W.cell? ⟨bl, 4, none⟩ = some (.int .i64 l4)) := ⟨fun W hW => ⟨kst.out W (Kd.C_below HCn.out (D10.out.trans (below_weak_ hW D10.out.size))), (XB.out W (D10.out.trans (below_weak_ hW D10.out.size))).2.2.1⟩⟩
  have K0 := Aside0.mk (below_drew (Below.refl w10.heap.size w10))
  refine wp_region_noPanic ?_
  refine wp_region_held_drew (S := fun W : World => (convert 31 9 (.slice A l.length c)).run Try.prog W = .ok (.string SB) W ∧ W.cell? ⟨bl, 0, none⟩ = some (.int .u32 l0) ∧ W.cell? ⟨bl, 1, none⟩ = some (.int .i64 l1) ∧ W.cell? ⟨bl, 2, none⟩ = some (.int .i64 l2) ∧ W.cell? ⟨bl, 3, none⟩ = some (.int .i64 l3) ∧ W.cell? ⟨bl, 4, none⟩ = some (.int .i64 l4)) (by kernel_rfl) ?_ (fun hH_ => ?_)
  · exact Sall.out _ K0.out
  refine tk_ (i := 0) (oi := o9_0) (v := ?vr0) (Or.inl ⟨by rfl, ?hyr0⟩) hH_ ?zr0
  case hyr0 => (intro w hSw; (try dsimp only at hSw); unfold o9_0; go_simp <;> with_reducible rfl)
  try simp only [o9_0, Act.put, p1_, p2_, p3_]
  refine tk_ (i := 1) (oi := o9_1) (v := ?vr1) (Or.inl ⟨by rfl, ?hyr1⟩) hH_ ?zr1
  case hyr1 => (intro w hSw; (try dsimp only at hSw); unfold o9_1; go_simp <;> with_reducible rfl)
  try simp only [o9_1, Act.put, p1_, p2_, p3_]
  refine tk_ (i := 2) (oi := o9_2) (v := ?vr2) (Or.inl ⟨by rfl, ?hyr2⟩) hH_ ?zr2
  case hyr2 => (intro w hSw; (try dsimp only at hSw); unfold o9_2; go_simp <;> with_reducible rfl)
  try simp only [o9_2, Act.put, p1_, p2_, p3_]
  refine tk_ (i := 3) (oi := o9_3) (v := undef) (Or.inr ⟨by rfl, rfl⟩) hH_ ?_
  try simp only [o9_3, Act.put, p1_, p2_, p3_]
  refine tk_ (i := 4) (oi := o9_4) (v := undef) (Or.inr ⟨by rfl, rfl⟩) hH_ ?_
  try simp only [o9_4, Act.put, p1_, p2_, p3_]
  refine tk_ (i := 5) (oi := o9_5) (v := undef) (Or.inr ⟨by rfl, rfl⟩) hH_ ?_
  try simp only [o9_5, Act.put, p1_, p2_, p3_]
  refine tk_ (i := 6) (oi := o9_6) (v := undef) (Or.inr ⟨by rfl, rfl⟩) hH_ ?_
  try simp only [o9_6, Act.put, p1_, p2_, p3_]
  refine tk_ (i := 7) (oi := o9_7) (v := undef) (Or.inr ⟨by rfl, rfl⟩) hH_ ?_
  try simp only [o9_7, Act.put, p1_, p2_, p3_]
  refine tk_ (i := 8) (oi := o9_8) (v := undef) (Or.inr ⟨by rfl, rfl⟩) hH_ ?_
  try simp only [o9_8, Act.put, p1_, p2_, p3_]
  refine tk_ (i := 9) (oi := o9_9) (v := undef) (Or.inr ⟨by rfl, rfl⟩) hH_ ?_
  try simp only [o9_9, Act.put, p1_, p2_, p3_]
  refine tk_ (i := 10) (oi := o9_10) (v := undef) (Or.inr ⟨by rfl, rfl⟩) hH_ ?_
  try simp only [o9_10, Act.put, p1_, p2_, p3_]
  refine tk_ (i := 11) (oi := o9_11) (v := undef) (Or.inr ⟨by rfl, rfl⟩) hH_ ?_
  try simp only [o9_11, Act.put, p1_, p2_, p3_]
  refine tk_ (i := 12) (oi := o9_12) (v := ?vr12) (Or.inl ⟨by rfl, ?hyr12⟩) hH_ ?zr12
  case hyr12 => (intro w hSw; (try dsimp only at hSw); unfold o9_12; go_simp <;> with_reducible rfl)
  try simp only [o9_12, Act.put, p1_, p2_, p3_]
  refine tk_ (i := 13) (oi := o9_13) (v := ?vr13) (Or.inl ⟨by rfl, ?hyr13⟩) hH_ ?zr13
  case hyr13 => (intro w hSw; (try dsimp only at hSw); unfold o9_13; go_simp <;> with_reducible rfl)
  try simp only [o9_13, Act.put, p1_, p2_, p3_]
  refine tk_ (i := 14) (oi := o9_14) (v := ?vr14) (Or.inl ⟨by rfl, ?hyr14⟩) hH_ ?zr14
  case hyr14 => (intro w hSw; (try dsimp only at hSw); unfold o9_14; go_simp <;> with_reducible rfl)
  try simp only [o9_14, Act.put, p1_, p2_, p3_]
  refine tk_ (i := 15) (oi := o9_15) (v := ?vr15) (Or.inl ⟨by rfl, ?hyr15⟩) hH_ ?zr15
  case hyr15 => (intro w hSw; (try dsimp only at hSw); unfold o9_15; go_simp <;> with_reducible rfl)
  try simp only [o9_15, Act.put, p1_, p2_, p3_]
  refine tk_ (i := 16) (oi := o9_16) (v := ?vr16) (Or.inl ⟨by rfl, ?hyr16⟩) hH_ ?zr16
  case hyr16 => (intro w hSw; (try dsimp only at hSw); unfold o9_16; go_simp <;> with_reducible rfl)
  try simp only [o9_16, Act.put, p1_, p2_, p3_]
  refine tk_ (i := 17) (oi := o9_17) (v := undef) (Or.inr ⟨by rfl, rfl⟩) hH_ ?_
  try simp only [o9_17, Act.put, p1_, p2_, p3_]
  refine tk_ (i := 18) (oi := o9_18) (v := undef) (Or.inr ⟨by rfl, rfl⟩) hH_ ?_
  try simp only [o9_18, Act.put, p1_, p2_, p3_]
  refine tk_ (i := 19) (oi := o9_19) (v := undef) (Or.inr ⟨by rfl, rfl⟩) hH_ ?_
  try simp only [o9_19, Act.put, p1_, p2_, p3_]
  refine tk_ (i := 20) (oi := o9_20) (v := undef) (Or.inr ⟨by rfl, rfl⟩) hH_ ?_
  try simp only [o9_20, Act.put, p1_, p2_, p3_]
  refine tk_ (i := 21) (oi := o9_21) (v := undef) (Or.inr ⟨by rfl, rfl⟩) hH_ ?_
  try simp only [o9_21, Act.put, p1_, p2_, p3_]
  refine tk_ (i := 22) (oi := o9_22) (v := undef) (Or.inr ⟨by rfl, rfl⟩) hH_ ?_
  try simp only [o9_22, Act.put, p1_, p2_, p3_]
  refine tk_ (i := 23) (oi := o9_23) (v := undef) (Or.inr ⟨by rfl, rfl⟩) hH_ ?_
  try simp only [o9_23, Act.put, p1_, p2_, p3_]
  refine tk_ (i := 24) (oi := o9_24) (v := undef) (Or.inr ⟨by rfl, rfl⟩) hH_ ?_
  try simp only [o9_24, Act.put, p1_, p2_, p3_]
  refine tk_ (i := 25) (oi := o9_25) (v := undef) (Or.inr ⟨by rfl, rfl⟩) hH_ ?_
  try simp only [o9_25, Act.put, p1_, p2_, p3_]
  refine tk_ (i := 26) (oi := o9_26) (v := ?vr26) (Or.inl ⟨by rfl, ?hyr26⟩) hH_ ?zr26
  case hyr26 => (intro w hSw; (try dsimp only at hSw); unfold o9_26; go_simp <;> with_reducible rfl)
  try simp only [o9_26, Act.put, p1_, p2_, p3_]
  refine tk_ (i := 27) (oi := o9_27) (v := ?vr27) (Or.inl ⟨by rfl, ?hyr27⟩) hH_ ?zr27
  case hyr27 => (intro w hSw; (try dsimp only at hSw); unfold o9_27; go_simp <;> with_reducible rfl)
  try simp only [o9_27, Act.put, p1_, p2_, p3_]
  refine tk_ (i := 28) (oi := o9_28) (v := ?vr28) (Or.inl ⟨by rfl, ?hyr28⟩) hH_ ?zr28
  case hyr28 => (intro w hSw; (try dsimp only at hSw); unfold o9_28; go_simp <;> with_reducible rfl)
  try simp only [o9_28, Act.put, p1_, p2_, p3_]
  refine tk_ (i := 29) (oi := o9_29) (v := ?vr29) (Or.inl ⟨by rfl, ?hyr29⟩) hH_ ?zr29
  case hyr29 => (intro w hSw; (try dsimp only at hSw); unfold o9_29; go_simp <;> with_reducible rfl)
  try simp only [o9_29, Act.put, p1_, p2_, p3_]
  refine tk_ (i := 30) (oi := o9_30) (v := ?vr30) (Or.inl ⟨by rfl, ?hyr30⟩) hH_ ?zr30
  case hyr30 => (intro w hSw; (try dsimp only at hSw); unfold o9_30; go_simp <;> with_reducible rfl)
  try simp only [o9_30, Act.put, p1_, p2_, p3_]
  refine tk_ (i := 31) (oi := o9_31) (v := ?vr31) (Or.inl ⟨by rfl, ?hyr31⟩) hH_ ?zr31
  case hyr31 => (intro w hSw; (try dsimp only at hSw); unfold o9_31; go_simp <;> with_reducible rfl)
  try simp only [o9_31, Act.put, p1_, p2_, p3_]
  refine tk_ (i := 32) (oi := o9_32) (v := ?vr32) (Or.inl ⟨by rfl, ?hyr32⟩) hH_ ?zr32
  case hyr32 => (intro w hSw; (try dsimp only at hSw); unfold o9_32; go_simp <;> with_reducible rfl)
  try simp only [o9_32, Act.put, p1_, p2_, p3_]
  refine tk_ (i := 35) (oi := o9_35) (v := ?vr35) (Or.inl ⟨by rfl, ?hyr35⟩) hH_ ?zr35
  case hyr35 => (intro w hSw; (try dsimp only at hSw); unfold o9_35; go_simp <;> with_reducible rfl)
  try simp only [o9_35, Act.put, p1_, p2_, p3_]
  refine tk_ (i := 36) (oi := o9_36) (v := ?vr36) (Or.inl ⟨by rfl, ?hyr36⟩) hH_ ?zr36
  case hyr36 => (intro w hSw; (try dsimp only at hSw); unfold o9_36; go_simp <;> with_reducible rfl)
  try simp only [o9_36, Act.put, p1_, p2_, p3_]
  refine wpAnyH_ready (rs := [33]) (by kernel_rfl) (by simp) ?_
  refine AllReadyH.cons (o := o9_33) rfl (fun K hK => ?_) AllReadyH.nil
  unfold o9_33; go_simp
  go_wp2_with (first | (go_at_call 16; (with_reducible refine (kL.out _).mono ?_); rintro e w11 ⟨v5, rfl, hV, hb⟩; (have K1 := Aside0.mk (below_step K0.out hb)); (have cvl := r_str hV); rw [HSB.out] at cvl; clear hV hb))
  refine hK.out _ _ (Sall.out _ K1.out) (fun hH_' => ?_)
  clear hK K hH_
  have hH_ := hH_'
  clear hH_'
  try simp only [Act.put, p1_, p2_, p3_]
  refine wpAnyH_ready (rs := [34]) (by kernel_rfl) (by simp) ?_
  refine AllReadyH.cons (o := o9_34) rfl (fun K hK => ?_) AllReadyH.nil
  unfold o9_34; go_simp
  refine hK.out _ _ (hH_) (fun hH_' => ?_)
  clear hK K hH_
  have hH_ := hH_'
  clear hH_'
  try simp only [Act.put, p1_, p2_, p3_]
  refine tk_ (i := 37) (oi := o9_37) (v := ?vr37) (Or.inl ⟨by rfl, ?hyr37⟩) hH_ ?zr37
  case hyr37 => (intro w hSw; (try dsimp only at hSw); unfold o9_37; go_simp <;> with_reducible rfl)
  try simp only [o9_37, Act.put, p1_, p2_, p3_]
  refine tk_ (i := 38) (oi := o9_38) (v := ?vr38) (Or.inl ⟨by rfl, ?hyr38⟩) hH_ ?zr38
  case hyr38 => (intro w hSw; (try dsimp only at hSw); unfold o9_38; go_simp <;> with_reducible rfl)
  try simp only [o9_38, Act.put, p1_, p2_, p3_]
  refine tk_ (i := 39) (oi := o9_39) (v := ?vr39) (Or.inl ⟨by rfl, ?hyr39⟩) hH_ ?zr39
  case hyr39 => (intro w hSw; (try dsimp only at hSw); unfold o9_39; go_simp <;> with_reducible rfl)
  try simp only [o9_39, Act.put, p1_, p2_, p3_]
  refine tk_ (i := 40) (oi := o9_40) (v := ?vr40) (Or.inl ⟨by rfl, ?hyr40⟩) hH_ ?zr40
  case hyr40 => (intro w hSw; (try dsimp only at hSw); unfold o9_40; go_simp <;> with_reducible rfl)
  try simp only [o9_40, Act.put, p1_, p2_, p3_]
  refine tk_ (i := 41) (oi := o9_41) (v := ?vr41) (Or.inl ⟨by rfl, ?hyr41⟩) hH_ ?zr41
  case hyr41 => (intro w hSw; (try dsimp only at hSw); unfold o9_41; go_simp <;> with_reducible rfl)
  try simp only [o9_41, Act.put, p1_, p2_, p3_]
  refine tk_ (i := 42) (oi := o9_42) (v := ?vr42) (Or.inl ⟨by rfl, ?hyr42⟩) hH_ ?zr42
  case hyr42 => (intro w hSw; (try dsimp only at hSw); unfold o9_42; go_simp <;> with_reducible rfl)
  try simp only [o9_42, Act.put, p1_, p2_, p3_]
  refine tk_ (i := 43) (oi := o9_43) (v := ?vr43) (Or.inl ⟨by rfl, ?hyr43⟩) hH_ ?zr43
  case hyr43 => (intro w hSw; (try dsimp only at hSw); unfold o9_43; go_simp <;> with_reducible rfl)
  try simp only [o9_43, Act.put, p1_, p2_, p3_]
  refine tk_ (i := 44) (oi := o9_44) (v := undef) (Or.inr ⟨by rfl, rfl⟩) hH_ ?_
  try simp only [o9_44, Act.put, p1_, p2_, p3_]
  refine tk_ (i := 45) (oi := o9_45) (v := undef) (Or.inr ⟨by rfl, rfl⟩) hH_ ?_
  try simp only [o9_45, Act.put, p1_, p2_, p3_]
  refine tk_ (i := 46) (oi := o9_46) (v := undef) (Or.inr ⟨by rfl, rfl⟩) hH_ ?_
  try simp only [o9_46, Act.put, p1_, p2_, p3_]
  refine tk_ (i := 47) (oi := o9_47) (v := undef) (Or.inr ⟨by rfl, rfl⟩) hH_ ?_
  try simp only [o9_47, Act.put, p1_, p2_, p3_]
  refine tk_ (i := 48) (oi := o9_48) (v := undef) (Or.inr ⟨by rfl, rfl⟩) hH_ ?_
  try simp only [o9_48, Act.put, p1_, p2_, p3_]
  refine tk_ (i := 49) (oi := o9_49) (v := undef) (Or.inr ⟨by rfl, rfl⟩) hH_ ?_
  try simp only [o9_49, Act.put, p1_, p2_, p3_]
  refine tk_ (i := 50) (oi := o9_50) (v := ?vr50) (Or.inl ⟨by rfl, ?hyr50⟩) hH_ ?zr50
  case hyr50 => (intro w hSw; (try dsimp only at hSw); unfold o9_50; go_simp <;> with_reducible rfl)
  try simp only [o9_50, Act.put, p1_, p2_, p3_]
  refine tk_ (i := 51) (oi := o9_51) (v := ?vr51) (Or.inl ⟨by rfl, ?hyr51⟩) hH_ ?zr51
  case hyr51 => (intro w hSw; (try dsimp only at hSw); unfold o9_51; go_simp <;> with_reducible rfl)
  try simp only [o9_51, Act.put, p1_, p2_, p3_]
  refine wpAnyH_done (by kernel_rfl) ?_ _
  refine NoPanic.normal ?_
  have D11 := Aside0.mk (below_step D10.out K1.out)
  clear Sall K0 hH_ D10 K1 cvl
  obtain ⟨⟨p0_, p1_, p2_, p3_⟩, ⟨i0_, i1_, i2_, i3_, i4_, i5_⟩, ⟨l0_, l1_, l2_, l3_, l4_⟩, ⟨k0_, k1_⟩⟩ := XB.out w11 D11.out
  go_wp2_with fail
  clear p0_ p1_ p2_ p3_ i0_ i1_ i2_ i3_ i4_ i5_ l0_ l1_ l2_ l3_ l4_ k0_ k1_
  refine (psame_calls 0 0 0 Ap none cp 0 [] w11 (by simp) (Kd.C_below Cp8.out D11.out) Lp.out (Kd.C_nil _ _) (Nat.le_refl _)).mono ?_
  rintro e w12 ⟨rfl, hb⟩
  have D12 := Aside0.mk (below_step D11.out hb)
  clear hb
  obtain ⟨⟨p0_, p1_, p2_, p3_⟩, ⟨i0_, i1_, i2_, i3_, i4_, i5_⟩, ⟨l0_, l1_, l2_, l3_, l4_⟩, ⟨k0_, k1_⟩⟩ := XB.out w12 D12.out
  go_wp2_with fail
  clear p0_ p1_ p2_ p3_ i0_ i1_ i2_ i3_ i4_ i5_ l0_ l1_ l2_ l3_ l4_ k0_ k1_
  refine (isame_calls 0 0 0 0 0 Ai none ci 0 [] w12 (by simp) (Kd.C_below Ci8.out D12.out) Li.out (Kd.C_nil _ _) (Nat.le_refl _)).mono ?_
  rintro e w13 ⟨rfl, hb⟩
  have D13 := Aside0.mk (below_step D12.out hb)
  clear hb
  obtain ⟨⟨p0_, p1_, p2_, p3_⟩, ⟨i0_, i1_, i2_, i3_, i4_, i5_⟩, ⟨l0_, l1_, l2_, l3_, l4_⟩, ⟨k0_, k1_⟩⟩ := XB.out w13 D13.out
  go_wp2_with fail
  clear p0_ p1_ p2_ p3_ i0_ i1_ i2_ i3_ i4_ i5_ l0_ l1_ l2_ l3_ l4_ k0_ k1_
  refine (kgo.out _).mono ?_
  rintro e w14 ⟨rfl, hb⟩
  have D14 := Aside0.mk (below_step D13.out hb)
  clear hb
  go_wp2_with fail
  go_ret
  exact ⟨rfl, HB8.out.trans (below_weak_ D14.out HB8.out.size)⟩
set_option maxRecDepth 100000 in
set_option maxHeartbeats 6400000 in
theorem reads_ffft (A : Option Addr) (c : Nat) (l : List Int) (w : World) (hC : Kd.C (Kd.int .u8) w A l.length l) (hby : ∀ x ∈ l, IsByte x) (hlen : l.length ≤ 3000) (k0 k1 : Int) (hHl : l = epackb k0 k1) (hE : gposting l = ((0, 0, 0, []), 21)) (hF : ginvoice l = ((0, 0, 0, 0, 0, []), 21)) (hG : glease l = ((0, 0, 0, 0, 0), 21)) (hH : gpack l = ((k0, k1), 0)) :
    Calls Try.prog 7 #[.slice A l.length c] w fun e w' => e = .returned (.bool true) ∧ Below w.heap.size w w' := by
  have kp := Aside0.mk (fun w hC => Getposting_all A c l w hC hby (by omega) 0 0 0 21 [] hE)
  have ki := Aside0.mk (fun w hC => Getinvoice_all A c l w hC hby (by omega) 0 0 0 0 0 21 [] hF)
  have kl := Aside0.mk (fun w hC => bgetl A c l.length l rfl 0 0 0 0 0 21 w hC hby (by omega) hG)
  have kk := Aside0.mk (fun w hC => bgetk A c l.length l rfl k0 k1 0 w hC hby (by omega) hH)
  have kst : Aside0 (∀ W : World, Kd.C (Kd.int .u8) W A l.length l → (convert 31 9 (.slice A l.length c)).run Try.prog W = .ok (.string (strOfNums l)) W) := ⟨fun W h => Kd.C_string (P := Try.prog) (c := c) Try.underlying31 Try.underlying5 Try.underlying9 h⟩
  have kP := Aside0.mk (fun Ap cp w hC => putposting_no 0 0 0 Ap cp [] w hC rfl)
  have kI := Aside0.mk (fun Ai ci w hC => putinvoice_no 0 0 0 0 0 Ai ci [] w hC rfl)
  have kK := Aside0.mk (fun w => epack_all k0 k1 w)
  rw [← hHl] at kK
  have kgo := Aside0.mk (fun w => PZ.quitrentlaw14_goes.calls true w goes_is)
  obtain ⟨SB, hSB⟩ : ∃ s, strOfNums l = s := ⟨_, rfl⟩
  rw [hSB] at kst
  have HSB := Aside0.mk hSB
  have d30 : decide ((l.length : Int) > 3000) = false := decide_eq_false (by omega)
  have d31 : ¬ (3000 < (l.length : Int)) := by omega
  have HC := Aside0.mk hC
  have HB0 := Aside0.mk (Below.refl w.heap.size w)
  have HN := Aside0.mk hlen
  clear hC hby hlen hE hF hG hH hSB hHl
  go_enter Try.func7, Try.ntmps7
  go_wp2_with fail
  clear d30 d31
  refine (kp.out w (Kd.C_below HC.out HB0.out)).mono ?_
  rintro e w1 ⟨v, rfl, hV, hb⟩
  obtain ⟨Ap, cp, ev⟩ := Kd.R_slice hV
  subst ev
  have HB1 := Aside0.mk (below_step HB0.out hb)
  clear HB0 
  have Cp1 := Aside0.mk (Kd.R_reads' hV).2.2
  have Lp := Aside0.mk (Kd.R_reads' hV).2.1
  clear hV hb
  have hal := below_alloc (Below.refl w1.heap.size w1) (Obj.cells #[.int .u64 0, .int .i64 0, .int .u32 0, .slice Ap 0 cp] 26)
  have HB2 := Aside0.mk (below_step HB1.out hal)
  have Cp2 := Aside0.mk (Kd.C_below Cp1.out hal)
  have Xp2 : Aside0 (Blk (w1.alloc (Obj.cells #[.int .u64 0, .int .i64 0, .int .u32 0, .slice Ap 0 cp] 26)) w1.heap.size (Obj.cells #[.int .u64 0, .int .i64 0, .int .u32 0, .slice Ap 0 cp] 26 (0, 0))) := ⟨Blk.new_⟩
  go_wp2_with fail
  obtain ⟨w2, hwx⟩ : ∃ W, w1.alloc (Obj.cells #[.int .u64 0, .int .i64 0, .int .u32 0, .slice Ap 0 cp] 26) = W := ⟨_, rfl⟩
  rw [hwx] at Xp2 HB2 Cp2 ⊢
  obtain ⟨bp, hbx⟩ : ∃ b, w1.heap.size = b := ⟨_, rfl⟩
  rw [hbx] at Xp2 ⊢
  clear hal hwx hbx HB1 Cp1
  refine (ki.out w2 (Kd.C_below HC.out HB2.out)).mono ?_
  rintro e w3 ⟨v, rfl, hV, hb⟩
  obtain ⟨Ai, ci, ev⟩ := Kd.R_slice hV
  subst ev
  have HB3 := Aside0.mk (below_step HB2.out hb)
  have Cp3 := Aside0.mk (Kd.C_below Cp2.out hb)
  have Xp3 := Aside0.mk (Xp2.out.below hb)
  clear HB2 Cp2 Xp2
  have Ci3 := Aside0.mk (Kd.R_reads' hV).2.2
  have Li := Aside0.mk (Kd.R_reads' hV).2.1
  clear hV hb
  have hal := below_alloc (Below.refl w3.heap.size w3) (Obj.cells #[.int .u32 0, .int .u32 0, .int .i64 0, .slice Ai 0 ci, .int .i64 0, .int .i64 0] 30)
  have HB4 := Aside0.mk (below_step HB3.out hal)
  have Cp4 := Aside0.mk (Kd.C_below Cp3.out hal)
  have Xp4 := Aside0.mk (Xp3.out.below hal)
  have Ci4 := Aside0.mk (Kd.C_below Ci3.out hal)
  have Xi4 : Aside0 (Blk (w3.alloc (Obj.cells #[.int .u32 0, .int .u32 0, .int .i64 0, .slice Ai 0 ci, .int .i64 0, .int .i64 0] 30)) w3.heap.size (Obj.cells #[.int .u32 0, .int .u32 0, .int .i64 0, .slice Ai 0 ci, .int .i64 0, .int .i64 0] 30 (0, 0))) := ⟨Blk.new_⟩
  go_wp2_with fail
  obtain ⟨w4, hwx⟩ : ∃ W, w3.alloc (Obj.cells #[.int .u32 0, .int .u32 0, .int .i64 0, .slice Ai 0 ci, .int .i64 0, .int .i64 0] 30) = W := ⟨_, rfl⟩
  rw [hwx] at Xi4 HB4 Cp4 Xp4 Ci4 ⊢
  obtain ⟨bi, hbx⟩ : ∃ b, w3.heap.size = b := ⟨_, rfl⟩
  rw [hbx] at Xi4 ⊢
  clear hal hwx hbx HB3 Cp3 Xp3 Ci3
  refine (kl.out w4 (Kd.C_below HC.out HB4.out)).mono ?_
  rintro e w5 ⟨rfl, hb⟩
  have HB5 := Aside0.mk (below_step HB4.out hb)
  have Cp5 := Aside0.mk (Kd.C_below Cp4.out hb)
  have Xp5 := Aside0.mk (Xp4.out.below hb)
  have Ci5 := Aside0.mk (Kd.C_below Ci4.out hb)
  have Xi5 := Aside0.mk (Xi4.out.below hb)
  clear HB4 Cp4 Xp4 Ci4 Xi4
  clear hb
  have hal := below_alloc (Below.refl w5.heap.size w5) (Obj.cells #[.int .u32 0, .int .i64 0, .int .i64 0, .int .i64 0, .int .i64 0] 40)
  have HB6 := Aside0.mk (below_step HB5.out hal)
  have Cp6 := Aside0.mk (Kd.C_below Cp5.out hal)
  have Xp6 := Aside0.mk (Xp5.out.below hal)
  have Ci6 := Aside0.mk (Kd.C_below Ci5.out hal)
  have Xi6 := Aside0.mk (Xi5.out.below hal)
  have Xl6 : Aside0 (Blk (w5.alloc (Obj.cells #[.int .u32 0, .int .i64 0, .int .i64 0, .int .i64 0, .int .i64 0] 40)) w5.heap.size (Obj.cells #[.int .u32 0, .int .i64 0, .int .i64 0, .int .i64 0, .int .i64 0] 40 (0, 0))) := ⟨Blk.new_⟩
  go_wp2_with fail
  obtain ⟨w6, hwx⟩ : ∃ W, w5.alloc (Obj.cells #[.int .u32 0, .int .i64 0, .int .i64 0, .int .i64 0, .int .i64 0] 40) = W := ⟨_, rfl⟩
  rw [hwx] at Xl6 HB6 Cp6 Xp6 Ci6 Xi6 ⊢
  obtain ⟨bl, hbx⟩ : ∃ b, w5.heap.size = b := ⟨_, rfl⟩
  rw [hbx] at Xl6 ⊢
  clear hal hwx hbx HB5 Cp5 Xp5 Ci5 Xi5
  refine (kk.out w6 (Kd.C_below HC.out HB6.out)).mono ?_
  rintro e w7 ⟨rfl, hb⟩
  have HB7 := Aside0.mk (below_step HB6.out hb)
  have Cp7 := Aside0.mk (Kd.C_below Cp6.out hb)
  have Xp7 := Aside0.mk (Xp6.out.below hb)
  have Ci7 := Aside0.mk (Kd.C_below Ci6.out hb)
  have Xi7 := Aside0.mk (Xi6.out.below hb)
  have Xl7 := Aside0.mk (Xl6.out.below hb)
  clear HB6 Cp6 Xp6 Ci6 Xi6 Xl6
  clear hb
  have hal := below_alloc (Below.refl w7.heap.size w7) (Obj.cells #[.int .u32 k0, .int .i64 k1] 42)
  have HB8 := Aside0.mk (below_step HB7.out hal)
  have Cp8 := Aside0.mk (Kd.C_below Cp7.out hal)
  have Xp8 := Aside0.mk (Xp7.out.below hal)
  have Ci8 := Aside0.mk (Kd.C_below Ci7.out hal)
  have Xi8 := Aside0.mk (Xi7.out.below hal)
  have Xl8 := Aside0.mk (Xl7.out.below hal)
  have Xk8 : Aside0 (Blk (w7.alloc (Obj.cells #[.int .u32 k0, .int .i64 k1] 42)) w7.heap.size (Obj.cells #[.int .u32 k0, .int .i64 k1] 42 (0, 0))) := ⟨Blk.new_⟩
  have cz : (w7.alloc (Obj.cells #[.int .u32 k0, .int .i64 k1] 42)).cell? ⟨bp, 0, none⟩ = some (.int .u64 0) ∧ (w7.alloc (Obj.cells #[.int .u32 k0, .int .i64 k1] 42)).cell? ⟨bp, 1, none⟩ = some (.int .i64 0) ∧ (w7.alloc (Obj.cells #[.int .u32 k0, .int .i64 k1] 42)).cell? ⟨bp, 2, none⟩ = some (.int .u32 0) ∧ (w7.alloc (Obj.cells #[.int .u32 k0, .int .i64 k1] 42)).cell? ⟨bp, 3, none⟩ = some (.slice Ap 0 cp) := ⟨(Xp8.out.cell 0).trans rfl, (Xp8.out.cell 1).trans rfl, (Xp8.out.cell 2).trans rfl, (Xp8.out.cell 3).trans rfl⟩
  obtain ⟨p0_, p1_, p2_, p3_⟩ := cz
  go_wp2_with fail
  clear p0_ p1_ p2_ p3_
  obtain ⟨w8, hwx⟩ : ∃ W, w7.alloc (Obj.cells #[.int .u32 k0, .int .i64 k1] 42) = W := ⟨_, rfl⟩
  rw [hwx] at Xk8 HB8 Cp8 Xp8 Ci8 Xi8 Xl8 ⊢
  obtain ⟨bk, hbx⟩ : ∃ b, w7.heap.size = b := ⟨_, rfl⟩
  rw [hbx] at Xk8 ⊢
  clear hal hwx hbx HB7 Cp7 Xp7 Ci7 Xi7 Xl7
  have XB : Aside0 (∀ W : World, Below w8.heap.size w8 W → (W.cell? ⟨bp, 0, none⟩ = some (.int .u64 0) ∧ W.cell? ⟨bp, 1, none⟩ = some (.int .i64 0) ∧ W.cell? ⟨bp, 2, none⟩ = some (.int .u32 0) ∧ W.cell? ⟨bp, 3, none⟩ = some (.slice Ap 0 cp)) ∧ (W.cell? ⟨bi, 0, none⟩ = some (.int .u32 0) ∧ W.cell? ⟨bi, 1, none⟩ = some (.int .u32 0) ∧ W.cell? ⟨bi, 2, none⟩ = some (.int .i64 0) ∧ W.cell? ⟨bi, 3, none⟩ = some (.slice Ai 0 ci) ∧ W.cell? ⟨bi, 4, none⟩ = some (.int .i64 0) ∧ W.cell? ⟨bi, 5, none⟩ = some (.int .i64 0)) ∧ (W.cell? ⟨bl, 0, none⟩ = some (.int .u32 0) ∧ W.cell? ⟨bl, 1, none⟩ = some (.int .i64 0) ∧ W.cell? ⟨bl, 2, none⟩ = some (.int .i64 0) ∧ W.cell? ⟨bl, 3, none⟩ = some (.int .i64 0) ∧ W.cell? ⟨bl, 4, none⟩ = some (.int .i64 0)) ∧ (W.cell? ⟨bk, 0, none⟩ = some (.int .u32 k0) ∧ W.cell? ⟨bk, 1, none⟩ = some (.int .i64 k1))) := ⟨fun W hW => by
    have Yp := Xp8.out.below hW
    have Yi := Xi8.out.below hW
    have Yl := Xl8.out.below hW
    have Yk := Xk8.out.below hW
    exact ⟨⟨(Yp.cell 0).trans rfl, (Yp.cell 1).trans rfl, (Yp.cell 2).trans rfl, (Yp.cell 3).trans rfl⟩, ⟨(Yi.cell 0).trans rfl, (Yi.cell 1).trans rfl, (Yi.cell 2).trans rfl, (Yi.cell 3).trans rfl, (Yi.cell 4).trans rfl, (Yi.cell 5).trans rfl⟩, ⟨(Yl.cell 0).trans rfl, (Yl.cell 1).trans rfl, (Yl.cell 2).trans rfl, (Yl.cell 3).trans rfl, (Yl.cell 4).trans rfl⟩, ⟨(Yk.cell 0).trans rfl, (Yk.cell 1).trans rfl⟩⟩⟩
  have HCn := Aside0.mk (Kd.C_below HC.out HB8.out)
  have D8 := Aside0.mk (Below.refl w8.heap.size w8)
  clear Xp8 Xi8 Xl8 Xk8 HC
  refine (kP.out Ap cp w8 Cp8.out).mono ?_
  rintro e w9 ⟨rfl, hb⟩
  have D9 := Aside0.mk hb
  clear hb D8
  obtain ⟨_, ⟨i0_, i1_, i2_, i3_, i4_, i5_⟩, _⟩ := XB.out w9 D9.out
  go_wp2_with fail
  clear i0_ i1_ i2_ i3_ i4_ i5_
  refine (kI.out Ai ci w9 (Kd.C_below Ci8.out D9.out)).mono ?_
  rintro e w10 ⟨rfl, hb⟩
  have D10 := Aside0.mk (below_step D9.out hb)
  clear hb D9
  go_wp2_with fail
  have Sall : Aside0 (∀ W : World, Below w10.heap.size w10 W → (convert 31 9 (.slice A l.length c)).run Try.prog W = .ok (.string SB) W ∧ W.cell? ⟨bk, 0, none⟩ = some (.int .u32 k0) ∧ W.cell? ⟨bk, 1, none⟩ = some (.int .i64 k1)) := ⟨fun W hW => ⟨kst.out W (Kd.C_below HCn.out (D10.out.trans (below_weak_ hW D10.out.size))), (XB.out W (D10.out.trans (below_weak_ hW D10.out.size))).2.2.2⟩⟩
  have K0 := Aside0.mk (below_drew (Below.refl w10.heap.size w10))
  refine wp_region_noPanic ?_
  refine wp_region_held_drew (S := fun W : World => (convert 31 9 (.slice A l.length c)).run Try.prog W = .ok (.string SB) W ∧ W.cell? ⟨bk, 0, none⟩ = some (.int .u32 k0) ∧ W.cell? ⟨bk, 1, none⟩ = some (.int .i64 k1)) (by kernel_rfl) ?_ (fun hH_ => ?_)
  · exact Sall.out _ K0.out
  refine tk_ (i := 0) (oi := o9_0) (v := ?vr0) (Or.inl ⟨by rfl, ?hyr0⟩) hH_ ?zr0
  case hyr0 => (intro w hSw; (try dsimp only at hSw); unfold o9_0; go_simp <;> with_reducible rfl)
  try simp only [o9_0, Act.put, p1_, p2_, p3_]
  refine tk_ (i := 1) (oi := o9_1) (v := ?vr1) (Or.inl ⟨by rfl, ?hyr1⟩) hH_ ?zr1
  case hyr1 => (intro w hSw; (try dsimp only at hSw); unfold o9_1; go_simp <;> with_reducible rfl)
  try simp only [o9_1, Act.put, p1_, p2_, p3_]
  refine tk_ (i := 2) (oi := o9_2) (v := ?vr2) (Or.inl ⟨by rfl, ?hyr2⟩) hH_ ?zr2
  case hyr2 => (intro w hSw; (try dsimp only at hSw); unfold o9_2; go_simp <;> with_reducible rfl)
  try simp only [o9_2, Act.put, p1_, p2_, p3_]
  refine tk_ (i := 3) (oi := o9_3) (v := undef) (Or.inr ⟨by rfl, rfl⟩) hH_ ?_
  try simp only [o9_3, Act.put, p1_, p2_, p3_]
  refine tk_ (i := 4) (oi := o9_4) (v := undef) (Or.inr ⟨by rfl, rfl⟩) hH_ ?_
  try simp only [o9_4, Act.put, p1_, p2_, p3_]
  refine tk_ (i := 5) (oi := o9_5) (v := undef) (Or.inr ⟨by rfl, rfl⟩) hH_ ?_
  try simp only [o9_5, Act.put, p1_, p2_, p3_]
  refine tk_ (i := 6) (oi := o9_6) (v := undef) (Or.inr ⟨by rfl, rfl⟩) hH_ ?_
  try simp only [o9_6, Act.put, p1_, p2_, p3_]
  refine tk_ (i := 7) (oi := o9_7) (v := undef) (Or.inr ⟨by rfl, rfl⟩) hH_ ?_
  try simp only [o9_7, Act.put, p1_, p2_, p3_]
  refine tk_ (i := 8) (oi := o9_8) (v := undef) (Or.inr ⟨by rfl, rfl⟩) hH_ ?_
  try simp only [o9_8, Act.put, p1_, p2_, p3_]
  refine tk_ (i := 9) (oi := o9_9) (v := undef) (Or.inr ⟨by rfl, rfl⟩) hH_ ?_
  try simp only [o9_9, Act.put, p1_, p2_, p3_]
  refine tk_ (i := 10) (oi := o9_10) (v := undef) (Or.inr ⟨by rfl, rfl⟩) hH_ ?_
  try simp only [o9_10, Act.put, p1_, p2_, p3_]
  refine tk_ (i := 11) (oi := o9_11) (v := undef) (Or.inr ⟨by rfl, rfl⟩) hH_ ?_
  try simp only [o9_11, Act.put, p1_, p2_, p3_]
  refine tk_ (i := 12) (oi := o9_12) (v := ?vr12) (Or.inl ⟨by rfl, ?hyr12⟩) hH_ ?zr12
  case hyr12 => (intro w hSw; (try dsimp only at hSw); unfold o9_12; go_simp <;> with_reducible rfl)
  try simp only [o9_12, Act.put, p1_, p2_, p3_]
  refine tk_ (i := 13) (oi := o9_13) (v := ?vr13) (Or.inl ⟨by rfl, ?hyr13⟩) hH_ ?zr13
  case hyr13 => (intro w hSw; (try dsimp only at hSw); unfold o9_13; go_simp <;> with_reducible rfl)
  try simp only [o9_13, Act.put, p1_, p2_, p3_]
  refine tk_ (i := 14) (oi := o9_14) (v := ?vr14) (Or.inl ⟨by rfl, ?hyr14⟩) hH_ ?zr14
  case hyr14 => (intro w hSw; (try dsimp only at hSw); unfold o9_14; go_simp <;> with_reducible rfl)
  try simp only [o9_14, Act.put, p1_, p2_, p3_]
  refine tk_ (i := 15) (oi := o9_15) (v := ?vr15) (Or.inl ⟨by rfl, ?hyr15⟩) hH_ ?zr15
  case hyr15 => (intro w hSw; (try dsimp only at hSw); unfold o9_15; go_simp <;> with_reducible rfl)
  try simp only [o9_15, Act.put, p1_, p2_, p3_]
  refine tk_ (i := 16) (oi := o9_16) (v := ?vr16) (Or.inl ⟨by rfl, ?hyr16⟩) hH_ ?zr16
  case hyr16 => (intro w hSw; (try dsimp only at hSw); unfold o9_16; go_simp <;> with_reducible rfl)
  try simp only [o9_16, Act.put, p1_, p2_, p3_]
  refine tk_ (i := 17) (oi := o9_17) (v := undef) (Or.inr ⟨by rfl, rfl⟩) hH_ ?_
  try simp only [o9_17, Act.put, p1_, p2_, p3_]
  refine tk_ (i := 18) (oi := o9_18) (v := undef) (Or.inr ⟨by rfl, rfl⟩) hH_ ?_
  try simp only [o9_18, Act.put, p1_, p2_, p3_]
  refine tk_ (i := 19) (oi := o9_19) (v := undef) (Or.inr ⟨by rfl, rfl⟩) hH_ ?_
  try simp only [o9_19, Act.put, p1_, p2_, p3_]
  refine tk_ (i := 20) (oi := o9_20) (v := undef) (Or.inr ⟨by rfl, rfl⟩) hH_ ?_
  try simp only [o9_20, Act.put, p1_, p2_, p3_]
  refine tk_ (i := 21) (oi := o9_21) (v := undef) (Or.inr ⟨by rfl, rfl⟩) hH_ ?_
  try simp only [o9_21, Act.put, p1_, p2_, p3_]
  refine tk_ (i := 22) (oi := o9_22) (v := undef) (Or.inr ⟨by rfl, rfl⟩) hH_ ?_
  try simp only [o9_22, Act.put, p1_, p2_, p3_]
  refine tk_ (i := 23) (oi := o9_23) (v := undef) (Or.inr ⟨by rfl, rfl⟩) hH_ ?_
  try simp only [o9_23, Act.put, p1_, p2_, p3_]
  refine tk_ (i := 24) (oi := o9_24) (v := undef) (Or.inr ⟨by rfl, rfl⟩) hH_ ?_
  try simp only [o9_24, Act.put, p1_, p2_, p3_]
  refine tk_ (i := 25) (oi := o9_25) (v := undef) (Or.inr ⟨by rfl, rfl⟩) hH_ ?_
  try simp only [o9_25, Act.put, p1_, p2_, p3_]
  refine tk_ (i := 26) (oi := o9_26) (v := ?vr26) (Or.inl ⟨by rfl, ?hyr26⟩) hH_ ?zr26
  case hyr26 => (intro w hSw; (try dsimp only at hSw); unfold o9_26; go_simp <;> with_reducible rfl)
  try simp only [o9_26, Act.put, p1_, p2_, p3_]
  refine tk_ (i := 27) (oi := o9_27) (v := ?vr27) (Or.inl ⟨by rfl, ?hyr27⟩) hH_ ?zr27
  case hyr27 => (intro w hSw; (try dsimp only at hSw); unfold o9_27; go_simp <;> with_reducible rfl)
  try simp only [o9_27, Act.put, p1_, p2_, p3_]
  refine tk_ (i := 28) (oi := o9_28) (v := ?vr28) (Or.inl ⟨by rfl, ?hyr28⟩) hH_ ?zr28
  case hyr28 => (intro w hSw; (try dsimp only at hSw); unfold o9_28; go_simp <;> with_reducible rfl)
  try simp only [o9_28, Act.put, p1_, p2_, p3_]
  refine tk_ (i := 29) (oi := o9_29) (v := ?vr29) (Or.inl ⟨by rfl, ?hyr29⟩) hH_ ?zr29
  case hyr29 => (intro w hSw; (try dsimp only at hSw); unfold o9_29; go_simp <;> with_reducible rfl)
  try simp only [o9_29, Act.put, p1_, p2_, p3_]
  refine tk_ (i := 30) (oi := o9_30) (v := ?vr30) (Or.inl ⟨by rfl, ?hyr30⟩) hH_ ?zr30
  case hyr30 => (intro w hSw; (try dsimp only at hSw); unfold o9_30; go_simp <;> with_reducible rfl)
  try simp only [o9_30, Act.put, p1_, p2_, p3_]
  refine tk_ (i := 31) (oi := o9_31) (v := ?vr31) (Or.inl ⟨by rfl, ?hyr31⟩) hH_ ?zr31
  case hyr31 => (intro w hSw; (try dsimp only at hSw); unfold o9_31; go_simp <;> with_reducible rfl)
  try simp only [o9_31, Act.put, p1_, p2_, p3_]
  refine tk_ (i := 32) (oi := o9_32) (v := undef) (Or.inr ⟨by rfl, rfl⟩) hH_ ?_
  try simp only [o9_32, Act.put, p1_, p2_, p3_]
  refine tk_ (i := 33) (oi := o9_33) (v := undef) (Or.inr ⟨by rfl, rfl⟩) hH_ ?_
  try simp only [o9_33, Act.put, p1_, p2_, p3_]
  refine tk_ (i := 34) (oi := o9_34) (v := undef) (Or.inr ⟨by rfl, rfl⟩) hH_ ?_
  try simp only [o9_34, Act.put, p1_, p2_, p3_]
  refine tk_ (i := 35) (oi := o9_35) (v := undef) (Or.inr ⟨by rfl, rfl⟩) hH_ ?_
  try simp only [o9_35, Act.put, p1_, p2_, p3_]
  refine tk_ (i := 36) (oi := o9_36) (v := undef) (Or.inr ⟨by rfl, rfl⟩) hH_ ?_
  try simp only [o9_36, Act.put, p1_, p2_, p3_]
  refine tk_ (i := 37) (oi := o9_37) (v := undef) (Or.inr ⟨by rfl, rfl⟩) hH_ ?_
  try simp only [o9_37, Act.put, p1_, p2_, p3_]
  refine tk_ (i := 38) (oi := o9_38) (v := ?vr38) (Or.inl ⟨by rfl, ?hyr38⟩) hH_ ?zr38
  case hyr38 => (intro w hSw; (try dsimp only at hSw); unfold o9_38; go_simp <;> with_reducible rfl)
  try simp only [o9_38, Act.put, p1_, p2_, p3_]
  refine tk_ (i := 39) (oi := o9_39) (v := ?vr39) (Or.inl ⟨by rfl, ?hyr39⟩) hH_ ?zr39
  case hyr39 => (intro w hSw; (try dsimp only at hSw); unfold o9_39; go_simp <;> with_reducible rfl)
  try simp only [o9_39, Act.put, p1_, p2_, p3_]
  refine tk_ (i := 40) (oi := o9_40) (v := ?vr40) (Or.inl ⟨by rfl, ?hyr40⟩) hH_ ?zr40
  case hyr40 => (intro w hSw; (try dsimp only at hSw); unfold o9_40; go_simp <;> with_reducible rfl)
  try simp only [o9_40, Act.put, p1_, p2_, p3_]
  refine tk_ (i := 41) (oi := o9_41) (v := ?vr41) (Or.inl ⟨by rfl, ?hyr41⟩) hH_ ?zr41
  case hyr41 => (intro w hSw; (try dsimp only at hSw); unfold o9_41; go_simp <;> with_reducible rfl)
  try simp only [o9_41, Act.put, p1_, p2_, p3_]
  refine tk_ (i := 42) (oi := o9_42) (v := ?vr42) (Or.inl ⟨by rfl, ?hyr42⟩) hH_ ?zr42
  case hyr42 => (intro w hSw; (try dsimp only at hSw); unfold o9_42; go_simp <;> with_reducible rfl)
  try simp only [o9_42, Act.put, p1_, p2_, p3_]
  refine tk_ (i := 43) (oi := o9_43) (v := ?vr43) (Or.inl ⟨by rfl, ?hyr43⟩) hH_ ?zr43
  case hyr43 => (intro w hSw; (try dsimp only at hSw); unfold o9_43; go_simp <;> with_reducible rfl)
  try simp only [o9_43, Act.put, p1_, p2_, p3_]
  refine tk_ (i := 44) (oi := o9_44) (v := ?vr44) (Or.inl ⟨by rfl, ?hyr44⟩) hH_ ?zr44
  case hyr44 => (intro w hSw; (try dsimp only at hSw); unfold o9_44; go_simp <;> with_reducible rfl)
  try simp only [o9_44, Act.put, p1_, p2_, p3_]
  refine tk_ (i := 47) (oi := o9_47) (v := ?vr47) (Or.inl ⟨by rfl, ?hyr47⟩) hH_ ?zr47
  case hyr47 => (intro w hSw; (try dsimp only at hSw); unfold o9_47; go_simp <;> with_reducible rfl)
  try simp only [o9_47, Act.put, p1_, p2_, p3_]
  refine tk_ (i := 48) (oi := o9_48) (v := ?vr48) (Or.inl ⟨by rfl, ?hyr48⟩) hH_ ?zr48
  case hyr48 => (intro w hSw; (try dsimp only at hSw); unfold o9_48; go_simp <;> with_reducible rfl)
  try simp only [o9_48, Act.put, p1_, p2_, p3_]
  refine wpAnyH_ready (rs := [45]) (by kernel_rfl) (by simp) ?_
  refine AllReadyH.cons (o := o9_45) rfl (fun K hK => ?_) AllReadyH.nil
  unfold o9_45; go_simp
  go_wp2_with (first | (go_at_call 18; (with_reducible refine (kK.out _).mono ?_); rintro e w11 ⟨v5, rfl, hV, hb⟩; (have K1 := Aside0.mk (below_step K0.out hb)); (have cvl := r_str hV); rw [HSB.out] at cvl; clear hV hb))
  refine hK.out _ _ (Sall.out _ K1.out) (fun hH_' => ?_)
  clear hK K hH_
  have hH_ := hH_'
  clear hH_'
  try simp only [Act.put, p1_, p2_, p3_]
  refine wpAnyH_ready (rs := [46]) (by kernel_rfl) (by simp) ?_
  refine AllReadyH.cons (o := o9_46) rfl (fun K hK => ?_) AllReadyH.nil
  unfold o9_46; go_simp
  refine hK.out _ _ (hH_) (fun hH_' => ?_)
  clear hK K hH_
  have hH_ := hH_'
  clear hH_'
  try simp only [Act.put, p1_, p2_, p3_]
  refine tk_ (i := 49) (oi := o9_49) (v := ?vr49) (Or.inl ⟨by rfl, ?hyr49⟩) hH_ ?zr49
  case hyr49 => (intro w hSw; (try dsimp only at hSw); unfold o9_49; go_simp <;> with_reducible rfl)
  try simp only [o9_49, Act.put, p1_, p2_, p3_]
  refine tk_ (i := 50) (oi := o9_50) (v := ?vr50) (Or.inl ⟨by rfl, ?hyr50⟩) hH_ ?zr50
  case hyr50 => (intro w hSw; (try dsimp only at hSw); unfold o9_50; go_simp <;> with_reducible rfl)
  try simp only [o9_50, Act.put, p1_, p2_, p3_]
  refine tk_ (i := 51) (oi := o9_51) (v := ?vr51) (Or.inl ⟨by rfl, ?hyr51⟩) hH_ ?zr51
  case hyr51 => (intro w hSw; (try dsimp only at hSw); unfold o9_51; go_simp <;> with_reducible rfl)
  try simp only [o9_51, Act.put, p1_, p2_, p3_]
  refine wpAnyH_done (by kernel_rfl) ?_ _
  refine NoPanic.normal ?_
  have D11 := Aside0.mk (below_step D10.out K1.out)
  clear Sall K0 hH_ D10 K1 cvl
  obtain ⟨⟨p0_, p1_, p2_, p3_⟩, ⟨i0_, i1_, i2_, i3_, i4_, i5_⟩, ⟨l0_, l1_, l2_, l3_, l4_⟩, ⟨k0_, k1_⟩⟩ := XB.out w11 D11.out
  go_wp2_with fail
  clear p0_ p1_ p2_ p3_ i0_ i1_ i2_ i3_ i4_ i5_ l0_ l1_ l2_ l3_ l4_ k0_ k1_
  refine (psame_calls 0 0 0 Ap none cp 0 [] w11 (by simp) (Kd.C_below Cp8.out D11.out) Lp.out (Kd.C_nil _ _) (Nat.le_refl _)).mono ?_
  rintro e w12 ⟨rfl, hb⟩
  have D12 := Aside0.mk (below_step D11.out hb)
  clear hb
  obtain ⟨⟨p0_, p1_, p2_, p3_⟩, ⟨i0_, i1_, i2_, i3_, i4_, i5_⟩, ⟨l0_, l1_, l2_, l3_, l4_⟩, ⟨k0_, k1_⟩⟩ := XB.out w12 D12.out
  go_wp2_with fail
  clear p0_ p1_ p2_ p3_ i0_ i1_ i2_ i3_ i4_ i5_ l0_ l1_ l2_ l3_ l4_ k0_ k1_
  refine (isame_calls 0 0 0 0 0 Ai none ci 0 [] w12 (by simp) (Kd.C_below Ci8.out D12.out) Li.out (Kd.C_nil _ _) (Nat.le_refl _)).mono ?_
  rintro e w13 ⟨rfl, hb⟩
  have D13 := Aside0.mk (below_step D12.out hb)
  clear hb
  obtain ⟨⟨p0_, p1_, p2_, p3_⟩, ⟨i0_, i1_, i2_, i3_, i4_, i5_⟩, ⟨l0_, l1_, l2_, l3_, l4_⟩, ⟨k0_, k1_⟩⟩ := XB.out w13 D13.out
  go_wp2_with fail
  clear p0_ p1_ p2_ p3_ i0_ i1_ i2_ i3_ i4_ i5_ l0_ l1_ l2_ l3_ l4_ k0_ k1_
  refine (kgo.out _).mono ?_
  rintro e w14 ⟨rfl, hb⟩
  have D14 := Aside0.mk (below_step D13.out hb)
  clear hb
  go_wp2_with fail
  go_ret
  exact ⟨rfl, HB8.out.trans (below_weak_ D14.out HB8.out.size)⟩
end Go.Proofs.Ytdfmganmchmbjaa.Ext
