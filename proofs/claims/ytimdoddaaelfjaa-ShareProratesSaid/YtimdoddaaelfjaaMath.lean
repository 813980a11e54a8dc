/- Plain facts on 64-bit numbers for the money laws. -/
import Derived.Test.YtimdoddaaelfjaaPart
namespace Go.Proofs.Ytimdoddaaelfjaa.Ext
open Go.RowKit Go.Proofs.YtimdoddaaelfjaaW.PrintWords
theorem wf_i64 (a : Int) (h : (Lit.int .i64 a).wf = true) : I64 a := by
  have h1 : IntKind.i64.min = -9223372036854775808 := rfl
  have h2 : IntKind.i64.max = 9223372036854775807 := rfl
  simp only [Lit.wf, Bool.and_eq_true, decide_eq_true_eq, h1, h2] at h
  unfold I64; omega
theorem Mul_small (a b : Int) (ha : I64 a) (hb : I64 b) : money_Mul.f a b = some (small (a * b)) := if_pos ⟨ha, hb⟩
theorem Add_small (a b : Int) (ha : I64 a) (hb : I64 b) : money_Add.f a b = some (small (a + b)) := if_pos ⟨ha, hb⟩
theorem Part_part (a b d : Int) (ha : I64 a) (hb : I64 b) (hd : I64 d) : money_Part.f a b d = some (part a b d) := if_pos ⟨ha, hb, hd⟩
theorem small_yes (a : Int) (h : I64 a) : small a = (a, 0) := if_pos h
theorem small_no (a : Int) (h : ¬ I64 a) : small a = (0, 30) := if_neg h
theorem wrap64_same (a : Int) (h : I64 a) : wrap64 a = a := by unfold wrap64; unfold I64 at h; omega
theorem goes_true : quitrentlaw10_goes.f = some true := rfl
end Go.Proofs.Ytimdoddaaelfjaa.Ext
