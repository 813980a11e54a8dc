/- TiersAll, TiersNext and TiersSpans over the printed walks: tiers that come in, opened. -/
import Derived.Test.YthgfdgkmmlbohaaPureB
import Derived.Test.YthgfdgkmmlbohaaOpenT
namespace Go.Proofs.Ythgfdgkmmlbohaa.Ext
open Go.RowKit Go.ChangeShapes Go.WideShapes Go.Proofs.YthgfdgkmmlbohaaW.PrintWords Go.Proofs.YthgfdgkmmlbohaaW.PrintLast Go.Proofs.YthgfdgkmmlbohaaW.PrintMore Go.Proofs.Ythgfdgkmmlbohaa.PZ
set_option linter.unusedVariables false
theorem TiersAll.walk {H : Type} {enc : TypeId × Value → H} (a0 : Option Addr) (len0 cap0 : Nat) (n : Int) (w : World) {d0 : DataW H} {p0 : List MemPlace} (k0 : DataW.Trod enc Try.prog w 0 (fun _ => true) true 22 (.slice a0 len0 cap0) d0 p0) (w1 : (Lit.int .i64 n).wf = true) :
    Calls Try.prog 3 #[.slice a0 len0 cap0, .int .i64 n] w fun e w' => e = .returned (.bool true) ∧ Below w.heap.size w w' := by
  obtain ⟨ls, rfl, hcap, hall, hC⟩ := tiers_come k0
  obtain ⟨k, h⟩ := TiersAll_pure ls n (wf_i64 _ w1)
  refine (quitrentlaw11_TiersAll.calls k a0 cap0 ls n true w hC hcap h).mono ?_
  rintro e w' ⟨rfl, hd⟩
  exact ⟨rfl, hd⟩
theorem TiersNext.walk {H : Type} {enc : TypeId × Value → H} (a0 : Option Addr) (len0 cap0 : Nat) (n : Int) (w : World) {d0 : DataW H} {p0 : List MemPlace} (k0 : DataW.Trod enc Try.prog w 0 (fun _ => true) true 22 (.slice a0 len0 cap0) d0 p0) (w1 : (Lit.int .i64 n).wf = true) :
    Calls Try.prog 4 #[.slice a0 len0 cap0, .int .i64 n] w fun e w' => e = .returned (.bool true) ∧ Below w.heap.size w w' := by
  obtain ⟨ls, rfl, hcap, hall, hC⟩ := tiers_come k0
  obtain ⟨k, h⟩ := TiersNext_pure ls n hall (wf_i64 _ w1)
  refine (quitrentlaw11_TiersNext.calls k a0 cap0 ls n true w hC hcap h).mono ?_
  rintro e w' ⟨rfl, hd⟩
  exact ⟨rfl, hd⟩
theorem TiersSpans.walk {H : Type} {enc : TypeId × Value → H} (a0 : Option Addr) (len0 cap0 : Nat) (n : Int) (w : World) {d0 : DataW H} {p0 : List MemPlace} (k0 : DataW.Trod enc Try.prog w 0 (fun _ => true) true 22 (.slice a0 len0 cap0) d0 p0) (w1 : (Lit.int .i64 n).wf = true) :
    Calls Try.prog 5 #[.slice a0 len0 cap0, .int .i64 n] w fun e w' => e = .returned (.bool true) ∧ Below w.heap.size w w' := by
  obtain ⟨ls, rfl, hcap, hall, hC⟩ := tiers_come k0
  obtain ⟨k, h⟩ := TiersSpans_pure ls n hall (wf_i64 _ w1)
  refine (quitrentlaw11_TiersSpans.calls k a0 cap0 ls n true w hC hcap h).mono ?_
  rintro e w' ⟨rfl, hd⟩
  exact ⟨rfl, hd⟩
end Go.Proofs.Ythgfdgkmmlbohaa.Ext
