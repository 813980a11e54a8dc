/- plan.Put, the contracts. -/
import Derived.Test.YtifacclmfjmilaaPPut
namespace Go.Proofs.Ytifacclmfjmilaa.Ext
open Go.RowKit Go.Shelf Go.Proofs.YtifacclmfjmilaaW.PrintWords Go.Proofs.YtifacclmfjmilaaW.PrintLast Go.Proofs.YtifacclmfjmilaaW.PrintMore Go.Proofs.YtifacclmfjmilaaW.Hand Go.Proofs.Ytifacclmfjmilaa.PZ
set_option linter.unusedVariables false
set_option maxRecDepth 100000 in
theorem plan_Put_no (a0 a1 a2 a3 a4 a5 : Int) (A : Option Addr) (c : Nat) (ls : List S55) (w : World) (hC : Kd.C k55 w A ls.length ls) (hcap : ls.length ≤ c) (hk : pchk a0 a1 a2 a3 a4 a5 ls = false) :
    Calls Try.prog 9 #[.agg #[.int .u32 a0, .int .i64 a1, .int .i64 a2, .int .i64 a3, .int .i64 a4, .int .i64 a5, .slice A ls.length c]] w fun e w' => ∃ v : Value, e = .returned (.tuple #[v, .int .i64 1]) ∧ Kd.R (Kd.int .u8) 5 w' w.heap.size (fun _ => True) v [] ∧ Below w.heap.size w w' := by
  have kc := Aside0.mk (fun (w : World) (hC : Kd.C k55 w A ls.length ls) => hk ▸ plan_Check_go a0 a1 a2 a3 a4 a5 A c ls w hC hcap)
  have HC := Aside0.mk hC
  clear hC hcap hk
  go_enter Try.func9, Try.ntmps9
  go_wp2_with fail
  refine (kc.out _ (Kd.C_below HC.out (below_alloc (Below.refl _ _) _))).mono ?_
  rintro e w1 ⟨rfl, hb⟩
  have HB := Aside0.mk (below_step (below_alloc (Below.refl _ w) (.cells #[.int .u32 a0, .int .i64 a1, .int .i64 a2, .int .i64 a3, .int .i64 a4, .int .i64 a5, .slice A ls.length c] 25)) hb)
  clear hb kc
  go_wp2_with fail
  exact bodyPost_ret (v := .tuple #[.slice none 0 0, .int .i64 1]) (by simp [results, Try.results9, go_sem]) rfl ⟨_, rfl, Kd.R_nil _ _ _ _ _, HB.out⟩
/-- What Put answers: bytes and an error. -/
theorem plan_Put_go (a0 a1 a2 a3 a4 a5 : Int) (A : Option Addr) (c : Nat) (ls : List S55) (w : World) (hC : Kd.C k55 w A ls.length ls) (hcap : ls.length ≤ c) :
    Calls Try.prog 9 #[.agg #[.int .u32 a0, .int .i64 a1, .int .i64 a2, .int .i64 a3, .int .i64 a4, .int .i64 a5, .slice A ls.length c]] w fun e w' => ∃ v : Value, e = .returned (.tuple #[v, .int .i64 (pput a0 a1 a2 a3 a4 a5 ls).2]) ∧ Kd.R (Kd.int .u8) 5 w' w.heap.size (fun _ => True) v (pput a0 a1 a2 a3 a4 a5 ls).1 ∧ Below w.heap.size w w' := by
  unfold pput
  cases hk : pchk a0 a1 a2 a3 a4 a5 ls with
  | true => rw [if_pos rfl]; exact plan_Put_yes a0 a1 a2 a3 a4 a5 A c ls w hC hcap hk
  | false => rw [if_neg (by simp)]; exact plan_Put_no a0 a1 a2 a3 a4 a5 A c ls w hC hcap hk
end Go.Proofs.Ytifacclmfjmilaa.Ext
