/- The contracts of package plan, in the print's form. -/
import Derived.Test.YtifacclmfjmilaaPGoes
import Derived.Test.YtifacclmfjmilaaNum
import Derived.Test.YtifacclmfjmilaaValue
namespace Go.Proofs.Ytifacclmfjmilaa.Ext
open Go.RowKit Go.Shelf Go.Proofs.YtifacclmfjmilaaW.PrintWords Go.Proofs.YtifacclmfjmilaaW.PrintLast Go.Proofs.YtifacclmfjmilaaW.PrintMore Go.Proofs.YtifacclmfjmilaaW.Hand Go.Proofs.Ytifacclmfjmilaa.PZ
set_option linter.unusedVariables false
def plan_Check.f (a0 a1 a2 a3 a4 a5 : Int) (l : List S55) : Option Bool := some (pchk a0 a1 a2 a3 a4 a5 l)
theorem plan_Check.calls (a0 a1 a2 a3 a4 a5 : Int) (A : Option Addr) (c : Nat) (l : List S55) (r : Bool) (w : World) (hC : Kd.C k55 w A l.length l) (hc : l.length ≤ c) (h : plan_Check.f a0 a1 a2 a3 a4 a5 l = some r) :
    Calls Try.prog 11 #[.agg #[.int .u32 a0, .int .i64 a1, .int .i64 a2, .int .i64 a3, .int .i64 a4, .int .i64 a5, .slice A l.length c]] w fun e w' => e = .returned (.bool r) ∧ Below w.heap.size w w' := by
  obtain rfl := Option.some.inj h
  exact plan_Check_go a0 a1 a2 a3 a4 a5 A c l w hC hc
def plan_Put.f (a0 a1 a2 a3 a4 a5 : Int) (l : List S55) : Option (List Int × Int) := some (pput a0 a1 a2 a3 a4 a5 l)
theorem plan_Put.calls (a0 a1 a2 a3 a4 a5 : Int) (A : Option Addr) (c : Nat) (l : List S55) (t1 : List Int) (t2 : Int) (w : World) (hC : Kd.C k55 w A l.length l) (hc : l.length ≤ c) (h : plan_Put.f a0 a1 a2 a3 a4 a5 l = some (t1, t2)) :
    Calls Try.prog 9 #[.agg #[.int .u32 a0, .int .i64 a1, .int .i64 a2, .int .i64 a3, .int .i64 a4, .int .i64 a5, .slice A l.length c]] w fun e w' => ∃ v : Value, e = .returned (.tuple #[v, .int .i64 t2]) ∧ Kd.R (Kd.int .u8) 5 w' w.heap.size (fun _ => True) v t1 ∧ Below w.heap.size w w' := by
  have h := Option.some.inj h
  have := plan_Put_go a0 a1 a2 a3 a4 a5 A c l w hC hc
  rw [h] at this
  exact this
def bytesOk (l : List Int) : Bool := l.all fun x => decide (0 ≤ x) && decide (x < 256)
theorem bytesOk_iff {l : List Int} (h : bytesOk l = true) : ∀ x ∈ l, IsByte x := fun x hx => by
  have := List.all_eq_true.1 h x hx
  simpa [IsByte] using this
theorem bytesOk_of {l : List Int} (h : ∀ x ∈ l, IsByte x) : bytesOk l = true := List.all_eq_true.2 fun x hx => by
  have := h x hx
  simpa [IsByte] using this
def plan_Get.f (l : List Int) : Option (Int × Int × Int × Int × Int × Int × List S55 × Int) := if bytesOk l = true ∧ l.length ≤ 140737488354000 then some (pget l) else none
theorem plan_Get.calls (A : Option Addr) (c : Nat) (l : List Int) (t0 t1 t2 t3 t4 t5 : Int) (t6 : List S55) (t7 : Int) (w : World) (hC : Kd.C (Kd.int .u8) w A l.length l) (hc : l.length ≤ c) (h : plan_Get.f l = some (t0, t1, t2, t3, t4, t5, t6, t7)) :
    Calls Try.prog 14 #[.slice A l.length c] w fun e w' => ∃ v : Value, e = .returned (.tuple #[.agg #[.int .u32 t0, .int .i64 t1, .int .i64 t2, .int .i64 t3, .int .i64 t4, .int .i64 t5, v], .int .i64 t7]) ∧ Kd.R k55 55 w' w.heap.size (fun _ => True) v t6 ∧ Below w.heap.size w w' := by
  unfold plan_Get.f at h
  by_cases h1 : bytesOk l = true ∧ l.length ≤ 140737488354000
  · rw [if_pos h1] at h
    have h := Option.some.inj h
    have := plan_Get_go A c l w hC (bytesOk_iff h1.1) h1.2
    rw [h] at this
    exact this
  · rw [if_neg h1] at h; cases h
def plan_Room.f (a0 a1 a2 a3 a4 a5 : Int) (l : List S55) (roll : Int) : Option (Int × Int) := some (proom a0 a1 a2 a3 a4 a5 l roll)
theorem plan_Room.calls (a0 a1 a2 a3 a4 a5 : Int) (A : Option Addr) (c : Nat) (l : List S55) (roll t1 t2 : Int) (w : World) (hC : Kd.C k55 w A l.length l) (hc : l.length ≤ c) (h : plan_Room.f a0 a1 a2 a3 a4 a5 l roll = some (t1, t2)) :
    Calls Try.prog 18 #[.agg #[.int .u32 a0, .int .i64 a1, .int .i64 a2, .int .i64 a3, .int .i64 a4, .int .i64 a5, .slice A l.length c], .int .i64 roll] w fun e w' => e = .returned (.tuple #[.int .i64 t1, .int .i64 t2]) ∧ Below w.heap.size w w' := by
  have h := Option.some.inj h
  have := plan_Room_go a0 a1 a2 a3 a4 a5 A c l roll w hC hc
  rw [h] at this
  exact this
def quitrentlaw13_goes.f : Option Bool := some true
theorem quitrentlaw13_goes.calls (r : Bool) (w : World) (h : quitrentlaw13_goes.f = some r) :
    Calls Try.prog 12 #[] w fun e w' => e = .returned (.bool r) ∧ Below w.heap.size w w' := by
  obtain rfl := Option.some.inj h
  exact goes_true w
def quitrentref01_Number.f (v n : Int) : Option (List Int) := if 0 ≤ v ∧ 0 ≤ n ∧ n ≤ 8 then some (beN n.toNat v) else none
theorem quitrentref01_Number.calls (v n : Int) (r : List Int) (w : World) (h : quitrentref01_Number.f v n = some r) :
    Calls Try.prog 26 #[.int .u64 v, .int .i64 n] w fun e w' => ∃ v0 : Value, e = .returned v0 ∧ Kd.R (Kd.int .u8) 5 w' w.heap.size (fun _ => True) v0 r ∧ Below w.heap.size w w' := by
  unfold quitrentref01_Number.f at h
  by_cases h1 : 0 ≤ v ∧ 0 ≤ n ∧ n ≤ 8
  · rw [if_pos h1] at h
    obtain rfl := Option.some.inj h
    exact Number_calls v n.toNat n (by omega) w (by omega) h1.1
  · rw [if_neg h1] at h; cases h
def quitrentref01_Value.f (l : List Int) : Option Int := if bytesOk l = true ∧ l.length ≤ 8 then some (beVal l) else none
theorem quitrentref01_Value.calls (A : Option Addr) (c : Nat) (l : List Int) (r : Int) (w : World) (hC : Kd.C (Kd.int .u8) w A l.length l) (hc : l.length ≤ c) (h : quitrentref01_Value.f l = some r) :
    Calls Try.prog 31 #[.slice A l.length c] w fun e w' => e = .returned (.int .u64 r) ∧ Drawn0 w w' := by
  unfold quitrentref01_Value.f at h
  by_cases h1 : bytesOk l = true ∧ l.length ≤ 8
  · rw [if_pos h1] at h
    obtain rfl := Option.some.inj h
    exact Value_calls A c l.length l rfl w hC (bytesOk_iff h1.1) h1.2
  · rw [if_neg h1] at h; cases h
end Go.Proofs.Ytifacclmfjmilaa.Ext
