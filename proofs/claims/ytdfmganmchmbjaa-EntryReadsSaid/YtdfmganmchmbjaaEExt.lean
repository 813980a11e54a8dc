/- The contracts of package entry, in the print's form. -/
import Derived.Test.YtdfmganmchmbjaaEGet2
namespace Go.Proofs.Ytdfmganmchmbjaa.Ext
open Go.RowKit Go.Proofs.YtdfmganmchmbjaaW.PrintWords Go.Proofs.YtdfmganmchmbjaaW.PrintLast Go.Proofs.YtdfmganmchmbjaaW.PrintMore Go.Proofs.YtdfmganmchmbjaaW.Hand Go.Proofs.Ytdfmganmchmbjaa.PZ
set_option linter.unusedVariables false
def bytesOk (l : List Int) : Bool := l.all fun x => decide (0 ≤ x) && decide (x < 256)
theorem bytesOk_iff {l : List Int} (h : bytesOk l = true) : ∀ x ∈ l, IsByte x := fun x hx => by
  have := List.all_eq_true.1 h x hx
  simpa [IsByte] using this
theorem bytesOk_of {l : List Int} (h : ∀ x ∈ l, IsByte x) : bytesOk l = true := List.all_eq_true.2 fun x hx => by
  have := h x hx
  simpa [IsByte] using this
def entry_PutPosting.f (a0 a1 a2 : Int) (l : List S37) : Option (List Int × Int) := if 0 ≤ a0 ∧ a0 < top64 then some (eput a0 a1 a2 l) else none
theorem entry_PutPosting.calls (a0 a1 a2 : Int) (A : Option Addr) (c : Nat) (l : List S37) (t1 : List Int) (t2 : Int) (w : World) (hC : Kd.C k37 w A l.length l) (hc : l.length ≤ c) (h : entry_PutPosting.f a0 a1 a2 l = some (t1, t2)) :
    Calls Try.prog 9 #[.agg #[.int .u64 a0, .int .i64 a1, .int .u32 a2, .slice A l.length c]] w fun e w' => ∃ v : Value, e = .returned (.tuple #[v, .int .i64 t2]) ∧ Kd.R (Kd.int .u8) 5 w' w.heap.size (fun _ => True) v t1 ∧ Below w.heap.size w w' := by
  unfold entry_PutPosting.f at h
  by_cases h0 : 0 ≤ a0 ∧ a0 < top64
  · rw [if_pos h0] at h
    have h := Option.some.inj h
    have := PutPosting_all a0 a1 a2 A c l w hC h0.1 h0.2
    rw [h] at this
    exact this
  · rw [if_neg h0] at h; cases h
def entry_PutInvoice.f (a0 a1 a2 : Int) (l : List S53) (a4 a5 : Int) : Option (List Int × Int) := some (einvput a0 a1 a2 a4 a5 l)
theorem entry_PutInvoice.calls (a0 a1 a2 : Int) (A : Option Addr) (c : Nat) (l : List S53) (a4 a5 : Int) (t1 : List Int) (t2 : Int) (w : World) (hC : Kd.C k53 w A l.length l) (hc : l.length ≤ c) (h : entry_PutInvoice.f a0 a1 a2 l a4 a5 = some (t1, t2)) :
    Calls Try.prog 11 #[.agg #[.int .u32 a0, .int .u32 a1, .int .i64 a2, .slice A l.length c, .int .i64 a4, .int .i64 a5]] w fun e w' => ∃ v : Value, e = .returned (.tuple #[v, .int .i64 t2]) ∧ Kd.R (Kd.int .u8) 5 w' w.heap.size (fun _ => True) v t1 ∧ Below w.heap.size w w' := by
  have h := Option.some.inj h
  have := PutInvoice_all a0 a1 a2 a4 a5 A c l w hC
  rw [h] at this
  exact this
def entry_PutLease.f (a0 a1 a2 a3 a4 : Int) : Option (List Int) := some (eleaseb a0 a1 a2 a3 a4)
theorem entry_PutLease.calls (a0 a1 a2 a3 a4 : Int) (r : List Int) (w : World) (h : entry_PutLease.f a0 a1 a2 a3 a4 = some r) :
    Calls Try.prog 16 #[.agg #[.int .u32 a0, .int .i64 a1, .int .i64 a2, .int .i64 a3, .int .i64 a4]] w fun e w' => ∃ v : Value, e = .returned v ∧ Kd.R (Kd.int .u8) 5 w' w.heap.size (fun _ => True) v r ∧ Below w.heap.size w w' := by
  obtain rfl := Option.some.inj h
  exact elease_all a0 a1 a2 a3 a4 w
def entry_PutPack.f (a0 a1 : Int) : Option (List Int) := some (epackb a0 a1)
theorem entry_PutPack.calls (a0 a1 : Int) (r : List Int) (w : World) (h : entry_PutPack.f a0 a1 = some r) :
    Calls Try.prog 18 #[.agg #[.int .u32 a0, .int .i64 a1]] w fun e w' => ∃ v : Value, e = .returned v ∧ Kd.R (Kd.int .u8) 5 w' w.heap.size (fun _ => True) v r ∧ Below w.heap.size w w' := by
  obtain rfl := Option.some.inj h
  exact epack_all a0 a1 w
def entry_GetPack.f (l : List Int) : Option (Int × Int × Int) := if bytesOk l = true ∧ l.length ≤ 140737488355000 then some ((gpack l).1.1, (gpack l).1.2, (gpack l).2) else none
theorem entry_GetPack.calls (A : Option Addr) (c : Nat) (l : List Int) (t0 t1 t2 : Int) (w : World) (hC : Kd.C (Kd.int .u8) w A l.length l) (hc : l.length ≤ c) (h : entry_GetPack.f l = some (t0, t1, t2)) :
    Calls Try.prog 26 #[.slice A l.length c] w fun e w' => e = .returned (.tuple #[.agg #[.int .u32 t0, .int .i64 t1], .int .i64 t2]) ∧ Below w.heap.size w w' := by
  unfold entry_GetPack.f at h
  by_cases h1 : bytesOk l = true ∧ l.length ≤ 140737488355000
  · rw [if_pos h1] at h
    have h := Option.some.inj h
    simp only [Prod.mk.injEq] at h
    obtain ⟨rfl, rfl, rfl⟩ := h
    exact Getpack_all A c l w hC (bytesOk_iff h1.1) h1.2
  · rw [if_neg h1] at h; cases h
def entry_GetLease.f (l : List Int) : Option (Int × Int × Int × Int × Int × Int) := if bytesOk l = true ∧ l.length ≤ 140737488355000 then some ((glease l).1.1, (glease l).1.2.1, (glease l).1.2.2.1, (glease l).1.2.2.2.1, (glease l).1.2.2.2.2, (glease l).2) else none
theorem entry_GetLease.calls (A : Option Addr) (c : Nat) (l : List Int) (t0 t1 t2 t3 t4 t5 : Int) (w : World) (hC : Kd.C (Kd.int .u8) w A l.length l) (hc : l.length ≤ c) (h : entry_GetLease.f l = some (t0, t1, t2, t3, t4, t5)) :
    Calls Try.prog 21 #[.slice A l.length c] w fun e w' => e = .returned (.tuple #[.agg #[.int .u32 t0, .int .i64 t1, .int .i64 t2, .int .i64 t3, .int .i64 t4], .int .i64 t5]) ∧ Below w.heap.size w w' := by
  unfold entry_GetLease.f at h
  by_cases h1 : bytesOk l = true ∧ l.length ≤ 140737488355000
  · rw [if_pos h1] at h
    have h := Option.some.inj h
    simp only [Prod.mk.injEq] at h
    obtain ⟨rfl, rfl, rfl, rfl, rfl, rfl⟩ := h
    exact Getlease_all A c l w hC (bytesOk_iff h1.1) h1.2
  · rw [if_neg h1] at h; cases h
end Go.Proofs.Ytdfmganmchmbjaa.Ext
