import Derived.Test.YtanjkhdagegapaaH
import Derived.Test.YtanjkhdagegapaaProg
import Derived.WalkKit
import Derived.KernelRfl
import Derived.Carry
import Derived.MapKept
import Derived.Test.YtanjkhdagegapaaRead
import Derived.Test.YtanjkhdagegapaaWMath
import Derived.Test.YtanjkhdagegapaaPZx0
import Derived.Deep.QuietTactic
import Derived.BigQuiet
import Derived.RangeFuncBox
section
/- Maps that a literal lays: laying, looking up; msg.kinds. -/
namespace Go.Proofs.Ytanjkhdagegapaa.Ext
open Go.RowKit Go.MapKept Go.Proofs.YtanjkhdagegapaaW.PrintWords Go.Proofs.YtanjkhdagegapaaW.PrintLast Go.Proofs.YtanjkhdagegapaaW.PrintMore Go.Proofs.YtanjkhdagegapaaW.Hand
set_option linter.unusedVariables false
/-- A world, one block turned. -/
def turned (w : World) (b : Nat) (o : Obj) : World := { w with heap := w.heap.setIfInBounds b o }
theorem turned_at {w : World} {b : Nat} {o : Obj} (h : b < w.heap.size) : (turned w b o).heap[b]? = some o := by simp [turned, h]
theorem turned_other (w : World) (b : Nat) (o : Obj) (k : Nat) (h : k ≠ b) : (turned w b o).heap[k]? = w.heap[k]? := by
  simp only [turned]; rw [Array.getElem?_setIfInBounds_ne (by omega)]
theorem turned_size (w : World) (b : Nat) (o : Obj) : (turned w b o).heap.size = w.heap.size := by simp [turned]
theorem turned_last (w : World) (o o' : Obj) : turned (w.alloc o) w.heap.size o' = w.alloc o' := by
  simp only [turned, World.alloc]
  congr 1
  apply Array.ext'
  simp [Array.setIfInBounds, Array.toList_push]
theorem turned_grown (w : World) (b : Nat) (o : Obj) : w.grownBy (turned w b o) (some b) :=
  ⟨rfl, rfl, rfl, by rw [turned_size]; exact Nat.le_refl _, fun k _ hk => turned_other w b o k (fun e => hk (by rw [e]))⟩
theorem run_put (w : World) (b : Nat) (es : Array MapEntry) (c : Nat) (t k e : TypeId) (kk : IntKind) (n : Int) (v : Value) (ht : Try.prog.underlying t = some (.map k e)) (hk : Try.prog.underlying k = some (.int kk))
    (hb : w.heap[b]? = some (.map es c)) (hn : Instr.findNow (.int kk) (.int kk n) es.toList 0 = some none) :
    (Instr.mapUpdate t (.map (some b)) (.int kk n) v).run Try.prog w = .ok () (turned w b (.map (es.push { key := .int kk n, val := v, born := c }) (c + 1))) := by
  simp [Instr.mapUpdate, run_underlying ht, Go.MapKept.run_getObj_map hb, Result.andThen, run_checkKey hk (show IsKey (.int kk) (.int kk n) from by simp [IsKey]), run_findKey hk hn, run_setObj_map _ hb, turned]
theorem run_put_last (w : World) (es : Array MapEntry) (c : Nat) (t k e : TypeId) (kk : IntKind) (n : Int) (v : Value) (ht : Try.prog.underlying t = some (.map k e)) (hk : Try.prog.underlying k = some (.int kk))
    (hn : Instr.findNow (.int kk) (.int kk n) es.toList 0 = some none) :
    (Instr.mapUpdate t (.map (some w.heap.size)) (.int kk n) v).run Try.prog (w.alloc (.map es c)) = .ok () (w.alloc (.map (es.push { key := .int kk n, val := v, born := c }) (c + 1))) := by
  rw [run_put (w.alloc (.map es c)) w.heap.size es c t k e kk n v ht hk (heap_alloc_new w _) hn, turned_last]
theorem run_look (w : World) (b : Nat) (es : Array MapEntry) (c : Nat) (t k e : TypeId) (kk : IntKind) (n : Int) (i : Nat) (v : Value) (ht : Try.prog.underlying t = some (.map k e)) (hk : Try.prog.underlying k = some (.int kk))
    (hb : w.heap[b]? = some (.map es c)) (hn : Instr.findNow (.int kk) (.int kk n) es.toList 0 = some (some (i, v))) (ok : Bool) :
    (Instr.lookup t (.map (some b)) (.int kk n) ok).run Try.prog w = .ok (if ok then .tuple #[v, .bool true] else v) w := by
  simp [Instr.lookup, run_underlying ht, Go.MapKept.run_getObj_map hb, Result.andThen, run_checkKey hk (show IsKey (.int kk) (.int kk n) from by simp [IsKey]), run_findKey hk hn]
theorem run_look_none (w : World) (b : Nat) (es : Array MapEntry) (c : Nat) (t k e : TypeId) (kk : IntKind) (n : Int) (z : Value) (ht : Try.prog.underlying t = some (.map k e)) (hk : Try.prog.underlying k = some (.int kk))
    (hb : w.heap[b]? = some (.map es c)) (hz : (zeroValue e).run Try.prog w = .ok z w) (hn : Instr.findNow (.int kk) (.int kk n) es.toList 0 = some none) (ok : Bool) :
    (Instr.lookup t (.map (some b)) (.int kk n) ok).run Try.prog w = .ok (if ok then .tuple #[z, .bool false] else z) w := by
  simp [Instr.lookup, run_underlying ht, Go.MapKept.run_getObj_map hb, Result.andThen, run_checkKey hk (show IsKey (.int kk) (.int kk n) from by simp [IsKey]), run_findKey hk hn, hz]
/-- What kinds() lays. -/
def kindsL : List MapEntry := [⟨.int .u8 1, .string { data := #[110] }, 0⟩, ⟨.int .u8 2, .string { data := #[120] }, 1⟩, ⟨.int .u8 3, .string { data := #[116, 105, 110] }, 2⟩, ⟨.int .u8 4, .string { data := #[116, 107, 110] }, 3⟩, ⟨.int .u8 5, .string { data := #[116, 107, 110, 109] }, 4⟩, ⟨.int .u8 6, .string { data := #[116, 107, 105, 110] }, 5⟩, ⟨.int .u8 7, .string { data := #[116, 107, 105] }, 6⟩, ⟨.int .u8 8, .string { data := #[116, 107, 115] }, 7⟩, ⟨.int .u8 9, .string { data := #[116, 107, 110, 109, 112] }, 8⟩, ⟨.int .u8 10, .string { data := #[116, 107, 105] }, 9⟩, ⟨.int .u8 11, .string { data := #[116, 110] }, 10⟩, ⟨.int .u8 12, .string { data := #[116, 107, 105, 110] }, 11⟩, ⟨.int .u8 13, .string { data := #[116, 107, 105] }, 12⟩, ⟨.int .u8 14, .string { data := #[116, 110] }, 13⟩, ⟨.int .u8 15, .string { data := #[115] }, 14⟩, ⟨.int .u8 16, .string { data := #[116, 105] }, 15⟩]
def kE (n : Nat) : Array MapEntry := (kindsL.take n).toArray
/-- The signs of a kind. -/
def signsOf (k : Int) : ByteArray :=
  if k = 1 then { data := #[110] } else
  if k = 2 then { data := #[120] } else
  if k = 3 then { data := #[116, 105, 110] } else
  if k = 4 then { data := #[116, 107, 110] } else
  if k = 5 then { data := #[116, 107, 110, 109] } else
  if k = 6 then { data := #[116, 107, 105, 110] } else
  if k = 7 then { data := #[116, 107, 105] } else
  if k = 8 then { data := #[116, 107, 115] } else
  if k = 9 then { data := #[116, 107, 110, 109, 112] } else
  if k = 10 then { data := #[116, 107, 105] } else
  if k = 11 then { data := #[116, 110] } else
  if k = 12 then { data := #[116, 107, 105, 110] } else
  if k = 13 then { data := #[116, 107, 105] } else
  if k = 14 then { data := #[116, 110] } else
  if k = 15 then { data := #[115] } else
  if k = 16 then { data := #[116, 105] } else
  { data := #[] }
set_option maxRecDepth 100000 in
theorem kinds_calls (w : World) : Calls Try.prog 22 #[] w fun e w' => e = .returned (.map (some w.heap.size)) ∧ w' = w.alloc (.map (kE 16) 16) := by
  have hmm := @run_makeMap Try.prog
  have hp := Aside0.mk (fun (es : Array MapEntry) (c : Nat) (n : Int) (v : Value) (hn : Instr.findNow (.int .u8) (.int .u8 n) es.toList 0 = some none) => run_put_last w es c 54 5 9 .u8 n v Try.underlying54 Try.underlying5 hn)
  have p0 : (Instr.mapUpdate 54 (.map (some w.heap.size)) (.int .u8 1) (.string { data := #[110] })).run Try.prog (w.alloc (.map #[] 0)) = .ok () (w.alloc (.map (kE 1) 1)) := hp.out (kE 0) 0 1 _ rfl
  have p1 : (Instr.mapUpdate 54 (.map (some w.heap.size)) (.int .u8 2) (.string { data := #[120] })).run Try.prog (w.alloc (.map (kE 1) 1)) = .ok () (w.alloc (.map (kE 2) 2)) := hp.out (kE 1) 1 2 _ rfl
  have p2 : (Instr.mapUpdate 54 (.map (some w.heap.size)) (.int .u8 3) (.string { data := #[116, 105, 110] })).run Try.prog (w.alloc (.map (kE 2) 2)) = .ok () (w.alloc (.map (kE 3) 3)) := hp.out (kE 2) 2 3 _ rfl
  have p3 : (Instr.mapUpdate 54 (.map (some w.heap.size)) (.int .u8 4) (.string { data := #[116, 107, 110] })).run Try.prog (w.alloc (.map (kE 3) 3)) = .ok () (w.alloc (.map (kE 4) 4)) := hp.out (kE 3) 3 4 _ rfl
  have p4 : (Instr.mapUpdate 54 (.map (some w.heap.size)) (.int .u8 5) (.string { data := #[116, 107, 110, 109] })).run Try.prog (w.alloc (.map (kE 4) 4)) = .ok () (w.alloc (.map (kE 5) 5)) := hp.out (kE 4) 4 5 _ rfl
  have p5 : (Instr.mapUpdate 54 (.map (some w.heap.size)) (.int .u8 6) (.string { data := #[116, 107, 105, 110] })).run Try.prog (w.alloc (.map (kE 5) 5)) = .ok () (w.alloc (.map (kE 6) 6)) := hp.out (kE 5) 5 6 _ rfl
  have p6 : (Instr.mapUpdate 54 (.map (some w.heap.size)) (.int .u8 7) (.string { data := #[116, 107, 105] })).run Try.prog (w.alloc (.map (kE 6) 6)) = .ok () (w.alloc (.map (kE 7) 7)) := hp.out (kE 6) 6 7 _ rfl
  have p7 : (Instr.mapUpdate 54 (.map (some w.heap.size)) (.int .u8 8) (.string { data := #[116, 107, 115] })).run Try.prog (w.alloc (.map (kE 7) 7)) = .ok () (w.alloc (.map (kE 8) 8)) := hp.out (kE 7) 7 8 _ rfl
  have p8 : (Instr.mapUpdate 54 (.map (some w.heap.size)) (.int .u8 9) (.string { data := #[116, 107, 110, 109, 112] })).run Try.prog (w.alloc (.map (kE 8) 8)) = .ok () (w.alloc (.map (kE 9) 9)) := hp.out (kE 8) 8 9 _ rfl
  have p9 : (Instr.mapUpdate 54 (.map (some w.heap.size)) (.int .u8 10) (.string { data := #[116, 107, 105] })).run Try.prog (w.alloc (.map (kE 9) 9)) = .ok () (w.alloc (.map (kE 10) 10)) := hp.out (kE 9) 9 10 _ rfl
  have p10 : (Instr.mapUpdate 54 (.map (some w.heap.size)) (.int .u8 11) (.string { data := #[116, 110] })).run Try.prog (w.alloc (.map (kE 10) 10)) = .ok () (w.alloc (.map (kE 11) 11)) := hp.out (kE 10) 10 11 _ rfl
  have p11 : (Instr.mapUpdate 54 (.map (some w.heap.size)) (.int .u8 12) (.string { data := #[116, 107, 105, 110] })).run Try.prog (w.alloc (.map (kE 11) 11)) = .ok () (w.alloc (.map (kE 12) 12)) := hp.out (kE 11) 11 12 _ rfl
  have p12 : (Instr.mapUpdate 54 (.map (some w.heap.size)) (.int .u8 13) (.string { data := #[116, 107, 105] })).run Try.prog (w.alloc (.map (kE 12) 12)) = .ok () (w.alloc (.map (kE 13) 13)) := hp.out (kE 12) 12 13 _ rfl
  have p13 : (Instr.mapUpdate 54 (.map (some w.heap.size)) (.int .u8 14) (.string { data := #[116, 110] })).run Try.prog (w.alloc (.map (kE 13) 13)) = .ok () (w.alloc (.map (kE 14) 14)) := hp.out (kE 13) 13 14 _ rfl
  have p14 : (Instr.mapUpdate 54 (.map (some w.heap.size)) (.int .u8 15) (.string { data := #[115] })).run Try.prog (w.alloc (.map (kE 14) 14)) = .ok () (w.alloc (.map (kE 15) 15)) := hp.out (kE 14) 14 15 _ rfl
  have p15 : (Instr.mapUpdate 54 (.map (some w.heap.size)) (.int .u8 16) (.string { data := #[116, 105] })).run Try.prog (w.alloc (.map (kE 15) 15)) = .ok () (w.alloc (.map (kE 16) 16)) := hp.out (kE 15) 15 16 _ rfl
  clear hp
  go_enter Try.func22, Try.ntmps22
  go_wp2_with fail
  go_ret
  exact ⟨rfl, rfl⟩
/-- Which kinds there are. -/
def isKind (k : Int) : Bool := decide (1 ≤ k) && decide (k ≤ 16)
theorem kinds_find (k : Int) (h : isKind k = true) : ∃ i, Instr.findNow (.int .u8) (.int .u8 k) (kE 16).toList 0 = some (some (i, .string (signsOf k))) := by
  have h1 : 1 ≤ k ∧ k ≤ 16 := by simpa [isKind] using h
  have : k = 1 ∨ k = 2 ∨ k = 3 ∨ k = 4 ∨ k = 5 ∨ k = 6 ∨ k = 7 ∨ k = 8 ∨ k = 9 ∨ k = 10 ∨ k = 11 ∨ k = 12 ∨ k = 13 ∨ k = 14 ∨ k = 15 ∨ k = 16 := by omega
  rcases this with rfl | rfl | rfl | rfl | rfl | rfl | rfl | rfl | rfl | rfl | rfl | rfl | rfl | rfl | rfl | rfl <;> exact ⟨_, rfl⟩
theorem kinds_none (k : Int) (h : isKind k = false) : Instr.findNow (.int .u8) (.int .u8 k) (kE 16).toList 0 = some none ∧ signsOf k = { data := #[] } := by
  have h1 : ¬ (1 ≤ k ∧ k ≤ 16) := by simpa [isKind] using h
  have e : ∀ j : Int, 1 ≤ j → j ≤ 16 → (k == j) = false := fun j a b => by simp; omega
  have n : ∀ j : Int, 1 ≤ j → j ≤ 16 → k ≠ j := fun j a b => by omega
  refine ⟨?_, ?_⟩
  · simp [kE, kindsL, Instr.findNow, Instr.sameNow, e]
  · simp [signsOf, n]
theorem zero_str (w : World) : (zeroValue 9).run Try.prog w = .ok (.string { data := #[] }) w := by kernel_rfl
/-- Looking a kind up. -/
theorem kinds_look (w : World) (b : Nat) (k : Int) (ok : Bool) (hb : w.heap[b]? = some (.map (kE 16) 16)) :
    (Instr.lookup 54 (.map (some b)) (.int .u8 k) ok).run Try.prog w = .ok (if ok then .tuple #[.string (signsOf k), .bool (isKind k)] else .string (signsOf k)) w := by
  cases h : isKind k with
  | true =>
    obtain ⟨i, hi⟩ := kinds_find k h
    exact run_look w b (kE 16) 16 _ _ _ .u8 k i _ Try.underlying54 Try.underlying5 hb hi ok
  | false =>
    obtain ⟨h1, h2⟩ := kinds_none k h
    rw [h2]
    exact run_look_none w b (kE 16) 16 _ _ _ .u8 k _ Try.underlying54 Try.underlying5 hb (zero_str w) h1 ok
end Go.Proofs.Ytanjkhdagegapaa.Ext
end

section
/- Fields of a request: the places, and the closures that put, take and ask them. -/
namespace Go.Proofs.Ytanjkhdagegapaa.Ext
open Go.RowKit Go.MapKept Go.Proofs.YtanjkhdagegapaaW.PrintWords Go.Proofs.YtanjkhdagegapaaW.PrintLast Go.Proofs.YtanjkhdagegapaaW.PrintMore Go.Proofs.YtanjkhdagegapaaW.Hand Go.Proofs.Ytanjkhdagegapaa.PZ
set_option linter.unusedVariables false
abbrev RQ := S27
/-- A request's cells. -/
abbrev rqC (x : RQ) (A : Option Addr) (n c : Nat) : Array Value := #[.int .u8 x.f0, .int .u32 x.f1, .string x.f2, .int .u32 x.f3, .int .i64 x.f4, .int .i64 x.f5, .int .i64 x.f6, .string x.f7, .int .u32 x.f8.f0, .int .i64 x.f8.f1, .int .i64 x.f8.f2, .int .i64 x.f8.f3, .int .i64 x.f8.f4, .int .i64 x.f8.f5, .slice A n c]
theorem acc_t (X : Nat) (w : World) : Calls Try.prog 65 #[.pointer (some ⟨X, 0, none⟩)] w fun e w' => e = .returned (.pointer (some ⟨X, 1, none⟩)) ∧ w = w' := by
  go_enter Try.func65, Try.ntmps65
  go_wp2_with fail
  go_ret
  exact ⟨rfl, rfl⟩
theorem acc_k (X : Nat) (w : World) : Calls Try.prog 67 #[.pointer (some ⟨X, 0, none⟩)] w fun e w' => e = .returned (.pointer (some ⟨X, 2, none⟩)) ∧ w = w' := by
  go_enter Try.func67, Try.ntmps67
  go_wp2_with fail
  go_ret
  exact ⟨rfl, rfl⟩
theorem acc_i (X : Nat) (w : World) : Calls Try.prog 69 #[.pointer (some ⟨X, 0, none⟩)] w fun e w' => e = .returned (.pointer (some ⟨X, 3, none⟩)) ∧ w = w' := by
  go_enter Try.func69, Try.ntmps69
  go_wp2_with fail
  go_ret
  exact ⟨rfl, rfl⟩
theorem acc_n (X : Nat) (w : World) : Calls Try.prog 71 #[.pointer (some ⟨X, 0, none⟩)] w fun e w' => e = .returned (.pointer (some ⟨X, 4, none⟩)) ∧ w = w' := by
  go_enter Try.func71, Try.ntmps71
  go_wp2_with fail
  go_ret
  exact ⟨rfl, rfl⟩
theorem acc_m (X : Nat) (w : World) : Calls Try.prog 72 #[.pointer (some ⟨X, 0, none⟩)] w fun e w' => e = .returned (.pointer (some ⟨X, 5, none⟩)) ∧ w = w' := by
  go_enter Try.func72, Try.ntmps72
  go_wp2_with fail
  go_ret
  exact ⟨rfl, rfl⟩
theorem acc_p (X : Nat) (w : World) : Calls Try.prog 73 #[.pointer (some ⟨X, 0, none⟩)] w fun e w' => e = .returned (.pointer (some ⟨X, 6, none⟩)) ∧ w = w' := by
  go_enter Try.func73, Try.ntmps73
  go_wp2_with fail
  go_ret
  exact ⟨rfl, rfl⟩
theorem acc_s (X : Nat) (w : World) : Calls Try.prog 74 #[.pointer (some ⟨X, 0, none⟩)] w fun e w' => e = .returned (.pointer (some ⟨X, 7, none⟩)) ∧ w = w' := by
  go_enter Try.func74, Try.ntmps74
  go_wp2_with fail
  go_ret
  exact ⟨rfl, rfl⟩
set_option maxHeartbeats 800000 in
theorem put_n (A : Option Addr) (c : Nat) (l : List Int) (x : RQ) (A2 : Option Addr) (c2 : Nat) (a : Nat) (w : World) (hr : Kd.C (Kd.int .u8) w A l.length l) (hl : l.length ≤ 100000000) (ha : Boxed w a 114 (.func (.func 71) #[] #[])) :
    Calls Try.prog 94 #[.slice A l.length c, .agg (rqC x A2 x.f8.f6.length c2), .pointer (some ⟨a, 0, none⟩)] w fun e w' => ∃ v0 : Value, e = .returned v0 ∧ Kd.R (Kd.int .u8) 5 w' w.heap.size (fun _ => True) v0 (l ++ beN 8 (x.f4 % top64)) ∧ Below w.heap.size w w' := by
  have HR := Aside0.mk (Kd.C_alloc hr (.cells (rqC x A2 x.f8.f6.length c2) 27))
  have HL := Aside0.mk (below_alloc (Below.refl _ w) (.cells (rqC x A2 x.f8.f6.length c2) 27))
  have hl2 : l.length ≤ 140737488355000 := by omega
  have ca := (ha.alloc (.cells (rqC x A2 x.f8.f6.length c2) 27)).cell
  have HA := Aside0.mk ha
  clear hr ha
  go_enter Try.func94, Try.ntmps94
  go_wp2_with (first | (go_at_call 71; (with_reducible refine (acc_n _ _).mono ?_); rintro e w9 ⟨rfl, rfl⟩) | (go_at_call 44; (with_reducible refine (Int_any A c l x.f4 _ HR.out hl2).mono ?_); rintro e w1 ⟨v0, rfl, ho, hb⟩; have HO := Aside0.mk (Kd.R_lower (base' := w.heap.size) ho (by simp)); have HB := Aside0.mk (below_step HL.out hb); clear ho hb))
  go_ret
  exact ⟨_, rfl, HO.out, HB.out⟩
set_option maxHeartbeats 800000 in
theorem put_m (A : Option Addr) (c : Nat) (l : List Int) (x : RQ) (A2 : Option Addr) (c2 : Nat) (a : Nat) (w : World) (hr : Kd.C (Kd.int .u8) w A l.length l) (hl : l.length ≤ 100000000) (ha : Boxed w a 114 (.func (.func 72) #[] #[])) :
    Calls Try.prog 94 #[.slice A l.length c, .agg (rqC x A2 x.f8.f6.length c2), .pointer (some ⟨a, 0, none⟩)] w fun e w' => ∃ v0 : Value, e = .returned v0 ∧ Kd.R (Kd.int .u8) 5 w' w.heap.size (fun _ => True) v0 (l ++ beN 8 (x.f5 % top64)) ∧ Below w.heap.size w w' := by
  have HR := Aside0.mk (Kd.C_alloc hr (.cells (rqC x A2 x.f8.f6.length c2) 27))
  have HL := Aside0.mk (below_alloc (Below.refl _ w) (.cells (rqC x A2 x.f8.f6.length c2) 27))
  have hl2 : l.length ≤ 140737488355000 := by omega
  have ca := (ha.alloc (.cells (rqC x A2 x.f8.f6.length c2) 27)).cell
  have HA := Aside0.mk ha
  clear hr ha
  go_enter Try.func94, Try.ntmps94
  go_wp2_with (first | (go_at_call 72; (with_reducible refine (acc_m _ _).mono ?_); rintro e w9 ⟨rfl, rfl⟩) | (go_at_call 44; (with_reducible refine (Int_any A c l x.f5 _ HR.out hl2).mono ?_); rintro e w1 ⟨v0, rfl, ho, hb⟩; have HO := Aside0.mk (Kd.R_lower (base' := w.heap.size) ho (by simp)); have HB := Aside0.mk (below_step HL.out hb); clear ho hb))
  go_ret
  exact ⟨_, rfl, HO.out, HB.out⟩
set_option maxHeartbeats 800000 in
theorem put_p (A : Option Addr) (c : Nat) (l : List Int) (x : RQ) (A2 : Option Addr) (c2 : Nat) (a : Nat) (w : World) (hr : Kd.C (Kd.int .u8) w A l.length l) (hl : l.length ≤ 100000000) (ha : Boxed w a 114 (.func (.func 73) #[] #[])) :
    Calls Try.prog 94 #[.slice A l.length c, .agg (rqC x A2 x.f8.f6.length c2), .pointer (some ⟨a, 0, none⟩)] w fun e w' => ∃ v0 : Value, e = .returned v0 ∧ Kd.R (Kd.int .u8) 5 w' w.heap.size (fun _ => True) v0 (l ++ beN 8 (x.f6 % top64)) ∧ Below w.heap.size w w' := by
  have HR := Aside0.mk (Kd.C_alloc hr (.cells (rqC x A2 x.f8.f6.length c2) 27))
  have HL := Aside0.mk (below_alloc (Below.refl _ w) (.cells (rqC x A2 x.f8.f6.length c2) 27))
  have hl2 : l.length ≤ 140737488355000 := by omega
  have ca := (ha.alloc (.cells (rqC x A2 x.f8.f6.length c2) 27)).cell
  have HA := Aside0.mk ha
  clear hr ha
  go_enter Try.func94, Try.ntmps94
  go_wp2_with (first | (go_at_call 73; (with_reducible refine (acc_p _ _).mono ?_); rintro e w9 ⟨rfl, rfl⟩) | (go_at_call 44; (with_reducible refine (Int_any A c l x.f6 _ HR.out hl2).mono ?_); rintro e w1 ⟨v0, rfl, ho, hb⟩; have HO := Aside0.mk (Kd.R_lower (base' := w.heap.size) ho (by simp)); have HB := Aside0.mk (below_step HL.out hb); clear ho hb))
  go_ret
  exact ⟨_, rfl, HO.out, HB.out⟩
set_option maxHeartbeats 800000 in
theorem put_t (A : Option Addr) (c : Nat) (l : List Int) (x : RQ) (A2 : Option Addr) (c2 : Nat) (a : Nat) (w : World) (hr : Kd.C (Kd.int .u8) w A l.length l) (hl : l.length ≤ 100000000) (h0 : 0 ≤ x.f1) (h1 : x.f1 < 4294967296) (ha : Boxed w a 108 (.func (.func 65) #[] #[])) :
    Calls Try.prog 88 #[.slice A l.length c, .agg (rqC x A2 x.f8.f6.length c2), .pointer (some ⟨a, 0, none⟩)] w fun e w' => ∃ v0 : Value, e = .returned v0 ∧ Kd.R (Kd.int .u8) 5 w' w.heap.size (fun _ => True) v0 (l ++ beN 8 x.f1) ∧ Below w.heap.size w w' := by
  have HR := Aside0.mk (Kd.C_alloc hr (.cells (rqC x A2 x.f8.f6.length c2) 27))
  have HL := Aside0.mk (below_alloc (Below.refl _ w) (.cells (rqC x A2 x.f8.f6.length c2) 27))
  have hl2 : l.length ≤ 140737488355000 := by omega
  have ca := (ha.alloc (.cells (rqC x A2 x.f8.f6.length c2) 27)).cell
  have HA := Aside0.mk ha
  have hw : IntKind.u64.wrap x.f1 = x.f1 := by rw [IntKind.wrap_u64]; omega
  have ht : x.f1 < top64 := by unfold top64; omega
  clear hr ha
  go_enter Try.func88, Try.ntmps88
  go_wp2_with (first | (go_at_call 65; (with_reducible refine (acc_t _ _).mono ?_); rintro e w9 ⟨rfl, rfl⟩) | (go_at_call 43; (with_reducible refine (Uint_any A c l x.f1 _ HR.out hl2 h0 ht).mono ?_); rintro e w1 ⟨v0, rfl, ho, hb⟩; have HO := Aside0.mk (Kd.R_lower (base' := w.heap.size) ho (by simp)); have HB := Aside0.mk (below_step HL.out hb); clear ho hb))
  go_ret
  exact ⟨_, rfl, HO.out, HB.out⟩
set_option maxHeartbeats 800000 in
theorem put_i (A : Option Addr) (c : Nat) (l : List Int) (x : RQ) (A2 : Option Addr) (c2 : Nat) (a : Nat) (w : World) (hr : Kd.C (Kd.int .u8) w A l.length l) (hl : l.length ≤ 100000000) (h0 : 0 ≤ x.f3) (h1 : x.f3 < 4294967296) (ha : Boxed w a 108 (.func (.func 69) #[] #[])) :
    Calls Try.prog 88 #[.slice A l.length c, .agg (rqC x A2 x.f8.f6.length c2), .pointer (some ⟨a, 0, none⟩)] w fun e w' => ∃ v0 : Value, e = .returned v0 ∧ Kd.R (Kd.int .u8) 5 w' w.heap.size (fun _ => True) v0 (l ++ beN 8 x.f3) ∧ Below w.heap.size w w' := by
  have HR := Aside0.mk (Kd.C_alloc hr (.cells (rqC x A2 x.f8.f6.length c2) 27))
  have HL := Aside0.mk (below_alloc (Below.refl _ w) (.cells (rqC x A2 x.f8.f6.length c2) 27))
  have hl2 : l.length ≤ 140737488355000 := by omega
  have ca := (ha.alloc (.cells (rqC x A2 x.f8.f6.length c2) 27)).cell
  have HA := Aside0.mk ha
  have hw : IntKind.u64.wrap x.f3 = x.f3 := by rw [IntKind.wrap_u64]; omega
  have ht : x.f3 < top64 := by unfold top64; omega
  clear hr ha
  go_enter Try.func88, Try.ntmps88
  go_wp2_with (first | (go_at_call 69; (with_reducible refine (acc_i _ _).mono ?_); rintro e w9 ⟨rfl, rfl⟩) | (go_at_call 43; (with_reducible refine (Uint_any A c l x.f3 _ HR.out hl2 h0 ht).mono ?_); rintro e w1 ⟨v0, rfl, ho, hb⟩; have HO := Aside0.mk (Kd.R_lower (base' := w.heap.size) ho (by simp)); have HB := Aside0.mk (below_step HL.out hb); clear ho hb))
  go_ret
  exact ⟨_, rfl, HO.out, HB.out⟩
set_option maxHeartbeats 800000 in
theorem put_k (A : Option Addr) (c : Nat) (l : List Int) (x : RQ) (A2 : Option Addr) (c2 : Nat) (a : Nat) (w : World) (hr : Kd.C (Kd.int .u8) w A l.length l) (hl : l.length ≤ 100000000) (h1 : x.f2.size ≤ 1000000) (ha : Boxed w a 111 (.func (.func 67) #[] #[])) :
    Calls Try.prog 91 #[.slice A l.length c, .agg (rqC x A2 x.f8.f6.length c2), .pointer (some ⟨a, 0, none⟩)] w fun e w' => ∃ v0 : Value, e = .returned v0 ∧ Kd.R (Kd.int .u8) 5 w' w.heap.size (fun _ => True) v0 (l ++ beN 4 (bytesOf x.f2).length ++ bytesOf x.f2) ∧ Below w.heap.size w w' := by
  have HR := Aside0.mk (Kd.C_alloc hr (.cells (rqC x A2 x.f8.f6.length c2) 27))
  have HL := Aside0.mk (below_alloc (Below.refl _ w) (.cells (rqC x A2 x.f8.f6.length c2) 27))
  have hl2 : l.length ≤ 140737488355000 := by omega
  have ca := (ha.alloc (.cells (rqC x A2 x.f8.f6.length c2) 27)).cell
  have HA := Aside0.mk ha
  have kc0 := fun (w : World) => Lib.run_convert_string_bytes (P := Try.prog) w 9 29 5 x.f2 Try.underlying9 Try.underlying29 Try.underlying5
  have kc : ∀ w : World, (convert 9 29 (.string x.f2)).run Try.prog w = .ok (.slice (some ⟨w.heap.size, 0, none⟩) (bytesOf x.f2).length (grownCap w x.f2.size 0 5)) (Lib.bytesWorld w 5 x.f2) := fun w => by rw [bytesOf_length]; exact kc0 w
  clear kc0
  obtain ⟨W1, hW1⟩ : ∃ W1, w.alloc (.cells (rqC x A2 x.f8.f6.length c2) 27) = W1 := ⟨_, rfl⟩
  have hz : W1.heap.size = w.heap.size + 1 := by rw [← hW1]; simp
  have HS2 := Aside0.mk (C_str W1 5 x.f2 (by omega))
  rw [hz] at HS2
  have HR2 := Aside0.mk (Kd.C_below HR.out (by rw [hW1]; exact str_below W1 5 x.f2))
  have HL2 := Aside0.mk (below_step HL.out (by rw [hW1]; exact str_below W1 5 x.f2))
  have hl3 : l.length + (bytesOf x.f2).length ≤ 140737488355000 := by rw [bytesOf_length]; omega
  rw [← hW1] at HS2 HR2 HL2
  clear hW1 hz
  clear hr ha
  go_enter Try.func91, Try.ntmps91
  go_wp2_with (first | (go_at_call 67; (with_reducible refine (acc_k _ _).mono ?_); rintro e w9 ⟨rfl, rfl⟩) | (go_at_call 45; (with_reducible refine (Text_any A c l (some ⟨w.heap.size + 1, 0, none⟩) _ (bytesOf x.f2) _ HR2.out HS2.out hl3).mono ?_); rintro e w1 ⟨v0, rfl, ho, hb⟩; have HO := Aside0.mk (Kd.R_lower (base' := w.heap.size) ho HL2.out.size); have HB := Aside0.mk (below_step HL2.out hb); clear ho hb))
  go_ret
  exact ⟨_, rfl, HO.out, HB.out⟩
set_option maxHeartbeats 800000 in
theorem put_s (A : Option Addr) (c : Nat) (l : List Int) (x : RQ) (A2 : Option Addr) (c2 : Nat) (a : Nat) (w : World) (hr : Kd.C (Kd.int .u8) w A l.length l) (hl : l.length ≤ 100000000) (h1 : x.f7.size ≤ 1000000) (ha : Boxed w a 111 (.func (.func 74) #[] #[])) :
    Calls Try.prog 91 #[.slice A l.length c, .agg (rqC x A2 x.f8.f6.length c2), .pointer (some ⟨a, 0, none⟩)] w fun e w' => ∃ v0 : Value, e = .returned v0 ∧ Kd.R (Kd.int .u8) 5 w' w.heap.size (fun _ => True) v0 (l ++ beN 4 (bytesOf x.f7).length ++ bytesOf x.f7) ∧ Below w.heap.size w w' := by
  have HR := Aside0.mk (Kd.C_alloc hr (.cells (rqC x A2 x.f8.f6.length c2) 27))
  have HL := Aside0.mk (below_alloc (Below.refl _ w) (.cells (rqC x A2 x.f8.f6.length c2) 27))
  have hl2 : l.length ≤ 140737488355000 := by omega
  have ca := (ha.alloc (.cells (rqC x A2 x.f8.f6.length c2) 27)).cell
  have HA := Aside0.mk ha
  have kc0 := fun (w : World) => Lib.run_convert_string_bytes (P := Try.prog) w 9 29 5 x.f7 Try.underlying9 Try.underlying29 Try.underlying5
  have kc : ∀ w : World, (convert 9 29 (.string x.f7)).run Try.prog w = .ok (.slice (some ⟨w.heap.size, 0, none⟩) (bytesOf x.f7).length (grownCap w x.f7.size 0 5)) (Lib.bytesWorld w 5 x.f7) := fun w => by rw [bytesOf_length]; exact kc0 w
  clear kc0
  obtain ⟨W1, hW1⟩ : ∃ W1, w.alloc (.cells (rqC x A2 x.f8.f6.length c2) 27) = W1 := ⟨_, rfl⟩
  have hz : W1.heap.size = w.heap.size + 1 := by rw [← hW1]; simp
  have HS2 := Aside0.mk (C_str W1 5 x.f7 (by omega))
  rw [hz] at HS2
  have HR2 := Aside0.mk (Kd.C_below HR.out (by rw [hW1]; exact str_below W1 5 x.f7))
  have HL2 := Aside0.mk (below_step HL.out (by rw [hW1]; exact str_below W1 5 x.f7))
  have hl3 : l.length + (bytesOf x.f7).length ≤ 140737488355000 := by rw [bytesOf_length]; omega
  rw [← hW1] at HS2 HR2 HL2
  clear hW1 hz
  clear hr ha
  go_enter Try.func91, Try.ntmps91
  go_wp2_with (first | (go_at_call 74; (with_reducible refine (acc_s _ _).mono ?_); rintro e w9 ⟨rfl, rfl⟩) | (go_at_call 45; (with_reducible refine (Text_any A c l (some ⟨w.heap.size + 1, 0, none⟩) _ (bytesOf x.f7) _ HR2.out HS2.out hl3).mono ?_); rintro e w1 ⟨v0, rfl, ho, hb⟩; have HO := Aside0.mk (Kd.R_lower (base' := w.heap.size) ho HL2.out.size); have HB := Aside0.mk (below_step HL2.out hb); clear ho hb))
  go_ret
  exact ⟨_, rfl, HO.out, HB.out⟩
end Go.Proofs.Ytanjkhdagegapaa.Ext
end

section
/- Fields of a request: the closures that ask whether it may be. -/
namespace Go.Proofs.Ytanjkhdagegapaa.Ext
open Go.RowKit Go.MapKept Go.Proofs.YtanjkhdagegapaaW.PrintWords Go.Proofs.YtanjkhdagegapaaW.PrintLast Go.Proofs.YtanjkhdagegapaaW.PrintMore Go.Proofs.YtanjkhdagegapaaW.Hand Go.Proofs.Ytanjkhdagegapaa.PZ
set_option linter.unusedVariables false
def keyOk (s : ByteArray) : Bool := decide (0 < s.size) && decide (s.size ≤ 16)
def textOk (s : ByteArray) : Bool := decide (s.size ≤ 32)
theorem keyOk_calls (s : ByteArray) (w : World) : Calls Try.prog 68 #[.string s] w fun e w' => e = .returned (.bool (keyOk s)) ∧ w' = w := by
  unfold keyOk
  by_cases h1 : 0 < s.size
  · by_cases h2 : s.size ≤ 16
    all_goals
      go_enter Try.func68, Try.ntmps68
      go_wp2_with fail
      go_ret
      exact ⟨by simp [*]; omega, rfl⟩
  · go_enter Try.func68, Try.ntmps68
    go_wp2_with fail
    go_ret
    exact ⟨by simp [*], rfl⟩
theorem textOk_calls (s : ByteArray) (w : World) : Calls Try.prog 75 #[.string s] w fun e w' => e = .returned (.bool (textOk s)) ∧ w' = w := by
  unfold textOk
  go_enter Try.func75, Try.ntmps75
  go_wp2_with fail
  go_ret
  exact ⟨by simp; omega, rfl⟩
theorem may_n (x : RQ) (A2 : Option Addr) (c2 : Nat) (w : World) : Calls Try.prog 96 #[.agg (rqC x A2 x.f8.f6.length c2)] w fun e w' => e = .returned (.bool true) ∧ Below w.heap.size w w' := by
  go_enter Try.func96, Try.ntmps96
  go_wp2_with fail
  go_ret
  exact ⟨rfl, below_alloc (Below.refl _ _) _⟩
theorem may_t (x : RQ) (A2 : Option Addr) (c2 a l : Nat) (w : World) (ha : Boxed w a 108 (.func (.func 65) #[] #[])) (hb : Boxed w l 22 (.int .u32 1)) :
    Calls Try.prog 90 #[.agg (rqC x A2 x.f8.f6.length c2), .pointer (some ⟨a, 0, none⟩), .pointer (some ⟨l, 0, none⟩)] w fun e w' => e = .returned (.bool (decide (1 ≤ x.f1))) ∧ Below w.heap.size w w' := by
  have ca := (ha.alloc (.cells (rqC x A2 x.f8.f6.length c2) 27)).cell
  have cl := (hb.alloc (.cells (rqC x A2 x.f8.f6.length c2) 27)).cell
  clear ha hb
  go_enter Try.func90, Try.ntmps90
  go_wp2_with fail
  go_quiet ((go_at_call 65; exact Calls.quiet_of_same ((acc_t _ _).mono fun _ _ h => ⟨h.1, h.2.symm⟩)))
  go_wp2_with fail
  go_ret
  exact ⟨by simp, pw_below_drewN (below_alloc (Below.refl _ _) _) _⟩
theorem may_i (x : RQ) (A2 : Option Addr) (c2 a l : Nat) (w : World) (ha : Boxed w a 108 (.func (.func 69) #[] #[])) (hb : Boxed w l 22 (.int .u32 0)) :
    Calls Try.prog 90 #[.agg (rqC x A2 x.f8.f6.length c2), .pointer (some ⟨a, 0, none⟩), .pointer (some ⟨l, 0, none⟩)] w fun e w' => e = .returned (.bool (decide (0 ≤ x.f3))) ∧ Below w.heap.size w w' := by
  have ca := (ha.alloc (.cells (rqC x A2 x.f8.f6.length c2) 27)).cell
  have cl := (hb.alloc (.cells (rqC x A2 x.f8.f6.length c2) 27)).cell
  clear ha hb
  go_enter Try.func90, Try.ntmps90
  go_wp2_with fail
  go_quiet ((go_at_call 69; exact Calls.quiet_of_same ((acc_i _ _).mono fun _ _ h => ⟨h.1, h.2.symm⟩)))
  go_wp2_with fail
  go_ret
  exact ⟨by simp, pw_below_drewN (below_alloc (Below.refl _ _) _) _⟩
theorem may_k (x : RQ) (A2 : Option Addr) (c2 a l : Nat) (w : World) (ha : Boxed w a 111 (.func (.func 67) #[] #[])) (hb : Boxed w l 69 (.func (.func 68) #[] #[])) :
    Calls Try.prog 93 #[.agg (rqC x A2 x.f8.f6.length c2), .pointer (some ⟨l, 0, none⟩), .pointer (some ⟨a, 0, none⟩)] w fun e w' => e = .returned (.bool (keyOk x.f2)) ∧ Below w.heap.size w w' := by
  have ca := (ha.alloc (.cells (rqC x A2 x.f8.f6.length c2) 27)).cell
  have cl := (hb.alloc (.cells (rqC x A2 x.f8.f6.length c2) 27)).cell
  clear ha hb
  go_enter Try.func93, Try.ntmps93
  go_wp2_with fail
  go_quiet ((first | (go_at_call 67; exact Calls.quiet_of_same ((acc_k _ _).mono fun _ _ h => ⟨h.1, h.2.symm⟩)) | (go_at_call 68; exact Calls.quiet_of_same (keyOk_calls _ _))))
  go_wp2_with fail
  go_ret
  exact ⟨rfl, pw_below_drewN (below_alloc (Below.refl _ _) _) _⟩
theorem may_s (x : RQ) (A2 : Option Addr) (c2 a l : Nat) (w : World) (ha : Boxed w a 111 (.func (.func 74) #[] #[])) (hb : Boxed w l 69 (.func (.func 75) #[] #[])) :
    Calls Try.prog 93 #[.agg (rqC x A2 x.f8.f6.length c2), .pointer (some ⟨l, 0, none⟩), .pointer (some ⟨a, 0, none⟩)] w fun e w' => e = .returned (.bool (textOk x.f7)) ∧ Below w.heap.size w w' := by
  have ca := (ha.alloc (.cells (rqC x A2 x.f8.f6.length c2) 27)).cell
  have cl := (hb.alloc (.cells (rqC x A2 x.f8.f6.length c2) 27)).cell
  clear ha hb
  go_enter Try.func93, Try.ntmps93
  go_wp2_with fail
  go_quiet ((first | (go_at_call 74; exact Calls.quiet_of_same ((acc_s _ _).mono fun _ _ h => ⟨h.1, h.2.symm⟩)) | (go_at_call 75; exact Calls.quiet_of_same (textOk_calls _ _))))
  go_wp2_with fail
  go_ret
  exact ⟨rfl, pw_below_drewN (below_alloc (Below.refl _ _) _) _⟩
end Go.Proofs.Ytanjkhdagegapaa.Ext
end

section
/- Fields of a request: the closures that take them. -/
namespace Go.Proofs.Ytanjkhdagegapaa.Ext
open Go.RowKit Go.MapKept Go.Proofs.YtanjkhdagegapaaW.PrintWords Go.Proofs.YtanjkhdagegapaaW.PrintLast Go.Proofs.YtanjkhdagegapaaW.PrintMore Go.Proofs.YtanjkhdagegapaaW.Hand Go.Proofs.Ytanjkhdagegapaa.PZ
set_option linter.unusedVariables false
/-- All but two blocks is as it was. -/
structure Kpt (g X : Nat) (W W' : World) : Prop where
  os : W'.os = W.os
  tape : W'.tape = W.tape
  output : W'.output = W.output
  size : W.heap.size ≤ W'.heap.size
  block : ∀ k, k < W.heap.size → k ≠ g → k ≠ X → W'.heap[k]? = W.heap[k]?
theorem Kpt.refl (g X : Nat) (W : World) : Kpt g X W W := ⟨rfl, rfl, rfl, Nat.le_refl _, fun _ _ _ _ => rfl⟩
theorem Kpt.trans {g X : Nat} {a b c : World} (h : Kpt g X a b) (k : Kpt g X b c) : Kpt g X a c := ⟨k.os.trans h.os, k.tape.trans h.tape, k.output.trans h.output, Nat.le_trans h.size k.size, fun i hi h1 h2 => (k.block i (Nat.lt_of_lt_of_le hi h.size) h1 h2).trans (h.block i hi h1 h2)⟩
theorem Kpt.grown {g X : Nat} {a b : World} (h : a.grownBy b (some g)) : Kpt g X a b := ⟨h.os, h.tape, h.output, h.size, fun i hi h1 _ => h.block i hi (fun e => h1 (by injection e))⟩
theorem Kpt.of_below {g X : Nat} {a b : World} (h : Below a.heap.size a b) : Kpt g X a b := ⟨h.os, h.tape, h.output, h.size, fun i hi _ _ => h.block i hi⟩
theorem Kpt.set {g X : Nat} (a : World) (j : Nat) (v : Value) : Kpt g X a (a.setCell ⟨X, j, none⟩ v) := ⟨rfl, rfl, rfl, by simp [World.setCell], fun i _ _ h2 => Below.heap_setCell a ⟨X, j, none⟩ v i h2⟩
theorem Kpt.below {g X n : Nat} {w a b : World} (h : Kpt g X a b) (hb : Below n w a) (hn : n ≤ a.heap.size) (h1 : n ≤ g) (h2 : n ≤ X) : Below n w b :=
  ⟨h.os.trans hb.os, h.tape.trans hb.tape, h.output.trans hb.output, Nat.le_trans hb.size h.size, fun k hk => (h.block k (by omega) (by omega) (by omega)).trans (hb.block k hk)⟩
def TkPost (g X : Nat) (B : Nat → Prop) (A : Option Addr) (n c : Nat) (w : World) (x : RQ) (rs : Rs) (e : Ending) (w' : World) : Prop :=
  e = .returned (.tuple #[]) ∧ RdrS w' g B rs ∧ w'.heap[X]? = some (.cells (rqC x A n c) 27 (0, 0)) ∧ Kpt g X w w'
theorem rdr_set {W : World} {g X j : Nat} {B : Nat → Prop} {rs : Rs} {v : Value} (h : RdrS W g B rs) (hX : ∀ k, B k → k ≠ X) : RdrS (W.setCell ⟨X, j, none⟩ v) g B rs :=
  RdrAt.keep h (fun k hk _ => Below.heap_setCell W ⟨X, j, none⟩ v k (hX k hk))
theorem rdr_g {W : World} {g : Nat} {B : Nat → Prop} {rs : Rs} (h : RdrS W g B rs) : B g := by obtain ⟨_, _, _, _, _, _, h⟩ := h; exact h
theorem take_n (g X a : Nat) (B : Nat → Prop) (A : Option Addr) (n c : Nat) (x : RQ) (rs : Rs) (w : World) (hr : RdrS w g B rs) (hm : rs.xs.length ≤ 140737488354000) (hX : w.heap[X]? = some (.cells (rqC x A n c) 27 (0, 0))) (hB : ∀ k, B k → k ≠ X) (ha : Boxed w a 114 (.func (.func 71) #[] #[])) :
    Calls Try.prog 95 #[.pointer (some ⟨g, 0, none⟩), .pointer (some ⟨X, 0, none⟩), .pointer (some ⟨a, 0, none⟩)] w (TkPost g X B A n c w { x with f4 := rs.int.1 } rs.int.2) := by
  have HR := Aside0.mk hr
  have HX := Aside0.mk hX
  have hm2 : rs.xs.length ≤ 140737488355000 := by omega
  have hXg : X ≠ g := fun e => hB g (rdr_g hr) e.symm
  have hXl : X < w.heap.size := (Array.getElem?_eq_some_iff.1 hX).1
  have ca := ha.cell
  have HB := Aside0.mk hB
  clear hr hX ha hB
  go_enter Try.func95, Try.ntmps95
  go_wp2_with (first | (go_at_call 71; (with_reducible refine (acc_n _ _).mono ?_); rintro e w9 ⟨rfl, rfl⟩) | (go_at_call 28; (with_reducible refine (Int_calls g B rs _ HR.out hm2).mono ?_); rintro e w1 ⟨rfl, hr1, hg1⟩; have HR1 := Aside0.mk hr1; have HG1 := Aside0.mk hg1; have HX1 := Aside0.mk ((hg1.block X hXl (fun e => hXg (by injection e))).trans HX.out); have fz := blk_frozen HX1.out 4; have cz := (cell_of_row w1 X 4 _ _ _ HX1.out).trans (rfl : _ = some (Value.int .i64 x.f4)); clear hr1 hg1))
  go_end0
  exact ⟨rfl, rdr_set HR1.out HB.out, blk_put HX1.out 4 _ rfl, (Kpt.grown HG1.out).trans (Kpt.set _ _ _)⟩
theorem take_m (g X a : Nat) (B : Nat → Prop) (A : Option Addr) (n c : Nat) (x : RQ) (rs : Rs) (w : World) (hr : RdrS w g B rs) (hm : rs.xs.length ≤ 140737488354000) (hX : w.heap[X]? = some (.cells (rqC x A n c) 27 (0, 0))) (hB : ∀ k, B k → k ≠ X) (ha : Boxed w a 114 (.func (.func 72) #[] #[])) :
    Calls Try.prog 95 #[.pointer (some ⟨g, 0, none⟩), .pointer (some ⟨X, 0, none⟩), .pointer (some ⟨a, 0, none⟩)] w (TkPost g X B A n c w { x with f5 := rs.int.1 } rs.int.2) := by
  have HR := Aside0.mk hr
  have HX := Aside0.mk hX
  have hm2 : rs.xs.length ≤ 140737488355000 := by omega
  have hXg : X ≠ g := fun e => hB g (rdr_g hr) e.symm
  have hXl : X < w.heap.size := (Array.getElem?_eq_some_iff.1 hX).1
  have ca := ha.cell
  have HB := Aside0.mk hB
  clear hr hX ha hB
  go_enter Try.func95, Try.ntmps95
  go_wp2_with (first | (go_at_call 72; (with_reducible refine (acc_m _ _).mono ?_); rintro e w9 ⟨rfl, rfl⟩) | (go_at_call 28; (with_reducible refine (Int_calls g B rs _ HR.out hm2).mono ?_); rintro e w1 ⟨rfl, hr1, hg1⟩; have HR1 := Aside0.mk hr1; have HG1 := Aside0.mk hg1; have HX1 := Aside0.mk ((hg1.block X hXl (fun e => hXg (by injection e))).trans HX.out); have fz := blk_frozen HX1.out 5; have cz := (cell_of_row w1 X 5 _ _ _ HX1.out).trans (rfl : _ = some (Value.int .i64 x.f5)); clear hr1 hg1))
  go_end0
  exact ⟨rfl, rdr_set HR1.out HB.out, blk_put HX1.out 5 _ rfl, (Kpt.grown HG1.out).trans (Kpt.set _ _ _)⟩
theorem take_p (g X a : Nat) (B : Nat → Prop) (A : Option Addr) (n c : Nat) (x : RQ) (rs : Rs) (w : World) (hr : RdrS w g B rs) (hm : rs.xs.length ≤ 140737488354000) (hX : w.heap[X]? = some (.cells (rqC x A n c) 27 (0, 0))) (hB : ∀ k, B k → k ≠ X) (ha : Boxed w a 114 (.func (.func 73) #[] #[])) :
    Calls Try.prog 95 #[.pointer (some ⟨g, 0, none⟩), .pointer (some ⟨X, 0, none⟩), .pointer (some ⟨a, 0, none⟩)] w (TkPost g X B A n c w { x with f6 := rs.int.1 } rs.int.2) := by
  have HR := Aside0.mk hr
  have HX := Aside0.mk hX
  have hm2 : rs.xs.length ≤ 140737488355000 := by omega
  have hXg : X ≠ g := fun e => hB g (rdr_g hr) e.symm
  have hXl : X < w.heap.size := (Array.getElem?_eq_some_iff.1 hX).1
  have ca := ha.cell
  have HB := Aside0.mk hB
  clear hr hX ha hB
  go_enter Try.func95, Try.ntmps95
  go_wp2_with (first | (go_at_call 73; (with_reducible refine (acc_p _ _).mono ?_); rintro e w9 ⟨rfl, rfl⟩) | (go_at_call 28; (with_reducible refine (Int_calls g B rs _ HR.out hm2).mono ?_); rintro e w1 ⟨rfl, hr1, hg1⟩; have HR1 := Aside0.mk hr1; have HG1 := Aside0.mk hg1; have HX1 := Aside0.mk ((hg1.block X hXl (fun e => hXg (by injection e))).trans HX.out); have fz := blk_frozen HX1.out 6; have cz := (cell_of_row w1 X 6 _ _ _ HX1.out).trans (rfl : _ = some (Value.int .i64 x.f6)); clear hr1 hg1))
  go_end0
  exact ⟨rfl, rdr_set HR1.out HB.out, blk_put HX1.out 6 _ rfl, (Kpt.grown HG1.out).trans (Kpt.set _ _ _)⟩
def Rs.u32 (r : Rs) : Int × Rs := (r.uint.1 % 4294967296, if 4294967295 < r.uint.1 then ⟨r.uint.2.xs, true⟩ else r.uint.2)
theorem u32_conv (v : Int) : IntKind.u32.wrap v = v % 4294967296 := IntKind.wrap_u32 v
theorem take_t (g X a : Nat) (B : Nat → Prop) (A : Option Addr) (n c : Nat) (x : RQ) (rs : Rs) (w : World) (hr : RdrS w g B rs) (hm : rs.xs.length ≤ 140737488354000) (hX : w.heap[X]? = some (.cells (rqC x A n c) 27 (0, 0))) (hB : ∀ k, B k → k ≠ X) (ha : Boxed w a 108 (.func (.func 65) #[] #[])) :
    Calls Try.prog 89 #[.pointer (some ⟨g, 0, none⟩), .pointer (some ⟨X, 0, none⟩), .pointer (some ⟨a, 0, none⟩)] w (TkPost g X B A n c w { x with f1 := rs.u32.1 } rs.u32.2) := by
  have HR := Aside0.mk hr
  have HX := Aside0.mk hX
  have hm2 : rs.xs.length ≤ 140737488355000 := by omega
  have hXg : X ≠ g := fun e => hB g (rdr_g hr) e.symm
  have hag : a ≠ g := fun e => by
    subst e
    obtain ⟨_, _, h1, _⟩ := hr
    have := h1.out.symm.trans ha
    injection this with this
    injection this with h2 h3
    revert h3; decide
  have hXl : X < w.heap.size := (Array.getElem?_eq_some_iff.1 hX).1
  have HA := Aside0.mk ha
  have HB := Aside0.mk hB
  unfold Rs.u32
  have wv := u32_conv rs.uint.1
  obtain ⟨⟨v, r1⟩, hv⟩ : ∃ v, rs.uint = v := ⟨_, rfl⟩
  have KU := Aside0.mk (Uint_calls g B rs w HR.out hm2)
  rw [hv] at KU wv ⊢
  clear hr hX ha hB hv
  dsimp only at wv ⊢
  by_cases hb : 4294967295 < v
  · rw [if_pos hb]
    go_enter Try.func89, Try.ntmps89
    go_wp2_with (first
      | (go_at_call 65; (with_reducible refine (acc_t _ _).mono ?_); rintro e w9 ⟨rfl, rfl⟩)
      | (go_at_call 29; (with_reducible refine KU.out.mono ?_); rintro e w1 ⟨rfl, hr1, hg1⟩; have HRB := Aside0.mk (show RdrAt w1 g B r1.xs r1.bad from hr1); have HG1 := Aside0.mk hg1; clear hr1 hg1)
      | (go_at_call 83; (with_reducible refine (Bad_any g B r1.xs r1.bad _ HRB.out).mono ?_); rintro e w2 ⟨rfl, hr2, hg2⟩; have HR2 := Aside0.mk (show RdrS w2 g B ⟨r1.xs, true⟩ from hr2); have HG2 := Aside0.mk ((Kpt.grown (X := X) HG1.out).trans (Kpt.grown hg2)); have HX2 := Aside0.mk ((hg2.block X (Nat.lt_of_lt_of_le hXl HG1.out.size) (fun e => hXg (by injection e))).trans ((HG1.out.block X hXl (fun e => hXg (by injection e))).trans HX.out)); have fz := blk_frozen HX2.out 1; have cz := (cell_of_row w2 X 1 _ _ _ HX2.out).trans (rfl : _ = some (Value.int .u32 x.f1)); have ca := ((HA.out.kept HG1.out (fun e => hag (by injection e))).kept hg2 (fun e => hag (by injection e))).cell; clear hr2 hg2))
    go_end0
    exact ⟨rfl, rdr_set HR2.out HB.out, blk_put HX2.out 1 _ rfl, HG2.out.trans (Kpt.set _ _ _)⟩
  · rw [if_neg hb]
    go_enter Try.func89, Try.ntmps89
    go_wp2_with (first
      | (go_at_call 65; (with_reducible refine (acc_t _ _).mono ?_); rintro e w9 ⟨rfl, rfl⟩)
      | (go_at_call 29; (with_reducible refine KU.out.mono ?_); rintro e w1 ⟨rfl, hr1, hg1⟩; have HR1 := Aside0.mk hr1; have HG1 := Aside0.mk hg1; have HX1 := Aside0.mk ((hg1.block X hXl (fun e => hXg (by injection e))).trans HX.out); have fz := blk_frozen HX1.out 1; have cz := (cell_of_row w1 X 1 _ _ _ HX1.out).trans (rfl : _ = some (Value.int .u32 x.f1)); clear hr1 hg1; have ca := (HA.out.kept HG1.out (fun e => hag (by injection e))).cell))
    go_end0
    exact ⟨rfl, rdr_set HR1.out HB.out, blk_put HX1.out 1 _ rfl, (Kpt.grown HG1.out).trans (Kpt.set _ _ _)⟩
theorem take_i (g X a : Nat) (B : Nat → Prop) (A : Option Addr) (n c : Nat) (x : RQ) (rs : Rs) (w : World) (hr : RdrS w g B rs) (hm : rs.xs.length ≤ 140737488354000) (hX : w.heap[X]? = some (.cells (rqC x A n c) 27 (0, 0))) (hB : ∀ k, B k → k ≠ X) (ha : Boxed w a 108 (.func (.func 69) #[] #[])) :
    Calls Try.prog 89 #[.pointer (some ⟨g, 0, none⟩), .pointer (some ⟨X, 0, none⟩), .pointer (some ⟨a, 0, none⟩)] w (TkPost g X B A n c w { x with f3 := rs.u32.1 } rs.u32.2) := by
  have HR := Aside0.mk hr
  have HX := Aside0.mk hX
  have hm2 : rs.xs.length ≤ 140737488355000 := by omega
  have hXg : X ≠ g := fun e => hB g (rdr_g hr) e.symm
  have hag : a ≠ g := fun e => by
    subst e
    obtain ⟨_, _, h1, _⟩ := hr
    have := h1.out.symm.trans ha
    injection this with this
    injection this with h2 h3
    revert h3; decide
  have hXl : X < w.heap.size := (Array.getElem?_eq_some_iff.1 hX).1
  have HA := Aside0.mk ha
  have HB := Aside0.mk hB
  unfold Rs.u32
  have wv := u32_conv rs.uint.1
  obtain ⟨⟨v, r1⟩, hv⟩ : ∃ v, rs.uint = v := ⟨_, rfl⟩
  have KU := Aside0.mk (Uint_calls g B rs w HR.out hm2)
  rw [hv] at KU wv ⊢
  clear hr hX ha hB hv
  dsimp only at wv ⊢
  by_cases hb : 4294967295 < v
  · rw [if_pos hb]
    go_enter Try.func89, Try.ntmps89
    go_wp2_with (first
      | (go_at_call 69; (with_reducible refine (acc_i _ _).mono ?_); rintro e w9 ⟨rfl, rfl⟩)
      | (go_at_call 29; (with_reducible refine KU.out.mono ?_); rintro e w1 ⟨rfl, hr1, hg1⟩; have HRB := Aside0.mk (show RdrAt w1 g B r1.xs r1.bad from hr1); have HG1 := Aside0.mk hg1; clear hr1 hg1)
      | (go_at_call 83; (with_reducible refine (Bad_any g B r1.xs r1.bad _ HRB.out).mono ?_); rintro e w2 ⟨rfl, hr2, hg2⟩; have HR2 := Aside0.mk (show RdrS w2 g B ⟨r1.xs, true⟩ from hr2); have HG2 := Aside0.mk ((Kpt.grown (X := X) HG1.out).trans (Kpt.grown hg2)); have HX2 := Aside0.mk ((hg2.block X (Nat.lt_of_lt_of_le hXl HG1.out.size) (fun e => hXg (by injection e))).trans ((HG1.out.block X hXl (fun e => hXg (by injection e))).trans HX.out)); have fz := blk_frozen HX2.out 3; have cz := (cell_of_row w2 X 3 _ _ _ HX2.out).trans (rfl : _ = some (Value.int .u32 x.f3)); have ca := ((HA.out.kept HG1.out (fun e => hag (by injection e))).kept hg2 (fun e => hag (by injection e))).cell; clear hr2 hg2))
    go_end0
    exact ⟨rfl, rdr_set HR2.out HB.out, blk_put HX2.out 3 _ rfl, HG2.out.trans (Kpt.set _ _ _)⟩
  · rw [if_neg hb]
    go_enter Try.func89, Try.ntmps89
    go_wp2_with (first
      | (go_at_call 69; (with_reducible refine (acc_i _ _).mono ?_); rintro e w9 ⟨rfl, rfl⟩)
      | (go_at_call 29; (with_reducible refine KU.out.mono ?_); rintro e w1 ⟨rfl, hr1, hg1⟩; have HR1 := Aside0.mk hr1; have HG1 := Aside0.mk hg1; have HX1 := Aside0.mk ((hg1.block X hXl (fun e => hXg (by injection e))).trans HX.out); have fz := blk_frozen HX1.out 3; have cz := (cell_of_row w1 X 3 _ _ _ HX1.out).trans (rfl : _ = some (Value.int .u32 x.f3)); clear hr1 hg1; have ca := (HA.out.kept HG1.out (fun e => hag (by injection e))).cell))
    go_end0
    exact ⟨rfl, rdr_set HR1.out HB.out, blk_put HX1.out 3 _ rfl, (Kpt.grown HG1.out).trans (Kpt.set _ _ _)⟩
theorem take_k (g X a : Nat) (B : Nat → Prop) (A : Option Addr) (n c : Nat) (x : RQ) (rs : Rs) (w : World) (hr : RdrS w g B rs) (hm : rs.xs.length ≤ 140737488354000) (hX : w.heap[X]? = some (.cells (rqC x A n c) 27 (0, 0))) (hB : ∀ k, B k → k ≠ X) (ha : Boxed w a 111 (.func (.func 67) #[] #[])) :
    Calls Try.prog 92 #[.pointer (some ⟨g, 0, none⟩), .pointer (some ⟨X, 0, none⟩), .pointer (some ⟨a, 0, none⟩)] w (TkPost g X B A n c w { x with f2 := strOfNums rs.text.1 } rs.text.2) := by
  have HR := Aside0.mk hr
  have HX := Aside0.mk hX
  have hm2 : rs.xs.length ≤ 140737488355000 := by omega
  have hXg : X ≠ g := fun e => hB g (rdr_g hr) e.symm
  have hXl : X < w.heap.size := (Array.getElem?_eq_some_iff.1 hX).1
  have ca := ha.cell
  have HB := Aside0.mk hB
  clear hr hX ha hB
  go_enter Try.func92, Try.ntmps92
  go_wp2_with (first | (go_at_call 67; (with_reducible refine (acc_k _ _).mono ?_); rintro e w9 ⟨rfl, rfl⟩) | (go_at_call 30; (with_reducible refine (Text_calls g B rs _ HR.out hm2).mono ?_); rintro e w1 ⟨v0, rfl, hv1, hr1, hg1⟩; have kc := own_string (P := Try.prog) Try.underlying29 Try.underlying5 Try.underlying9 (Kd.own_of_R hv1); have HR1 := Aside0.mk hr1; have HG1 := Aside0.mk hg1; have HX1 := Aside0.mk ((hg1.block X hXl (fun e => hXg (by injection e))).trans HX.out); have fz := blk_frozen HX1.out 2; have cz := (cell_of_row w1 X 2 _ _ _ HX1.out).trans (rfl : _ = some (Value.string x.f2)); clear hr1 hg1; clear hv1))
  go_end0
  exact ⟨rfl, rdr_set HR1.out HB.out, blk_put HX1.out 2 _ rfl, (Kpt.grown HG1.out).trans (Kpt.set _ _ _)⟩
theorem take_s (g X a : Nat) (B : Nat → Prop) (A : Option Addr) (n c : Nat) (x : RQ) (rs : Rs) (w : World) (hr : RdrS w g B rs) (hm : rs.xs.length ≤ 140737488354000) (hX : w.heap[X]? = some (.cells (rqC x A n c) 27 (0, 0))) (hB : ∀ k, B k → k ≠ X) (ha : Boxed w a 111 (.func (.func 74) #[] #[])) :
    Calls Try.prog 92 #[.pointer (some ⟨g, 0, none⟩), .pointer (some ⟨X, 0, none⟩), .pointer (some ⟨a, 0, none⟩)] w (TkPost g X B A n c w { x with f7 := strOfNums rs.text.1 } rs.text.2) := by
  have HR := Aside0.mk hr
  have HX := Aside0.mk hX
  have hm2 : rs.xs.length ≤ 140737488355000 := by omega
  have hXg : X ≠ g := fun e => hB g (rdr_g hr) e.symm
  have hXl : X < w.heap.size := (Array.getElem?_eq_some_iff.1 hX).1
  have ca := ha.cell
  have HB := Aside0.mk hB
  clear hr hX ha hB
  go_enter Try.func92, Try.ntmps92
  go_wp2_with (first | (go_at_call 74; (with_reducible refine (acc_s _ _).mono ?_); rintro e w9 ⟨rfl, rfl⟩) | (go_at_call 30; (with_reducible refine (Text_calls g B rs _ HR.out hm2).mono ?_); rintro e w1 ⟨v0, rfl, hv1, hr1, hg1⟩; have kc := own_string (P := Try.prog) Try.underlying29 Try.underlying5 Try.underlying9 (Kd.own_of_R hv1); have HR1 := Aside0.mk hr1; have HG1 := Aside0.mk hg1; have HX1 := Aside0.mk ((hg1.block X hXl (fun e => hXg (by injection e))).trans HX.out); have fz := blk_frozen HX1.out 7; have cz := (cell_of_row w1 X 7 _ _ _ HX1.out).trans (rfl : _ = some (Value.string x.f7)); clear hr1 hg1; clear hv1))
  go_end0
  exact ⟨rfl, rdr_set HR1.out HB.out, blk_put HX1.out 7 _ rfl, (Kpt.grown HG1.out).trans (Kpt.set _ _ _)⟩
end Go.Proofs.Ytanjkhdagegapaa.Ext
end
