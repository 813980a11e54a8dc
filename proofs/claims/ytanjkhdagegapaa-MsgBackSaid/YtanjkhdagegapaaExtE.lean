/- The contracts about requests, in the print's form. -/
import Derived.Test.YtanjkhdagegapaaG6
import Derived.Test.YtanjkhdagegapaaCutS
namespace Go.Proofs.Ytanjkhdagegapaa.Ext
open Go.RowKit Go.Shelf Go.Proofs.YtanjkhdagegapaaW.PrintWords Go.Proofs.YtanjkhdagegapaaW.PrintLast Go.Proofs.YtanjkhdagegapaaW.PrintMore Go.Proofs.YtanjkhdagegapaaW.Hand Go.Proofs.Ytanjkhdagegapaa.PZ
set_option linter.unusedVariables false
def rqOkB (x : RQ) : Bool := decide (0 ≤ x.f0 ∧ x.f0 < 256) && (decide (0 ≤ x.f1 ∧ x.f1 < 4294967296) && (decide (x.f2.size ≤ 1000000) && (decide (0 ≤ x.f3 ∧ x.f3 < 4294967296) && decide (x.f7.size ≤ 1000000))))
theorem rqOkB_iff {x : RQ} : rqOkB x = true ↔ RqOk x := by
  unfold rqOkB
  simp only [Bool.and_eq_true, decide_eq_true_eq]
  exact ⟨fun h => ⟨h.1, h.2.1, h.2.2.1, h.2.2.2.1, h.2.2.2.2⟩, fun h => ⟨h.k0, h.k1, h.k2, h.k3, h.k7⟩⟩
abbrev mk27 (a0 a1 : Int) (a2 : ByteArray) (a3 a4 a5 a6 : Int) (a7 : ByteArray) (a8 a9 a10 a11 a12 a13 : Int) (l : List S39) : RQ := ⟨a0, a1, a2, a3, a4, a5, a6, a7, ⟨a8, a9, a10, a11, a12, a13, l⟩⟩
def msg_PutRequest.f (a0 a1 : Int) (a2 : ByteArray) (a3 a4 a5 a6 : Int) (a7 : ByteArray) (a8 a9 a10 a11 a12 a13 : Int) (l : List S39) : Option (List Int × Int) := if rqOkB (mk27 a0 a1 a2 a3 a4 a5 a6 a7 a8 a9 a10 a11 a12 a13 l) = true then some (mput (mk27 a0 a1 a2 a3 a4 a5 a6 a7 a8 a9 a10 a11 a12 a13 l)) else none
theorem msg_PutRequest.calls (a0 a1 : Int) (a2 : ByteArray) (a3 a4 a5 a6 : Int) (a7 : ByteArray) (a8 a9 a10 a11 a12 a13 : Int) (A : Option Addr) (c : Nat) (l : List S39) (t1 : List Int) (t2 : Int) (w : World) (hC : Kd.C k39 w A l.length l) (hc : l.length ≤ c) (h : msg_PutRequest.f a0 a1 a2 a3 a4 a5 a6 a7 a8 a9 a10 a11 a12 a13 l = some (t1, t2)) :
    Calls Try.prog 10 #[.agg #[.int .u8 a0, .int .u32 a1, .string a2, .int .u32 a3, .int .i64 a4, .int .i64 a5, .int .i64 a6, .string a7, .int .u32 a8, .int .i64 a9, .int .i64 a10, .int .i64 a11, .int .i64 a12, .int .i64 a13, .slice A l.length c]] w fun e w' => ∃ v : Value, e = .returned (.tuple #[v, .int .i64 t2]) ∧ Kd.R (Kd.int .u8) 5 w' w.heap.size (fun _ => True) v t1 ∧ Below w.heap.size w w' := by
  unfold msg_PutRequest.f at h
  by_cases h1 : rqOkB (mk27 a0 a1 a2 a3 a4 a5 a6 a7 a8 a9 a10 a11 a12 a13 l) = true
  · rw [if_pos h1] at h
    have h := Option.some.inj h
    have := PutRequest_go (mk27 a0 a1 a2 a3 a4 a5 a6 a7 a8 a9 a10 a11 a12 a13 l) A c w hC hc (rqOkB_iff.1 h1)
    rw [h] at this
    exact this
  · rw [if_neg h1] at h; cases h
def msg_GetRequest.f (l : List Int) : Option (Int × Int × ByteArray × Int × Int × Int × Int × ByteArray × Int × Int × Int × Int × Int × Int × List S39 × Int) :=
  if byOk l = true ∧ l.length ≤ 140737488353000 then some ((mget l).1.f0, (mget l).1.f1, (mget l).1.f2, (mget l).1.f3, (mget l).1.f4, (mget l).1.f5, (mget l).1.f6, (mget l).1.f7, (mget l).1.f8.f0, (mget l).1.f8.f1, (mget l).1.f8.f2, (mget l).1.f8.f3, (mget l).1.f8.f4, (mget l).1.f8.f5, (mget l).1.f8.f6, (mget l).2) else none
theorem msg_GetRequest.calls (A : Option Addr) (c : Nat) (l : List Int) (t0 t1 : Int) (t2 : ByteArray) (t3 t4 t5 t6 : Int) (t7 : ByteArray) (t8 t9 t10 t11 t12 t13 : Int) (t14 : List S39) (t15 : Int) (w : World) (hC : Kd.C (Kd.int .u8) w A l.length l) (hc : l.length ≤ c) (h : msg_GetRequest.f l = some (t0, t1, t2, t3, t4, t5, t6, t7, t8, t9, t10, t11, t12, t13, t14, t15)) :
    Calls Try.prog 12 #[.slice A l.length c] w fun e w' => ∃ v : Value, e = .returned (.tuple #[.agg #[.int .u8 t0, .int .u32 t1, .string t2, .int .u32 t3, .int .i64 t4, .int .i64 t5, .int .i64 t6, .string t7, .int .u32 t8, .int .i64 t9, .int .i64 t10, .int .i64 t11, .int .i64 t12, .int .i64 t13, v], .int .i64 t15]) ∧ Kd.R k39 39 w' w.heap.size (fun _ => True) v t14 ∧ Below w.heap.size w w' := by
  unfold msg_GetRequest.f at h
  by_cases h1 : byOk l = true ∧ l.length ≤ 140737488353000
  · rw [if_pos h1] at h
    have h := Option.some.inj h
    simp only [Prod.mk.injEq] at h
    obtain ⟨rfl, rfl, rfl, rfl, rfl, rfl, rfl, rfl, rfl, rfl, rfl, rfl, rfl, rfl, rfl, rfl⟩ := h
    refine (GetRequest_go A c l w hC hc (byOk_iff h1.1) h1.2).mono fun e w' hp => ?_
    obtain ⟨A', cp, he, hr, hb⟩ := hp
    exact ⟨_, he, hr, hb⟩
  · rw [if_neg h1] at h; cases h
def quitrentref25_Same.f (a0_0 : Int) (a0_1 : Int) (a0_2 : ByteArray) (a0_3 : Int) (a0_4 : Int) (a0_5 : Int) (a0_6 : Int) (a0_7 : ByteArray) (a0_8 : Int) (a0_9 : Int) (a0_10 : Int) (a0_11 : Int) (a0_12 : Int) (a0_13 : Int) (l0_14 : List (S39)) (a1_0 : Int) (a1_1 : Int) (a1_2 : ByteArray) (a1_3 : Int) (a1_4 : Int) (a1_5 : Int) (a1_6 : Int) (a1_7 : ByteArray) (a1_8 : Int) (a1_9 : Int) (a1_10 : Int) (a1_11 : Int) (a1_12 : Int) (a1_13 : Int) (l1_14 : List (S39)) : Option Bool :=
  p_quitrentref25_Same.f 2000 a0_0 a0_1 a0_2 a0_3 a0_4 a0_5 a0_6 a0_7 a0_8 a0_9 a0_10 a0_11 a0_12 a0_13 l0_14 a1_0 a1_1 a1_2 a1_3 a1_4 a1_5 a1_6 a1_7 a1_8 a1_9 a1_10 a1_11 a1_12 a1_13 l1_14
theorem quitrentref25_Same.calls (a0_0 : Int) (a0_1 : Int) (a0_2 : ByteArray) (a0_3 : Int) (a0_4 : Int) (a0_5 : Int) (a0_6 : Int) (a0_7 : ByteArray) (a0_8 : Int) (a0_9 : Int) (a0_10 : Int) (a0_11 : Int) (a0_12 : Int) (a0_13 : Int) (A0_14 : Option Addr) (c0_14 : Nat) (l0_14 : List (S39)) (a1_0 : Int) (a1_1 : Int) (a1_2 : ByteArray) (a1_3 : Int) (a1_4 : Int) (a1_5 : Int) (a1_6 : Int) (a1_7 : ByteArray) (a1_8 : Int) (a1_9 : Int) (a1_10 : Int) (a1_11 : Int) (a1_12 : Int) (a1_13 : Int) (A1_14 : Option Addr) (c1_14 : Nat) (l1_14 : List (S39)) (r : Bool) (w : World) (hr0_14 : Kd.C k39 w A0_14 l0_14.length l0_14) (hc0_14 : l0_14.length ≤ c0_14) (hr1_14 : Kd.C k39 w A1_14 l1_14.length l1_14) (hc1_14 : l1_14.length ≤ c1_14) (h : quitrentref25_Same.f a0_0 a0_1 a0_2 a0_3 a0_4 a0_5 a0_6 a0_7 a0_8 a0_9 a0_10 a0_11 a0_12 a0_13 l0_14 a1_0 a1_1 a1_2 a1_3 a1_4 a1_5 a1_6 a1_7 a1_8 a1_9 a1_10 a1_11 a1_12 a1_13 l1_14 = some r) :
    Calls Try.prog 13 #[.agg #[.int .u8 a0_0, .int .u32 a0_1, .string a0_2, .int .u32 a0_3, .int .i64 a0_4, .int .i64 a0_5, .int .i64 a0_6, .string a0_7, .int .u32 a0_8, .int .i64 a0_9, .int .i64 a0_10, .int .i64 a0_11, .int .i64 a0_12, .int .i64 a0_13, .slice A0_14 l0_14.length c0_14], .agg #[.int .u8 a1_0, .int .u32 a1_1, .string a1_2, .int .u32 a1_3, .int .i64 a1_4, .int .i64 a1_5, .int .i64 a1_6, .string a1_7, .int .u32 a1_8, .int .i64 a1_9, .int .i64 a1_10, .int .i64 a1_11, .int .i64 a1_12, .int .i64 a1_13, .slice A1_14 l1_14.length c1_14]] w fun e w' => e = .returned (.bool r) ∧ Below w.heap.size w w' :=
  p_quitrentref25_Same.calls 2000 a0_0 a0_1 a0_2 a0_3 a0_4 a0_5 a0_6 a0_7 a0_8 a0_9 a0_10 a0_11 a0_12 a0_13 A0_14 c0_14 l0_14 a1_0 a1_1 a1_2 a1_3 a1_4 a1_5 a1_6 a1_7 a1_8 a1_9 a1_10 a1_11 a1_12 a1_13 A1_14 c1_14 l1_14 r w hr0_14 hc0_14 hr1_14 hc1_14 h
end Go.Proofs.Ytanjkhdagegapaa.Ext
