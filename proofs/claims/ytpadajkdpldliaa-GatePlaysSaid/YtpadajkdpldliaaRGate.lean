/- The reference's gateway: what its methods do. -/
import Derived.Test.YtpadajkdpldliaaRef27b
import Derived.Test.YtpadajkdpldliaaGV
import Derived.Deep.QuietTactic
import Derived.BigQuiet
namespace Go.Proofs.Ytpadajkdpldliaa.Ext
open Go.RowKit Go.Proofs.YtpadajkdpldliaaW.PrintWords Go.Proofs.YtpadajkdpldliaaW.PrintLast Go.Proofs.YtpadajkdpldliaaW.PrintMore Go.Proofs.YtpadajkdpldliaaW.Hand
set_option linter.unusedVariables false
theorem infoStr : (Try.prog.info? 9).map (fun i => (i.zero, i.size, i.bytes)) = some (some (.string ⟨#[]⟩), 1, 16) := by kernel_rfl
/-- The reference's gateway: who it is, what was asked, how many were answered, and what. -/
def RV (W : World) (p base : Nat) (me : Int) (asks : List ByteArray) (done : Nat) (ans : List ByteArray) (va vs : Value) : Prop :=
  Blk W p (.cells #[.int .i64 me, va, .int .i64 done, vs] 33) ∧ Kd.R Kd.string 9 W base (fun k => k ≠ p ∧ some k ≠ vs.ownBlock) va asks ∧ Kd.R Kd.string 9 W base (fun k => k ≠ p ∧ some k ≠ va.ownBlock) vs ans ∧ base ≤ p
theorem RV.below {W W' : World} {p base : Nat} {me : Int} {asks ans : List ByteArray} {done : Nat} {va vs : Value} (h : RV W p base me asks done ans va vs) (hb : Below W.heap.size W W') : RV W' p base me asks done ans va vs :=
  ⟨h.1.below hb, Kd.R_below h.2.1 hb, Kd.R_below h.2.2.1 hb, h.2.2.2⟩
theorem RV.lt {W : World} {p base : Nat} {me : Int} {asks ans : List ByteArray} {done : Nat} {va vs : Value} (h : RV W p base me asks done ans va vs) : p < W.heap.size := h.1.lt
/-- A string that was laid at once. -/
theorem C_one (W : World) (s : ByteArray) : Kd.C Kd.string (W.alloc (.cells #[.string s] 9)) (some ⟨W.heap.size, 0, none⟩) 1 [s] := by
  refine Kd.C_of_reads (enc := Value.string) (d := ByteArray.empty) (h1 := fun _ => rfl) ⟨rfl, by decide, fun _ => ⟨_, rfl, fun j hj => ?_⟩⟩
  obtain rfl : j = 0 := by omega
  have h := (Blk.new_ (W := W) (o := .cells #[.string s] 9 (0, 0))).cell 0
  simp at h
  simp [Addr.add]
theorem strs_at {W : World} {base : Nat} {ok : Nat → Prop} {A : Option Addr} {n c : Nat} {xs : List ByteArray} (h : Kd.R Kd.string 9 W base ok (.slice A n c) xs) (i : Nat) (hi : i < xs.length) : ∃ ad, A = some ad ∧ W.cell? (ad.add i) = some (.string (xs.getD i ByteArray.empty)) := by
  obtain ⟨hn, _, hC⟩ := Kd.R_reads' h
  obtain ⟨ad, e, hc⟩ := Kd.at_string hC (i : Int) (by omega) (by omega)
  exact ⟨ad, e, by simpa only [Int.toNat_natCast, rdOf] using hc⟩
set_option maxRecDepth 100000 in
set_option maxHeartbeats 3200000 in
theorem RAsk_full (p base : Nat) (me : Int) (asks : List ByteArray) (done : Nat) (ans : List ByteArray) (va vs : Value) (s : ByteArray) (w : World) (h : RV w p base me asks done ans va vs) (hd : done ≤ asks.length) (hl : asks.length ≤ 1000) (hf : 32 ≤ asks.length - done) :
    Calls Try.prog 13 #[.pointer (some ⟨p, 0, none⟩), .string s] w fun e w' => e = .returned (.tuple #[.int .u64 0, .int .i64 3]) ∧ Below w.heap.size w w' := by
  obtain ⟨Aa, ca, ea⟩ := Kd.R_slice h.2.1
  subst ea
  have x1 := (h.1.cell 1).trans (rfl : _ = some (Value.slice Aa asks.length ca))
  have x2 := (h.1.cell 2).trans (rfl : _ = some (Value.int .i64 (done : Int)))
  have y1 : w.drew.cell? ⟨p, 1, none⟩ = some (Value.slice Aa asks.length ca) := x1
  have y2 : w.drew.cell? ⟨p, 2, none⟩ = some (Value.int .i64 (done : Int)) := x2
  have ew : IntKind.i64.wrap ((asks.length : Int) - (done : Int)) = (asks.length : Int) - (done : Int) := by rw [IntKind.wrap_i64]; omega
  have d1 : (32 : Int) ≤ (asks.length : Int) - (done : Int) := by omega
  clear h hd hl hf
  go_enter Try.func13, Try.ntmps13
  go_wp2_with fail
  all_goals (try go_quiet (fail))
  all_goals go_wp2_with fail
  all_goals go_ret2
  all_goals exact ⟨rfl, pw_below_drewN (Below.refl _ _) _⟩
set_option maxRecDepth 100000 in
set_option maxHeartbeats 3200000 in
theorem RAsk_long (p base : Nat) (me : Int) (asks : List ByteArray) (done : Nat) (ans : List ByteArray) (va vs : Value) (s : ByteArray) (w : World) (h : RV w p base me asks done ans va vs) (hd : done ≤ asks.length) (hl : asks.length ≤ 1000) (hf : asks.length - done < 32) (hs : 1000 < s.size) :
    Calls Try.prog 13 #[.pointer (some ⟨p, 0, none⟩), .string s] w fun e w' => e = .returned (.tuple #[.int .u64 0, .int .i64 2]) ∧ Below w.heap.size w w' := by
  obtain ⟨Aa, ca, ea⟩ := Kd.R_slice h.2.1
  subst ea
  have x1 := (h.1.cell 1).trans (rfl : _ = some (Value.slice Aa asks.length ca))
  have x2 := (h.1.cell 2).trans (rfl : _ = some (Value.int .i64 (done : Int)))
  have y1 : w.drew.cell? ⟨p, 1, none⟩ = some (Value.slice Aa asks.length ca) := x1
  have y2 : w.drew.cell? ⟨p, 2, none⟩ = some (Value.int .i64 (done : Int)) := x2
  have ew : IntKind.i64.wrap ((asks.length : Int) - (done : Int)) = (asks.length : Int) - (done : Int) := by rw [IntKind.wrap_i64]; omega
  have d1 : ¬ (32 : Int) ≤ (asks.length : Int) - (done : Int) := by omega
  have d2 : (1000 : Int) < (s.size : Int) := by omega
  clear h hd hl hf hs
  go_enter Try.func13, Try.ntmps13
  go_wp2_with fail
  all_goals (try go_quiet (fail))
  all_goals go_wp2_with fail
  all_goals go_ret2
  all_goals exact ⟨rfl, pw_below_drewN (Below.refl _ _) _⟩
/-- A row behind another, behind a store into the gateway's own block. -/
theorem row_other {W W1 : World} {p base : Nat} {va v1 vs : Value} {xs : List ByteArray} (h : Kd.R Kd.string 9 W base (fun k => k ≠ p ∧ some k ≠ va.ownBlock) vs xs) (hk : ∀ k, k < W.heap.size → k ≠ p → some k ≠ va.ownBlock → W1.heap[k]? = W.heap[k]?) (hat : v1.ownBlock = va.ownBlock ∨ ∃ b, v1.ownBlock = some b ∧ W.heap.size ≤ b) : Kd.R Kd.string 9 W1 base (fun k => k ≠ p ∧ some k ≠ v1.ownBlock) vs xs := by
  refine Kd.R_mono (Kd.R_step (Kd.R_bound h) (fun k hk1 hlt => hk k hlt hk1.1.1 hk1.1.2)) (fun k hk1 => ⟨hk1.1.1, fun e => ?_⟩)
  rcases hat with h1 | ⟨b, h1, h2⟩
  · exact hk1.1.2 (e.trans h1)
  · rw [h1] at e
    injection e with e
    have := hk1.2.2.1
    omega
set_option maxRecDepth 100000 in
set_option maxHeartbeats 3200000 in
theorem RAsk_ok (p base : Nat) (me : Int) (asks : List ByteArray) (done : Nat) (ans : List ByteArray) (va vs : Value) (s : ByteArray) (w : World) (h : RV w p base me asks done ans va vs) (hd : done ≤ asks.length) (hl : asks.length ≤ 1000) (hf : asks.length - done < 32) (hs : s.size ≤ 1000) :
    Calls Try.prog 13 #[.pointer (some ⟨p, 0, none⟩), .string s] w fun e w' => e = .returned (.tuple #[.int .u64 ((asks.length : Int) + 1), .int .i64 0]) ∧ (∃ va', RV w' p base me (asks ++ [s]) done ans va' vs ∧ (va'.ownBlock = va.ownBlock ∨ ∃ b, va'.ownBlock = some b ∧ w.heap.size ≤ b)) ∧ KeepBut w w' p va.ownBlock ∧ Below base w w' := by
  obtain ⟨Aa, ca, ea⟩ := Kd.R_slice h.2.1
  subst ea
  have x1 := (h.1.cell 1).trans (rfl : _ = some (Value.slice Aa asks.length ca))
  have x2 := (h.1.cell 2).trans (rfl : _ = some (Value.int .i64 (done : Int)))
  have y1 : w.drew.cell? ⟨p, 1, none⟩ = some (Value.slice Aa asks.length ca) := x1
  have y2 : w.drew.cell? ⟨p, 2, none⟩ = some (Value.int .i64 (done : Int)) := x2
  have ew : IntKind.i64.wrap ((asks.length : Int) - (done : Int)) = (asks.length : Int) - (done : Int) := by rw [IntKind.wrap_i64]; omega
  have d1 : ¬ (32 : Int) ≤ (asks.length : Int) - (done : Int) := by omega
  have d2 : ¬ (1000 : Int) < (s.size : Int) := by omega
  have eu : IntKind.u64.wrap ((asks.length : Int) + 1) = (asks.length : Int) + 1 := by rw [IntKind.wrap_u64]; omega
  have HH := Aside0.mk h
  have HL := Aside0.mk hl
  clear h hd hl hf hs
  go_enter Try.func13, Try.ntmps13
  go_wp2_with fail
  go_quiet (fail)
  have HV : Aside0 (RV (w.drewN nq) p base me asks done ans (.slice Aa asks.length ca) vs) := ⟨HH.out.below (pw_below_drewN (Below.refl _ _) _)⟩
  have HW0 : Aside0 (Below w.heap.size w (w.drewN nq)) := ⟨pw_below_drewN (Below.refl _ _) _⟩
  generalize w.drewN nq = w1 at HV HW0 ⊢
  clear x1 x2 y1 y2
  have y1 := (HV.out.1.cell 1).trans (rfl : _ = some (Value.slice Aa asks.length ca))
  have HA := Aside0.mk (Kd.R_alloc HV.out.2.1 (.cells #[.string s] 9))
  have HC := Aside0.mk (C_one w1 s)
  have hbp : base ≤ w1.heap.size := Nat.le_of_lt (Nat.lt_of_le_of_lt HV.out.2.2.2 HV.out.lt)
  have HBP := Aside0.mk hbp
  have HPL := Aside0.mk HV.out.lt
  have HFR : Aside0 (∀ k, (w1.alloc (.cells #[.string s] 9)).heap.size ≤ k → k ≠ p ∧ some k ≠ vs.ownBlock) := ⟨fun k hk => by
    rw [size_alloc] at hk
    exact ⟨by have := HPL.out; omega, own_old (Kd.R_typed HV.out.2.2.1) k (by omega)⟩⟩
  clear hbp
  go_wp2_with (at_builtin; refine Kd.R_append_row Value.string ByteArray.empty (w0 := w1) base rfl (.tmp 24) (.tmp 26) 31 9 (.string ⟨#[]⟩) 16 rfl Try.underlying31 infoStr rfl (by decide) (.slice Aa asks.length ca) asks [s] (some ⟨w1.heap.size, 0, none⟩) 1 1 (fun k => k ≠ p ∧ some k ≠ vs.ownBlock) rfl rfl HFR.out HA.out HC.out (below_weak (below_alloc (Below.refl _ _) _) HBP.out) (by rw [size_alloc]; have := HBP.out; omega) (by have := HL.out; simp; omega) ?_; intro v1 w2 ho hb hg hat; (obtain ⟨A2, c2, ev⟩ := Kd.R_slice ho); rw [List.length_append, List.length_singleton] at ev; subst ev; (have HO := Aside0.mk ho); (have HB := Aside0.mk hb); (have HG := Aside0.mk hg); (have HAT := Aside0.mk hat); (have hown : some p ≠ (Value.slice Aa asks.length ca).ownBlock := fun e => (HA.out.1 p e.symm).1 rfl); (have HX : Aside0 (Blk w2 p _) := ⟨⟨(hg.block p (by rw [size_alloc]; have := HPL.out; omega) hown).trans (HV.out.1.alloc).out⟩⟩); (have z1 := (HX.out.cell 1).trans (rfl : _ = some (Value.slice Aa asks.length ca))); (have zf1 := HX.out.free 1); clear ho hb hg hat)
  have HP2 : Aside0 (Blk (w2.setCell ⟨p, 1, none⟩ (.slice A2 (asks.length + 1) c2)) p (.cells #[.int .i64 me, .slice A2 (asks.length + 1) c2, .int .i64 (done : Int), vs] 33)) := ⟨HX.out.put 1 _ rfl⟩
  have q1 := (HP2.out.cell 1).trans (rfl : _ = some (Value.slice A2 (asks.length + 1) c2))
  go_wp2_with fail
  go_ret2
  have hnew : ∀ k, k < w1.heap.size → k ≠ p → some k ≠ (Value.slice Aa asks.length ca).ownBlock → (w2.setCell ⟨p, 1, none⟩ (.slice A2 (asks.length + 1) c2)).heap[k]? = w1.heap[k]? := fun k hk h1 h2 =>
    (Below.heap_setCell w2 ⟨p, 1, none⟩ _ k h1).trans ((HG.out.block k (by rw [size_alloc]; omega) h2).trans ((below_alloc (Below.refl w1.heap.size w1) (.cells #[.string s] 9)).block k hk))
  have hat' : (Value.slice A2 (asks.length + 1) c2).ownBlock = (Value.slice Aa asks.length ca).ownBlock ∨ ∃ b, (Value.slice A2 (asks.length + 1) c2).ownBlock = some b ∧ w1.heap.size ≤ b := by
    rcases HAT.out with h1 | ⟨b, h1, h2⟩
    · exact .inl h1
    · exact .inr ⟨b, h1, by rw [size_alloc] at h2; omega⟩
  refine ⟨rfl, ⟨_, ⟨HP2.out, ?_, row_other HV.out.2.2.1 hnew hat', HV.out.2.2.2⟩, ?_⟩, ⟨?_, fun k hk h1 h2 => (hnew k (Nat.lt_of_lt_of_le hk HW0.out.size) h1 h2).trans (HW0.out.block k hk)⟩, ?_⟩
  · exact Kd.R_far HO.out (p := ⟨p, 1, none⟩) (fun k hk => hk.1) (.slice A2 (asks.length + 1) c2)
  · rcases hat' with h1 | ⟨b, h1, h2⟩
    · exact .inl h1
    · exact .inr ⟨b, h1, Nat.le_trans HW0.out.size h2⟩
  · rw [World.size_setCell]
    exact Nat.le_trans HW0.out.size (Nat.le_trans (by rw [size_alloc]; omega) HG.out.size)
  · exact ((below_weak HW0.out (Nat.le_of_lt (Nat.lt_of_le_of_lt HV.out.2.2.2 HH.out.lt))).trans HB.out).setCell (p := ⟨p, 1, none⟩) HV.out.2.2.2 _
end Go.Proofs.Ytpadajkdpldliaa.Ext
