/- EntryBack, proved by walking its code, in all its cases (printed by mkback.py). -/
import Derived.Test.YtdfmganmchmbjaaEBackF
namespace Go.Proofs.Ytdfmganmchmbjaa.Ext
open Go.RowKit Go.Proofs.YtdfmganmchmbjaaW.PrintWords Go.Proofs.YtdfmganmchmbjaaW.PrintLast Go.Proofs.YtdfmganmchmbjaaW.PrintMore Go.Proofs.YtdfmganmchmbjaaW.Hand Go.Proofs.Ytdfmganmchmbjaa.PZ
attribute [local go_sem] max2_int
attribute [local go_sem high] eqA42 eqA40
set_option linter.unusedVariables false
set_option linter.unusedSimpArgs false
set_option maxRecDepth 100000 in
set_option maxHeartbeats 3200000 in
theorem back_great (more a0 a1 a2 b0 b1 b2 b4 b5 l0 l1 l2 l3 l4 k0 k1 : Int) (A B : Option Addr) (c d : Nat) (L : List S37) (M : List S53) (w : World) (hC : Kd.C k37 w A L.length L) (hc : L.length ≤ c) (hD : Kd.C k53 w B M.length M) (hd : M.length ≤ d) (ha : 0 ≤ a0 ∧ a0 < top64) (hb0 : 0 ≤ b0) (hb1 : 0 ≤ b1) (hmo : IsByte more) (h2 : 0 ≤ a2 ∧ a2 < 4294967296) (hi : IOk b0 b1 b2 b4 b5 M) (hl0 : U32r l0) (hl1 : I64r l1) (hl2 : I64r l2) (hl3 : I64r l3) (hl4 : I64r l4) (hk0 : U32r k0) (hk1 : I64r k1) (hg : PZ.quitrentlaw14_great.f 60 a0 a1 a2 L b0 b1 b2 M b4 b5 = some true) :
    Calls Try.prog 6 #[.agg #[.int .u64 a0, .int .i64 a1, .int .u32 a2, .slice A L.length c], .agg #[.int .u32 b0, .int .u32 b1, .int .i64 b2, .slice B M.length d, .int .i64 b4, .int .i64 b5], .agg #[.int .u32 l0, .int .i64 l1, .int .i64 l2, .int .i64 l3, .int .i64 l4], .agg #[.int .u32 k0, .int .i64 k1], .int .u8 more] w fun e w' => e = .returned (.bool true) ∧ Below w.heap.size w w' := by
  have kg := Aside0.mk (fun w hC hD => PZ.quitrentlaw14_great.calls 60 a0 a1 a2 A c L b0 b1 b2 B d M b4 b5 true w hC hc hD hd hg)
  have HC := Aside0.mk hC
  have HD := Aside0.mk hD
  clear hC hD hc hd ha hb0 hb1 hg hmo h2 hi hl0 hl1 hl2 hl3 hl4 hk0 hk1
  go_enter Try.func6, Try.ntmps6
  go_wp2_with fail
  have X0 : Aside0 (Blk ((((w.alloc (Obj.cells #[.int .u64 a0, .int .i64 a1, .int .u32 a2, .slice A L.length c] 26)).alloc (Obj.cells #[.int .u32 b0, .int .u32 b1, .int .i64 b2, .slice B M.length d, .int .i64 b4, .int .i64 b5] 30)).alloc (Obj.cells #[.int .u32 l0, .int .i64 l1, .int .i64 l2, .int .i64 l3, .int .i64 l4] 40)).alloc (Obj.cells #[.int .u32 k0, .int .i64 k1] 42)) w.heap.size (Obj.cells #[.int .u64 a0, .int .i64 a1, .int .u32 a2, .slice A L.length c] 26 (0, 0))) := ⟨Blk.new_.alloc.alloc.alloc⟩
  have X1 : Aside0 (Blk ((((w.alloc (Obj.cells #[.int .u64 a0, .int .i64 a1, .int .u32 a2, .slice A L.length c] 26)).alloc (Obj.cells #[.int .u32 b0, .int .u32 b1, .int .i64 b2, .slice B M.length d, .int .i64 b4, .int .i64 b5] 30)).alloc (Obj.cells #[.int .u32 l0, .int .i64 l1, .int .i64 l2, .int .i64 l3, .int .i64 l4] 40)).alloc (Obj.cells #[.int .u32 k0, .int .i64 k1] 42)) (w.heap.size + 1) (Obj.cells #[.int .u32 b0, .int .u32 b1, .int .i64 b2, .slice B M.length d, .int .i64 b4, .int .i64 b5] 30 (0, 0))) := ⟨(Blk.new (by rw [size_alloc])).alloc.alloc⟩
  have X2 : Aside0 (Blk ((((w.alloc (Obj.cells #[.int .u64 a0, .int .i64 a1, .int .u32 a2, .slice A L.length c] 26)).alloc (Obj.cells #[.int .u32 b0, .int .u32 b1, .int .i64 b2, .slice B M.length d, .int .i64 b4, .int .i64 b5] 30)).alloc (Obj.cells #[.int .u32 l0, .int .i64 l1, .int .i64 l2, .int .i64 l3, .int .i64 l4] 40)).alloc (Obj.cells #[.int .u32 k0, .int .i64 k1] 42)) (w.heap.size + 2) (Obj.cells #[.int .u32 l0, .int .i64 l1, .int .i64 l2, .int .i64 l3, .int .i64 l4] 40 (0, 0))) := ⟨(Blk.new (by rw [size_alloc, size_alloc])).alloc⟩
  have X3 : Aside0 (Blk ((((w.alloc (Obj.cells #[.int .u64 a0, .int .i64 a1, .int .u32 a2, .slice A L.length c] 26)).alloc (Obj.cells #[.int .u32 b0, .int .u32 b1, .int .i64 b2, .slice B M.length d, .int .i64 b4, .int .i64 b5] 30)).alloc (Obj.cells #[.int .u32 l0, .int .i64 l1, .int .i64 l2, .int .i64 l3, .int .i64 l4] 40)).alloc (Obj.cells #[.int .u32 k0, .int .i64 k1] 42)) (w.heap.size + 3) (Obj.cells #[.int .u32 k0, .int .i64 k1] 42 (0, 0))) := ⟨Blk.new (by rw [size_alloc, size_alloc, size_alloc])⟩
  have HW : Aside0 (Below w.heap.size w ((((w.alloc (Obj.cells #[.int .u64 a0, .int .i64 a1, .int .u32 a2, .slice A L.length c] 26)).alloc (Obj.cells #[.int .u32 b0, .int .u32 b1, .int .i64 b2, .slice B M.length d, .int .i64 b4, .int .i64 b5] 30)).alloc (Obj.cells #[.int .u32 l0, .int .i64 l1, .int .i64 l2, .int .i64 l3, .int .i64 l4] 40)).alloc (Obj.cells #[.int .u32 k0, .int .i64 k1] 42))) := ⟨below_alloc (below_alloc (below_alloc (below_alloc (Below.refl _ _) _) _) _) _⟩
  obtain ⟨wa, hwa⟩ : ∃ W, ((((w.alloc (Obj.cells #[.int .u64 a0, .int .i64 a1, .int .u32 a2, .slice A L.length c] 26)).alloc (Obj.cells #[.int .u32 b0, .int .u32 b1, .int .i64 b2, .slice B M.length d, .int .i64 b4, .int .i64 b5] 30)).alloc (Obj.cells #[.int .u32 l0, .int .i64 l1, .int .i64 l2, .int .i64 l3, .int .i64 l4] 40)).alloc (Obj.cells #[.int .u32 k0, .int .i64 k1] 42)) = W := ⟨_, rfl⟩
  rw [hwa] at X0 X1 X2 X3 HW ⊢
  have HCa := Aside0.mk (Kd.C_below HC.out HW.out)
  have HDa := Aside0.mk (Kd.C_below HD.out HW.out)
  obtain ⟨q, hq⟩ : ∃ q, w.heap.size = q := ⟨_, rfl⟩
  rw [hq] at X0 X1 X2 X3 HW ⊢
  have hqa : q ≤ wa.heap.size := Nat.le_of_lt X0.out.lt
  have HQA := Aside0.mk hqa
  have XB : Aside0 (∀ W : World, Below wa.heap.size wa W → (W.cell? ⟨q, 0, none⟩ = some (.int .u64 a0) ∧ W.cell? ⟨q, 1, none⟩ = some (.int .i64 a1) ∧ W.cell? ⟨q, 2, none⟩ = some (.int .u32 a2) ∧ W.cell? ⟨q, 3, none⟩ = some (.slice A L.length c) ∧ W.cell? ⟨q + 1, 0, none⟩ = some (.int .u32 b0) ∧ W.cell? ⟨q + 1, 1, none⟩ = some (.int .u32 b1) ∧ W.cell? ⟨q + 1, 2, none⟩ = some (.int .i64 b2) ∧ W.cell? ⟨q + 1, 3, none⟩ = some (.slice B M.length d) ∧ W.cell? ⟨q + 1, 4, none⟩ = some (.int .i64 b4) ∧ W.cell? ⟨q + 1, 5, none⟩ = some (.int .i64 b5)) ∧ (W.cell? ⟨q + 2, 0, none⟩ = some (.int .u32 l0) ∧ W.cell? ⟨q + 2, 1, none⟩ = some (.int .i64 l1) ∧ W.cell? ⟨q + 2, 2, none⟩ = some (.int .i64 l2) ∧ W.cell? ⟨q + 2, 3, none⟩ = some (.int .i64 l3) ∧ W.cell? ⟨q + 2, 4, none⟩ = some (.int .i64 l4) ∧ W.cell? ⟨q + 3, 0, none⟩ = some (.int .u32 k0) ∧ W.cell? ⟨q + 3, 1, none⟩ = some (.int .i64 k1))) := ⟨fun W hW => by
    have Y0 := X0.out.below hW
    have Y1 := X1.out.below hW
    have Y2 := X2.out.below hW
    have Y3 := X3.out.below hW
    exact ⟨⟨(Y0.cell 0).trans rfl, (Y0.cell 1).trans rfl, (Y0.cell 2).trans rfl, (Y0.cell 3).trans rfl, (Y1.cell 0).trans rfl, (Y1.cell 1).trans rfl, (Y1.cell 2).trans rfl, (Y1.cell 3).trans rfl, (Y1.cell 4).trans rfl, (Y1.cell 5).trans rfl⟩, ⟨(Y2.cell 0).trans rfl, (Y2.cell 1).trans rfl, (Y2.cell 2).trans rfl, (Y2.cell 3).trans rfl, (Y2.cell 4).trans rfl, (Y3.cell 0).trans rfl, (Y3.cell 1).trans rfl⟩⟩⟩
  have FIN : Aside0 (∀ W : World, Below wa.heap.size wa W → Below q w W) := ⟨fun W hW => HW.out.trans (below_weak_ hW HQA.out)⟩
  clear hwa X0 X1 X2 X3 HC HD hqa
  refine (kg.out wa HCa.out HDa.out).mono ?_
  rintro e w1 ⟨rfl, hb⟩
  have HB1 := Aside0.mk hb
  clear hb
  go_wp2_with fail
  go_ret
  exact ⟨rfl, by rw [hq]; exact FIN.out _ HB1.out⟩
set_option maxRecDepth 100000 in
set_option maxHeartbeats 6400000 in
theorem back_tt (more a0 a1 a2 b0 b1 b2 b4 b5 l0 l1 l2 l3 l4 k0 k1 : Int) (A B : Option Addr) (c d : Nat) (L : List S37) (M : List S53) (w : World) (hC : Kd.C k37 w A L.length L) (hc : L.length ≤ c) (hD : Kd.C k53 w B M.length M) (hd : M.length ≤ d) (ha : 0 ≤ a0 ∧ a0 < top64) (hb0 : 0 ≤ b0) (hb1 : 0 ≤ b1) (hmo : IsByte more) (h2 : 0 ≤ a2 ∧ a2 < 4294967296) (hi : IOk b0 b1 b2 b4 b5 M) (hl0 : U32r l0) (hl1 : I64r l1) (hl2 : I64r l2) (hl3 : I64r l3) (hl4 : I64r l4) (hk0 : U32r k0) (hk1 : I64r k1) (hg : PZ.quitrentlaw14_great.f 60 a0 a1 a2 L b0 b1 b2 M b4 b5 = some false) (hP : eposts a0 a1 L = true) (hI : ebills b0 b1 b4 b5 M = true) :
    Calls Try.prog 6 #[.agg #[.int .u64 a0, .int .i64 a1, .int .u32 a2, .slice A L.length c], .agg #[.int .u32 b0, .int .u32 b1, .int .i64 b2, .slice B M.length d, .int .i64 b4, .int .i64 b5], .agg #[.int .u32 l0, .int .i64 l1, .int .i64 l2, .int .i64 l3, .int .i64 l4], .agg #[.int .u32 k0, .int .i64 k1], .int .u8 more] w fun e w' => e = .returned (.bool true) ∧ Below w.heap.size w w' := by
  have kg := Aside0.mk (fun w hC hD => PZ.quitrentlaw14_great.calls 60 a0 a1 a2 A c L b0 b1 b2 B d M b4 b5 false w hC hc hD hd hg)
  have kp := Aside0.mk (fun w hC => putposting_yes a0 a1 a2 A c L w hC ha.1 ha.2 hP)
  obtain ⟨mp, hfp⟩ := pfacts a0 a1 a2 L more ha h2 hP hmo
  have HSp := Aside0.mk (show L.length ≤ 50 by have := (eposts_facts hP).2.1; omega)
  obtain ⟨Bp, hBp⟩ : ∃ B, epost a0 a1 a2 L = B := ⟨_, rfl⟩
  rw [hBp] at kp hfp
  have HFp := Aside0.mk hfp
  clear hBp hfp
  have ki := Aside0.mk (fun w hD => putinvoice_yes b0 b1 b2 b4 b5 B d M w hD hI)
  obtain ⟨mi, hfi⟩ := ifacts b0 b1 b2 b4 b5 M more hi hI hmo
  have HSi := Aside0.mk (show M.length ≤ 50 by have := ebills_len hI; omega)
  obtain ⟨Bi, hBi⟩ : ∃ B, einv b0 b1 b2 b4 b5 M = B := ⟨_, rfl⟩
  rw [hBi] at ki hfi
  have HFi := Aside0.mk hfi
  clear hBi hfi
  have HLA := Aside0.mk (lease_app l0 l1 l2 l3 l4 hl0 hl1 hl2 hl3 hl4)
  have HKA := Aside0.mk (pack_app k0 k1 hk0 hk1)
  have kgo := Aside0.mk (fun w => PZ.quitrentlaw14_goes.calls true w goes_is)
  have HC1 := Aside0.mk hc
  have HD1 := Aside0.mk hd
  have HC := Aside0.mk hC
  have HD := Aside0.mk hD
  clear hC hD hc hd ha hb0 hb1 hg hP hI hmo h2 hi hl0 hl1 hl2 hl3 hl4 hk0 hk1
  go_enter Try.func6, Try.ntmps6
  go_wp2_with fail
  have X0 : Aside0 (Blk ((((w.alloc (Obj.cells #[.int .u64 a0, .int .i64 a1, .int .u32 a2, .slice A L.length c] 26)).alloc (Obj.cells #[.int .u32 b0, .int .u32 b1, .int .i64 b2, .slice B M.length d, .int .i64 b4, .int .i64 b5] 30)).alloc (Obj.cells #[.int .u32 l0, .int .i64 l1, .int .i64 l2, .int .i64 l3, .int .i64 l4] 40)).alloc (Obj.cells #[.int .u32 k0, .int .i64 k1] 42)) w.heap.size (Obj.cells #[.int .u64 a0, .int .i64 a1, .int .u32 a2, .slice A L.length c] 26 (0, 0))) := ⟨Blk.new_.alloc.alloc.alloc⟩
  have X1 : Aside0 (Blk ((((w.alloc (Obj.cells #[.int .u64 a0, .int .i64 a1, .int .u32 a2, .slice A L.length c] 26)).alloc (Obj.cells #[.int .u32 b0, .int .u32 b1, .int .i64 b2, .slice B M.length d, .int .i64 b4, .int .i64 b5] 30)).alloc (Obj.cells #[.int .u32 l0, .int .i64 l1, .int .i64 l2, .int .i64 l3, .int .i64 l4] 40)).alloc (Obj.cells #[.int .u32 k0, .int .i64 k1] 42)) (w.heap.size + 1) (Obj.cells #[.int .u32 b0, .int .u32 b1, .int .i64 b2, .slice B M.length d, .int .i64 b4, .int .i64 b5] 30 (0, 0))) := ⟨(Blk.new (by rw [size_alloc])).alloc.alloc⟩
  have X2 : Aside0 (Blk ((((w.alloc (Obj.cells #[.int .u64 a0, .int .i64 a1, .int .u32 a2, .slice A L.length c] 26)).alloc (Obj.cells #[.int .u32 b0, .int .u32 b1, .int .i64 b2, .slice B M.length d, .int .i64 b4, .int .i64 b5] 30)).alloc (Obj.cells #[.int .u32 l0, .int .i64 l1, .int .i64 l2, .int .i64 l3, .int .i64 l4] 40)).alloc (Obj.cells #[.int .u32 k0, .int .i64 k1] 42)) (w.heap.size + 2) (Obj.cells #[.int .u32 l0, .int .i64 l1, .int .i64 l2, .int .i64 l3, .int .i64 l4] 40 (0, 0))) := ⟨(Blk.new (by rw [size_alloc, size_alloc])).alloc⟩
  have X3 : Aside0 (Blk ((((w.alloc (Obj.cells #[.int .u64 a0, .int .i64 a1, .int .u32 a2, .slice A L.length c] 26)).alloc (Obj.cells #[.int .u32 b0, .int .u32 b1, .int .i64 b2, .slice B M.length d, .int .i64 b4, .int .i64 b5] 30)).alloc (Obj.cells #[.int .u32 l0, .int .i64 l1, .int .i64 l2, .int .i64 l3, .int .i64 l4] 40)).alloc (Obj.cells #[.int .u32 k0, .int .i64 k1] 42)) (w.heap.size + 3) (Obj.cells #[.int .u32 k0, .int .i64 k1] 42 (0, 0))) := ⟨Blk.new (by rw [size_alloc, size_alloc, size_alloc])⟩
  have HW : Aside0 (Below w.heap.size w ((((w.alloc (Obj.cells #[.int .u64 a0, .int .i64 a1, .int .u32 a2, .slice A L.length c] 26)).alloc (Obj.cells #[.int .u32 b0, .int .u32 b1, .int .i64 b2, .slice B M.length d, .int .i64 b4, .int .i64 b5] 30)).alloc (Obj.cells #[.int .u32 l0, .int .i64 l1, .int .i64 l2, .int .i64 l3, .int .i64 l4] 40)).alloc (Obj.cells #[.int .u32 k0, .int .i64 k1] 42))) := ⟨below_alloc (below_alloc (below_alloc (below_alloc (Below.refl _ _) _) _) _) _⟩
  obtain ⟨wa, hwa⟩ : ∃ W, ((((w.alloc (Obj.cells #[.int .u64 a0, .int .i64 a1, .int .u32 a2, .slice A L.length c] 26)).alloc (Obj.cells #[.int .u32 b0, .int .u32 b1, .int .i64 b2, .slice B M.length d, .int .i64 b4, .int .i64 b5] 30)).alloc (Obj.cells #[.int .u32 l0, .int .i64 l1, .int .i64 l2, .int .i64 l3, .int .i64 l4] 40)).alloc (Obj.cells #[.int .u32 k0, .int .i64 k1] 42)) = W := ⟨_, rfl⟩
  rw [hwa] at X0 X1 X2 X3 HW ⊢
  have HCa := Aside0.mk (Kd.C_below HC.out HW.out)
  have HDa := Aside0.mk (Kd.C_below HD.out HW.out)
  obtain ⟨q, hq⟩ : ∃ q, w.heap.size = q := ⟨_, rfl⟩
  rw [hq] at X0 X1 X2 X3 HW ⊢
  have hqa : q ≤ wa.heap.size := Nat.le_of_lt X0.out.lt
  have HQA := Aside0.mk hqa
  have XB : Aside0 (∀ W : World, Below wa.heap.size wa W → (W.cell? ⟨q, 0, none⟩ = some (.int .u64 a0) ∧ W.cell? ⟨q, 1, none⟩ = some (.int .i64 a1) ∧ W.cell? ⟨q, 2, none⟩ = some (.int .u32 a2) ∧ W.cell? ⟨q, 3, none⟩ = some (.slice A L.length c) ∧ W.cell? ⟨q + 1, 0, none⟩ = some (.int .u32 b0) ∧ W.cell? ⟨q + 1, 1, none⟩ = some (.int .u32 b1) ∧ W.cell? ⟨q + 1, 2, none⟩ = some (.int .i64 b2) ∧ W.cell? ⟨q + 1, 3, none⟩ = some (.slice B M.length d) ∧ W.cell? ⟨q + 1, 4, none⟩ = some (.int .i64 b4) ∧ W.cell? ⟨q + 1, 5, none⟩ = some (.int .i64 b5)) ∧ (W.cell? ⟨q + 2, 0, none⟩ = some (.int .u32 l0) ∧ W.cell? ⟨q + 2, 1, none⟩ = some (.int .i64 l1) ∧ W.cell? ⟨q + 2, 2, none⟩ = some (.int .i64 l2) ∧ W.cell? ⟨q + 2, 3, none⟩ = some (.int .i64 l3) ∧ W.cell? ⟨q + 2, 4, none⟩ = some (.int .i64 l4) ∧ W.cell? ⟨q + 3, 0, none⟩ = some (.int .u32 k0) ∧ W.cell? ⟨q + 3, 1, none⟩ = some (.int .i64 k1))) := ⟨fun W hW => by
    have Y0 := X0.out.below hW
    have Y1 := X1.out.below hW
    have Y2 := X2.out.below hW
    have Y3 := X3.out.below hW
    exact ⟨⟨(Y0.cell 0).trans rfl, (Y0.cell 1).trans rfl, (Y0.cell 2).trans rfl, (Y0.cell 3).trans rfl, (Y1.cell 0).trans rfl, (Y1.cell 1).trans rfl, (Y1.cell 2).trans rfl, (Y1.cell 3).trans rfl, (Y1.cell 4).trans rfl, (Y1.cell 5).trans rfl⟩, ⟨(Y2.cell 0).trans rfl, (Y2.cell 1).trans rfl, (Y2.cell 2).trans rfl, (Y2.cell 3).trans rfl, (Y2.cell 4).trans rfl, (Y3.cell 0).trans rfl, (Y3.cell 1).trans rfl⟩⟩⟩
  have FIN : Aside0 (∀ W : World, Below wa.heap.size wa W → Below q w W) := ⟨fun W hW => HW.out.trans (below_weak_ hW HQA.out)⟩
  clear hwa X0 X1 X2 X3 HC HD hqa
  refine (kg.out wa HCa.out HDa.out).mono ?_
  rintro e w1 ⟨rfl, hb⟩
  have HB1 := Aside0.mk hb
  clear hb
  obtain ⟨⟨cp0, cp1, cp2, cp3, cv0, cv1, cv2, cv3, cv4, cv5⟩, ⟨cl0, cl1, cl2, cl3, cl4, ck0, ck1⟩⟩ := XB.out w1 HB1.out
  go_wp2_with fail
  clear cp0 cp1 cp2 cp3 cv0 cv1 cv2 cv3 cv4 cv5 cl0 cl1 cl2 cl3 cl4 ck0 ck1
  refine (kp.out w1 (Kd.C_below HCa.out HB1.out)).mono ?_
  rintro e w2 ⟨v1, rfl, hV, hb⟩
  obtain ⟨Ap, cp, rfl⟩ := Kd.R_slice hV
  have HB2 := Aside0.mk (below_step HB1.out hb)
  have C2 := Aside0.mk (Kd.R_reads' hV).2.2
  have LAp := Aside0.mk (Kd.R_reads' hV).2.1
  rw [HFp.out.len] at LAp ⊢
  clear hV hb HB1
  go_wp2_with fail
  refine (bgetp Ap cp mp Bp HFp.out.len a0 a1 a2 0 L w2 C2.out HFp.out.bytes (by have := HFp.out.top; omega) HFp.out.got).mono ?_
  rintro e w3 ⟨v3, rfl, hr, hb⟩
  obtain ⟨Aqp, cqp, rfl⟩ := Kd.R_slice hr
  have HB3 := Aside0.mk (below_step HB2.out hb)
  have C3 := Aside0.mk (Kd.C_below C2.out hb)
  have RQ3 := Aside0.mk (Kd.R_reads' hr).2.2
  have LQp := Aside0.mk (Kd.R_reads' hr).2.1
  clear hr hb C2 HB2
  have hal := below_alloc (Below.refl w3.heap.size w3) (Obj.cells #[.int .u64 a0, .int .i64 a1, .int .u32 a2, .slice Aqp L.length cqp] 26)
  have XQ4 : Aside0 (Blk (w3.alloc (Obj.cells #[.int .u64 a0, .int .i64 a1, .int .u32 a2, .slice Aqp L.length cqp] 26)) w3.heap.size (Obj.cells #[.int .u64 a0, .int .i64 a1, .int .u32 a2, .slice Aqp L.length cqp] 26 (0, 0))) := ⟨Blk.new_⟩
  have RQ4 := Aside0.mk (Kd.C_below RQ3.out hal)
  have C4 := Aside0.mk (Kd.C_below C3.out hal)
  have HB4 := Aside0.mk (below_step HB3.out hal)
  clear hal RQ3 C3 HB3
  obtain ⟨e1, t2⟩ := Go.Proofs.Ytdfmganmchmbjaa.Ext.cut_to .i64 (A := Ap) (c := cp) (xs := Bp) (b := mp - 1) (by rw [HFp.out.len]; omega) (by rw [HFp.out.len]; exact LAp.out) ((mp : Int) - 1) (by have := HFp.out.low; omega)
  have hw : IntKind.i64.wrap ((mp : Int) - 1) = (mp : Int) - 1 := by have := HFp.out.low; have := HFp.out.top; rw [IntKind.wrap_i64]; omega
  have hmax : (1 : Int) < (mp : Int) := by have := HFp.out.low; omega
  have HL1 : Aside0 ((Bp.take (mp - 1)).length = mp - 1) := ⟨by rw [List.length_take, HFp.out.len]; omega⟩
  rw [HFp.out.len] at e1
  go_wp2_with fail
  obtain ⟨w4, hwx⟩ : ∃ W, w3.alloc (Obj.cells #[.int .u64 a0, .int .i64 a1, .int .u32 a2, .slice Aqp L.length cqp] 26) = W := ⟨_, rfl⟩
  rw [hwx] at XQ4 RQ4 C4 HB4 ⊢
  obtain ⟨bqp, hbx⟩ : ∃ b, w3.heap.size = b := ⟨_, rfl⟩
  rw [hbx] at XQ4 ⊢
  clear hwx hbx
  refine (bgetp Ap cp (mp - 1) (Bp.take (mp - 1)) HL1.out 0 0 0 21 [] w4 (t2 w4 C4.out) (fun x hx => HFp.out.bytes x (List.mem_of_mem_take hx)) (by have := HFp.out.top; omega) HFp.out.less).mono ?_
  rintro e w5 ⟨v5, rfl, hr, hb⟩
  obtain ⟨yA, yc, ev⟩ := Kd.R_slice hr
  subst ev
  have HB5 := Aside0.mk (below_step HB4.out hb)
  have C5 := Aside0.mk (Kd.C_below C4.out hb)
  have XQ5 := Aside0.mk (XQ4.out.below hb)
  have RQ5 := Aside0.mk (Kd.C_below RQ4.out hb)
  clear hr hb e1 t2 hw hmax HL1 HB4 C4 XQ4 RQ4
  have hal := below_alloc (Below.refl w5.heap.size w5) (Obj.cells #[.int .u64 0, .int .i64 0, .int .u32 0, .slice yA 0 yc] 26)
  have HB6 := Aside0.mk (below_step HB5.out hal)
  have C6 := Aside0.mk (Kd.C_below C5.out hal)
  have XQ6 : Aside0 (Blk (w5.alloc (Obj.cells #[.int .u64 0, .int .i64 0, .int .u32 0, .slice yA 0 yc] 26)) bqp (Obj.cells #[.int .u64 a0, .int .i64 a1, .int .u32 a2, .slice Aqp L.length cqp] 26 (0, 0))) := ⟨XQ5.out.alloc⟩
  have RQ6 := Aside0.mk (Kd.C_below RQ5.out hal)
  have HM := Aside0.mk HFp.out.len
  have HT := Aside0.mk HFp.out.top
  clear hal HB5 C5 XQ5 RQ5
  go_wp2_with (first
    | (at_builtin; rw [← size_alloc w5 (Obj.cells #[.int .u64 0, .int .i64 0, .int .u32 0, .slice yA 0 yc] 26)]; generalize w5.alloc (Obj.cells #[.int .u64 0, .int .i64 0, .int .u32 0, .slice yA 0 yc] 26) = w6 at HB6 C6 XQ6 RQ6 ⊢; refine Kd.R_append_row (Value.int .u8) (0 : Int) (w0 := w6) w6.heap.size rfl (.tmp 56) (.tmp 57) 31 5 (.int .u8 0) 1 rfl Try.underlying31 infoU8 rfl (by decide) (.slice (some ⟨w6.heap.size, 0, none⟩) 0 0) [] Bp Ap mp cp (fun k => w6.heap.size ≤ k) rfl rfl (fun k hk => by simp at hk; omega) (R_empty w6 _ _ (Nat.le_refl _) (Nat.le_refl _)) (by have := Kd.C_alloc C6.out (Obj.cells #[] 5); rw [HM.out] at this; exact this) (below_alloc (Below.refl _ _) _) (by simp) (by have := HT.out; have := HM.out; simp; omega) ?_; intro v8 w8' ho hb hg hat; simp only [List.nil_append] at ho; obtain ⟨Av, cv, ev⟩ := Kd.R_slice ho; subst ev; have HO := Aside0.mk ho; have HBx := Aside0.mk hb; clear ho hb hg hat)
    | (at_builtin; refine Kd.R_append_row (Value.int .u8) (0 : Int) (w0 := w6) w6.heap.size rfl (.tmp 58) (.tmp 60) 31 5 (.int .u8 0) 1 rfl Try.underlying31 infoU8 rfl (by decide) (.slice Av Bp.length cv) Bp [more] (some ⟨w8'.heap.size, 0, none⟩) 1 1 (fun k => w6.heap.size ≤ k) rfl rfl (fun k hk => Nat.le_trans HBx.out.size (by rw [size_alloc] at hk; omega)) (Kd.R_below HO.out (below_alloc (Below.refl _ _) _)) (C_block (xs := [more]) (heap_new _ _) rfl (by simp)) (below_alloc HBx.out _) (Nat.le_trans HBx.out.size (by rw [size_alloc]; omega)) (by have := HT.out; have := HM.out; simp; omega) ?_; intro v9 w7 ho hb hg hat; obtain ⟨Aip, cip, ev⟩ := Kd.R_slice ho; subst ev; have HI := Aside0.mk (Kd.R_reads' ho); have HBy := Aside0.mk hb; clear ho hb hg hat))
  have hl9 : (Bp ++ [more]).length = Bp.length + 1 := by simp
  have C9 := Aside0.mk HI.out.2.2
  have B9 : ∀ x ∈ Bp ++ [more], IsByte x := fun x hx => by
    rcases List.mem_append.1 hx with h | h
    · exact HFp.out.bytes x h
    · rw [List.mem_singleton.1 h]; exact HFp.out.mbyte
  have HB7 := Aside0.mk (below_step HB6.out HBy.out)
  have XQ7 := Aside0.mk (XQ6.out.below HBy.out)
  have RQ7 := Aside0.mk (Kd.C_below RQ6.out HBy.out)
  clear HB6 C6 XQ6 RQ6 HO HBx HBy HI
  refine (bgetp Aip cip (Bp.length + 1) (Bp ++ [more]) hl9 0 0 0 21 [] w7 C9.out B9 (by have := HT.out; have := HM.out; omega) HFp.out.plus).mono ?_
  rintro e w8 ⟨v10, rfl, hr, hb⟩
  obtain ⟨zA, zc, ev⟩ := Kd.R_slice hr
  subst ev
  have HB8 := Aside0.mk (below_step HB7.out hb)
  have XQ8 := Aside0.mk (XQ7.out.below hb)
  have RQ8 := Aside0.mk (Kd.C_below RQ7.out hb)
  clear hr hb HB7 XQ7 RQ7 C9 B9 hl9 HM HT
  have HAL := Aside0.mk (below_alloc (Below.refl w8.heap.size w8) (Obj.cells #[.int .u64 0, .int .i64 0, .int .u32 0, .slice zA 0 zc] 26))
  obtain ⟨⟨cp0, cp1, cp2, cp3, cv0, cv1, cv2, cv3, cv4, cv5⟩, ⟨cl0, cl1, cl2, cl3, cl4, ck0, ck1⟩⟩ := XB.out (w8.alloc (Obj.cells #[.int .u64 0, .int .i64 0, .int .u32 0, .slice zA 0 zc] 26)) (below_step HB8.out HAL.out)
  have q0 : (w8.alloc (Obj.cells #[.int .u64 0, .int .i64 0, .int .u32 0, .slice zA 0 zc] 26)).cell? ⟨bqp, 0, none⟩ = some (.int .u64 a0) := (XQ8.out.alloc.cell 0).trans rfl
  have q1 : (w8.alloc (Obj.cells #[.int .u64 0, .int .i64 0, .int .u32 0, .slice zA 0 zc] 26)).cell? ⟨bqp, 1, none⟩ = some (.int .i64 a1) := (XQ8.out.alloc.cell 1).trans rfl
  have q2 : (w8.alloc (Obj.cells #[.int .u64 0, .int .i64 0, .int .u32 0, .slice zA 0 zc] 26)).cell? ⟨bqp, 2, none⟩ = some (.int .u32 a2) := (XQ8.out.alloc.cell 2).trans rfl
  have q3 : (w8.alloc (Obj.cells #[.int .u64 0, .int .i64 0, .int .u32 0, .slice zA 0 zc] 26)).cell? ⟨bqp, 3, none⟩ = some (.slice Aqp L.length cqp) := (XQ8.out.alloc.cell 3).trans rfl
  go_wp2_with fail
  refine (psame_calls a0 a1 a2 A Aqp c cqp L _ HSp.out (Kd.C_below HCa.out (below_step HB8.out HAL.out)) HC1.out (Kd.C_below RQ8.out HAL.out) LQp.out).mono ?_
  rintro e w9 ⟨rfl, hb⟩
  have HB9 := Aside0.mk (below_step (below_step HB8.out HAL.out) hb)
  clear hb cp0 cp1 cp2 cp3 cv0 cv1 cv2 cv3 cv4 cv5 cl0 cl1 cl2 cl3 cl4 ck0 ck1 q0 q1 q2 q3 HAL XQ8 RQ8 HB8 LQp
  obtain ⟨⟨cp0, cp1, cp2, cp3, cv0, cv1, cv2, cv3, cv4, cv5⟩, ⟨cl0, cl1, cl2, cl3, cl4, ck0, ck1⟩⟩ := XB.out w9 HB9.out
  go_wp2_with fail
  clear cp0 cp1 cp2 cp3 cv0 cv1 cv2 cv3 cv4 cv5 cl0 cl1 cl2 cl3 cl4 ck0 ck1
  refine (ki.out w9 (Kd.C_below HDa.out HB9.out)).mono ?_
  rintro e w10 ⟨v1, rfl, hV, hb⟩
  obtain ⟨Ai, ci, rfl⟩ := Kd.R_slice hV
  have HB10 := Aside0.mk (below_step HB9.out hb)
  have C10 := Aside0.mk (Kd.R_reads' hV).2.2
  have LAi := Aside0.mk (Kd.R_reads' hV).2.1
  rw [HFi.out.len] at LAi ⊢
  clear hV hb HB9
  go_wp2_with fail
  refine (bgeti Ai ci mi Bi HFi.out.len b0 b1 b2 b4 b5 0 M w10 C10.out HFi.out.bytes (by have := HFi.out.top; omega) HFi.out.got).mono ?_
  rintro e w11 ⟨v3, rfl, hr, hb⟩
  obtain ⟨Aqi, cqi, rfl⟩ := Kd.R_slice hr
  have HB11 := Aside0.mk (below_step HB10.out hb)
  have C11 := Aside0.mk (Kd.C_below C10.out hb)
  have RQ11 := Aside0.mk (Kd.R_reads' hr).2.2
  have LQi := Aside0.mk (Kd.R_reads' hr).2.1
  clear hr hb C10 HB10
  have hal := below_alloc (Below.refl w11.heap.size w11) (Obj.cells #[.int .u32 b0, .int .u32 b1, .int .i64 b2, .slice Aqi M.length cqi, .int .i64 b4, .int .i64 b5] 30)
  have XQ12 : Aside0 (Blk (w11.alloc (Obj.cells #[.int .u32 b0, .int .u32 b1, .int .i64 b2, .slice Aqi M.length cqi, .int .i64 b4, .int .i64 b5] 30)) w11.heap.size (Obj.cells #[.int .u32 b0, .int .u32 b1, .int .i64 b2, .slice Aqi M.length cqi, .int .i64 b4, .int .i64 b5] 30 (0, 0))) := ⟨Blk.new_⟩
  have RQ12 := Aside0.mk (Kd.C_below RQ11.out hal)
  have C12 := Aside0.mk (Kd.C_below C11.out hal)
  have HB12 := Aside0.mk (below_step HB11.out hal)
  clear hal RQ11 C11 HB11
  obtain ⟨e1, t2⟩ := Go.Proofs.Ytdfmganmchmbjaa.Ext.cut_to .i64 (A := Ai) (c := ci) (xs := Bi) (b := mi - 1) (by rw [HFi.out.len]; omega) (by rw [HFi.out.len]; exact LAi.out) ((mi : Int) - 1) (by have := HFi.out.low; omega)
  have hw : IntKind.i64.wrap ((mi : Int) - 1) = (mi : Int) - 1 := by have := HFi.out.low; have := HFi.out.top; rw [IntKind.wrap_i64]; omega
  have hmax : (1 : Int) < (mi : Int) := by have := HFi.out.low; omega
  have HL1 : Aside0 ((Bi.take (mi - 1)).length = mi - 1) := ⟨by rw [List.length_take, HFi.out.len]; omega⟩
  rw [HFi.out.len] at e1
  go_wp2_with fail
  obtain ⟨w12, hwx⟩ : ∃ W, w11.alloc (Obj.cells #[.int .u32 b0, .int .u32 b1, .int .i64 b2, .slice Aqi M.length cqi, .int .i64 b4, .int .i64 b5] 30) = W := ⟨_, rfl⟩
  rw [hwx] at XQ12 RQ12 C12 HB12 ⊢
  obtain ⟨bqi, hbx⟩ : ∃ b, w11.heap.size = b := ⟨_, rfl⟩
  rw [hbx] at XQ12 ⊢
  clear hwx hbx
  refine (bgeti Ai ci (mi - 1) (Bi.take (mi - 1)) HL1.out 0 0 0 0 0 21 [] w12 (t2 w12 C12.out) (fun x hx => HFi.out.bytes x (List.mem_of_mem_take hx)) (by have := HFi.out.top; omega) HFi.out.less).mono ?_
  rintro e w13 ⟨v5, rfl, hr, hb⟩
  obtain ⟨yA, yc, ev⟩ := Kd.R_slice hr
  subst ev
  have HB13 := Aside0.mk (below_step HB12.out hb)
  have C13 := Aside0.mk (Kd.C_below C12.out hb)
  have XQ13 := Aside0.mk (XQ12.out.below hb)
  have RQ13 := Aside0.mk (Kd.C_below RQ12.out hb)
  clear hr hb e1 t2 hw hmax HL1 HB12 C12 XQ12 RQ12
  have hal := below_alloc (Below.refl w13.heap.size w13) (Obj.cells #[.int .u32 0, .int .u32 0, .int .i64 0, .slice yA 0 yc, .int .i64 0, .int .i64 0] 30)
  have HB14 := Aside0.mk (below_step HB13.out hal)
  have C14 := Aside0.mk (Kd.C_below C13.out hal)
  have XQ14 : Aside0 (Blk (w13.alloc (Obj.cells #[.int .u32 0, .int .u32 0, .int .i64 0, .slice yA 0 yc, .int .i64 0, .int .i64 0] 30)) bqi (Obj.cells #[.int .u32 b0, .int .u32 b1, .int .i64 b2, .slice Aqi M.length cqi, .int .i64 b4, .int .i64 b5] 30 (0, 0))) := ⟨XQ13.out.alloc⟩
  have RQ14 := Aside0.mk (Kd.C_below RQ13.out hal)
  have HM := Aside0.mk HFi.out.len
  have HT := Aside0.mk HFi.out.top
  clear hal HB13 C13 XQ13 RQ13
  go_wp2_with (first
    | (at_builtin; rw [← size_alloc w13 (Obj.cells #[.int .u32 0, .int .u32 0, .int .i64 0, .slice yA 0 yc, .int .i64 0, .int .i64 0] 30)]; generalize w13.alloc (Obj.cells #[.int .u32 0, .int .u32 0, .int .i64 0, .slice yA 0 yc, .int .i64 0, .int .i64 0] 30) = w14 at HB14 C14 XQ14 RQ14 ⊢; refine Kd.R_append_row (Value.int .u8) (0 : Int) (w0 := w14) w14.heap.size rfl (.tmp 104) (.tmp 105) 31 5 (.int .u8 0) 1 rfl Try.underlying31 infoU8 rfl (by decide) (.slice (some ⟨w14.heap.size, 0, none⟩) 0 0) [] Bi Ai mi ci (fun k => w14.heap.size ≤ k) rfl rfl (fun k hk => by simp at hk; omega) (R_empty w14 _ _ (Nat.le_refl _) (Nat.le_refl _)) (by have := Kd.C_alloc C14.out (Obj.cells #[] 5); rw [HM.out] at this; exact this) (below_alloc (Below.refl _ _) _) (by simp) (by have := HT.out; have := HM.out; simp; omega) ?_; intro v8 w8' ho hb hg hat; simp only [List.nil_append] at ho; obtain ⟨Av, cv, ev⟩ := Kd.R_slice ho; subst ev; have HO := Aside0.mk ho; have HBx := Aside0.mk hb; clear ho hb hg hat)
    | (at_builtin; refine Kd.R_append_row (Value.int .u8) (0 : Int) (w0 := w14) w14.heap.size rfl (.tmp 106) (.tmp 108) 31 5 (.int .u8 0) 1 rfl Try.underlying31 infoU8 rfl (by decide) (.slice Av Bi.length cv) Bi [more] (some ⟨w8'.heap.size, 0, none⟩) 1 1 (fun k => w14.heap.size ≤ k) rfl rfl (fun k hk => Nat.le_trans HBx.out.size (by rw [size_alloc] at hk; omega)) (Kd.R_below HO.out (below_alloc (Below.refl _ _) _)) (C_block (xs := [more]) (heap_new _ _) rfl (by simp)) (below_alloc HBx.out _) (Nat.le_trans HBx.out.size (by rw [size_alloc]; omega)) (by have := HT.out; have := HM.out; simp; omega) ?_; intro v9 w15 ho hb hg hat; obtain ⟨Aii, cii, ev⟩ := Kd.R_slice ho; subst ev; have HI := Aside0.mk (Kd.R_reads' ho); have HBy := Aside0.mk hb; clear ho hb hg hat))
  have hl9 : (Bi ++ [more]).length = Bi.length + 1 := by simp
  have C9 := Aside0.mk HI.out.2.2
  have B9 : ∀ x ∈ Bi ++ [more], IsByte x := fun x hx => by
    rcases List.mem_append.1 hx with h | h
    · exact HFi.out.bytes x h
    · rw [List.mem_singleton.1 h]; exact HFi.out.mbyte
  have HB15 := Aside0.mk (below_step HB14.out HBy.out)
  have XQ15 := Aside0.mk (XQ14.out.below HBy.out)
  have RQ15 := Aside0.mk (Kd.C_below RQ14.out HBy.out)
  clear HB14 C14 XQ14 RQ14 HO HBx HBy HI
  refine (bgeti Aii cii (Bi.length + 1) (Bi ++ [more]) hl9 0 0 0 0 0 21 [] w15 C9.out B9 (by have := HT.out; have := HM.out; omega) HFi.out.plus).mono ?_
  rintro e w16 ⟨v10, rfl, hr, hb⟩
  obtain ⟨zA, zc, ev⟩ := Kd.R_slice hr
  subst ev
  have HB16 := Aside0.mk (below_step HB15.out hb)
  have XQ16 := Aside0.mk (XQ15.out.below hb)
  have RQ16 := Aside0.mk (Kd.C_below RQ15.out hb)
  clear hr hb HB15 XQ15 RQ15 C9 B9 hl9 HM HT
  have HAL := Aside0.mk (below_alloc (Below.refl w16.heap.size w16) (Obj.cells #[.int .u32 0, .int .u32 0, .int .i64 0, .slice zA 0 zc, .int .i64 0, .int .i64 0] 30))
  obtain ⟨⟨cp0, cp1, cp2, cp3, cv0, cv1, cv2, cv3, cv4, cv5⟩, ⟨cl0, cl1, cl2, cl3, cl4, ck0, ck1⟩⟩ := XB.out (w16.alloc (Obj.cells #[.int .u32 0, .int .u32 0, .int .i64 0, .slice zA 0 zc, .int .i64 0, .int .i64 0] 30)) (below_step HB16.out HAL.out)
  have q0 : (w16.alloc (Obj.cells #[.int .u32 0, .int .u32 0, .int .i64 0, .slice zA 0 zc, .int .i64 0, .int .i64 0] 30)).cell? ⟨bqi, 0, none⟩ = some (.int .u32 b0) := (XQ16.out.alloc.cell 0).trans rfl
  have q1 : (w16.alloc (Obj.cells #[.int .u32 0, .int .u32 0, .int .i64 0, .slice zA 0 zc, .int .i64 0, .int .i64 0] 30)).cell? ⟨bqi, 1, none⟩ = some (.int .u32 b1) := (XQ16.out.alloc.cell 1).trans rfl
  have q2 : (w16.alloc (Obj.cells #[.int .u32 0, .int .u32 0, .int .i64 0, .slice zA 0 zc, .int .i64 0, .int .i64 0] 30)).cell? ⟨bqi, 2, none⟩ = some (.int .i64 b2) := (XQ16.out.alloc.cell 2).trans rfl
  have q3 : (w16.alloc (Obj.cells #[.int .u32 0, .int .u32 0, .int .i64 0, .slice zA 0 zc, .int .i64 0, .int .i64 0] 30)).cell? ⟨bqi, 3, none⟩ = some (.slice Aqi M.length cqi) := (XQ16.out.alloc.cell 3).trans rfl
  have q4 : (w16.alloc (Obj.cells #[.int .u32 0, .int .u32 0, .int .i64 0, .slice zA 0 zc, .int .i64 0, .int .i64 0] 30)).cell? ⟨bqi, 4, none⟩ = some (.int .i64 b4) := (XQ16.out.alloc.cell 4).trans rfl
  have q5 : (w16.alloc (Obj.cells #[.int .u32 0, .int .u32 0, .int .i64 0, .slice zA 0 zc, .int .i64 0, .int .i64 0] 30)).cell? ⟨bqi, 5, none⟩ = some (.int .i64 b5) := (XQ16.out.alloc.cell 5).trans rfl
  go_wp2_with fail
  refine (isame_calls b0 b1 b2 b4 b5 B Aqi d cqi M _ HSi.out (Kd.C_below HDa.out (below_step HB16.out HAL.out)) HD1.out (Kd.C_below RQ16.out HAL.out) LQi.out).mono ?_
  rintro e w17 ⟨rfl, hb⟩
  have HB17 := Aside0.mk (below_step (below_step HB16.out HAL.out) hb)
  clear hb cp0 cp1 cp2 cp3 cv0 cv1 cv2 cv3 cv4 cv5 cl0 cl1 cl2 cl3 cl4 ck0 ck1 q0 q1 q2 q3 q4 q5 HAL XQ16 RQ16 HB16 LQi
  obtain ⟨⟨cp0, cp1, cp2, cp3, cv0, cv1, cv2, cv3, cv4, cv5⟩, ⟨cl0, cl1, cl2, cl3, cl4, ck0, ck1⟩⟩ := XB.out w17 HB17.out
  go_wp2_with fail
  clear cp0 cp1 cp2 cp3 cv0 cv1 cv2 cv3 cv4 cv5 cl0 cl1 cl2 cl3 cl4 ck0 ck1
  refine (elease_all l0 l1 l2 l3 l4 w17).mono ?_
  rintro e w18 ⟨vl, rfl, hV, hb⟩
  obtain ⟨Al, cl, rfl⟩ := Kd.R_slice hV
  have HB18 := Aside0.mk (below_step HB17.out hb)
  have C18 := Aside0.mk (Kd.R_reads' hV).2.2
  rw [elease_len]
  clear hV hb HB17
  go_wp2_with fail
  refine (bgetl Al cl 40 (eleaseb l0 l1 l2 l3 l4) (elease_len l0 l1 l2 l3 l4) l0 l1 l2 l3 l4 0 w18 C18.out (elease_bytes l0 l1 l2 l3 l4) (by omega) HLA.out).mono ?_
  rintro e w19 ⟨rfl, hb⟩
  have HB19 := Aside0.mk (below_step HB18.out hb)
  clear hb C18 HB18
  have hal := below_alloc (Below.refl w19.heap.size w19) (Obj.cells #[.int .u32 l0, .int .i64 l1, .int .i64 l2, .int .i64 l3, .int .i64 l4] 40)
  have HB20 := Aside0.mk (below_step HB19.out hal)
  have XL20 : Aside0 (Blk (w19.alloc (Obj.cells #[.int .u32 l0, .int .i64 l1, .int .i64 l2, .int .i64 l3, .int .i64 l4] 40)) w19.heap.size (Obj.cells #[.int .u32 l0, .int .i64 l1, .int .i64 l2, .int .i64 l3, .int .i64 l4] 40 (0, 0))) := ⟨Blk.new_⟩
  obtain ⟨⟨cp0, cp1, cp2, cp3, cv0, cv1, cv2, cv3, cv4, cv5⟩, ⟨cl0, cl1, cl2, cl3, cl4, ck0, ck1⟩⟩ := XB.out (w19.alloc (Obj.cells #[.int .u32 l0, .int .i64 l1, .int .i64 l2, .int .i64 l3, .int .i64 l4] 40)) HB20.out
  go_wp2_with fail
  clear cp0 cp1 cp2 cp3 cv0 cv1 cv2 cv3 cv4 cv5 cl0 cl1 cl2 cl3 cl4 ck0 ck1 hal HB19
  obtain ⟨w20, hwx⟩ : ∃ W, w19.alloc (Obj.cells #[.int .u32 l0, .int .i64 l1, .int .i64 l2, .int .i64 l3, .int .i64 l4] 40) = W := ⟨_, rfl⟩
  rw [hwx] at XL20 HB20 ⊢
  obtain ⟨bl, hbx⟩ : ∃ b, w19.heap.size = b := ⟨_, rfl⟩
  rw [hbx] at XL20 ⊢
  clear hwx hbx
  refine (epack_all k0 k1 w20).mono ?_
  rintro e w21 ⟨vk, rfl, hV, hb⟩
  obtain ⟨Ak, ck, rfl⟩ := Kd.R_slice hV
  have HB21 := Aside0.mk (below_step HB20.out hb)
  have XL21 := Aside0.mk (XL20.out.below hb)
  have C21 := Aside0.mk (Kd.R_reads' hV).2.2
  rw [epack_len]
  clear hV hb HB20 XL20
  go_wp2_with fail
  refine (bgetk Ak ck 16 (epackb k0 k1) (epack_len k0 k1) k0 k1 0 w21 C21.out (epack_bytes k0 k1) (by omega) HKA.out).mono ?_
  rintro e w22 ⟨rfl, hb⟩
  have HB22 := Aside0.mk (below_step HB21.out hb)
  have XL22 := Aside0.mk (XL21.out.below hb)
  clear hb C21 HB21 XL21
  have hal := below_alloc (Below.refl w22.heap.size w22) (Obj.cells #[.int .u32 k0, .int .i64 k1] 42)
  have HB23 := Aside0.mk (below_step HB22.out hal)
  have XK : Aside0 (Blk (w22.alloc (Obj.cells #[.int .u32 k0, .int .i64 k1] 42)) w22.heap.size (Obj.cells #[.int .u32 k0, .int .i64 k1] 42 (0, 0))) := ⟨Blk.new_⟩
  obtain ⟨⟨cp0, cp1, cp2, cp3, cv0, cv1, cv2, cv3, cv4, cv5⟩, ⟨cl0, cl1, cl2, cl3, cl4, ck0, ck1⟩⟩ := XB.out (w22.alloc (Obj.cells #[.int .u32 k0, .int .i64 k1] 42)) HB23.out
  have d0 : (w22.alloc (Obj.cells #[.int .u32 k0, .int .i64 k1] 42)).cell? ⟨bl, 0, none⟩ = some (.int .u32 l0) := (XL22.out.alloc.cell 0).trans rfl
  have d1 : (w22.alloc (Obj.cells #[.int .u32 k0, .int .i64 k1] 42)).cell? ⟨bl, 1, none⟩ = some (.int .i64 l1) := (XL22.out.alloc.cell 1).trans rfl
  have d2 : (w22.alloc (Obj.cells #[.int .u32 k0, .int .i64 k1] 42)).cell? ⟨bl, 2, none⟩ = some (.int .i64 l2) := (XL22.out.alloc.cell 2).trans rfl
  have d3 : (w22.alloc (Obj.cells #[.int .u32 k0, .int .i64 k1] 42)).cell? ⟨bl, 3, none⟩ = some (.int .i64 l3) := (XL22.out.alloc.cell 3).trans rfl
  have d4 : (w22.alloc (Obj.cells #[.int .u32 k0, .int .i64 k1] 42)).cell? ⟨bl, 4, none⟩ = some (.int .i64 l4) := (XL22.out.alloc.cell 4).trans rfl
  have g0 : (w22.alloc (Obj.cells #[.int .u32 k0, .int .i64 k1] 42)).cell? ⟨w22.heap.size, 0, none⟩ = some (.int .u32 k0) := (XK.out.cell 0).trans rfl
  have g1 : (w22.alloc (Obj.cells #[.int .u32 k0, .int .i64 k1] 42)).cell? ⟨w22.heap.size, 1, none⟩ = some (.int .i64 k1) := (XK.out.cell 1).trans rfl
  clear hal
  go_wp2_with fail
  clear cp0 cp1 cp2 cp3 cv0 cv1 cv2 cv3 cv4 cv5 cl0 cl1 cl2 cl3 cl4 ck0 ck1 d0 d1 d2 d3 d4 g0 g1
  refine (kgo.out _).mono ?_
  rintro e w24 ⟨rfl, hb⟩
  have HB24 := Aside0.mk (below_step HB23.out hb)
  clear hb
  go_wp2_with fail
  go_ret
  exact ⟨rfl, by rw [hq]; exact FIN.out _ HB24.out⟩
set_option maxRecDepth 100000 in
set_option maxHeartbeats 6400000 in
theorem back_tf (more a0 a1 a2 b0 b1 b2 b4 b5 l0 l1 l2 l3 l4 k0 k1 : Int) (A B : Option Addr) (c d : Nat) (L : List S37) (M : List S53) (w : World) (hC : Kd.C k37 w A L.length L) (hc : L.length ≤ c) (hD : Kd.C k53 w B M.length M) (hd : M.length ≤ d) (ha : 0 ≤ a0 ∧ a0 < top64) (hb0 : 0 ≤ b0) (hb1 : 0 ≤ b1) (hmo : IsByte more) (h2 : 0 ≤ a2 ∧ a2 < 4294967296) (hi : IOk b0 b1 b2 b4 b5 M) (hl0 : U32r l0) (hl1 : I64r l1) (hl2 : I64r l2) (hl3 : I64r l3) (hl4 : I64r l4) (hk0 : U32r k0) (hk1 : I64r k1) (hg : PZ.quitrentlaw14_great.f 60 a0 a1 a2 L b0 b1 b2 M b4 b5 = some false) (hP : eposts a0 a1 L = true) (hI : ebills b0 b1 b4 b5 M = false) :
    Calls Try.prog 6 #[.agg #[.int .u64 a0, .int .i64 a1, .int .u32 a2, .slice A L.length c], .agg #[.int .u32 b0, .int .u32 b1, .int .i64 b2, .slice B M.length d, .int .i64 b4, .int .i64 b5], .agg #[.int .u32 l0, .int .i64 l1, .int .i64 l2, .int .i64 l3, .int .i64 l4], .agg #[.int .u32 k0, .int .i64 k1], .int .u8 more] w fun e w' => e = .returned (.bool true) ∧ Below w.heap.size w w' := by
  have kg := Aside0.mk (fun w hC hD => PZ.quitrentlaw14_great.calls 60 a0 a1 a2 A c L b0 b1 b2 B d M b4 b5 false w hC hc hD hd hg)
  have kp := Aside0.mk (fun w hC => putposting_yes a0 a1 a2 A c L w hC ha.1 ha.2 hP)
  obtain ⟨mp, hfp⟩ := pfacts a0 a1 a2 L more ha h2 hP hmo
  have HSp := Aside0.mk (show L.length ≤ 50 by have := (eposts_facts hP).2.1; omega)
  obtain ⟨Bp, hBp⟩ : ∃ B, epost a0 a1 a2 L = B := ⟨_, rfl⟩
  rw [hBp] at kp hfp
  have HFp := Aside0.mk hfp
  clear hBp hfp
  have ki := Aside0.mk (fun w hD => putinvoice_no b0 b1 b2 b4 b5 B d M w hD hI)
  have HLA := Aside0.mk (lease_app l0 l1 l2 l3 l4 hl0 hl1 hl2 hl3 hl4)
  have HKA := Aside0.mk (pack_app k0 k1 hk0 hk1)
  have kgo := Aside0.mk (fun w => PZ.quitrentlaw14_goes.calls true w goes_is)
  have HC1 := Aside0.mk hc
  have HD1 := Aside0.mk hd
  have HC := Aside0.mk hC
  have HD := Aside0.mk hD
  clear hC hD hc hd ha hb0 hb1 hg hP hI hmo h2 hi hl0 hl1 hl2 hl3 hl4 hk0 hk1
  go_enter Try.func6, Try.ntmps6
  go_wp2_with fail
  have X0 : Aside0 (Blk ((((w.alloc (Obj.cells #[.int .u64 a0, .int .i64 a1, .int .u32 a2, .slice A L.length c] 26)).alloc (Obj.cells #[.int .u32 b0, .int .u32 b1, .int .i64 b2, .slice B M.length d, .int .i64 b4, .int .i64 b5] 30)).alloc (Obj.cells #[.int .u32 l0, .int .i64 l1, .int .i64 l2, .int .i64 l3, .int .i64 l4] 40)).alloc (Obj.cells #[.int .u32 k0, .int .i64 k1] 42)) w.heap.size (Obj.cells #[.int .u64 a0, .int .i64 a1, .int .u32 a2, .slice A L.length c] 26 (0, 0))) := ⟨Blk.new_.alloc.alloc.alloc⟩
  have X1 : Aside0 (Blk ((((w.alloc (Obj.cells #[.int .u64 a0, .int .i64 a1, .int .u32 a2, .slice A L.length c] 26)).alloc (Obj.cells #[.int .u32 b0, .int .u32 b1, .int .i64 b2, .slice B M.length d, .int .i64 b4, .int .i64 b5] 30)).alloc (Obj.cells #[.int .u32 l0, .int .i64 l1, .int .i64 l2, .int .i64 l3, .int .i64 l4] 40)).alloc (Obj.cells #[.int .u32 k0, .int .i64 k1] 42)) (w.heap.size + 1) (Obj.cells #[.int .u32 b0, .int .u32 b1, .int .i64 b2, .slice B M.length d, .int .i64 b4, .int .i64 b5] 30 (0, 0))) := ⟨(Blk.new (by rw [size_alloc])).alloc.alloc⟩
  have X2 : Aside0 (Blk ((((w.alloc (Obj.cells #[.int .u64 a0, .int .i64 a1, .int .u32 a2, .slice A L.length c] 26)).alloc (Obj.cells #[.int .u32 b0, .int .u32 b1, .int .i64 b2, .slice B M.length d, .int .i64 b4, .int .i64 b5] 30)).alloc (Obj.cells #[.int .u32 l0, .int .i64 l1, .int .i64 l2, .int .i64 l3, .int .i64 l4] 40)).alloc (Obj.cells #[.int .u32 k0, .int .i64 k1] 42)) (w.heap.size + 2) (Obj.cells #[.int .u32 l0, .int .i64 l1, .int .i64 l2, .int .i64 l3, .int .i64 l4] 40 (0, 0))) := ⟨(Blk.new (by rw [size_alloc, size_alloc])).alloc⟩
  have X3 : Aside0 (Blk ((((w.alloc (Obj.cells #[.int .u64 a0, .int .i64 a1, .int .u32 a2, .slice A L.length c] 26)).alloc (Obj.cells #[.int .u32 b0, .int .u32 b1, .int .i64 b2, .slice B M.length d, .int .i64 b4, .int .i64 b5] 30)).alloc (Obj.cells #[.int .u32 l0, .int .i64 l1, .int .i64 l2, .int .i64 l3, .int .i64 l4] 40)).alloc (Obj.cells #[.int .u32 k0, .int .i64 k1] 42)) (w.heap.size + 3) (Obj.cells #[.int .u32 k0, .int .i64 k1] 42 (0, 0))) := ⟨Blk.new (by rw [size_alloc, size_alloc, size_alloc])⟩
  have HW : Aside0 (Below w.heap.size w ((((w.alloc (Obj.cells #[.int .u64 a0, .int .i64 a1, .int .u32 a2, .slice A L.length c] 26)).alloc (Obj.cells #[.int .u32 b0, .int .u32 b1, .int .i64 b2, .slice B M.length d, .int .i64 b4, .int .i64 b5] 30)).alloc (Obj.cells #[.int .u32 l0, .int .i64 l1, .int .i64 l2, .int .i64 l3, .int .i64 l4] 40)).alloc (Obj.cells #[.int .u32 k0, .int .i64 k1] 42))) := ⟨below_alloc (below_alloc (below_alloc (below_alloc (Below.refl _ _) _) _) _) _⟩
  obtain ⟨wa, hwa⟩ : ∃ W, ((((w.alloc (Obj.cells #[.int .u64 a0, .int .i64 a1, .int .u32 a2, .slice A L.length c] 26)).alloc (Obj.cells #[.int .u32 b0, .int .u32 b1, .int .i64 b2, .slice B M.length d, .int .i64 b4, .int .i64 b5] 30)).alloc (Obj.cells #[.int .u32 l0, .int .i64 l1, .int .i64 l2, .int .i64 l3, .int .i64 l4] 40)).alloc (Obj.cells #[.int .u32 k0, .int .i64 k1] 42)) = W := ⟨_, rfl⟩
  rw [hwa] at X0 X1 X2 X3 HW ⊢
  have HCa := Aside0.mk (Kd.C_below HC.out HW.out)
  have HDa := Aside0.mk (Kd.C_below HD.out HW.out)
  obtain ⟨q, hq⟩ : ∃ q, w.heap.size = q := ⟨_, rfl⟩
  rw [hq] at X0 X1 X2 X3 HW ⊢
  have hqa : q ≤ wa.heap.size := Nat.le_of_lt X0.out.lt
  have HQA := Aside0.mk hqa
  have XB : Aside0 (∀ W : World, Below wa.heap.size wa W → (W.cell? ⟨q, 0, none⟩ = some (.int .u64 a0) ∧ W.cell? ⟨q, 1, none⟩ = some (.int .i64 a1) ∧ W.cell? ⟨q, 2, none⟩ = some (.int .u32 a2) ∧ W.cell? ⟨q, 3, none⟩ = some (.slice A L.length c) ∧ W.cell? ⟨q + 1, 0, none⟩ = some (.int .u32 b0) ∧ W.cell? ⟨q + 1, 1, none⟩ = some (.int .u32 b1) ∧ W.cell? ⟨q + 1, 2, none⟩ = some (.int .i64 b2) ∧ W.cell? ⟨q + 1, 3, none⟩ = some (.slice B M.length d) ∧ W.cell? ⟨q + 1, 4, none⟩ = some (.int .i64 b4) ∧ W.cell? ⟨q + 1, 5, none⟩ = some (.int .i64 b5)) ∧ (W.cell? ⟨q + 2, 0, none⟩ = some (.int .u32 l0) ∧ W.cell? ⟨q + 2, 1, none⟩ = some (.int .i64 l1) ∧ W.cell? ⟨q + 2, 2, none⟩ = some (.int .i64 l2) ∧ W.cell? ⟨q + 2, 3, none⟩ = some (.int .i64 l3) ∧ W.cell? ⟨q + 2, 4, none⟩ = some (.int .i64 l4) ∧ W.cell? ⟨q + 3, 0, none⟩ = some (.int .u32 k0) ∧ W.cell? ⟨q + 3, 1, none⟩ = some (.int .i64 k1))) := ⟨fun W hW => by
    have Y0 := X0.out.below hW
    have Y1 := X1.out.below hW
    have Y2 := X2.out.below hW
    have Y3 := X3.out.below hW
    exact ⟨⟨(Y0.cell 0).trans rfl, (Y0.cell 1).trans rfl, (Y0.cell 2).trans rfl, (Y0.cell 3).trans rfl, (Y1.cell 0).trans rfl, (Y1.cell 1).trans rfl, (Y1.cell 2).trans rfl, (Y1.cell 3).trans rfl, (Y1.cell 4).trans rfl, (Y1.cell 5).trans rfl⟩, ⟨(Y2.cell 0).trans rfl, (Y2.cell 1).trans rfl, (Y2.cell 2).trans rfl, (Y2.cell 3).trans rfl, (Y2.cell 4).trans rfl, (Y3.cell 0).trans rfl, (Y3.cell 1).trans rfl⟩⟩⟩
  have FIN : Aside0 (∀ W : World, Below wa.heap.size wa W → Below q w W) := ⟨fun W hW => HW.out.trans (below_weak_ hW HQA.out)⟩
  clear hwa X0 X1 X2 X3 HC HD hqa
  refine (kg.out wa HCa.out HDa.out).mono ?_
  rintro e w1 ⟨rfl, hb⟩
  have HB1 := Aside0.mk hb
  clear hb
  obtain ⟨⟨cp0, cp1, cp2, cp3, cv0, cv1, cv2, cv3, cv4, cv5⟩, ⟨cl0, cl1, cl2, cl3, cl4, ck0, ck1⟩⟩ := XB.out w1 HB1.out
  go_wp2_with fail
  clear cp0 cp1 cp2 cp3 cv0 cv1 cv2 cv3 cv4 cv5 cl0 cl1 cl2 cl3 cl4 ck0 ck1
  refine (kp.out w1 (Kd.C_below HCa.out HB1.out)).mono ?_
  rintro e w2 ⟨v1, rfl, hV, hb⟩
  obtain ⟨Ap, cp, rfl⟩ := Kd.R_slice hV
  have HB2 := Aside0.mk (below_step HB1.out hb)
  have C2 := Aside0.mk (Kd.R_reads' hV).2.2
  have LAp := Aside0.mk (Kd.R_reads' hV).2.1
  rw [HFp.out.len] at LAp ⊢
  clear hV hb HB1
  go_wp2_with fail
  refine (bgetp Ap cp mp Bp HFp.out.len a0 a1 a2 0 L w2 C2.out HFp.out.bytes (by have := HFp.out.top; omega) HFp.out.got).mono ?_
  rintro e w3 ⟨v3, rfl, hr, hb⟩
  obtain ⟨Aqp, cqp, rfl⟩ := Kd.R_slice hr
  have HB3 := Aside0.mk (below_step HB2.out hb)
  have C3 := Aside0.mk (Kd.C_below C2.out hb)
  have RQ3 := Aside0.mk (Kd.R_reads' hr).2.2
  have LQp := Aside0.mk (Kd.R_reads' hr).2.1
  clear hr hb C2 HB2
  have hal := below_alloc (Below.refl w3.heap.size w3) (Obj.cells #[.int .u64 a0, .int .i64 a1, .int .u32 a2, .slice Aqp L.length cqp] 26)
  have XQ4 : Aside0 (Blk (w3.alloc (Obj.cells #[.int .u64 a0, .int .i64 a1, .int .u32 a2, .slice Aqp L.length cqp] 26)) w3.heap.size (Obj.cells #[.int .u64 a0, .int .i64 a1, .int .u32 a2, .slice Aqp L.length cqp] 26 (0, 0))) := ⟨Blk.new_⟩
  have RQ4 := Aside0.mk (Kd.C_below RQ3.out hal)
  have C4 := Aside0.mk (Kd.C_below C3.out hal)
  have HB4 := Aside0.mk (below_step HB3.out hal)
  clear hal RQ3 C3 HB3
  obtain ⟨e1, t2⟩ := Go.Proofs.Ytdfmganmchmbjaa.Ext.cut_to .i64 (A := Ap) (c := cp) (xs := Bp) (b := mp - 1) (by rw [HFp.out.len]; omega) (by rw [HFp.out.len]; exact LAp.out) ((mp : Int) - 1) (by have := HFp.out.low; omega)
  have hw : IntKind.i64.wrap ((mp : Int) - 1) = (mp : Int) - 1 := by have := HFp.out.low; have := HFp.out.top; rw [IntKind.wrap_i64]; omega
  have hmax : (1 : Int) < (mp : Int) := by have := HFp.out.low; omega
  have HL1 : Aside0 ((Bp.take (mp - 1)).length = mp - 1) := ⟨by rw [List.length_take, HFp.out.len]; omega⟩
  rw [HFp.out.len] at e1
  go_wp2_with fail
  obtain ⟨w4, hwx⟩ : ∃ W, w3.alloc (Obj.cells #[.int .u64 a0, .int .i64 a1, .int .u32 a2, .slice Aqp L.length cqp] 26) = W := ⟨_, rfl⟩
  rw [hwx] at XQ4 RQ4 C4 HB4 ⊢
  obtain ⟨bqp, hbx⟩ : ∃ b, w3.heap.size = b := ⟨_, rfl⟩
  rw [hbx] at XQ4 ⊢
  clear hwx hbx
  refine (bgetp Ap cp (mp - 1) (Bp.take (mp - 1)) HL1.out 0 0 0 21 [] w4 (t2 w4 C4.out) (fun x hx => HFp.out.bytes x (List.mem_of_mem_take hx)) (by have := HFp.out.top; omega) HFp.out.less).mono ?_
  rintro e w5 ⟨v5, rfl, hr, hb⟩
  obtain ⟨yA, yc, ev⟩ := Kd.R_slice hr
  subst ev
  have HB5 := Aside0.mk (below_step HB4.out hb)
  have C5 := Aside0.mk (Kd.C_below C4.out hb)
  have XQ5 := Aside0.mk (XQ4.out.below hb)
  have RQ5 := Aside0.mk (Kd.C_below RQ4.out hb)
  clear hr hb e1 t2 hw hmax HL1 HB4 C4 XQ4 RQ4
  have hal := below_alloc (Below.refl w5.heap.size w5) (Obj.cells #[.int .u64 0, .int .i64 0, .int .u32 0, .slice yA 0 yc] 26)
  have HB6 := Aside0.mk (below_step HB5.out hal)
  have C6 := Aside0.mk (Kd.C_below C5.out hal)
  have XQ6 : Aside0 (Blk (w5.alloc (Obj.cells #[.int .u64 0, .int .i64 0, .int .u32 0, .slice yA 0 yc] 26)) bqp (Obj.cells #[.int .u64 a0, .int .i64 a1, .int .u32 a2, .slice Aqp L.length cqp] 26 (0, 0))) := ⟨XQ5.out.alloc⟩
  have RQ6 := Aside0.mk (Kd.C_below RQ5.out hal)
  have HM := Aside0.mk HFp.out.len
  have HT := Aside0.mk HFp.out.top
  clear hal HB5 C5 XQ5 RQ5
  go_wp2_with (first
    | (at_builtin; rw [← size_alloc w5 (Obj.cells #[.int .u64 0, .int .i64 0, .int .u32 0, .slice yA 0 yc] 26)]; generalize w5.alloc (Obj.cells #[.int .u64 0, .int .i64 0, .int .u32 0, .slice yA 0 yc] 26) = w6 at HB6 C6 XQ6 RQ6 ⊢; refine Kd.R_append_row (Value.int .u8) (0 : Int) (w0 := w6) w6.heap.size rfl (.tmp 56) (.tmp 57) 31 5 (.int .u8 0) 1 rfl Try.underlying31 infoU8 rfl (by decide) (.slice (some ⟨w6.heap.size, 0, none⟩) 0 0) [] Bp Ap mp cp (fun k => w6.heap.size ≤ k) rfl rfl (fun k hk => by simp at hk; omega) (R_empty w6 _ _ (Nat.le_refl _) (Nat.le_refl _)) (by have := Kd.C_alloc C6.out (Obj.cells #[] 5); rw [HM.out] at this; exact this) (below_alloc (Below.refl _ _) _) (by simp) (by have := HT.out; have := HM.out; simp; omega) ?_; intro v8 w8' ho hb hg hat; simp only [List.nil_append] at ho; obtain ⟨Av, cv, ev⟩ := Kd.R_slice ho; subst ev; have HO := Aside0.mk ho; have HBx := Aside0.mk hb; clear ho hb hg hat)
    | (at_builtin; refine Kd.R_append_row (Value.int .u8) (0 : Int) (w0 := w6) w6.heap.size rfl (.tmp 58) (.tmp 60) 31 5 (.int .u8 0) 1 rfl Try.underlying31 infoU8 rfl (by decide) (.slice Av Bp.length cv) Bp [more] (some ⟨w8'.heap.size, 0, none⟩) 1 1 (fun k => w6.heap.size ≤ k) rfl rfl (fun k hk => Nat.le_trans HBx.out.size (by rw [size_alloc] at hk; omega)) (Kd.R_below HO.out (below_alloc (Below.refl _ _) _)) (C_block (xs := [more]) (heap_new _ _) rfl (by simp)) (below_alloc HBx.out _) (Nat.le_trans HBx.out.size (by rw [size_alloc]; omega)) (by have := HT.out; have := HM.out; simp; omega) ?_; intro v9 w7 ho hb hg hat; obtain ⟨Aip, cip, ev⟩ := Kd.R_slice ho; subst ev; have HI := Aside0.mk (Kd.R_reads' ho); have HBy := Aside0.mk hb; clear ho hb hg hat))
  have hl9 : (Bp ++ [more]).length = Bp.length + 1 := by simp
  have C9 := Aside0.mk HI.out.2.2
  have B9 : ∀ x ∈ Bp ++ [more], IsByte x := fun x hx => by
    rcases List.mem_append.1 hx with h | h
    · exact HFp.out.bytes x h
    · rw [List.mem_singleton.1 h]; exact HFp.out.mbyte
  have HB7 := Aside0.mk (below_step HB6.out HBy.out)
  have XQ7 := Aside0.mk (XQ6.out.below HBy.out)
  have RQ7 := Aside0.mk (Kd.C_below RQ6.out HBy.out)
  clear HB6 C6 XQ6 RQ6 HO HBx HBy HI
  refine (bgetp Aip cip (Bp.length + 1) (Bp ++ [more]) hl9 0 0 0 21 [] w7 C9.out B9 (by have := HT.out; have := HM.out; omega) HFp.out.plus).mono ?_
  rintro e w8 ⟨v10, rfl, hr, hb⟩
  obtain ⟨zA, zc, ev⟩ := Kd.R_slice hr
  subst ev
  have HB8 := Aside0.mk (below_step HB7.out hb)
  have XQ8 := Aside0.mk (XQ7.out.below hb)
  have RQ8 := Aside0.mk (Kd.C_below RQ7.out hb)
  clear hr hb HB7 XQ7 RQ7 C9 B9 hl9 HM HT
  have HAL := Aside0.mk (below_alloc (Below.refl w8.heap.size w8) (Obj.cells #[.int .u64 0, .int .i64 0, .int .u32 0, .slice zA 0 zc] 26))
  obtain ⟨⟨cp0, cp1, cp2, cp3, cv0, cv1, cv2, cv3, cv4, cv5⟩, ⟨cl0, cl1, cl2, cl3, cl4, ck0, ck1⟩⟩ := XB.out (w8.alloc (Obj.cells #[.int .u64 0, .int .i64 0, .int .u32 0, .slice zA 0 zc] 26)) (below_step HB8.out HAL.out)
  have q0 : (w8.alloc (Obj.cells #[.int .u64 0, .int .i64 0, .int .u32 0, .slice zA 0 zc] 26)).cell? ⟨bqp, 0, none⟩ = some (.int .u64 a0) := (XQ8.out.alloc.cell 0).trans rfl
  have q1 : (w8.alloc (Obj.cells #[.int .u64 0, .int .i64 0, .int .u32 0, .slice zA 0 zc] 26)).cell? ⟨bqp, 1, none⟩ = some (.int .i64 a1) := (XQ8.out.alloc.cell 1).trans rfl
  have q2 : (w8.alloc (Obj.cells #[.int .u64 0, .int .i64 0, .int .u32 0, .slice zA 0 zc] 26)).cell? ⟨bqp, 2, none⟩ = some (.int .u32 a2) := (XQ8.out.alloc.cell 2).trans rfl
  have q3 : (w8.alloc (Obj.cells #[.int .u64 0, .int .i64 0, .int .u32 0, .slice zA 0 zc] 26)).cell? ⟨bqp, 3, none⟩ = some (.slice Aqp L.length cqp) := (XQ8.out.alloc.cell 3).trans rfl
  go_wp2_with fail
  refine (psame_calls a0 a1 a2 A Aqp c cqp L _ HSp.out (Kd.C_below HCa.out (below_step HB8.out HAL.out)) HC1.out (Kd.C_below RQ8.out HAL.out) LQp.out).mono ?_
  rintro e w9 ⟨rfl, hb⟩
  have HB9 := Aside0.mk (below_step (below_step HB8.out HAL.out) hb)
  clear hb cp0 cp1 cp2 cp3 cv0 cv1 cv2 cv3 cv4 cv5 cl0 cl1 cl2 cl3 cl4 ck0 ck1 q0 q1 q2 q3 HAL XQ8 RQ8 HB8 LQp
  obtain ⟨⟨cp0, cp1, cp2, cp3, cv0, cv1, cv2, cv3, cv4, cv5⟩, ⟨cl0, cl1, cl2, cl3, cl4, ck0, ck1⟩⟩ := XB.out w9 HB9.out
  go_wp2_with fail
  clear cp0 cp1 cp2 cp3 cv0 cv1 cv2 cv3 cv4 cv5 cl0 cl1 cl2 cl3 cl4 ck0 ck1
  refine (ki.out w9 (Kd.C_below HDa.out HB9.out)).mono ?_
  rintro e w10 ⟨rfl, hb⟩
  have HB10 := Aside0.mk (below_step HB9.out hb)
  clear hb HB9
  obtain ⟨⟨cp0, cp1, cp2, cp3, cv0, cv1, cv2, cv3, cv4, cv5⟩, ⟨cl0, cl1, cl2, cl3, cl4, ck0, ck1⟩⟩ := XB.out w10 HB10.out
  go_wp2_with fail
  clear cp0 cp1 cp2 cp3 cv0 cv1 cv2 cv3 cv4 cv5 cl0 cl1 cl2 cl3 cl4 ck0 ck1
  refine (elease_all l0 l1 l2 l3 l4 w10).mono ?_
  rintro e w11 ⟨vl, rfl, hV, hb⟩
  obtain ⟨Al, cl, rfl⟩ := Kd.R_slice hV
  have HB11 := Aside0.mk (below_step HB10.out hb)
  have C11 := Aside0.mk (Kd.R_reads' hV).2.2
  rw [elease_len]
  clear hV hb HB10
  go_wp2_with fail
  refine (bgetl Al cl 40 (eleaseb l0 l1 l2 l3 l4) (elease_len l0 l1 l2 l3 l4) l0 l1 l2 l3 l4 0 w11 C11.out (elease_bytes l0 l1 l2 l3 l4) (by omega) HLA.out).mono ?_
  rintro e w12 ⟨rfl, hb⟩
  have HB12 := Aside0.mk (below_step HB11.out hb)
  clear hb C11 HB11
  have hal := below_alloc (Below.refl w12.heap.size w12) (Obj.cells #[.int .u32 l0, .int .i64 l1, .int .i64 l2, .int .i64 l3, .int .i64 l4] 40)
  have HB13 := Aside0.mk (below_step HB12.out hal)
  have XL13 : Aside0 (Blk (w12.alloc (Obj.cells #[.int .u32 l0, .int .i64 l1, .int .i64 l2, .int .i64 l3, .int .i64 l4] 40)) w12.heap.size (Obj.cells #[.int .u32 l0, .int .i64 l1, .int .i64 l2, .int .i64 l3, .int .i64 l4] 40 (0, 0))) := ⟨Blk.new_⟩
  obtain ⟨⟨cp0, cp1, cp2, cp3, cv0, cv1, cv2, cv3, cv4, cv5⟩, ⟨cl0, cl1, cl2, cl3, cl4, ck0, ck1⟩⟩ := XB.out (w12.alloc (Obj.cells #[.int .u32 l0, .int .i64 l1, .int .i64 l2, .int .i64 l3, .int .i64 l4] 40)) HB13.out
  go_wp2_with fail
  clear cp0 cp1 cp2 cp3 cv0 cv1 cv2 cv3 cv4 cv5 cl0 cl1 cl2 cl3 cl4 ck0 ck1 hal HB12
  obtain ⟨w13, hwx⟩ : ∃ W, w12.alloc (Obj.cells #[.int .u32 l0, .int .i64 l1, .int .i64 l2, .int .i64 l3, .int .i64 l4] 40) = W := ⟨_, rfl⟩
  rw [hwx] at XL13 HB13 ⊢
  obtain ⟨bl, hbx⟩ : ∃ b, w12.heap.size = b := ⟨_, rfl⟩
  rw [hbx] at XL13 ⊢
  clear hwx hbx
  refine (epack_all k0 k1 w13).mono ?_
  rintro e w14 ⟨vk, rfl, hV, hb⟩
  obtain ⟨Ak, ck, rfl⟩ := Kd.R_slice hV
  have HB14 := Aside0.mk (below_step HB13.out hb)
  have XL14 := Aside0.mk (XL13.out.below hb)
  have C14 := Aside0.mk (Kd.R_reads' hV).2.2
  rw [epack_len]
  clear hV hb HB13 XL13
  go_wp2_with fail
  refine (bgetk Ak ck 16 (epackb k0 k1) (epack_len k0 k1) k0 k1 0 w14 C14.out (epack_bytes k0 k1) (by omega) HKA.out).mono ?_
  rintro e w15 ⟨rfl, hb⟩
  have HB15 := Aside0.mk (below_step HB14.out hb)
  have XL15 := Aside0.mk (XL14.out.below hb)
  clear hb C14 HB14 XL14
  have hal := below_alloc (Below.refl w15.heap.size w15) (Obj.cells #[.int .u32 k0, .int .i64 k1] 42)
  have HB16 := Aside0.mk (below_step HB15.out hal)
  have XK : Aside0 (Blk (w15.alloc (Obj.cells #[.int .u32 k0, .int .i64 k1] 42)) w15.heap.size (Obj.cells #[.int .u32 k0, .int .i64 k1] 42 (0, 0))) := ⟨Blk.new_⟩
  obtain ⟨⟨cp0, cp1, cp2, cp3, cv0, cv1, cv2, cv3, cv4, cv5⟩, ⟨cl0, cl1, cl2, cl3, cl4, ck0, ck1⟩⟩ := XB.out (w15.alloc (Obj.cells #[.int .u32 k0, .int .i64 k1] 42)) HB16.out
  have d0 : (w15.alloc (Obj.cells #[.int .u32 k0, .int .i64 k1] 42)).cell? ⟨bl, 0, none⟩ = some (.int .u32 l0) := (XL15.out.alloc.cell 0).trans rfl
  have d1 : (w15.alloc (Obj.cells #[.int .u32 k0, .int .i64 k1] 42)).cell? ⟨bl, 1, none⟩ = some (.int .i64 l1) := (XL15.out.alloc.cell 1).trans rfl
  have d2 : (w15.alloc (Obj.cells #[.int .u32 k0, .int .i64 k1] 42)).cell? ⟨bl, 2, none⟩ = some (.int .i64 l2) := (XL15.out.alloc.cell 2).trans rfl
  have d3 : (w15.alloc (Obj.cells #[.int .u32 k0, .int .i64 k1] 42)).cell? ⟨bl, 3, none⟩ = some (.int .i64 l3) := (XL15.out.alloc.cell 3).trans rfl
  have d4 : (w15.alloc (Obj.cells #[.int .u32 k0, .int .i64 k1] 42)).cell? ⟨bl, 4, none⟩ = some (.int .i64 l4) := (XL15.out.alloc.cell 4).trans rfl
  have g0 : (w15.alloc (Obj.cells #[.int .u32 k0, .int .i64 k1] 42)).cell? ⟨w15.heap.size, 0, none⟩ = some (.int .u32 k0) := (XK.out.cell 0).trans rfl
  have g1 : (w15.alloc (Obj.cells #[.int .u32 k0, .int .i64 k1] 42)).cell? ⟨w15.heap.size, 1, none⟩ = some (.int .i64 k1) := (XK.out.cell 1).trans rfl
  clear hal
  go_wp2_with fail
  clear cp0 cp1 cp2 cp3 cv0 cv1 cv2 cv3 cv4 cv5 cl0 cl1 cl2 cl3 cl4 ck0 ck1 d0 d1 d2 d3 d4 g0 g1
  refine (kgo.out _).mono ?_
  rintro e w17 ⟨rfl, hb⟩
  have HB17 := Aside0.mk (below_step HB16.out hb)
  clear hb
  go_wp2_with fail
  go_ret
  exact ⟨rfl, by rw [hq]; exact FIN.out _ HB17.out⟩
set_option maxRecDepth 100000 in
set_option maxHeartbeats 6400000 in
theorem back_ft (more a0 a1 a2 b0 b1 b2 b4 b5 l0 l1 l2 l3 l4 k0 k1 : Int) (A B : Option Addr) (c d : Nat) (L : List S37) (M : List S53) (w : World) (hC : Kd.C k37 w A L.length L) (hc : L.length ≤ c) (hD : Kd.C k53 w B M.length M) (hd : M.length ≤ d) (ha : 0 ≤ a0 ∧ a0 < top64) (hb0 : 0 ≤ b0) (hb1 : 0 ≤ b1) (hmo : IsByte more) (h2 : 0 ≤ a2 ∧ a2 < 4294967296) (hi : IOk b0 b1 b2 b4 b5 M) (hl0 : U32r l0) (hl1 : I64r l1) (hl2 : I64r l2) (hl3 : I64r l3) (hl4 : I64r l4) (hk0 : U32r k0) (hk1 : I64r k1) (hg : PZ.quitrentlaw14_great.f 60 a0 a1 a2 L b0 b1 b2 M b4 b5 = some false) (hP : eposts a0 a1 L = false) (hI : ebills b0 b1 b4 b5 M = true) :
    Calls Try.prog 6 #[.agg #[.int .u64 a0, .int .i64 a1, .int .u32 a2, .slice A L.length c], .agg #[.int .u32 b0, .int .u32 b1, .int .i64 b2, .slice B M.length d, .int .i64 b4, .int .i64 b5], .agg #[.int .u32 l0, .int .i64 l1, .int .i64 l2, .int .i64 l3, .int .i64 l4], .agg #[.int .u32 k0, .int .i64 k1], .int .u8 more] w fun e w' => e = .returned (.bool true) ∧ Below w.heap.size w w' := by
  have kg := Aside0.mk (fun w hC hD => PZ.quitrentlaw14_great.calls 60 a0 a1 a2 A c L b0 b1 b2 B d M b4 b5 false w hC hc hD hd hg)
  have kp := Aside0.mk (fun w hC => putposting_no a0 a1 a2 A c L w hC hP)
  have ki := Aside0.mk (fun w hD => putinvoice_yes b0 b1 b2 b4 b5 B d M w hD hI)
  obtain ⟨mi, hfi⟩ := ifacts b0 b1 b2 b4 b5 M more hi hI hmo
  have HSi := Aside0.mk (show M.length ≤ 50 by have := ebills_len hI; omega)
  obtain ⟨Bi, hBi⟩ : ∃ B, einv b0 b1 b2 b4 b5 M = B := ⟨_, rfl⟩
  rw [hBi] at ki hfi
  have HFi := Aside0.mk hfi
  clear hBi hfi
  have HLA := Aside0.mk (lease_app l0 l1 l2 l3 l4 hl0 hl1 hl2 hl3 hl4)
  have HKA := Aside0.mk (pack_app k0 k1 hk0 hk1)
  have kgo := Aside0.mk (fun w => PZ.quitrentlaw14_goes.calls true w goes_is)
  have HC1 := Aside0.mk hc
  have HD1 := Aside0.mk hd
  have HC := Aside0.mk hC
  have HD := Aside0.mk hD
  clear hC hD hc hd ha hb0 hb1 hg hP hI hmo h2 hi hl0 hl1 hl2 hl3 hl4 hk0 hk1
  go_enter Try.func6, Try.ntmps6
  go_wp2_with fail
  have X0 : Aside0 (Blk ((((w.alloc (Obj.cells #[.int .u64 a0, .int .i64 a1, .int .u32 a2, .slice A L.length c] 26)).alloc (Obj.cells #[.int .u32 b0, .int .u32 b1, .int .i64 b2, .slice B M.length d, .int .i64 b4, .int .i64 b5] 30)).alloc (Obj.cells #[.int .u32 l0, .int .i64 l1, .int .i64 l2, .int .i64 l3, .int .i64 l4] 40)).alloc (Obj.cells #[.int .u32 k0, .int .i64 k1] 42)) w.heap.size (Obj.cells #[.int .u64 a0, .int .i64 a1, .int .u32 a2, .slice A L.length c] 26 (0, 0))) := ⟨Blk.new_.alloc.alloc.alloc⟩
  have X1 : Aside0 (Blk ((((w.alloc (Obj.cells #[.int .u64 a0, .int .i64 a1, .int .u32 a2, .slice A L.length c] 26)).alloc (Obj.cells #[.int .u32 b0, .int .u32 b1, .int .i64 b2, .slice B M.length d, .int .i64 b4, .int .i64 b5] 30)).alloc (Obj.cells #[.int .u32 l0, .int .i64 l1, .int .i64 l2, .int .i64 l3, .int .i64 l4] 40)).alloc (Obj.cells #[.int .u32 k0, .int .i64 k1] 42)) (w.heap.size + 1) (Obj.cells #[.int .u32 b0, .int .u32 b1, .int .i64 b2, .slice B M.length d, .int .i64 b4, .int .i64 b5] 30 (0, 0))) := ⟨(Blk.new (by rw [size_alloc])).alloc.alloc⟩
  have X2 : Aside0 (Blk ((((w.alloc (Obj.cells #[.int .u64 a0, .int .i64 a1, .int .u32 a2, .slice A L.length c] 26)).alloc (Obj.cells #[.int .u32 b0, .int .u32 b1, .int .i64 b2, .slice B M.length d, .int .i64 b4, .int .i64 b5] 30)).alloc (Obj.cells #[.int .u32 l0, .int .i64 l1, .int .i64 l2, .int .i64 l3, .int .i64 l4] 40)).alloc (Obj.cells #[.int .u32 k0, .int .i64 k1] 42)) (w.heap.size + 2) (Obj.cells #[.int .u32 l0, .int .i64 l1, .int .i64 l2, .int .i64 l3, .int .i64 l4] 40 (0, 0))) := ⟨(Blk.new (by rw [size_alloc, size_alloc])).alloc⟩
  have X3 : Aside0 (Blk ((((w.alloc (Obj.cells #[.int .u64 a0, .int .i64 a1, .int .u32 a2, .slice A L.length c] 26)).alloc (Obj.cells #[.int .u32 b0, .int .u32 b1, .int .i64 b2, .slice B M.length d, .int .i64 b4, .int .i64 b5] 30)).alloc (Obj.cells #[.int .u32 l0, .int .i64 l1, .int .i64 l2, .int .i64 l3, .int .i64 l4] 40)).alloc (Obj.cells #[.int .u32 k0, .int .i64 k1] 42)) (w.heap.size + 3) (Obj.cells #[.int .u32 k0, .int .i64 k1] 42 (0, 0))) := ⟨Blk.new (by rw [size_alloc, size_alloc, size_alloc])⟩
  have HW : Aside0 (Below w.heap.size w ((((w.alloc (Obj.cells #[.int .u64 a0, .int .i64 a1, .int .u32 a2, .slice A L.length c] 26)).alloc (Obj.cells #[.int .u32 b0, .int .u32 b1, .int .i64 b2, .slice B M.length d, .int .i64 b4, .int .i64 b5] 30)).alloc (Obj.cells #[.int .u32 l0, .int .i64 l1, .int .i64 l2, .int .i64 l3, .int .i64 l4] 40)).alloc (Obj.cells #[.int .u32 k0, .int .i64 k1] 42))) := ⟨below_alloc (below_alloc (below_alloc (below_alloc (Below.refl _ _) _) _) _) _⟩
  obtain ⟨wa, hwa⟩ : ∃ W, ((((w.alloc (Obj.cells #[.int .u64 a0, .int .i64 a1, .int .u32 a2, .slice A L.length c] 26)).alloc (Obj.cells #[.int .u32 b0, .int .u32 b1, .int .i64 b2, .slice B M.length d, .int .i64 b4, .int .i64 b5] 30)).alloc (Obj.cells #[.int .u32 l0, .int .i64 l1, .int .i64 l2, .int .i64 l3, .int .i64 l4] 40)).alloc (Obj.cells #[.int .u32 k0, .int .i64 k1] 42)) = W := ⟨_, rfl⟩
  rw [hwa] at X0 X1 X2 X3 HW ⊢
  have HCa := Aside0.mk (Kd.C_below HC.out HW.out)
  have HDa := Aside0.mk (Kd.C_below HD.out HW.out)
  obtain ⟨q, hq⟩ : ∃ q, w.heap.size = q := ⟨_, rfl⟩
  rw [hq] at X0 X1 X2 X3 HW ⊢
  have hqa : q ≤ wa.heap.size := Nat.le_of_lt X0.out.lt
  have HQA := Aside0.mk hqa
  have XB : Aside0 (∀ W : World, Below wa.heap.size wa W → (W.cell? ⟨q, 0, none⟩ = some (.int .u64 a0) ∧ W.cell? ⟨q, 1, none⟩ = some (.int .i64 a1) ∧ W.cell? ⟨q, 2, none⟩ = some (.int .u32 a2) ∧ W.cell? ⟨q, 3, none⟩ = some (.slice A L.length c) ∧ W.cell? ⟨q + 1, 0, none⟩ = some (.int .u32 b0) ∧ W.cell? ⟨q + 1, 1, none⟩ = some (.int .u32 b1) ∧ W.cell? ⟨q + 1, 2, none⟩ = some (.int .i64 b2) ∧ W.cell? ⟨q + 1, 3, none⟩ = some (.slice B M.length d) ∧ W.cell? ⟨q + 1, 4, none⟩ = some (.int .i64 b4) ∧ W.cell? ⟨q + 1, 5, none⟩ = some (.int .i64 b5)) ∧ (W.cell? ⟨q + 2, 0, none⟩ = some (.int .u32 l0) ∧ W.cell? ⟨q + 2, 1, none⟩ = some (.int .i64 l1) ∧ W.cell? ⟨q + 2, 2, none⟩ = some (.int .i64 l2) ∧ W.cell? ⟨q + 2, 3, none⟩ = some (.int .i64 l3) ∧ W.cell? ⟨q + 2, 4, none⟩ = some (.int .i64 l4) ∧ W.cell? ⟨q + 3, 0, none⟩ = some (.int .u32 k0) ∧ W.cell? ⟨q + 3, 1, none⟩ = some (.int .i64 k1))) := ⟨fun W hW => by
    have Y0 := X0.out.below hW
    have Y1 := X1.out.below hW
    have Y2 := X2.out.below hW
    have Y3 := X3.out.below hW
    exact ⟨⟨(Y0.cell 0).trans rfl, (Y0.cell 1).trans rfl, (Y0.cell 2).trans rfl, (Y0.cell 3).trans rfl, (Y1.cell 0).trans rfl, (Y1.cell 1).trans rfl, (Y1.cell 2).trans rfl, (Y1.cell 3).trans rfl, (Y1.cell 4).trans rfl, (Y1.cell 5).trans rfl⟩, ⟨(Y2.cell 0).trans rfl, (Y2.cell 1).trans rfl, (Y2.cell 2).trans rfl, (Y2.cell 3).trans rfl, (Y2.cell 4).trans rfl, (Y3.cell 0).trans rfl, (Y3.cell 1).trans rfl⟩⟩⟩
  have FIN : Aside0 (∀ W : World, Below wa.heap.size wa W → Below q w W) := ⟨fun W hW => HW.out.trans (below_weak_ hW HQA.out)⟩
  clear hwa X0 X1 X2 X3 HC HD hqa
  refine (kg.out wa HCa.out HDa.out).mono ?_
  rintro e w1 ⟨rfl, hb⟩
  have HB1 := Aside0.mk hb
  clear hb
  obtain ⟨⟨cp0, cp1, cp2, cp3, cv0, cv1, cv2, cv3, cv4, cv5⟩, ⟨cl0, cl1, cl2, cl3, cl4, ck0, ck1⟩⟩ := XB.out w1 HB1.out
  go_wp2_with fail
  clear cp0 cp1 cp2 cp3 cv0 cv1 cv2 cv3 cv4 cv5 cl0 cl1 cl2 cl3 cl4 ck0 ck1
  refine (kp.out w1 (Kd.C_below HCa.out HB1.out)).mono ?_
  rintro e w2 ⟨rfl, hb⟩
  have HB2 := Aside0.mk (below_step HB1.out hb)
  clear hb HB1
  obtain ⟨⟨cp0, cp1, cp2, cp3, cv0, cv1, cv2, cv3, cv4, cv5⟩, ⟨cl0, cl1, cl2, cl3, cl4, ck0, ck1⟩⟩ := XB.out w2 HB2.out
  go_wp2_with fail
  clear cp0 cp1 cp2 cp3 cv0 cv1 cv2 cv3 cv4 cv5 cl0 cl1 cl2 cl3 cl4 ck0 ck1
  refine (ki.out w2 (Kd.C_below HDa.out HB2.out)).mono ?_
  rintro e w3 ⟨v1, rfl, hV, hb⟩
  obtain ⟨Ai, ci, rfl⟩ := Kd.R_slice hV
  have HB3 := Aside0.mk (below_step HB2.out hb)
  have C3 := Aside0.mk (Kd.R_reads' hV).2.2
  have LAi := Aside0.mk (Kd.R_reads' hV).2.1
  rw [HFi.out.len] at LAi ⊢
  clear hV hb HB2
  go_wp2_with fail
  refine (bgeti Ai ci mi Bi HFi.out.len b0 b1 b2 b4 b5 0 M w3 C3.out HFi.out.bytes (by have := HFi.out.top; omega) HFi.out.got).mono ?_
  rintro e w4 ⟨v3, rfl, hr, hb⟩
  obtain ⟨Aqi, cqi, rfl⟩ := Kd.R_slice hr
  have HB4 := Aside0.mk (below_step HB3.out hb)
  have C4 := Aside0.mk (Kd.C_below C3.out hb)
  have RQ4 := Aside0.mk (Kd.R_reads' hr).2.2
  have LQi := Aside0.mk (Kd.R_reads' hr).2.1
  clear hr hb C3 HB3
  have hal := below_alloc (Below.refl w4.heap.size w4) (Obj.cells #[.int .u32 b0, .int .u32 b1, .int .i64 b2, .slice Aqi M.length cqi, .int .i64 b4, .int .i64 b5] 30)
  have XQ5 : Aside0 (Blk (w4.alloc (Obj.cells #[.int .u32 b0, .int .u32 b1, .int .i64 b2, .slice Aqi M.length cqi, .int .i64 b4, .int .i64 b5] 30)) w4.heap.size (Obj.cells #[.int .u32 b0, .int .u32 b1, .int .i64 b2, .slice Aqi M.length cqi, .int .i64 b4, .int .i64 b5] 30 (0, 0))) := ⟨Blk.new_⟩
  have RQ5 := Aside0.mk (Kd.C_below RQ4.out hal)
  have C5 := Aside0.mk (Kd.C_below C4.out hal)
  have HB5 := Aside0.mk (below_step HB4.out hal)
  clear hal RQ4 C4 HB4
  obtain ⟨e1, t2⟩ := Go.Proofs.Ytdfmganmchmbjaa.Ext.cut_to .i64 (A := Ai) (c := ci) (xs := Bi) (b := mi - 1) (by rw [HFi.out.len]; omega) (by rw [HFi.out.len]; exact LAi.out) ((mi : Int) - 1) (by have := HFi.out.low; omega)
  have hw : IntKind.i64.wrap ((mi : Int) - 1) = (mi : Int) - 1 := by have := HFi.out.low; have := HFi.out.top; rw [IntKind.wrap_i64]; omega
  have hmax : (1 : Int) < (mi : Int) := by have := HFi.out.low; omega
  have HL1 : Aside0 ((Bi.take (mi - 1)).length = mi - 1) := ⟨by rw [List.length_take, HFi.out.len]; omega⟩
  rw [HFi.out.len] at e1
  go_wp2_with fail
  obtain ⟨w5, hwx⟩ : ∃ W, w4.alloc (Obj.cells #[.int .u32 b0, .int .u32 b1, .int .i64 b2, .slice Aqi M.length cqi, .int .i64 b4, .int .i64 b5] 30) = W := ⟨_, rfl⟩
  rw [hwx] at XQ5 RQ5 C5 HB5 ⊢
  obtain ⟨bqi, hbx⟩ : ∃ b, w4.heap.size = b := ⟨_, rfl⟩
  rw [hbx] at XQ5 ⊢
  clear hwx hbx
  refine (bgeti Ai ci (mi - 1) (Bi.take (mi - 1)) HL1.out 0 0 0 0 0 21 [] w5 (t2 w5 C5.out) (fun x hx => HFi.out.bytes x (List.mem_of_mem_take hx)) (by have := HFi.out.top; omega) HFi.out.less).mono ?_
  rintro e w6 ⟨v5, rfl, hr, hb⟩
  obtain ⟨yA, yc, ev⟩ := Kd.R_slice hr
  subst ev
  have HB6 := Aside0.mk (below_step HB5.out hb)
  have C6 := Aside0.mk (Kd.C_below C5.out hb)
  have XQ6 := Aside0.mk (XQ5.out.below hb)
  have RQ6 := Aside0.mk (Kd.C_below RQ5.out hb)
  clear hr hb e1 t2 hw hmax HL1 HB5 C5 XQ5 RQ5
  have hal := below_alloc (Below.refl w6.heap.size w6) (Obj.cells #[.int .u32 0, .int .u32 0, .int .i64 0, .slice yA 0 yc, .int .i64 0, .int .i64 0] 30)
  have HB7 := Aside0.mk (below_step HB6.out hal)
  have C7 := Aside0.mk (Kd.C_below C6.out hal)
  have XQ7 : Aside0 (Blk (w6.alloc (Obj.cells #[.int .u32 0, .int .u32 0, .int .i64 0, .slice yA 0 yc, .int .i64 0, .int .i64 0] 30)) bqi (Obj.cells #[.int .u32 b0, .int .u32 b1, .int .i64 b2, .slice Aqi M.length cqi, .int .i64 b4, .int .i64 b5] 30 (0, 0))) := ⟨XQ6.out.alloc⟩
  have RQ7 := Aside0.mk (Kd.C_below RQ6.out hal)
  have HM := Aside0.mk HFi.out.len
  have HT := Aside0.mk HFi.out.top
  clear hal HB6 C6 XQ6 RQ6
  go_wp2_with (first
    | (at_builtin; rw [← size_alloc w6 (Obj.cells #[.int .u32 0, .int .u32 0, .int .i64 0, .slice yA 0 yc, .int .i64 0, .int .i64 0] 30)]; generalize w6.alloc (Obj.cells #[.int .u32 0, .int .u32 0, .int .i64 0, .slice yA 0 yc, .int .i64 0, .int .i64 0] 30) = w7 at HB7 C7 XQ7 RQ7 ⊢; refine Kd.R_append_row (Value.int .u8) (0 : Int) (w0 := w7) w7.heap.size rfl (.tmp 104) (.tmp 105) 31 5 (.int .u8 0) 1 rfl Try.underlying31 infoU8 rfl (by decide) (.slice (some ⟨w7.heap.size, 0, none⟩) 0 0) [] Bi Ai mi ci (fun k => w7.heap.size ≤ k) rfl rfl (fun k hk => by simp at hk; omega) (R_empty w7 _ _ (Nat.le_refl _) (Nat.le_refl _)) (by have := Kd.C_alloc C7.out (Obj.cells #[] 5); rw [HM.out] at this; exact this) (below_alloc (Below.refl _ _) _) (by simp) (by have := HT.out; have := HM.out; simp; omega) ?_; intro v8 w8' ho hb hg hat; simp only [List.nil_append] at ho; obtain ⟨Av, cv, ev⟩ := Kd.R_slice ho; subst ev; have HO := Aside0.mk ho; have HBx := Aside0.mk hb; clear ho hb hg hat)
    | (at_builtin; refine Kd.R_append_row (Value.int .u8) (0 : Int) (w0 := w7) w7.heap.size rfl (.tmp 106) (.tmp 108) 31 5 (.int .u8 0) 1 rfl Try.underlying31 infoU8 rfl (by decide) (.slice Av Bi.length cv) Bi [more] (some ⟨w8'.heap.size, 0, none⟩) 1 1 (fun k => w7.heap.size ≤ k) rfl rfl (fun k hk => Nat.le_trans HBx.out.size (by rw [size_alloc] at hk; omega)) (Kd.R_below HO.out (below_alloc (Below.refl _ _) _)) (C_block (xs := [more]) (heap_new _ _) rfl (by simp)) (below_alloc HBx.out _) (Nat.le_trans HBx.out.size (by rw [size_alloc]; omega)) (by have := HT.out; have := HM.out; simp; omega) ?_; intro v9 w8 ho hb hg hat; obtain ⟨Aii, cii, ev⟩ := Kd.R_slice ho; subst ev; have HI := Aside0.mk (Kd.R_reads' ho); have HBy := Aside0.mk hb; clear ho hb hg hat))
  have hl9 : (Bi ++ [more]).length = Bi.length + 1 := by simp
  have C9 := Aside0.mk HI.out.2.2
  have B9 : ∀ x ∈ Bi ++ [more], IsByte x := fun x hx => by
    rcases List.mem_append.1 hx with h | h
    · exact HFi.out.bytes x h
    · rw [List.mem_singleton.1 h]; exact HFi.out.mbyte
  have HB8 := Aside0.mk (below_step HB7.out HBy.out)
  have XQ8 := Aside0.mk (XQ7.out.below HBy.out)
  have RQ8 := Aside0.mk (Kd.C_below RQ7.out HBy.out)
  clear HB7 C7 XQ7 RQ7 HO HBx HBy HI
  refine (bgeti Aii cii (Bi.length + 1) (Bi ++ [more]) hl9 0 0 0 0 0 21 [] w8 C9.out B9 (by have := HT.out; have := HM.out; omega) HFi.out.plus).mono ?_
  rintro e w9 ⟨v10, rfl, hr, hb⟩
  obtain ⟨zA, zc, ev⟩ := Kd.R_slice hr
  subst ev
  have HB9 := Aside0.mk (below_step HB8.out hb)
  have XQ9 := Aside0.mk (XQ8.out.below hb)
  have RQ9 := Aside0.mk (Kd.C_below RQ8.out hb)
  clear hr hb HB8 XQ8 RQ8 C9 B9 hl9 HM HT
  have HAL := Aside0.mk (below_alloc (Below.refl w9.heap.size w9) (Obj.cells #[.int .u32 0, .int .u32 0, .int .i64 0, .slice zA 0 zc, .int .i64 0, .int .i64 0] 30))
  obtain ⟨⟨cp0, cp1, cp2, cp3, cv0, cv1, cv2, cv3, cv4, cv5⟩, ⟨cl0, cl1, cl2, cl3, cl4, ck0, ck1⟩⟩ := XB.out (w9.alloc (Obj.cells #[.int .u32 0, .int .u32 0, .int .i64 0, .slice zA 0 zc, .int .i64 0, .int .i64 0] 30)) (below_step HB9.out HAL.out)
  have q0 : (w9.alloc (Obj.cells #[.int .u32 0, .int .u32 0, .int .i64 0, .slice zA 0 zc, .int .i64 0, .int .i64 0] 30)).cell? ⟨bqi, 0, none⟩ = some (.int .u32 b0) := (XQ9.out.alloc.cell 0).trans rfl
  have q1 : (w9.alloc (Obj.cells #[.int .u32 0, .int .u32 0, .int .i64 0, .slice zA 0 zc, .int .i64 0, .int .i64 0] 30)).cell? ⟨bqi, 1, none⟩ = some (.int .u32 b1) := (XQ9.out.alloc.cell 1).trans rfl
  have q2 : (w9.alloc (Obj.cells #[.int .u32 0, .int .u32 0, .int .i64 0, .slice zA 0 zc, .int .i64 0, .int .i64 0] 30)).cell? ⟨bqi, 2, none⟩ = some (.int .i64 b2) := (XQ9.out.alloc.cell 2).trans rfl
  have q3 : (w9.alloc (Obj.cells #[.int .u32 0, .int .u32 0, .int .i64 0, .slice zA 0 zc, .int .i64 0, .int .i64 0] 30)).cell? ⟨bqi, 3, none⟩ = some (.slice Aqi M.length cqi) := (XQ9.out.alloc.cell 3).trans rfl
  have q4 : (w9.alloc (Obj.cells #[.int .u32 0, .int .u32 0, .int .i64 0, .slice zA 0 zc, .int .i64 0, .int .i64 0] 30)).cell? ⟨bqi, 4, none⟩ = some (.int .i64 b4) := (XQ9.out.alloc.cell 4).trans rfl
  have q5 : (w9.alloc (Obj.cells #[.int .u32 0, .int .u32 0, .int .i64 0, .slice zA 0 zc, .int .i64 0, .int .i64 0] 30)).cell? ⟨bqi, 5, none⟩ = some (.int .i64 b5) := (XQ9.out.alloc.cell 5).trans rfl
  go_wp2_with fail
  refine (isame_calls b0 b1 b2 b4 b5 B Aqi d cqi M _ HSi.out (Kd.C_below HDa.out (below_step HB9.out HAL.out)) HD1.out (Kd.C_below RQ9.out HAL.out) LQi.out).mono ?_
  rintro e w10 ⟨rfl, hb⟩
  have HB10 := Aside0.mk (below_step (below_step HB9.out HAL.out) hb)
  clear hb cp0 cp1 cp2 cp3 cv0 cv1 cv2 cv3 cv4 cv5 cl0 cl1 cl2 cl3 cl4 ck0 ck1 q0 q1 q2 q3 q4 q5 HAL XQ9 RQ9 HB9 LQi
  obtain ⟨⟨cp0, cp1, cp2, cp3, cv0, cv1, cv2, cv3, cv4, cv5⟩, ⟨cl0, cl1, cl2, cl3, cl4, ck0, ck1⟩⟩ := XB.out w10 HB10.out
  go_wp2_with fail
  clear cp0 cp1 cp2 cp3 cv0 cv1 cv2 cv3 cv4 cv5 cl0 cl1 cl2 cl3 cl4 ck0 ck1
  refine (elease_all l0 l1 l2 l3 l4 w10).mono ?_
  rintro e w11 ⟨vl, rfl, hV, hb⟩
  obtain ⟨Al, cl, rfl⟩ := Kd.R_slice hV
  have HB11 := Aside0.mk (below_step HB10.out hb)
  have C11 := Aside0.mk (Kd.R_reads' hV).2.2
  rw [elease_len]
  clear hV hb HB10
  go_wp2_with fail
  refine (bgetl Al cl 40 (eleaseb l0 l1 l2 l3 l4) (elease_len l0 l1 l2 l3 l4) l0 l1 l2 l3 l4 0 w11 C11.out (elease_bytes l0 l1 l2 l3 l4) (by omega) HLA.out).mono ?_
  rintro e w12 ⟨rfl, hb⟩
  have HB12 := Aside0.mk (below_step HB11.out hb)
  clear hb C11 HB11
  have hal := below_alloc (Below.refl w12.heap.size w12) (Obj.cells #[.int .u32 l0, .int .i64 l1, .int .i64 l2, .int .i64 l3, .int .i64 l4] 40)
  have HB13 := Aside0.mk (below_step HB12.out hal)
  have XL13 : Aside0 (Blk (w12.alloc (Obj.cells #[.int .u32 l0, .int .i64 l1, .int .i64 l2, .int .i64 l3, .int .i64 l4] 40)) w12.heap.size (Obj.cells #[.int .u32 l0, .int .i64 l1, .int .i64 l2, .int .i64 l3, .int .i64 l4] 40 (0, 0))) := ⟨Blk.new_⟩
  obtain ⟨⟨cp0, cp1, cp2, cp3, cv0, cv1, cv2, cv3, cv4, cv5⟩, ⟨cl0, cl1, cl2, cl3, cl4, ck0, ck1⟩⟩ := XB.out (w12.alloc (Obj.cells #[.int .u32 l0, .int .i64 l1, .int .i64 l2, .int .i64 l3, .int .i64 l4] 40)) HB13.out
  go_wp2_with fail
  clear cp0 cp1 cp2 cp3 cv0 cv1 cv2 cv3 cv4 cv5 cl0 cl1 cl2 cl3 cl4 ck0 ck1 hal HB12
  obtain ⟨w13, hwx⟩ : ∃ W, w12.alloc (Obj.cells #[.int .u32 l0, .int .i64 l1, .int .i64 l2, .int .i64 l3, .int .i64 l4] 40) = W := ⟨_, rfl⟩
  rw [hwx] at XL13 HB13 ⊢
  obtain ⟨bl, hbx⟩ : ∃ b, w12.heap.size = b := ⟨_, rfl⟩
  rw [hbx] at XL13 ⊢
  clear hwx hbx
  refine (epack_all k0 k1 w13).mono ?_
  rintro e w14 ⟨vk, rfl, hV, hb⟩
  obtain ⟨Ak, ck, rfl⟩ := Kd.R_slice hV
  have HB14 := Aside0.mk (below_step HB13.out hb)
  have XL14 := Aside0.mk (XL13.out.below hb)
  have C14 := Aside0.mk (Kd.R_reads' hV).2.2
  rw [epack_len]
  clear hV hb HB13 XL13
  go_wp2_with fail
  refine (bgetk Ak ck 16 (epackb k0 k1) (epack_len k0 k1) k0 k1 0 w14 C14.out (epack_bytes k0 k1) (by omega) HKA.out).mono ?_
  rintro e w15 ⟨rfl, hb⟩
  have HB15 := Aside0.mk (below_step HB14.out hb)
  have XL15 := Aside0.mk (XL14.out.below hb)
  clear hb C14 HB14 XL14
  have hal := below_alloc (Below.refl w15.heap.size w15) (Obj.cells #[.int .u32 k0, .int .i64 k1] 42)
  have HB16 := Aside0.mk (below_step HB15.out hal)
  have XK : Aside0 (Blk (w15.alloc (Obj.cells #[.int .u32 k0, .int .i64 k1] 42)) w15.heap.size (Obj.cells #[.int .u32 k0, .int .i64 k1] 42 (0, 0))) := ⟨Blk.new_⟩
  obtain ⟨⟨cp0, cp1, cp2, cp3, cv0, cv1, cv2, cv3, cv4, cv5⟩, ⟨cl0, cl1, cl2, cl3, cl4, ck0, ck1⟩⟩ := XB.out (w15.alloc (Obj.cells #[.int .u32 k0, .int .i64 k1] 42)) HB16.out
  have d0 : (w15.alloc (Obj.cells #[.int .u32 k0, .int .i64 k1] 42)).cell? ⟨bl, 0, none⟩ = some (.int .u32 l0) := (XL15.out.alloc.cell 0).trans rfl
  have d1 : (w15.alloc (Obj.cells #[.int .u32 k0, .int .i64 k1] 42)).cell? ⟨bl, 1, none⟩ = some (.int .i64 l1) := (XL15.out.alloc.cell 1).trans rfl
  have d2 : (w15.alloc (Obj.cells #[.int .u32 k0, .int .i64 k1] 42)).cell? ⟨bl, 2, none⟩ = some (.int .i64 l2) := (XL15.out.alloc.cell 2).trans rfl
  have d3 : (w15.alloc (Obj.cells #[.int .u32 k0, .int .i64 k1] 42)).cell? ⟨bl, 3, none⟩ = some (.int .i64 l3) := (XL15.out.alloc.cell 3).trans rfl
  have d4 : (w15.alloc (Obj.cells #[.int .u32 k0, .int .i64 k1] 42)).cell? ⟨bl, 4, none⟩ = some (.int .i64 l4) := (XL15.out.alloc.cell 4).trans rfl
  have g0 : (w15.alloc (Obj.cells #[.int .u32 k0, .int .i64 k1] 42)).cell? ⟨w15.heap.size, 0, none⟩ = some (.int .u32 k0) := (XK.out.cell 0).trans rfl
  have g1 : (w15.alloc (Obj.cells #[.int .u32 k0, .int .i64 k1] 42)).cell? ⟨w15.heap.size, 1, none⟩ = some (.int .i64 k1) := (XK.out.cell 1).trans rfl
  clear hal
  go_wp2_with fail
  clear cp0 cp1 cp2 cp3 cv0 cv1 cv2 cv3 cv4 cv5 cl0 cl1 cl2 cl3 cl4 ck0 ck1 d0 d1 d2 d3 d4 g0 g1
  refine (kgo.out _).mono ?_
  rintro e w17 ⟨rfl, hb⟩
  have HB17 := Aside0.mk (below_step HB16.out hb)
  clear hb
  go_wp2_with fail
  go_ret
  exact ⟨rfl, by rw [hq]; exact FIN.out _ HB17.out⟩
set_option maxRecDepth 100000 in
set_option maxHeartbeats 6400000 in
theorem back_ff (more a0 a1 a2 b0 b1 b2 b4 b5 l0 l1 l2 l3 l4 k0 k1 : Int) (A B : Option Addr) (c d : Nat) (L : List S37) (M : List S53) (w : World) (hC : Kd.C k37 w A L.length L) (hc : L.length ≤ c) (hD : Kd.C k53 w B M.length M) (hd : M.length ≤ d) (ha : 0 ≤ a0 ∧ a0 < top64) (hb0 : 0 ≤ b0) (hb1 : 0 ≤ b1) (hmo : IsByte more) (h2 : 0 ≤ a2 ∧ a2 < 4294967296) (hi : IOk b0 b1 b2 b4 b5 M) (hl0 : U32r l0) (hl1 : I64r l1) (hl2 : I64r l2) (hl3 : I64r l3) (hl4 : I64r l4) (hk0 : U32r k0) (hk1 : I64r k1) (hg : PZ.quitrentlaw14_great.f 60 a0 a1 a2 L b0 b1 b2 M b4 b5 = some false) (hP : eposts a0 a1 L = false) (hI : ebills b0 b1 b4 b5 M = false) :
    Calls Try.prog 6 #[.agg #[.int .u64 a0, .int .i64 a1, .int .u32 a2, .slice A L.length c], .agg #[.int .u32 b0, .int .u32 b1, .int .i64 b2, .slice B M.length d, .int .i64 b4, .int .i64 b5], .agg #[.int .u32 l0, .int .i64 l1, .int .i64 l2, .int .i64 l3, .int .i64 l4], .agg #[.int .u32 k0, .int .i64 k1], .int .u8 more] w fun e w' => e = .returned (.bool true) ∧ Below w.heap.size w w' := by
  have kg := Aside0.mk (fun w hC hD => PZ.quitrentlaw14_great.calls 60 a0 a1 a2 A c L b0 b1 b2 B d M b4 b5 false w hC hc hD hd hg)
  have kp := Aside0.mk (fun w hC => putposting_no a0 a1 a2 A c L w hC hP)
  have ki := Aside0.mk (fun w hD => putinvoice_no b0 b1 b2 b4 b5 B d M w hD hI)
  have HLA := Aside0.mk (lease_app l0 l1 l2 l3 l4 hl0 hl1 hl2 hl3 hl4)
  have HKA := Aside0.mk (pack_app k0 k1 hk0 hk1)
  have kgo := Aside0.mk (fun w => PZ.quitrentlaw14_goes.calls true w goes_is)
  have HC1 := Aside0.mk hc
  have HD1 := Aside0.mk hd
  have HC := Aside0.mk hC
  have HD := Aside0.mk hD
  clear hC hD hc hd ha hb0 hb1 hg hP hI hmo h2 hi hl0 hl1 hl2 hl3 hl4 hk0 hk1
  go_enter Try.func6, Try.ntmps6
  go_wp2_with fail
  have X0 : Aside0 (Blk ((((w.alloc (Obj.cells #[.int .u64 a0, .int .i64 a1, .int .u32 a2, .slice A L.length c] 26)).alloc (Obj.cells #[.int .u32 b0, .int .u32 b1, .int .i64 b2, .slice B M.length d, .int .i64 b4, .int .i64 b5] 30)).alloc (Obj.cells #[.int .u32 l0, .int .i64 l1, .int .i64 l2, .int .i64 l3, .int .i64 l4] 40)).alloc (Obj.cells #[.int .u32 k0, .int .i64 k1] 42)) w.heap.size (Obj.cells #[.int .u64 a0, .int .i64 a1, .int .u32 a2, .slice A L.length c] 26 (0, 0))) := ⟨Blk.new_.alloc.alloc.alloc⟩
  have X1 : Aside0 (Blk ((((w.alloc (Obj.cells #[.int .u64 a0, .int .i64 a1, .int .u32 a2, .slice A L.length c] 26)).alloc (Obj.cells #[.int .u32 b0, .int .u32 b1, .int .i64 b2, .slice B M.length d, .int .i64 b4, .int .i64 b5] 30)).alloc (Obj.cells #[.int .u32 l0, .int .i64 l1, .int .i64 l2, .int .i64 l3, .int .i64 l4] 40)).alloc (Obj.cells #[.int .u32 k0, .int .i64 k1] 42)) (w.heap.size + 1) (Obj.cells #[.int .u32 b0, .int .u32 b1, .int .i64 b2, .slice B M.length d, .int .i64 b4, .int .i64 b5] 30 (0, 0))) := ⟨(Blk.new (by rw [size_alloc])).alloc.alloc⟩
  have X2 : Aside0 (Blk ((((w.alloc (Obj.cells #[.int .u64 a0, .int .i64 a1, .int .u32 a2, .slice A L.length c] 26)).alloc (Obj.cells #[.int .u32 b0, .int .u32 b1, .int .i64 b2, .slice B M.length d, .int .i64 b4, .int .i64 b5] 30)).alloc (Obj.cells #[.int .u32 l0, .int .i64 l1, .int .i64 l2, .int .i64 l3, .int .i64 l4] 40)).alloc (Obj.cells #[.int .u32 k0, .int .i64 k1] 42)) (w.heap.size + 2) (Obj.cells #[.int .u32 l0, .int .i64 l1, .int .i64 l2, .int .i64 l3, .int .i64 l4] 40 (0, 0))) := ⟨(Blk.new (by rw [size_alloc, size_alloc])).alloc⟩
  have X3 : Aside0 (Blk ((((w.alloc (Obj.cells #[.int .u64 a0, .int .i64 a1, .int .u32 a2, .slice A L.length c] 26)).alloc (Obj.cells #[.int .u32 b0, .int .u32 b1, .int .i64 b2, .slice B M.length d, .int .i64 b4, .int .i64 b5] 30)).alloc (Obj.cells #[.int .u32 l0, .int .i64 l1, .int .i64 l2, .int .i64 l3, .int .i64 l4] 40)).alloc (Obj.cells #[.int .u32 k0, .int .i64 k1] 42)) (w.heap.size + 3) (Obj.cells #[.int .u32 k0, .int .i64 k1] 42 (0, 0))) := ⟨Blk.new (by rw [size_alloc, size_alloc, size_alloc])⟩
  have HW : Aside0 (Below w.heap.size w ((((w.alloc (Obj.cells #[.int .u64 a0, .int .i64 a1, .int .u32 a2, .slice A L.length c] 26)).alloc (Obj.cells #[.int .u32 b0, .int .u32 b1, .int .i64 b2, .slice B M.length d, .int .i64 b4, .int .i64 b5] 30)).alloc (Obj.cells #[.int .u32 l0, .int .i64 l1, .int .i64 l2, .int .i64 l3, .int .i64 l4] 40)).alloc (Obj.cells #[.int .u32 k0, .int .i64 k1] 42))) := ⟨below_alloc (below_alloc (below_alloc (below_alloc (Below.refl _ _) _) _) _) _⟩
  obtain ⟨wa, hwa⟩ : ∃ W, ((((w.alloc (Obj.cells #[.int .u64 a0, .int .i64 a1, .int .u32 a2, .slice A L.length c] 26)).alloc (Obj.cells #[.int .u32 b0, .int .u32 b1, .int .i64 b2, .slice B M.length d, .int .i64 b4, .int .i64 b5] 30)).alloc (Obj.cells #[.int .u32 l0, .int .i64 l1, .int .i64 l2, .int .i64 l3, .int .i64 l4] 40)).alloc (Obj.cells #[.int .u32 k0, .int .i64 k1] 42)) = W := ⟨_, rfl⟩
  rw [hwa] at X0 X1 X2 X3 HW ⊢
  have HCa := Aside0.mk (Kd.C_below HC.out HW.out)
  have HDa := Aside0.mk (Kd.C_below HD.out HW.out)
  obtain ⟨q, hq⟩ : ∃ q, w.heap.size = q := ⟨_, rfl⟩
  rw [hq] at X0 X1 X2 X3 HW ⊢
  have hqa : q ≤ wa.heap.size := Nat.le_of_lt X0.out.lt
  have HQA := Aside0.mk hqa
  have XB : Aside0 (∀ W : World, Below wa.heap.size wa W → (W.cell? ⟨q, 0, none⟩ = some (.int .u64 a0) ∧ W.cell? ⟨q, 1, none⟩ = some (.int .i64 a1) ∧ W.cell? ⟨q, 2, none⟩ = some (.int .u32 a2) ∧ W.cell? ⟨q, 3, none⟩ = some (.slice A L.length c) ∧ W.cell? ⟨q + 1, 0, none⟩ = some (.int .u32 b0) ∧ W.cell? ⟨q + 1, 1, none⟩ = some (.int .u32 b1) ∧ W.cell? ⟨q + 1, 2, none⟩ = some (.int .i64 b2) ∧ W.cell? ⟨q + 1, 3, none⟩ = some (.slice B M.length d) ∧ W.cell? ⟨q + 1, 4, none⟩ = some (.int .i64 b4) ∧ W.cell? ⟨q + 1, 5, none⟩ = some (.int .i64 b5)) ∧ (W.cell? ⟨q + 2, 0, none⟩ = some (.int .u32 l0) ∧ W.cell? ⟨q + 2, 1, none⟩ = some (.int .i64 l1) ∧ W.cell? ⟨q + 2, 2, none⟩ = some (.int .i64 l2) ∧ W.cell? ⟨q + 2, 3, none⟩ = some (.int .i64 l3) ∧ W.cell? ⟨q + 2, 4, none⟩ = some (.int .i64 l4) ∧ W.cell? ⟨q + 3, 0, none⟩ = some (.int .u32 k0) ∧ W.cell? ⟨q + 3, 1, none⟩ = some (.int .i64 k1))) := ⟨fun W hW => by
    have Y0 := X0.out.below hW
    have Y1 := X1.out.below hW
    have Y2 := X2.out.below hW
    have Y3 := X3.out.below hW
    exact ⟨⟨(Y0.cell 0).trans rfl, (Y0.cell 1).trans rfl, (Y0.cell 2).trans rfl, (Y0.cell 3).trans rfl, (Y1.cell 0).trans rfl, (Y1.cell 1).trans rfl, (Y1.cell 2).trans rfl, (Y1.cell 3).trans rfl, (Y1.cell 4).trans rfl, (Y1.cell 5).trans rfl⟩, ⟨(Y2.cell 0).trans rfl, (Y2.cell 1).trans rfl, (Y2.cell 2).trans rfl, (Y2.cell 3).trans rfl, (Y2.cell 4).trans rfl, (Y3.cell 0).trans rfl, (Y3.cell 1).trans rfl⟩⟩⟩
  have FIN : Aside0 (∀ W : World, Below wa.heap.size wa W → Below q w W) := ⟨fun W hW => HW.out.trans (below_weak_ hW HQA.out)⟩
  clear hwa X0 X1 X2 X3 HC HD hqa
  refine (kg.out wa HCa.out HDa.out).mono ?_
  rintro e w1 ⟨rfl, hb⟩
  have HB1 := Aside0.mk hb
  clear hb
  obtain ⟨⟨cp0, cp1, cp2, cp3, cv0, cv1, cv2, cv3, cv4, cv5⟩, ⟨cl0, cl1, cl2, cl3, cl4, ck0, ck1⟩⟩ := XB.out w1 HB1.out
  go_wp2_with fail
  clear cp0 cp1 cp2 cp3 cv0 cv1 cv2 cv3 cv4 cv5 cl0 cl1 cl2 cl3 cl4 ck0 ck1
  refine (kp.out w1 (Kd.C_below HCa.out HB1.out)).mono ?_
  rintro e w2 ⟨rfl, hb⟩
  have HB2 := Aside0.mk (below_step HB1.out hb)
  clear hb HB1
  obtain ⟨⟨cp0, cp1, cp2, cp3, cv0, cv1, cv2, cv3, cv4, cv5⟩, ⟨cl0, cl1, cl2, cl3, cl4, ck0, ck1⟩⟩ := XB.out w2 HB2.out
  go_wp2_with fail
  clear cp0 cp1 cp2 cp3 cv0 cv1 cv2 cv3 cv4 cv5 cl0 cl1 cl2 cl3 cl4 ck0 ck1
  refine (ki.out w2 (Kd.C_below HDa.out HB2.out)).mono ?_
  rintro e w3 ⟨rfl, hb⟩
  have HB3 := Aside0.mk (below_step HB2.out hb)
  clear hb HB2
  obtain ⟨⟨cp0, cp1, cp2, cp3, cv0, cv1, cv2, cv3, cv4, cv5⟩, ⟨cl0, cl1, cl2, cl3, cl4, ck0, ck1⟩⟩ := XB.out w3 HB3.out
  go_wp2_with fail
  clear cp0 cp1 cp2 cp3 cv0 cv1 cv2 cv3 cv4 cv5 cl0 cl1 cl2 cl3 cl4 ck0 ck1
  refine (elease_all l0 l1 l2 l3 l4 w3).mono ?_
  rintro e w4 ⟨vl, rfl, hV, hb⟩
  obtain ⟨Al, cl, rfl⟩ := Kd.R_slice hV
  have HB4 := Aside0.mk (below_step HB3.out hb)
  have C4 := Aside0.mk (Kd.R_reads' hV).2.2
  rw [elease_len]
  clear hV hb HB3
  go_wp2_with fail
  refine (bgetl Al cl 40 (eleaseb l0 l1 l2 l3 l4) (elease_len l0 l1 l2 l3 l4) l0 l1 l2 l3 l4 0 w4 C4.out (elease_bytes l0 l1 l2 l3 l4) (by omega) HLA.out).mono ?_
  rintro e w5 ⟨rfl, hb⟩
  have HB5 := Aside0.mk (below_step HB4.out hb)
  clear hb C4 HB4
  have hal := below_alloc (Below.refl w5.heap.size w5) (Obj.cells #[.int .u32 l0, .int .i64 l1, .int .i64 l2, .int .i64 l3, .int .i64 l4] 40)
  have HB6 := Aside0.mk (below_step HB5.out hal)
  have XL6 : Aside0 (Blk (w5.alloc (Obj.cells #[.int .u32 l0, .int .i64 l1, .int .i64 l2, .int .i64 l3, .int .i64 l4] 40)) w5.heap.size (Obj.cells #[.int .u32 l0, .int .i64 l1, .int .i64 l2, .int .i64 l3, .int .i64 l4] 40 (0, 0))) := ⟨Blk.new_⟩
  obtain ⟨⟨cp0, cp1, cp2, cp3, cv0, cv1, cv2, cv3, cv4, cv5⟩, ⟨cl0, cl1, cl2, cl3, cl4, ck0, ck1⟩⟩ := XB.out (w5.alloc (Obj.cells #[.int .u32 l0, .int .i64 l1, .int .i64 l2, .int .i64 l3, .int .i64 l4] 40)) HB6.out
  go_wp2_with fail
  clear cp0 cp1 cp2 cp3 cv0 cv1 cv2 cv3 cv4 cv5 cl0 cl1 cl2 cl3 cl4 ck0 ck1 hal HB5
  obtain ⟨w6, hwx⟩ : ∃ W, w5.alloc (Obj.cells #[.int .u32 l0, .int .i64 l1, .int .i64 l2, .int .i64 l3, .int .i64 l4] 40) = W := ⟨_, rfl⟩
  rw [hwx] at XL6 HB6 ⊢
  obtain ⟨bl, hbx⟩ : ∃ b, w5.heap.size = b := ⟨_, rfl⟩
  rw [hbx] at XL6 ⊢
  clear hwx hbx
  refine (epack_all k0 k1 w6).mono ?_
  rintro e w7 ⟨vk, rfl, hV, hb⟩
  obtain ⟨Ak, ck, rfl⟩ := Kd.R_slice hV
  have HB7 := Aside0.mk (below_step HB6.out hb)
  have XL7 := Aside0.mk (XL6.out.below hb)
  have C7 := Aside0.mk (Kd.R_reads' hV).2.2
  rw [epack_len]
  clear hV hb HB6 XL6
  go_wp2_with fail
  refine (bgetk Ak ck 16 (epackb k0 k1) (epack_len k0 k1) k0 k1 0 w7 C7.out (epack_bytes k0 k1) (by omega) HKA.out).mono ?_
  rintro e w8 ⟨rfl, hb⟩
  have HB8 := Aside0.mk (below_step HB7.out hb)
  have XL8 := Aside0.mk (XL7.out.below hb)
  clear hb C7 HB7 XL7
  have hal := below_alloc (Below.refl w8.heap.size w8) (Obj.cells #[.int .u32 k0, .int .i64 k1] 42)
  have HB9 := Aside0.mk (below_step HB8.out hal)
  have XK : Aside0 (Blk (w8.alloc (Obj.cells #[.int .u32 k0, .int .i64 k1] 42)) w8.heap.size (Obj.cells #[.int .u32 k0, .int .i64 k1] 42 (0, 0))) := ⟨Blk.new_⟩
  obtain ⟨⟨cp0, cp1, cp2, cp3, cv0, cv1, cv2, cv3, cv4, cv5⟩, ⟨cl0, cl1, cl2, cl3, cl4, ck0, ck1⟩⟩ := XB.out (w8.alloc (Obj.cells #[.int .u32 k0, .int .i64 k1] 42)) HB9.out
  have d0 : (w8.alloc (Obj.cells #[.int .u32 k0, .int .i64 k1] 42)).cell? ⟨bl, 0, none⟩ = some (.int .u32 l0) := (XL8.out.alloc.cell 0).trans rfl
  have d1 : (w8.alloc (Obj.cells #[.int .u32 k0, .int .i64 k1] 42)).cell? ⟨bl, 1, none⟩ = some (.int .i64 l1) := (XL8.out.alloc.cell 1).trans rfl
  have d2 : (w8.alloc (Obj.cells #[.int .u32 k0, .int .i64 k1] 42)).cell? ⟨bl, 2, none⟩ = some (.int .i64 l2) := (XL8.out.alloc.cell 2).trans rfl
  have d3 : (w8.alloc (Obj.cells #[.int .u32 k0, .int .i64 k1] 42)).cell? ⟨bl, 3, none⟩ = some (.int .i64 l3) := (XL8.out.alloc.cell 3).trans rfl
  have d4 : (w8.alloc (Obj.cells #[.int .u32 k0, .int .i64 k1] 42)).cell? ⟨bl, 4, none⟩ = some (.int .i64 l4) := (XL8.out.alloc.cell 4).trans rfl
  have g0 : (w8.alloc (Obj.cells #[.int .u32 k0, .int .i64 k1] 42)).cell? ⟨w8.heap.size, 0, none⟩ = some (.int .u32 k0) := (XK.out.cell 0).trans rfl
  have g1 : (w8.alloc (Obj.cells #[.int .u32 k0, .int .i64 k1] 42)).cell? ⟨w8.heap.size, 1, none⟩ = some (.int .i64 k1) := (XK.out.cell 1).trans rfl
  clear hal
  go_wp2_with fail
  clear cp0 cp1 cp2 cp3 cv0 cv1 cv2 cv3 cv4 cv5 cl0 cl1 cl2 cl3 cl4 ck0 ck1 d0 d1 d2 d3 d4 g0 g1
  refine (kgo.out _).mono ?_
  rintro e w10 ⟨rfl, hb⟩
  have HB10 := Aside0.mk (below_step HB9.out hb)
  clear hb
  go_wp2_with fail
  go_ret
  exact ⟨rfl, by rw [hq]; exact FIN.out _ HB10.out⟩
end Go.Proofs.Ytdfmganmchmbjaa.Ext
