/- EntryPuts, proved by walking its code, one text a case (printed by mkputs.py). -/
import Derived.Test.YtdfmganmchmbjaaERef
import Derived.Test.YtdfmganmchmbjaaPEnt
import Derived.Test.YtdfmganmchmbjaaPGreat
import Derived.Deep.RegionHeld3
namespace Go.Proofs.Ytdfmganmchmbjaa.Ext
open Go.RowKit Go.Proofs.YtdfmganmchmbjaaW.PrintWords Go.Proofs.YtdfmganmchmbjaaW.PrintLast Go.Proofs.YtdfmganmchmbjaaW.PrintMore Go.Proofs.YtdfmganmchmbjaaW.Hand Go.Proofs.Ytdfmganmchmbjaa.PZ Go.Proofs.Ytdfmganmchmbjaa.PY
set_option linter.unusedVariables false
set_option linter.unusedSimpArgs false
theorem str_own {W : World} {base : Nat} {ok : Nat → Prop} {v : Value} {xs : List Int} (h : Kd.R (Kd.int .u8) 5 W base ok v xs) : (convert 31 9 v).run Try.prog W = .ok (.string (strOfNums xs)) W :=
  own_string (P := Try.prog) Try.underlying31 Try.underlying5 Try.underlying9 (Kd.own_of_R h)
set_option maxRecDepth 100000 in
set_option maxHeartbeats 3200000 in
theorem puts_great (a0 a1 a2 b0 b1 b2 b4 b5 l0 l1 l2 l3 l4 k0 k1 : Int) (A B : Option Addr) (c d : Nat) (L : List S37) (M : List S53) (w : World) (hC : Kd.C k37 w A L.length L) (hc : L.length ≤ c) (hD : Kd.C k53 w B M.length M) (hd : M.length ≤ d) (ha : 0 ≤ a0 ∧ a0 < top64) (hb0 : 0 ≤ b0) (hb1 : 0 ≤ b1) (hg : PZ.quitrentlaw14_great.f 60 a0 a1 a2 L b0 b1 b2 M b4 b5 = some true) :
    Calls Try.prog 4 #[.agg #[.int .u64 a0, .int .i64 a1, .int .u32 a2, .slice A L.length c], .agg #[.int .u32 b0, .int .u32 b1, .int .i64 b2, .slice B M.length d, .int .i64 b4, .int .i64 b5], .agg #[.int .u32 l0, .int .i64 l1, .int .i64 l2, .int .i64 l3, .int .i64 l4], .agg #[.int .u32 k0, .int .i64 k1]] w fun e w' => e = .returned (.bool true) ∧ Below w.heap.size w w' := by
  have kg := Aside0.mk (fun w hC hD => PZ.quitrentlaw14_great.calls 60 a0 a1 a2 A c L b0 b1 b2 B d M b4 b5 true w hC hc hD hd hg)
  have HC := Aside0.mk hC
  have HD := Aside0.mk hD
  clear hC hD hc hd ha hb0 hb1 hg
  go_enter Try.func4, Try.ntmps4
  go_wp2_with fail
  have X0 : Aside0 (Blk ((((w.alloc (Obj.cells #[.int .u64 a0, .int .i64 a1, .int .u32 a2, .slice A L.length c] 26)).alloc (Obj.cells #[.int .u32 b0, .int .u32 b1, .int .i64 b2, .slice B M.length d, .int .i64 b4, .int .i64 b5] 30)).alloc (Obj.cells #[.int .u32 l0, .int .i64 l1, .int .i64 l2, .int .i64 l3, .int .i64 l4] 40)).alloc (Obj.cells #[.int .u32 k0, .int .i64 k1] 42)) w.heap.size (Obj.cells #[.int .u64 a0, .int .i64 a1, .int .u32 a2, .slice A L.length c] 26 (0, 0))) := ⟨Blk.new_.alloc.alloc.alloc⟩
  have X1 : Aside0 (Blk ((((w.alloc (Obj.cells #[.int .u64 a0, .int .i64 a1, .int .u32 a2, .slice A L.length c] 26)).alloc (Obj.cells #[.int .u32 b0, .int .u32 b1, .int .i64 b2, .slice B M.length d, .int .i64 b4, .int .i64 b5] 30)).alloc (Obj.cells #[.int .u32 l0, .int .i64 l1, .int .i64 l2, .int .i64 l3, .int .i64 l4] 40)).alloc (Obj.cells #[.int .u32 k0, .int .i64 k1] 42)) (w.heap.size + 1) (Obj.cells #[.int .u32 b0, .int .u32 b1, .int .i64 b2, .slice B M.length d, .int .i64 b4, .int .i64 b5] 30 (0, 0))) := ⟨(Blk.new (by rw [size_alloc])).alloc.alloc⟩
  have X2 : Aside0 (Blk ((((w.alloc (Obj.cells #[.int .u64 a0, .int .i64 a1, .int .u32 a2, .slice A L.length c] 26)).alloc (Obj.cells #[.int .u32 b0, .int .u32 b1, .int .i64 b2, .slice B M.length d, .int .i64 b4, .int .i64 b5] 30)).alloc (Obj.cells #[.int .u32 l0, .int .i64 l1, .int .i64 l2, .int .i64 l3, .int .i64 l4] 40)).alloc (Obj.cells #[.int .u32 k0, .int .i64 k1] 42)) (w.heap.size + 2) (Obj.cells #[.int .u32 l0, .int .i64 l1, .int .i64 l2, .int .i64 l3, .int .i64 l4] 40 (0, 0))) := ⟨(Blk.new (by rw [size_alloc, size_alloc])).alloc⟩
  have X3 : Aside0 (Blk ((((w.alloc (Obj.cells #[.int .u64 a0, .int .i64 a1, .int .u32 a2, .slice A L.length c] 26)).alloc (Obj.cells #[.int .u32 b0, .int .u32 b1, .int .i64 b2, .slice B M.length d, .int .i64 b4, .int .i64 b5] 30)).alloc (Obj.cells #[.int .u32 l0, .int .i64 l1, .int .i64 l2, .int .i64 l3, .int .i64 l4] 40)).alloc (Obj.cells #[.int .u32 k0, .int .i64 k1] 42)) (w.heap.size + 3) (Obj.cells #[.int .u32 k0, .int .i64 k1] 42 (0, 0))) := ⟨Blk.new (by rw [size_alloc, size_alloc, size_alloc])⟩
  have HW : Aside0 (Below w.heap.size w ((((w.alloc (Obj.cells #[.int .u64 a0, .int .i64 a1, .int .u32 a2, .slice A L.length c] 26)).alloc (Obj.cells #[.int .u32 b0, .int .u32 b1, .int .i64 b2, .slice B M.length d, .int .i64 b4, .int .i64 b5] 30)).alloc (Obj.cells #[.int .u32 l0, .int .i64 l1, .int .i64 l2, .int .i64 l3, .int .i64 l4] 40)).alloc (Obj.cells #[.int .u32 k0, .int .i64 k1] 42))) := ⟨below_alloc (below_alloc (below_alloc (below_alloc (Below.refl _ _) _) _) _) _⟩
  obtain ⟨wa, hwa⟩ : ∃ W, ((((w.alloc (Obj.cells #[.int .u64 a0, .int .i64 a1, .int .u32 a2, .slice A L.length c] 26)).alloc (Obj.cells #[.int .u32 b0, .int .u32 b1, .int .i64 b2, .slice B M.length d, .int .i64 b4, .int .i64 b5] 30)).alloc (Obj.cells #[.int .u32 l0, .int .i64 l1, .int .i64 l2, .int .i64 l3, .int .i64 l4] 40)).alloc (Obj.cells #[.int .u32 k0, .int .i64 k1] 42)) = W := ⟨_, rfl⟩
  rw [hwa] at X0 X1 X2 X3 HW ⊢
  have HCa := Aside0.mk (Kd.C_below HC.out HW.out)
  have HDa := Aside0.mk (Kd.C_below HD.out HW.out)
  obtain ⟨q, hq⟩ : ∃ q, w.heap.size = q := ⟨_, rfl⟩
  rw [hq] at X0 X1 X2 X3 HW ⊢
  have hqa : q ≤ wa.heap.size := Nat.le_of_lt X0.out.lt
  have HQA := Aside0.mk hqa
  have XB : Aside0 (∀ W : World, Below wa.heap.size wa W → (W.cell? ⟨q, 0, none⟩ = some (.int .u64 a0) ∧ W.cell? ⟨q, 1, none⟩ = some (.int .i64 a1) ∧ W.cell? ⟨q, 2, none⟩ = some (.int .u32 a2) ∧ W.cell? ⟨q, 3, none⟩ = some (.slice A L.length c) ∧ W.cell? ⟨q + 1, 0, none⟩ = some (.int .u32 b0) ∧ W.cell? ⟨q + 1, 1, none⟩ = some (.int .u32 b1) ∧ W.cell? ⟨q + 1, 2, none⟩ = some (.int .i64 b2) ∧ W.cell? ⟨q + 1, 3, none⟩ = some (.slice B M.length d) ∧ W.cell? ⟨q + 1, 4, none⟩ = some (.int .i64 b4) ∧ W.cell? ⟨q + 1, 5, none⟩ = some (.int .i64 b5)) ∧ (W.cell? ⟨q + 2, 0, none⟩ = some (.int .u32 l0) ∧ W.cell? ⟨q + 2, 1, none⟩ = some (.int .i64 l1) ∧ W.cell? ⟨q + 2, 2, none⟩ = some (.int .i64 l2) ∧ W.cell? ⟨q + 2, 3, none⟩ = some (.int .i64 l3) ∧ W.cell? ⟨q + 2, 4, none⟩ = some (.int .i64 l4) ∧ W.cell? ⟨q + 3, 0, none⟩ = some (.int .u32 k0) ∧ W.cell? ⟨q + 3, 1, none⟩ = some (.int .i64 k1))) := ⟨fun W hW => by
    have Y0 := X0.out.below hW
    have Y1 := X1.out.below hW
    have Y2 := X2.out.below hW
    have Y3 := X3.out.below hW
    exact ⟨⟨(Y0.cell 0).trans rfl, (Y0.cell 1).trans rfl, (Y0.cell 2).trans rfl, (Y0.cell 3).trans rfl, (Y1.cell 0).trans rfl, (Y1.cell 1).trans rfl, (Y1.cell 2).trans rfl, (Y1.cell 3).trans rfl, (Y1.cell 4).trans rfl, (Y1.cell 5).trans rfl⟩, ⟨(Y2.cell 0).trans rfl, (Y2.cell 1).trans rfl, (Y2.cell 2).trans rfl, (Y2.cell 3).trans rfl, (Y2.cell 4).trans rfl, (Y3.cell 0).trans rfl, (Y3.cell 1).trans rfl⟩⟩⟩
  have FIN : Aside0 (∀ W : World, Below wa.heap.size wa W → Below q w W) := ⟨fun W hW => HW.out.trans (below_weak_ hW HQA.out)⟩
  clear hwa X0 X1 X2 X3 HC HD hqa
  refine (kg.out wa HCa.out HDa.out).mono ?_
  rintro e w1 ⟨rfl, hb⟩
  have HB1 := Aside0.mk hb
  clear hb
  go_wp2_with fail
  go_ret
  exact ⟨rfl, by rw [hq]; exact FIN.out _ HB1.out⟩
end Go.Proofs.Ytdfmganmchmbjaa.Ext
