/- entry's GetPack and GetLease: read (printed by mkread.py). -/
import Derived.Test.YtdfmganmchmbjaaEGet
namespace Go.Proofs.Ytdfmganmchmbjaa.Ext
open Go.RowKit Go.Proofs.YtdfmganmchmbjaaW.PrintWords Go.Proofs.YtdfmganmchmbjaaW.PrintLast Go.Proofs.YtdfmganmchmbjaaW.PrintMore Go.Proofs.YtdfmganmchmbjaaW.Hand Go.Proofs.Ytdfmganmchmbjaa.PZ
set_option linter.unusedVariables false
set_option linter.unusedSimpArgs false
/-- What read answers. -/
def ReadIs (e : Ending) (d : Int) (v z : Value) : Prop := if d = 0 then e = .returned (.tuple #[v, .int .i64 0]) else e = .returned (.tuple #[z, .int .i64 21])
theorem rpack_len (r : Rs) : (rpack r).2.xs.length ≤ r.xs.length := (Nat.le_trans (Rs.int_len r.small.2) (Rs.small_len r))
def gpack (l : List Int) : (Int × Int) × Int := if (rpack ⟨l, false⟩).2.done = 0 then ((rpack ⟨l, false⟩).1, 0) else ((0, 0), 21)
theorem all_pack (n0 n1 : Int) (w : World) : Calls Try.prog 50 #[.agg #[.int .u32 n0, .int .i64 n1]] w fun e w' => e = .returned (.bool true) ∧ Below w.heap.size w w' := by
  go_enter Try.func50, Try.ntmps50
  go_wp2_with fail
  go_ret
  exact ⟨rfl, below_alloc (Below.refl _ _) _⟩
set_option maxRecDepth 100000 in
set_option maxHeartbeats 3200000 in
theorem read_pack (A : Option Addr) (c : Nat) (l : List Int) (w : World) (hC : Kd.C (Kd.int .u8) w A l.length l) (hby : ∀ x ∈ l, IsByte x) (hm : l.length ≤ 140737488355000) (n0 n1 : Int) (r' : Rs) (he : rpack ⟨l, false⟩ = ((n0, n1), r')) :
    Calls Try.prog 48 #[.slice A l.length c, .func (Fn.func 49) #[] #[], .func (Fn.func 50) #[] #[]] w fun e w' => ReadIs e r'.done (.agg #[.int .u32 n0, .int .i64 n1]) (.agg #[.int .u32 0, .int .i64 0]) ∧ Below w.heap.size w w' := by
  have kn := Aside0.mk (fun w hC => New_calls A c l w hC hby hm)
  have kt := Aside0.mk (fun g B w h hB => rpack_calls g B ⟨l, false⟩ r' n0 n1 he w h hB hm)
  have HC := Aside0.mk hC
  have hl' : r'.xs.length ≤ 140737488355000 := by
    have h1 := rpack_len ⟨l, false⟩
    rw [he] at h1
    exact Nat.le_trans h1 hm
  have HL := Aside0.mk hl'
  obtain ⟨dn, hdn⟩ : ∃ d, r'.done = d := ⟨_, rfl⟩
  have hd21 : dn = 0 ∨ dn = 21 := by rw [← hdn]; unfold Rs.done; split <;> simp
  have HDN := Aside0.mk hdn
  rw [hdn]
  clear hC hby hm he hl' hdn
  go_enter Try.func48, Try.ntmps48
  go_wp2_with fail
  have X6 : Aside0 (Blk ((w.alloc (Obj.cells #[.int .u32 0, .int .i64 0] 42)).alloc (Obj.cells #[.int .u32 0, .int .i64 0] 42)) w.heap.size (Obj.cells #[.int .u32 0, .int .i64 0] 42 (0, 0))) := ⟨Blk.new_.alloc⟩
  have X8 : Aside0 (Blk ((w.alloc (Obj.cells #[.int .u32 0, .int .i64 0] 42)).alloc (Obj.cells #[.int .u32 0, .int .i64 0] 42)) (w.heap.size + 1) (Obj.cells #[.int .u32 0, .int .i64 0] 42 (0, 0))) := ⟨Blk.new (by rw [size_alloc])⟩
  have HW : Aside0 (Below w.heap.size w ((w.alloc (Obj.cells #[.int .u32 0, .int .i64 0] 42)).alloc (Obj.cells #[.int .u32 0, .int .i64 0] 42))) := ⟨below_alloc (below_alloc (Below.refl _ _) _) _⟩
  have hsz : ((w.alloc (Obj.cells #[.int .u32 0, .int .i64 0] 42)).alloc (Obj.cells #[.int .u32 0, .int .i64 0] 42)).heap.size = w.heap.size + 2 := by rw [size_alloc, size_alloc]
  obtain ⟨wa, hwa⟩ : ∃ W, (w.alloc (Obj.cells #[.int .u32 0, .int .i64 0] 42)).alloc (Obj.cells #[.int .u32 0, .int .i64 0] 42) = W := ⟨_, rfl⟩
  rw [hwa] at X6 X8 HW hsz ⊢
  have HCa := Aside0.mk (Kd.C_below HC.out HW.out)
  clear hwa
  obtain ⟨q, hq⟩ : ∃ q, w.heap.size = q := ⟨_, rfl⟩
  rw [hq] at X6 X8 HW hsz ⊢
  refine (kn.out wa HCa.out).mono ?_
  rintro e w3 ⟨g, rfl, hR, hb⟩
  have hgl : wa.heap.size ≤ g ∧ g < w3.heap.size := by obtain ⟨_, _, _, _, _, _, hBg⟩ := hR; exact hBg
  have hs3 := hb.size
  have HR3 := Aside0.mk hR
  have HB3 := Aside0.mk (HW.out.trans (below_weak_ hb (by omega)))
  have X63 := Aside0.mk (X6.out.below hb)
  have X83 := Aside0.mk (X8.out.below hb)
  clear hR hb X6 X8 HW HCa kn HC
  go_wp2_with fail
  have X9 : Aside0 (Blk (w3.alloc (Obj.cells #[.pointer (some ⟨g, 0, none⟩)] 78)) w3.heap.size (Obj.cells #[.pointer (some ⟨g, 0, none⟩)] 78 (0, 0))) := ⟨Blk.new_⟩
  have X64 : Aside0 (Blk (w3.alloc (Obj.cells #[.pointer (some ⟨g, 0, none⟩)] 78)) q (Obj.cells #[.int .u32 0, .int .i64 0] 42 (0, 0))) := ⟨X63.out.alloc⟩
  have X84 : Aside0 (Blk (w3.alloc (Obj.cells #[.pointer (some ⟨g, 0, none⟩)] 78)) (q + 1) (Obj.cells #[.int .u32 0, .int .i64 0] 42 (0, 0))) := ⟨X83.out.alloc⟩
  have HR4 : Aside0 (RdrS (w3.alloc (Obj.cells #[.pointer (some ⟨g, 0, none⟩)] 78)) g (fun k => wa.heap.size ≤ k ∧ k < w3.heap.size) ⟨l, false⟩) := ⟨RdrAt.alloc HR3.out _⟩
  have HB4 : Aside0 (Below q w (w3.alloc (Obj.cells #[.pointer (some ⟨g, 0, none⟩)] 78))) := ⟨HB3.out.trans (below_weak_ (below_alloc (Below.refl w3.heap.size w3) _) (by omega))⟩
  have hs4 : (w3.alloc (Obj.cells #[.pointer (some ⟨g, 0, none⟩)] 78)).heap.size = w3.heap.size + 1 := by rw [size_alloc]
  obtain ⟨w4, hw4⟩ : ∃ W, w3.alloc (Obj.cells #[.pointer (some ⟨g, 0, none⟩)] 78) = W := ⟨_, rfl⟩
  rw [hw4] at X9 X64 X84 HR4 HB4 hs4 ⊢
  obtain ⟨q9, hq9⟩ : ∃ q, w3.heap.size = q := ⟨_, rfl⟩
  rw [hq9] at X9 hs3 hs4 hgl HR4 ⊢
  have x9 := X9.out.cell 0
  simp at x9
  clear hw4 X63 X83 HR3 HB3
  go_wp2_with fail
  refine (kt.out g _ w4 HR4.out (fun k hk => by omega)).mono ?_
  rintro e w5 ⟨rfl, hR, hg⟩
  have hs5 := hg.size
  have HR5 := Aside0.mk hR
  have HB5 : Aside0 (Below q w w5) := ⟨HB4.out.grown hg (by omega) (fun k e => by injection e with e; omega)⟩
  have X65 := Aside0.mk (blk_grown X64.out hg (fun e => by injection e with e; omega))
  have X85 := Aside0.mk (blk_grown X84.out hg (fun e => by injection e with e; omega))
  have X95 := Aside0.mk (blk_grown X9.out hg (fun e => by injection e with e; omega))
  clear hR hg X64 X84 X9 HR4 HB4 x9 kt
  have x9 : ∀ o : Obj, (w5.alloc o).cell? ⟨q9, 0, none⟩ = some (.pointer (some ⟨g, 0, none⟩)) := fun o => (X95.out.alloc.cell 0).trans rfl
  go_wp2_with fail
  have XA : Aside0 (Blk (w5.alloc (Obj.cells #[.int .u32 n0, .int .i64 n1] 42)) w5.heap.size (Obj.cells #[.int .u32 n0, .int .i64 n1] 42 (0, 0))) := ⟨Blk.new_⟩
  have X66 : Aside0 (Blk (w5.alloc (Obj.cells #[.int .u32 n0, .int .i64 n1] 42)) q (Obj.cells #[.int .u32 0, .int .i64 0] 42 (0, 0))) := ⟨X65.out.alloc⟩
  have X86 : Aside0 (Blk (w5.alloc (Obj.cells #[.int .u32 n0, .int .i64 n1] 42)) (q + 1) (Obj.cells #[.int .u32 0, .int .i64 0] 42 (0, 0))) := ⟨X85.out.alloc⟩
  have X96 : Aside0 (Blk (w5.alloc (Obj.cells #[.int .u32 n0, .int .i64 n1] 42)) q9 (Obj.cells #[.pointer (some ⟨g, 0, none⟩)] 78 (0, 0))) := ⟨X95.out.alloc⟩
  have HR6 : Aside0 (RdrS (w5.alloc (Obj.cells #[.int .u32 n0, .int .i64 n1] 42)) g (fun k => wa.heap.size ≤ k ∧ k < q9) r') := ⟨RdrAt.alloc HR5.out _⟩
  have HB6 : Aside0 (Below q w (w5.alloc (Obj.cells #[.int .u32 n0, .int .i64 n1] 42))) := ⟨HB5.out.trans (below_weak_ (below_alloc (Below.refl w5.heap.size w5) _) (by omega))⟩
  obtain ⟨w6, hw6⟩ : ∃ W, w5.alloc (Obj.cells #[.int .u32 n0, .int .i64 n1] 42) = W := ⟨_, rfl⟩
  rw [hw6] at XA X66 X86 X96 HR6 HB6 ⊢
  obtain ⟨qa, hqa⟩ : ∃ q, w5.heap.size = q := ⟨_, rfl⟩
  rw [hqa] at XA ⊢
  clear hw6 X65 X85 X95 HR5 HB5
  refine (Done_calls g _ r' w6 HR6.out (by have := HL.out; omega)).mono ?_
  rintro e w7 ⟨rfl, rfl⟩
  rw [HDN.out]
  have X6' := X66
  rcases hd21 with h0 | h0
  · subst h0
    have a0 := (XA.out.cell 0).trans (rfl : _ = some (Value.int .u32 n0))
    have a1 := (XA.out.cell 1).trans (rfl : _ = some (Value.int .i64 n1))
    go_wp2_with fail
    refine (all_pack n0 n1 w6).mono ?_
    rintro e w8 ⟨rfl, hb⟩
    have XA8 := Aside0.mk (XA.out.below hb)
    have X6' := Aside0.mk (X66.out.below hb)
    have HB7 : Aside0 (Below q w w8) := ⟨HB6.out.trans (below_weak_ hb (Nat.le_of_lt X66.out.lt))⟩
    have b0 := (XA8.out.cell 0).trans (rfl : _ = some (Value.int .u32 n0))
    have b1 := (XA8.out.cell 1).trans (rfl : _ = some (Value.int .i64 n1))
    have c0 := (X6'.out.cell 0).trans (rfl : _ = some (Value.int .u32 0))
    have cf0 := X6'.out.free 0
    have c1 := (X6'.out.cell 1).trans (rfl : _ = some (Value.int .i64 0))
    have cf1 := X6'.out.free 1
    clear hb X66 X86 X96 XA HR6 x9
    go_wp2_with fail
    have XF : Aside0 (Blk ((w8.setCell ⟨q, 0, none⟩ (.int .u32 n0)).setCell ⟨q, 1, none⟩ (.int .i64 n1)) q (Obj.cells #[.int .u32 n0, .int .i64 n1] 42 (0, 0))) := ⟨((X6'.out.put 0 (.int .u32 n0) rfl).put 1 (.int .i64 n1) rfl)⟩
    have HF : Aside0 (Below q w ((w8.setCell ⟨q, 0, none⟩ (.int .u32 n0)).setCell ⟨q, 1, none⟩ (.int .i64 n1))) := ⟨(Below.setCell (Below.setCell HB7.out (p := ⟨q, 0, none⟩) (Nat.le_refl _) (.int .u32 n0)) (p := ⟨q, 1, none⟩) (Nat.le_refl _) (.int .i64 n1))⟩
    have d0 := (XF.out.cell 0).trans (rfl : _ = some (Value.int .u32 n0))
    have d1 := (XF.out.cell 1).trans (rfl : _ = some (Value.int .i64 n1))
    refine bodyPost_ret (v := .tuple #[.agg #[.int .u32 n0, .int .i64 n1], .int .i64 0]) ?_ rfl ⟨by unfold ReadIs; rfl, by rw [hq]; exact HF.out⟩
    simp [results, Try.results48, go_sem, d0, d1]
  · subst h0
    have HB7 := HB6
    have b0 := (X86.out.cell 0).trans (rfl : _ = some (Value.int .u32 0))
    have b1 := (X86.out.cell 1).trans (rfl : _ = some (Value.int .i64 0))
    have c0 := (X6'.out.cell 0).trans (rfl : _ = some (Value.int .u32 0))
    have cf0 := X6'.out.free 0
    have c1 := (X6'.out.cell 1).trans (rfl : _ = some (Value.int .i64 0))
    have cf1 := X6'.out.free 1
    go_wp2_with fail
    have XF : Aside0 (Blk ((w6.setCell ⟨q, 0, none⟩ (.int .u32 0)).setCell ⟨q, 1, none⟩ (.int .i64 0)) q (Obj.cells #[.int .u32 0, .int .i64 0] 42 (0, 0))) := ⟨((X6'.out.put 0 (.int .u32 0) rfl).put 1 (.int .i64 0) rfl)⟩
    have HF : Aside0 (Below q w ((w6.setCell ⟨q, 0, none⟩ (.int .u32 0)).setCell ⟨q, 1, none⟩ (.int .i64 0))) := ⟨(Below.setCell (Below.setCell HB7.out (p := ⟨q, 0, none⟩) (Nat.le_refl _) (.int .u32 0)) (p := ⟨q, 1, none⟩) (Nat.le_refl _) (.int .i64 0))⟩
    have d0 := (XF.out.cell 0).trans (rfl : _ = some (Value.int .u32 0))
    have d1 := (XF.out.cell 1).trans (rfl : _ = some (Value.int .i64 0))
    refine bodyPost_ret (v := .tuple #[.agg #[.int .u32 0, .int .i64 0], .int .i64 21]) ?_ rfl ⟨by unfold ReadIs; rfl, by rw [hq]; exact HF.out⟩
    simp [results, Try.results48, go_sem, d0, d1]
set_option maxRecDepth 100000 in
set_option maxHeartbeats 1600000 in
theorem Getpack_all (A : Option Addr) (c : Nat) (l : List Int) (w : World) (hC : Kd.C (Kd.int .u8) w A l.length l) (hby : ∀ x ∈ l, IsByte x) (hm : l.length ≤ 140737488355000) :
    Calls Try.prog 26 #[.slice A l.length c] w fun e w' => e = .returned (.tuple #[.agg #[.int .u32 (gpack l).1.1, .int .i64 (gpack l).1.2], .int .i64 (gpack l).2]) ∧ Below w.heap.size w w' := by
  obtain ⟨⟨⟨n0, n1⟩, r'⟩, he⟩ : ∃ u, rpack ⟨l, false⟩ = u := ⟨_, rfl⟩
  have hg : gpack l = if r'.done = 0 then ((n0, n1), 0) else ((0, 0), 21) := by unfold gpack; rw [he]
  have kr := Aside0.mk (fun w hC => read_pack A c l w hC hby hm n0 n1 r' he)
  have HC := Aside0.mk hC
  obtain ⟨⟨⟨m0, m1⟩, e0⟩, hG⟩ : ∃ u, gpack l = u := ⟨_, rfl⟩
  have kr2 : Aside0 (∀ w : World, Kd.C (Kd.int .u8) w A l.length l → Calls Try.prog 48 #[.slice A l.length c, .func (Fn.func 49) #[] #[], .func (Fn.func 50) #[] #[]] w fun e w' => e = .returned (.tuple #[.agg #[.int .u32 m0, .int .i64 m1], .int .i64 e0]) ∧ Below w.heap.size w w') := ⟨fun w hC => (kr.out w hC).mono (fun e w' h => by
    refine ⟨?_, h.2⟩
    have h1 := h.1
    unfold ReadIs at h1
    by_cases hd : r'.done = 0
    · rw [if_pos hd] at h1 hg
      rw [hg] at hG
      injection hG with h2 h3
      simp only [Prod.mk.injEq] at h2
      obtain ⟨h_0, h_1⟩ := h2
      rw [h1, h_0, h_1, h3]
    · rw [if_neg hd] at h1 hg
      rw [hg] at hG
      injection hG with h2 h3
      simp only [Prod.mk.injEq] at h2
      obtain ⟨h_0, h_1⟩ := h2
      rw [h1]
      subst h3
      subst h_0; subst h_1
      rfl)⟩
  rw [hG]
  clear hC hby hm he hg hG kr
  go_enter Try.func26, Try.ntmps26
  go_wp2_with fail
  have X0 : Aside0 (Blk (w.alloc (Obj.cells #[.int .u32 0, .int .i64 0] 42)) w.heap.size (Obj.cells #[.int .u32 0, .int .i64 0] 42 (0, 0))) := ⟨Blk.new_⟩
  refine (kr2.out _ (Kd.C_below HC.out (below_alloc (Below.refl _ _) _))).mono ?_
  rintro e w2 ⟨rfl, hb⟩
  have X1 := Aside0.mk (X0.out.below hb)
  have HB := Aside0.mk (below_step (below_alloc (Below.refl _ _) _) hb)
  clear hb X0 kr2
  obtain ⟨q, hq⟩ : ∃ q, w.heap.size = q := ⟨_, rfl⟩
  rw [hq] at X1 HB ⊢
  have c0 := (X1.out.cell 0).trans (rfl : _ = some (Value.int .u32 0))
  have cf0 := X1.out.free 0
  have c1 := (X1.out.cell 1).trans (rfl : _ = some (Value.int .i64 0))
  have cf1 := X1.out.free 1
  go_wp2_with fail
  have XF : Aside0 (Blk ((w2.setCell ⟨q, 0, none⟩ (.int .u32 m0)).setCell ⟨q, 1, none⟩ (.int .i64 m1)) q (Obj.cells #[.int .u32 m0, .int .i64 m1] 42 (0, 0))) := ⟨((X1.out.put 0 (.int .u32 m0) rfl).put 1 (.int .i64 m1) rfl)⟩
  have HF : Aside0 (Below q w ((w2.setCell ⟨q, 0, none⟩ (.int .u32 m0)).setCell ⟨q, 1, none⟩ (.int .i64 m1))) := ⟨(Below.setCell (Below.setCell HB.out (p := ⟨q, 0, none⟩) (Nat.le_refl _) (.int .u32 m0)) (p := ⟨q, 1, none⟩) (Nat.le_refl _) (.int .i64 m1))⟩
  have d0 := (XF.out.cell 0).trans (rfl : _ = some (Value.int .u32 m0))
  have d1 := (XF.out.cell 1).trans (rfl : _ = some (Value.int .i64 m1))
  refine bodyPost_ret (v := .tuple #[.agg #[.int .u32 m0, .int .i64 m1], .int .i64 e0]) ?_ rfl ⟨rfl, by rw [hq]; exact HF.out⟩
  simp [results, Try.results26, go_sem, d0, d1]
theorem rlease_len (r : Rs) : (rlease r).2.xs.length ≤ r.xs.length := (Nat.le_trans (Rs.int_len r.small.2.int.2.int.2.int.2) ((Nat.le_trans (Rs.int_len r.small.2.int.2.int.2) ((Nat.le_trans (Rs.int_len r.small.2.int.2) ((Nat.le_trans (Rs.int_len r.small.2) (Rs.small_len r))))))))
def glease (l : List Int) : (Int × Int × Int × Int × Int) × Int := if (rlease ⟨l, false⟩).2.done = 0 then ((rlease ⟨l, false⟩).1, 0) else ((0, 0, 0, 0, 0), 21)
theorem all_lease (n0 n1 n2 n3 n4 : Int) (w : World) : Calls Try.prog 39 #[.agg #[.int .u32 n0, .int .i64 n1, .int .i64 n2, .int .i64 n3, .int .i64 n4]] w fun e w' => e = .returned (.bool true) ∧ Below w.heap.size w w' := by
  go_enter Try.func39, Try.ntmps39
  go_wp2_with fail
  go_ret
  exact ⟨rfl, below_alloc (Below.refl _ _) _⟩
set_option maxRecDepth 100000 in
set_option maxHeartbeats 3200000 in
theorem read_lease (A : Option Addr) (c : Nat) (l : List Int) (w : World) (hC : Kd.C (Kd.int .u8) w A l.length l) (hby : ∀ x ∈ l, IsByte x) (hm : l.length ≤ 140737488355000) (n0 n1 n2 n3 n4 : Int) (r' : Rs) (he : rlease ⟨l, false⟩ = ((n0, n1, n2, n3, n4), r')) :
    Calls Try.prog 35 #[.slice A l.length c, .func (Fn.func 36) #[] #[], .func (Fn.func 39) #[] #[]] w fun e w' => ReadIs e r'.done (.agg #[.int .u32 n0, .int .i64 n1, .int .i64 n2, .int .i64 n3, .int .i64 n4]) (.agg #[.int .u32 0, .int .i64 0, .int .i64 0, .int .i64 0, .int .i64 0]) ∧ Below w.heap.size w w' := by
  have kn := Aside0.mk (fun w hC => New_calls A c l w hC hby hm)
  have kt := Aside0.mk (fun g B w h hB => rlease_calls g B ⟨l, false⟩ r' n0 n1 n2 n3 n4 he w h hB hm)
  have HC := Aside0.mk hC
  have hl' : r'.xs.length ≤ 140737488355000 := by
    have h1 := rlease_len ⟨l, false⟩
    rw [he] at h1
    exact Nat.le_trans h1 hm
  have HL := Aside0.mk hl'
  obtain ⟨dn, hdn⟩ : ∃ d, r'.done = d := ⟨_, rfl⟩
  have hd21 : dn = 0 ∨ dn = 21 := by rw [← hdn]; unfold Rs.done; split <;> simp
  have HDN := Aside0.mk hdn
  rw [hdn]
  clear hC hby hm he hl' hdn
  go_enter Try.func35, Try.ntmps35
  go_wp2_with fail
  have X6 : Aside0 (Blk ((w.alloc (Obj.cells #[.int .u32 0, .int .i64 0, .int .i64 0, .int .i64 0, .int .i64 0] 40)).alloc (Obj.cells #[.int .u32 0, .int .i64 0, .int .i64 0, .int .i64 0, .int .i64 0] 40)) w.heap.size (Obj.cells #[.int .u32 0, .int .i64 0, .int .i64 0, .int .i64 0, .int .i64 0] 40 (0, 0))) := ⟨Blk.new_.alloc⟩
  have X8 : Aside0 (Blk ((w.alloc (Obj.cells #[.int .u32 0, .int .i64 0, .int .i64 0, .int .i64 0, .int .i64 0] 40)).alloc (Obj.cells #[.int .u32 0, .int .i64 0, .int .i64 0, .int .i64 0, .int .i64 0] 40)) (w.heap.size + 1) (Obj.cells #[.int .u32 0, .int .i64 0, .int .i64 0, .int .i64 0, .int .i64 0] 40 (0, 0))) := ⟨Blk.new (by rw [size_alloc])⟩
  have HW : Aside0 (Below w.heap.size w ((w.alloc (Obj.cells #[.int .u32 0, .int .i64 0, .int .i64 0, .int .i64 0, .int .i64 0] 40)).alloc (Obj.cells #[.int .u32 0, .int .i64 0, .int .i64 0, .int .i64 0, .int .i64 0] 40))) := ⟨below_alloc (below_alloc (Below.refl _ _) _) _⟩
  have hsz : ((w.alloc (Obj.cells #[.int .u32 0, .int .i64 0, .int .i64 0, .int .i64 0, .int .i64 0] 40)).alloc (Obj.cells #[.int .u32 0, .int .i64 0, .int .i64 0, .int .i64 0, .int .i64 0] 40)).heap.size = w.heap.size + 2 := by rw [size_alloc, size_alloc]
  obtain ⟨wa, hwa⟩ : ∃ W, (w.alloc (Obj.cells #[.int .u32 0, .int .i64 0, .int .i64 0, .int .i64 0, .int .i64 0] 40)).alloc (Obj.cells #[.int .u32 0, .int .i64 0, .int .i64 0, .int .i64 0, .int .i64 0] 40) = W := ⟨_, rfl⟩
  rw [hwa] at X6 X8 HW hsz ⊢
  have HCa := Aside0.mk (Kd.C_below HC.out HW.out)
  clear hwa
  obtain ⟨q, hq⟩ : ∃ q, w.heap.size = q := ⟨_, rfl⟩
  rw [hq] at X6 X8 HW hsz ⊢
  refine (kn.out wa HCa.out).mono ?_
  rintro e w3 ⟨g, rfl, hR, hb⟩
  have hgl : wa.heap.size ≤ g ∧ g < w3.heap.size := by obtain ⟨_, _, _, _, _, _, hBg⟩ := hR; exact hBg
  have hs3 := hb.size
  have HR3 := Aside0.mk hR
  have HB3 := Aside0.mk (HW.out.trans (below_weak_ hb (by omega)))
  have X63 := Aside0.mk (X6.out.below hb)
  have X83 := Aside0.mk (X8.out.below hb)
  clear hR hb X6 X8 HW HCa kn HC
  go_wp2_with fail
  have X9 : Aside0 (Blk (w3.alloc (Obj.cells #[.pointer (some ⟨g, 0, none⟩)] 78)) w3.heap.size (Obj.cells #[.pointer (some ⟨g, 0, none⟩)] 78 (0, 0))) := ⟨Blk.new_⟩
  have X64 : Aside0 (Blk (w3.alloc (Obj.cells #[.pointer (some ⟨g, 0, none⟩)] 78)) q (Obj.cells #[.int .u32 0, .int .i64 0, .int .i64 0, .int .i64 0, .int .i64 0] 40 (0, 0))) := ⟨X63.out.alloc⟩
  have X84 : Aside0 (Blk (w3.alloc (Obj.cells #[.pointer (some ⟨g, 0, none⟩)] 78)) (q + 1) (Obj.cells #[.int .u32 0, .int .i64 0, .int .i64 0, .int .i64 0, .int .i64 0] 40 (0, 0))) := ⟨X83.out.alloc⟩
  have HR4 : Aside0 (RdrS (w3.alloc (Obj.cells #[.pointer (some ⟨g, 0, none⟩)] 78)) g (fun k => wa.heap.size ≤ k ∧ k < w3.heap.size) ⟨l, false⟩) := ⟨RdrAt.alloc HR3.out _⟩
  have HB4 : Aside0 (Below q w (w3.alloc (Obj.cells #[.pointer (some ⟨g, 0, none⟩)] 78))) := ⟨HB3.out.trans (below_weak_ (below_alloc (Below.refl w3.heap.size w3) _) (by omega))⟩
  have hs4 : (w3.alloc (Obj.cells #[.pointer (some ⟨g, 0, none⟩)] 78)).heap.size = w3.heap.size + 1 := by rw [size_alloc]
  obtain ⟨w4, hw4⟩ : ∃ W, w3.alloc (Obj.cells #[.pointer (some ⟨g, 0, none⟩)] 78) = W := ⟨_, rfl⟩
  rw [hw4] at X9 X64 X84 HR4 HB4 hs4 ⊢
  obtain ⟨q9, hq9⟩ : ∃ q, w3.heap.size = q := ⟨_, rfl⟩
  rw [hq9] at X9 hs3 hs4 hgl HR4 ⊢
  have x9 := X9.out.cell 0
  simp at x9
  clear hw4 X63 X83 HR3 HB3
  go_wp2_with fail
  refine (kt.out g _ w4 HR4.out (fun k hk => by omega)).mono ?_
  rintro e w5 ⟨rfl, hR, hg⟩
  have hs5 := hg.size
  have HR5 := Aside0.mk hR
  have HB5 : Aside0 (Below q w w5) := ⟨HB4.out.grown hg (by omega) (fun k e => by injection e with e; omega)⟩
  have X65 := Aside0.mk (blk_grown X64.out hg (fun e => by injection e with e; omega))
  have X85 := Aside0.mk (blk_grown X84.out hg (fun e => by injection e with e; omega))
  have X95 := Aside0.mk (blk_grown X9.out hg (fun e => by injection e with e; omega))
  clear hR hg X64 X84 X9 HR4 HB4 x9 kt
  have x9 : ∀ o : Obj, (w5.alloc o).cell? ⟨q9, 0, none⟩ = some (.pointer (some ⟨g, 0, none⟩)) := fun o => (X95.out.alloc.cell 0).trans rfl
  go_wp2_with fail
  have XA : Aside0 (Blk (w5.alloc (Obj.cells #[.int .u32 n0, .int .i64 n1, .int .i64 n2, .int .i64 n3, .int .i64 n4] 40)) w5.heap.size (Obj.cells #[.int .u32 n0, .int .i64 n1, .int .i64 n2, .int .i64 n3, .int .i64 n4] 40 (0, 0))) := ⟨Blk.new_⟩
  have X66 : Aside0 (Blk (w5.alloc (Obj.cells #[.int .u32 n0, .int .i64 n1, .int .i64 n2, .int .i64 n3, .int .i64 n4] 40)) q (Obj.cells #[.int .u32 0, .int .i64 0, .int .i64 0, .int .i64 0, .int .i64 0] 40 (0, 0))) := ⟨X65.out.alloc⟩
  have X86 : Aside0 (Blk (w5.alloc (Obj.cells #[.int .u32 n0, .int .i64 n1, .int .i64 n2, .int .i64 n3, .int .i64 n4] 40)) (q + 1) (Obj.cells #[.int .u32 0, .int .i64 0, .int .i64 0, .int .i64 0, .int .i64 0] 40 (0, 0))) := ⟨X85.out.alloc⟩
  have X96 : Aside0 (Blk (w5.alloc (Obj.cells #[.int .u32 n0, .int .i64 n1, .int .i64 n2, .int .i64 n3, .int .i64 n4] 40)) q9 (Obj.cells #[.pointer (some ⟨g, 0, none⟩)] 78 (0, 0))) := ⟨X95.out.alloc⟩
  have HR6 : Aside0 (RdrS (w5.alloc (Obj.cells #[.int .u32 n0, .int .i64 n1, .int .i64 n2, .int .i64 n3, .int .i64 n4] 40)) g (fun k => wa.heap.size ≤ k ∧ k < q9) r') := ⟨RdrAt.alloc HR5.out _⟩
  have HB6 : Aside0 (Below q w (w5.alloc (Obj.cells #[.int .u32 n0, .int .i64 n1, .int .i64 n2, .int .i64 n3, .int .i64 n4] 40))) := ⟨HB5.out.trans (below_weak_ (below_alloc (Below.refl w5.heap.size w5) _) (by omega))⟩
  obtain ⟨w6, hw6⟩ : ∃ W, w5.alloc (Obj.cells #[.int .u32 n0, .int .i64 n1, .int .i64 n2, .int .i64 n3, .int .i64 n4] 40) = W := ⟨_, rfl⟩
  rw [hw6] at XA X66 X86 X96 HR6 HB6 ⊢
  obtain ⟨qa, hqa⟩ : ∃ q, w5.heap.size = q := ⟨_, rfl⟩
  rw [hqa] at XA ⊢
  clear hw6 X65 X85 X95 HR5 HB5
  refine (Done_calls g _ r' w6 HR6.out (by have := HL.out; omega)).mono ?_
  rintro e w7 ⟨rfl, rfl⟩
  rw [HDN.out]
  have X6' := X66
  rcases hd21 with h0 | h0
  · subst h0
    have a0 := (XA.out.cell 0).trans (rfl : _ = some (Value.int .u32 n0))
    have a1 := (XA.out.cell 1).trans (rfl : _ = some (Value.int .i64 n1))
    have a2 := (XA.out.cell 2).trans (rfl : _ = some (Value.int .i64 n2))
    have a3 := (XA.out.cell 3).trans (rfl : _ = some (Value.int .i64 n3))
    have a4 := (XA.out.cell 4).trans (rfl : _ = some (Value.int .i64 n4))
    go_wp2_with fail
    refine (all_lease n0 n1 n2 n3 n4 w6).mono ?_
    rintro e w8 ⟨rfl, hb⟩
    have XA8 := Aside0.mk (XA.out.below hb)
    have X6' := Aside0.mk (X66.out.below hb)
    have HB7 : Aside0 (Below q w w8) := ⟨HB6.out.trans (below_weak_ hb (Nat.le_of_lt X66.out.lt))⟩
    have b0 := (XA8.out.cell 0).trans (rfl : _ = some (Value.int .u32 n0))
    have b1 := (XA8.out.cell 1).trans (rfl : _ = some (Value.int .i64 n1))
    have b2 := (XA8.out.cell 2).trans (rfl : _ = some (Value.int .i64 n2))
    have b3 := (XA8.out.cell 3).trans (rfl : _ = some (Value.int .i64 n3))
    have b4 := (XA8.out.cell 4).trans (rfl : _ = some (Value.int .i64 n4))
    have c0 := (X6'.out.cell 0).trans (rfl : _ = some (Value.int .u32 0))
    have cf0 := X6'.out.free 0
    have c1 := (X6'.out.cell 1).trans (rfl : _ = some (Value.int .i64 0))
    have cf1 := X6'.out.free 1
    have c2 := (X6'.out.cell 2).trans (rfl : _ = some (Value.int .i64 0))
    have cf2 := X6'.out.free 2
    have c3 := (X6'.out.cell 3).trans (rfl : _ = some (Value.int .i64 0))
    have cf3 := X6'.out.free 3
    have c4 := (X6'.out.cell 4).trans (rfl : _ = some (Value.int .i64 0))
    have cf4 := X6'.out.free 4
    clear hb X66 X86 X96 XA HR6 x9
    go_wp2_with fail
    have XF : Aside0 (Blk (((((w8.setCell ⟨q, 0, none⟩ (.int .u32 n0)).setCell ⟨q, 1, none⟩ (.int .i64 n1)).setCell ⟨q, 2, none⟩ (.int .i64 n2)).setCell ⟨q, 3, none⟩ (.int .i64 n3)).setCell ⟨q, 4, none⟩ (.int .i64 n4)) q (Obj.cells #[.int .u32 n0, .int .i64 n1, .int .i64 n2, .int .i64 n3, .int .i64 n4] 40 (0, 0))) := ⟨(((((X6'.out.put 0 (.int .u32 n0) rfl).put 1 (.int .i64 n1) rfl).put 2 (.int .i64 n2) rfl).put 3 (.int .i64 n3) rfl).put 4 (.int .i64 n4) rfl)⟩
    have HF : Aside0 (Below q w (((((w8.setCell ⟨q, 0, none⟩ (.int .u32 n0)).setCell ⟨q, 1, none⟩ (.int .i64 n1)).setCell ⟨q, 2, none⟩ (.int .i64 n2)).setCell ⟨q, 3, none⟩ (.int .i64 n3)).setCell ⟨q, 4, none⟩ (.int .i64 n4))) := ⟨(Below.setCell (Below.setCell (Below.setCell (Below.setCell (Below.setCell HB7.out (p := ⟨q, 0, none⟩) (Nat.le_refl _) (.int .u32 n0)) (p := ⟨q, 1, none⟩) (Nat.le_refl _) (.int .i64 n1)) (p := ⟨q, 2, none⟩) (Nat.le_refl _) (.int .i64 n2)) (p := ⟨q, 3, none⟩) (Nat.le_refl _) (.int .i64 n3)) (p := ⟨q, 4, none⟩) (Nat.le_refl _) (.int .i64 n4))⟩
    have d0 := (XF.out.cell 0).trans (rfl : _ = some (Value.int .u32 n0))
    have d1 := (XF.out.cell 1).trans (rfl : _ = some (Value.int .i64 n1))
    have d2 := (XF.out.cell 2).trans (rfl : _ = some (Value.int .i64 n2))
    have d3 := (XF.out.cell 3).trans (rfl : _ = some (Value.int .i64 n3))
    have d4 := (XF.out.cell 4).trans (rfl : _ = some (Value.int .i64 n4))
    refine bodyPost_ret (v := .tuple #[.agg #[.int .u32 n0, .int .i64 n1, .int .i64 n2, .int .i64 n3, .int .i64 n4], .int .i64 0]) ?_ rfl ⟨by unfold ReadIs; rfl, by rw [hq]; exact HF.out⟩
    simp [results, Try.results35, go_sem, d0, d1, d2, d3, d4]
  · subst h0
    have HB7 := HB6
    have b0 := (X86.out.cell 0).trans (rfl : _ = some (Value.int .u32 0))
    have b1 := (X86.out.cell 1).trans (rfl : _ = some (Value.int .i64 0))
    have b2 := (X86.out.cell 2).trans (rfl : _ = some (Value.int .i64 0))
    have b3 := (X86.out.cell 3).trans (rfl : _ = some (Value.int .i64 0))
    have b4 := (X86.out.cell 4).trans (rfl : _ = some (Value.int .i64 0))
    have c0 := (X6'.out.cell 0).trans (rfl : _ = some (Value.int .u32 0))
    have cf0 := X6'.out.free 0
    have c1 := (X6'.out.cell 1).trans (rfl : _ = some (Value.int .i64 0))
    have cf1 := X6'.out.free 1
    have c2 := (X6'.out.cell 2).trans (rfl : _ = some (Value.int .i64 0))
    have cf2 := X6'.out.free 2
    have c3 := (X6'.out.cell 3).trans (rfl : _ = some (Value.int .i64 0))
    have cf3 := X6'.out.free 3
    have c4 := (X6'.out.cell 4).trans (rfl : _ = some (Value.int .i64 0))
    have cf4 := X6'.out.free 4
    go_wp2_with fail
    have XF : Aside0 (Blk (((((w6.setCell ⟨q, 0, none⟩ (.int .u32 0)).setCell ⟨q, 1, none⟩ (.int .i64 0)).setCell ⟨q, 2, none⟩ (.int .i64 0)).setCell ⟨q, 3, none⟩ (.int .i64 0)).setCell ⟨q, 4, none⟩ (.int .i64 0)) q (Obj.cells #[.int .u32 0, .int .i64 0, .int .i64 0, .int .i64 0, .int .i64 0] 40 (0, 0))) := ⟨(((((X6'.out.put 0 (.int .u32 0) rfl).put 1 (.int .i64 0) rfl).put 2 (.int .i64 0) rfl).put 3 (.int .i64 0) rfl).put 4 (.int .i64 0) rfl)⟩
    have HF : Aside0 (Below q w (((((w6.setCell ⟨q, 0, none⟩ (.int .u32 0)).setCell ⟨q, 1, none⟩ (.int .i64 0)).setCell ⟨q, 2, none⟩ (.int .i64 0)).setCell ⟨q, 3, none⟩ (.int .i64 0)).setCell ⟨q, 4, none⟩ (.int .i64 0))) := ⟨(Below.setCell (Below.setCell (Below.setCell (Below.setCell (Below.setCell HB7.out (p := ⟨q, 0, none⟩) (Nat.le_refl _) (.int .u32 0)) (p := ⟨q, 1, none⟩) (Nat.le_refl _) (.int .i64 0)) (p := ⟨q, 2, none⟩) (Nat.le_refl _) (.int .i64 0)) (p := ⟨q, 3, none⟩) (Nat.le_refl _) (.int .i64 0)) (p := ⟨q, 4, none⟩) (Nat.le_refl _) (.int .i64 0))⟩
    have d0 := (XF.out.cell 0).trans (rfl : _ = some (Value.int .u32 0))
    have d1 := (XF.out.cell 1).trans (rfl : _ = some (Value.int .i64 0))
    have d2 := (XF.out.cell 2).trans (rfl : _ = some (Value.int .i64 0))
    have d3 := (XF.out.cell 3).trans (rfl : _ = some (Value.int .i64 0))
    have d4 := (XF.out.cell 4).trans (rfl : _ = some (Value.int .i64 0))
    refine bodyPost_ret (v := .tuple #[.agg #[.int .u32 0, .int .i64 0, .int .i64 0, .int .i64 0, .int .i64 0], .int .i64 21]) ?_ rfl ⟨by unfold ReadIs; rfl, by rw [hq]; exact HF.out⟩
    simp [results, Try.results35, go_sem, d0, d1, d2, d3, d4]
set_option maxRecDepth 100000 in
set_option maxHeartbeats 1600000 in
theorem Getlease_all (A : Option Addr) (c : Nat) (l : List Int) (w : World) (hC : Kd.C (Kd.int .u8) w A l.length l) (hby : ∀ x ∈ l, IsByte x) (hm : l.length ≤ 140737488355000) :
    Calls Try.prog 21 #[.slice A l.length c] w fun e w' => e = .returned (.tuple #[.agg #[.int .u32 (glease l).1.1, .int .i64 (glease l).1.2.1, .int .i64 (glease l).1.2.2.1, .int .i64 (glease l).1.2.2.2.1, .int .i64 (glease l).1.2.2.2.2], .int .i64 (glease l).2]) ∧ Below w.heap.size w w' := by
  obtain ⟨⟨⟨n0, n1, n2, n3, n4⟩, r'⟩, he⟩ : ∃ u, rlease ⟨l, false⟩ = u := ⟨_, rfl⟩
  have hg : glease l = if r'.done = 0 then ((n0, n1, n2, n3, n4), 0) else ((0, 0, 0, 0, 0), 21) := by unfold glease; rw [he]
  have kr := Aside0.mk (fun w hC => read_lease A c l w hC hby hm n0 n1 n2 n3 n4 r' he)
  have HC := Aside0.mk hC
  obtain ⟨⟨⟨m0, m1, m2, m3, m4⟩, e0⟩, hG⟩ : ∃ u, glease l = u := ⟨_, rfl⟩
  have kr2 : Aside0 (∀ w : World, Kd.C (Kd.int .u8) w A l.length l → Calls Try.prog 35 #[.slice A l.length c, .func (Fn.func 36) #[] #[], .func (Fn.func 39) #[] #[]] w fun e w' => e = .returned (.tuple #[.agg #[.int .u32 m0, .int .i64 m1, .int .i64 m2, .int .i64 m3, .int .i64 m4], .int .i64 e0]) ∧ Below w.heap.size w w') := ⟨fun w hC => (kr.out w hC).mono (fun e w' h => by
    refine ⟨?_, h.2⟩
    have h1 := h.1
    unfold ReadIs at h1
    by_cases hd : r'.done = 0
    · rw [if_pos hd] at h1 hg
      rw [hg] at hG
      injection hG with h2 h3
      simp only [Prod.mk.injEq] at h2
      obtain ⟨h_0, h_1, h_2, h_3, h_4⟩ := h2
      rw [h1, h_0, h_1, h_2, h_3, h_4, h3]
    · rw [if_neg hd] at h1 hg
      rw [hg] at hG
      injection hG with h2 h3
      simp only [Prod.mk.injEq] at h2
      obtain ⟨h_0, h_1, h_2, h_3, h_4⟩ := h2
      rw [h1]
      subst h3
      subst h_0; subst h_1; subst h_2; subst h_3; subst h_4
      rfl)⟩
  rw [hG]
  clear hC hby hm he hg hG kr
  go_enter Try.func21, Try.ntmps21
  go_wp2_with fail
  have X0 : Aside0 (Blk (w.alloc (Obj.cells #[.int .u32 0, .int .i64 0, .int .i64 0, .int .i64 0, .int .i64 0] 40)) w.heap.size (Obj.cells #[.int .u32 0, .int .i64 0, .int .i64 0, .int .i64 0, .int .i64 0] 40 (0, 0))) := ⟨Blk.new_⟩
  refine (kr2.out _ (Kd.C_below HC.out (below_alloc (Below.refl _ _) _))).mono ?_
  rintro e w2 ⟨rfl, hb⟩
  have X1 := Aside0.mk (X0.out.below hb)
  have HB := Aside0.mk (below_step (below_alloc (Below.refl _ _) _) hb)
  clear hb X0 kr2
  obtain ⟨q, hq⟩ : ∃ q, w.heap.size = q := ⟨_, rfl⟩
  rw [hq] at X1 HB ⊢
  have c0 := (X1.out.cell 0).trans (rfl : _ = some (Value.int .u32 0))
  have cf0 := X1.out.free 0
  have c1 := (X1.out.cell 1).trans (rfl : _ = some (Value.int .i64 0))
  have cf1 := X1.out.free 1
  have c2 := (X1.out.cell 2).trans (rfl : _ = some (Value.int .i64 0))
  have cf2 := X1.out.free 2
  have c3 := (X1.out.cell 3).trans (rfl : _ = some (Value.int .i64 0))
  have cf3 := X1.out.free 3
  have c4 := (X1.out.cell 4).trans (rfl : _ = some (Value.int .i64 0))
  have cf4 := X1.out.free 4
  go_wp2_with fail
  have XF : Aside0 (Blk (((((w2.setCell ⟨q, 0, none⟩ (.int .u32 m0)).setCell ⟨q, 1, none⟩ (.int .i64 m1)).setCell ⟨q, 2, none⟩ (.int .i64 m2)).setCell ⟨q, 3, none⟩ (.int .i64 m3)).setCell ⟨q, 4, none⟩ (.int .i64 m4)) q (Obj.cells #[.int .u32 m0, .int .i64 m1, .int .i64 m2, .int .i64 m3, .int .i64 m4] 40 (0, 0))) := ⟨(((((X1.out.put 0 (.int .u32 m0) rfl).put 1 (.int .i64 m1) rfl).put 2 (.int .i64 m2) rfl).put 3 (.int .i64 m3) rfl).put 4 (.int .i64 m4) rfl)⟩
  have HF : Aside0 (Below q w (((((w2.setCell ⟨q, 0, none⟩ (.int .u32 m0)).setCell ⟨q, 1, none⟩ (.int .i64 m1)).setCell ⟨q, 2, none⟩ (.int .i64 m2)).setCell ⟨q, 3, none⟩ (.int .i64 m3)).setCell ⟨q, 4, none⟩ (.int .i64 m4))) := ⟨(Below.setCell (Below.setCell (Below.setCell (Below.setCell (Below.setCell HB.out (p := ⟨q, 0, none⟩) (Nat.le_refl _) (.int .u32 m0)) (p := ⟨q, 1, none⟩) (Nat.le_refl _) (.int .i64 m1)) (p := ⟨q, 2, none⟩) (Nat.le_refl _) (.int .i64 m2)) (p := ⟨q, 3, none⟩) (Nat.le_refl _) (.int .i64 m3)) (p := ⟨q, 4, none⟩) (Nat.le_refl _) (.int .i64 m4))⟩
  have d0 := (XF.out.cell 0).trans (rfl : _ = some (Value.int .u32 m0))
  have d1 := (XF.out.cell 1).trans (rfl : _ = some (Value.int .i64 m1))
  have d2 := (XF.out.cell 2).trans (rfl : _ = some (Value.int .i64 m2))
  have d3 := (XF.out.cell 3).trans (rfl : _ = some (Value.int .i64 m3))
  have d4 := (XF.out.cell 4).trans (rfl : _ = some (Value.int .i64 m4))
  refine bodyPost_ret (v := .tuple #[.agg #[.int .u32 m0, .int .i64 m1, .int .i64 m2, .int .i64 m3, .int .i64 m4], .int .i64 e0]) ?_ rfl ⟨rfl, by rw [hq]; exact HF.out⟩
  simp [results, Try.results21, go_sem, d0, d1, d2, d3, d4]
end Go.Proofs.Ytdfmganmchmbjaa.Ext
