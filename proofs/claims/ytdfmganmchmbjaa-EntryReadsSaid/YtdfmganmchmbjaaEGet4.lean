/- entry's GetPosting and GetInvoice (printed by mkread3.py). -/
import Derived.Test.YtdfmganmchmbjaaEGet3
namespace Go.Proofs.Ytdfmganmchmbjaa.Ext
open Go.RowKit Go.Proofs.YtdfmganmchmbjaaW.PrintWords Go.Proofs.YtdfmganmchmbjaaW.PrintLast Go.Proofs.YtdfmganmchmbjaaW.PrintMore Go.Proofs.YtdfmganmchmbjaaW.Hand Go.Proofs.Ytdfmganmchmbjaa.PZ
set_option linter.unusedVariables false
set_option linter.unusedSimpArgs false
def gsel_posting (d : Int) (ok : Bool) (x : Int × Int × Int × List S37) : (Int × Int × Int × List S37) × Int := if d = 0 ∧ ok = true then (x, 0) else ((0, 0, 0, []), 21)
def chk_posting (x : Int × Int × Int × List S37) : Bool := match x with
  | (n0, n1, n2, L) => eposts n0 n1 L
def gposting (l : List Int) : (Int × Int × Int × List S37) × Int := gsel_posting (rposting ⟨l, false⟩).2.done (chk_posting (rposting ⟨l, false⟩).1) (rposting ⟨l, false⟩).1
set_option maxRecDepth 100000 in
set_option maxHeartbeats 3200000 in
theorem read_posting (A : Option Addr) (c : Nat) (l : List Int) (w : World) (hC : Kd.C (Kd.int .u8) w A l.length l) (hby : ∀ x ∈ l, IsByte x) (hm : l.length ≤ 140737488355000) (z0 z1 z2 er : Int) (LL : List S37) (hG : gposting l = ((z0, z1, z2, LL), er)) :
    Calls Try.prog 40 #[.slice A l.length c, .func (Fn.func 41) #[] #[], .func (Fn.func 27) #[] #[]] w fun e w' => ∃ v : Value, e = .returned (.tuple #[.agg #[.int .u64 z0, .int .i64 z1, .int .u32 z2, v], .int .i64 er]) ∧ Kd.R k37 37 w' w.heap.size (fun _ => True) v LL ∧ Below w.heap.size w w' := by
  obtain ⟨⟨⟨n0, n1, n2, L⟩, r'⟩, he⟩ : ∃ u, rposting ⟨l, false⟩ = u := ⟨_, rfl⟩
  have hx : gsel_posting r'.done (eposts n0 n1 L) (n0, n1, n2, L) = ((z0, z1, z2, LL), er) := by
    unfold gposting at hG
    rw [he] at hG
    exact hG
  have kn := Aside0.mk (fun w hC => New_calls A c l w hC hby hm)
  have kt := Aside0.mk (fun g B w h hB => rposting_calls g B ⟨l, false⟩ r' n0 n1 n2 L he w h hB hm)
  have HC := Aside0.mk hC
  have hl' : r'.xs.length ≤ 140737488355000 := by
    have h1 := rposting_len ⟨l, false⟩
    rw [he] at h1
    exact Nat.le_trans h1 hm
  have HL := Aside0.mk hl'
  obtain ⟨dn, hdn⟩ : ∃ d, r'.done = d := ⟨_, rfl⟩
  have hd21 : dn = 0 ∨ dn = 21 := by rw [← hdn]; unfold Rs.done; split <;> simp
  have HDN := Aside0.mk hdn
  rw [hdn] at hx
  have HX := Aside0.mk hx
  clear hC hby hm he hl' hdn hG hx
  go_enter Try.func40, Try.ntmps40
  go_wp2_with fail
  have X6 : Aside0 (Blk ((w.alloc (Obj.cells #[.int .u64 0, .int .i64 0, .int .u32 0, .slice none 0 0] 26)).alloc (Obj.cells #[.int .u64 0, .int .i64 0, .int .u32 0, .slice none 0 0] 26)) w.heap.size (Obj.cells #[.int .u64 0, .int .i64 0, .int .u32 0, .slice none 0 0] 26 (0, 0))) := ⟨Blk.new_.alloc⟩
  have X8 : Aside0 (Blk ((w.alloc (Obj.cells #[.int .u64 0, .int .i64 0, .int .u32 0, .slice none 0 0] 26)).alloc (Obj.cells #[.int .u64 0, .int .i64 0, .int .u32 0, .slice none 0 0] 26)) (w.heap.size + 1) (Obj.cells #[.int .u64 0, .int .i64 0, .int .u32 0, .slice none 0 0] 26 (0, 0))) := ⟨Blk.new (by rw [size_alloc])⟩
  have HW : Aside0 (Below w.heap.size w ((w.alloc (Obj.cells #[.int .u64 0, .int .i64 0, .int .u32 0, .slice none 0 0] 26)).alloc (Obj.cells #[.int .u64 0, .int .i64 0, .int .u32 0, .slice none 0 0] 26))) := ⟨below_alloc (below_alloc (Below.refl _ _) _) _⟩
  have hsz : ((w.alloc (Obj.cells #[.int .u64 0, .int .i64 0, .int .u32 0, .slice none 0 0] 26)).alloc (Obj.cells #[.int .u64 0, .int .i64 0, .int .u32 0, .slice none 0 0] 26)).heap.size = w.heap.size + 2 := by rw [size_alloc, size_alloc]
  obtain ⟨wa, hwa⟩ : ∃ W, (w.alloc (Obj.cells #[.int .u64 0, .int .i64 0, .int .u32 0, .slice none 0 0] 26)).alloc (Obj.cells #[.int .u64 0, .int .i64 0, .int .u32 0, .slice none 0 0] 26) = W := ⟨_, rfl⟩
  rw [hwa] at X6 X8 HW hsz ⊢
  have HCa := Aside0.mk (Kd.C_below HC.out HW.out)
  clear hwa
  obtain ⟨q, hq⟩ : ∃ q, w.heap.size = q := ⟨_, rfl⟩
  rw [hq] at X6 X8 HW hsz ⊢
  refine (kn.out wa HCa.out).mono ?_
  rintro e w3 ⟨g, rfl, hR, hb⟩
  have hgl : wa.heap.size ≤ g ∧ g < w3.heap.size := by obtain ⟨_, _, _, _, _, _, hBg⟩ := hR; exact hBg
  have hs3 := hb.size
  have HR3 := Aside0.mk hR
  have HB3 := Aside0.mk (HW.out.trans (below_weak_ hb (by omega)))
  have X63 := Aside0.mk (X6.out.below hb)
  have X83 := Aside0.mk (X8.out.below hb)
  clear hR hb X6 X8 HW HCa kn HC
  go_wp2_with fail
  have X9 : Aside0 (Blk (w3.alloc (Obj.cells #[.pointer (some ⟨g, 0, none⟩)] 78)) w3.heap.size (Obj.cells #[.pointer (some ⟨g, 0, none⟩)] 78 (0, 0))) := ⟨Blk.new_⟩
  have X64 : Aside0 (Blk (w3.alloc (Obj.cells #[.pointer (some ⟨g, 0, none⟩)] 78)) q (Obj.cells #[.int .u64 0, .int .i64 0, .int .u32 0, .slice none 0 0] 26 (0, 0))) := ⟨X63.out.alloc⟩
  have X84 : Aside0 (Blk (w3.alloc (Obj.cells #[.pointer (some ⟨g, 0, none⟩)] 78)) (q + 1) (Obj.cells #[.int .u64 0, .int .i64 0, .int .u32 0, .slice none 0 0] 26 (0, 0))) := ⟨X83.out.alloc⟩
  have HR4 : Aside0 (RdrS (w3.alloc (Obj.cells #[.pointer (some ⟨g, 0, none⟩)] 78)) g (fun k => wa.heap.size ≤ k ∧ k < w3.heap.size) ⟨l, false⟩) := ⟨RdrAt.alloc HR3.out _⟩
  have HB4 : Aside0 (Below q w (w3.alloc (Obj.cells #[.pointer (some ⟨g, 0, none⟩)] 78))) := ⟨HB3.out.trans (below_weak_ (below_alloc (Below.refl w3.heap.size w3) _) (by omega))⟩
  have hs4 : (w3.alloc (Obj.cells #[.pointer (some ⟨g, 0, none⟩)] 78)).heap.size = w3.heap.size + 1 := by rw [size_alloc]
  obtain ⟨w4, hw4⟩ : ∃ W, w3.alloc (Obj.cells #[.pointer (some ⟨g, 0, none⟩)] 78) = W := ⟨_, rfl⟩
  rw [hw4] at X9 X64 X84 HR4 HB4 hs4 ⊢
  obtain ⟨q9, hq9⟩ : ∃ q, w3.heap.size = q := ⟨_, rfl⟩
  rw [hq9] at X9 hs3 hs4 hgl HR4 ⊢
  have x9 := X9.out.cell 0
  simp at x9
  clear hw4 X63 X83 HR3 HB3
  go_wp2_with fail
  refine (kt.out g _ w4 HR4.out (fun k hk => by omega)).mono ?_
  rintro e w5 ⟨v, rfl, hV, hR, hg⟩
  obtain ⟨Av, cv, rfl⟩ := Kd.R_slice hV
  have hs5 := hg.size
  have HR5 := Aside0.mk hR
  have HB5 : Aside0 (Below q w w5) := ⟨HB4.out.grown hg (by omega) (fun k e => by injection e with e; omega)⟩
  have X65 := Aside0.mk (blk_grown X64.out hg (fun e => by injection e with e; omega))
  have X85 := Aside0.mk (blk_grown X84.out hg (fun e => by injection e with e; omega))
  have X95 := Aside0.mk (blk_grown X9.out hg (fun e => by injection e with e; omega))
  have V5 : Aside0 (Kd.R k37 37 (w5.alloc (Obj.cells #[.int .u64 n0, .int .i64 n1, .int .u32 n2, .slice Av L.length cv] 26)) w4.heap.size (fun _ => True) (.slice Av L.length cv) L) := ⟨Kd.R_alloc hV _⟩
  clear hR hg hV X64 X84 X9 HR4 HB4 x9 kt
  have x9 : ∀ o : Obj, (w5.alloc o).cell? ⟨q9, 0, none⟩ = some (.pointer (some ⟨g, 0, none⟩)) := fun o => (X95.out.alloc.cell 0).trans rfl
  go_wp2_with fail
  have XA : Aside0 (Blk (w5.alloc (Obj.cells #[.int .u64 n0, .int .i64 n1, .int .u32 n2, .slice Av L.length cv] 26)) w5.heap.size (Obj.cells #[.int .u64 n0, .int .i64 n1, .int .u32 n2, .slice Av L.length cv] 26 (0, 0))) := ⟨Blk.new_⟩
  have X66 : Aside0 (Blk (w5.alloc (Obj.cells #[.int .u64 n0, .int .i64 n1, .int .u32 n2, .slice Av L.length cv] 26)) q (Obj.cells #[.int .u64 0, .int .i64 0, .int .u32 0, .slice none 0 0] 26 (0, 0))) := ⟨X65.out.alloc⟩
  have X86 : Aside0 (Blk (w5.alloc (Obj.cells #[.int .u64 n0, .int .i64 n1, .int .u32 n2, .slice Av L.length cv] 26)) (q + 1) (Obj.cells #[.int .u64 0, .int .i64 0, .int .u32 0, .slice none 0 0] 26 (0, 0))) := ⟨X85.out.alloc⟩
  have HR6 : Aside0 (RdrS (w5.alloc (Obj.cells #[.int .u64 n0, .int .i64 n1, .int .u32 n2, .slice Av L.length cv] 26)) g (fun k => wa.heap.size ≤ k ∧ k < q9) r') := ⟨RdrAt.alloc HR5.out _⟩
  have HB6 : Aside0 (Below q w (w5.alloc (Obj.cells #[.int .u64 n0, .int .i64 n1, .int .u32 n2, .slice Av L.length cv] 26))) := ⟨HB5.out.trans (below_weak_ (below_alloc (Below.refl w5.heap.size w5) _) (by omega))⟩
  obtain ⟨w6, hw6⟩ : ∃ W, (w5.alloc (Obj.cells #[.int .u64 n0, .int .i64 n1, .int .u32 n2, .slice Av L.length cv] 26)) = W := ⟨_, rfl⟩
  rw [hw6] at XA X66 X86 HR6 HB6 V5 ⊢
  obtain ⟨qa, hqa⟩ : ∃ q, w5.heap.size = q := ⟨_, rfl⟩
  rw [hqa] at XA ⊢
  have hq4 : q + 1 < w4.heap.size := by omega
  clear hw6 X65 X85 X95 HR5 HB5
  refine (Done_calls g _ r' w6 HR6.out (by have := HL.out; omega)).mono ?_
  rintro e w7 ⟨rfl, rfl⟩
  rw [HDN.out]
  have X6' := X66
  rcases hd21 with h0 | h0
  · subst h0
    have a0 := (XA.out.cell 0).trans (rfl : _ = some (Value.int .u64 n0))
    have a1 := (XA.out.cell 1).trans (rfl : _ = some (Value.int .i64 n1))
    have a2 := (XA.out.cell 2).trans (rfl : _ = some (Value.int .u32 n2))
    have a3 := (XA.out.cell 3).trans (rfl : _ = some (Value.slice Av L.length cv))
    go_wp2_with fail
    refine (posts_calls n0 n1 n2 Av cv L w6 (Kd.R_reads' V5.out).2.2).mono ?_
    rintro e w8 ⟨rfl, hb⟩
    have XA8 := Aside0.mk (XA.out.below hb)
    have X6' := Aside0.mk (X66.out.below hb)
    have X8' := Aside0.mk (X86.out.below hb)
    have V8 := Aside0.mk (Kd.R_below V5.out hb)
    have HB7 : Aside0 (Below q w w8) := ⟨HB6.out.trans (below_weak_ hb (Nat.le_of_lt X66.out.lt))⟩
    have b0 := (XA8.out.cell 0).trans (rfl : _ = some (Value.int .u64 n0))
    have b1 := (XA8.out.cell 1).trans (rfl : _ = some (Value.int .i64 n1))
    have b2 := (XA8.out.cell 2).trans (rfl : _ = some (Value.int .u32 n2))
    have b3 := (XA8.out.cell 3).trans (rfl : _ = some (Value.slice Av L.length cv))
    have u0 := (X8'.out.cell 0).trans (rfl : _ = some (Value.int .u64 0))
    have u1 := (X8'.out.cell 1).trans (rfl : _ = some (Value.int .i64 0))
    have u2 := (X8'.out.cell 2).trans (rfl : _ = some (Value.int .u32 0))
    have u3 := (X8'.out.cell 3).trans (rfl : _ = some (Value.slice none 0 0))
    have c0 := (X6'.out.cell 0).trans (rfl : _ = some (Value.int .u64 0))
    have cf0 := X6'.out.free 0
    have c1 := (X6'.out.cell 1).trans (rfl : _ = some (Value.int .i64 0))
    have cf1 := X6'.out.free 1
    have c2 := (X6'.out.cell 2).trans (rfl : _ = some (Value.int .u32 0))
    have cf2 := X6'.out.free 2
    have c3 := (X6'.out.cell 3).trans (rfl : _ = some (Value.slice none 0 0))
    have cf3 := X6'.out.free 3
    clear hb X66 X86 XA HR6 x9 V5
    cases hok : eposts n0 n1 L
    · have hz := HX.out
      unfold gsel_posting at hz
      rw [hok, if_neg (by simp)] at hz
      simp only [Prod.mk.injEq] at hz
      obtain ⟨⟨rfl, rfl, rfl, rfl⟩, rfl⟩ := hz
      clear HX hok
      go_wp2_with fail
      have XF : Aside0 (Blk ((((w8.setCell ⟨q, 0, none⟩ (.int .u64 0)).setCell ⟨q, 1, none⟩ (.int .i64 0)).setCell ⟨q, 2, none⟩ (.int .u32 0)).setCell ⟨q, 3, none⟩ (.slice none 0 0)) q (Obj.cells #[.int .u64 0, .int .i64 0, .int .u32 0, .slice none 0 0] 26 (0, 0))) := ⟨((((X6'.out.put 0 (.int .u64 0) rfl).put 1 (.int .i64 0) rfl).put 2 (.int .u32 0) rfl).put 3 (.slice none 0 0) rfl)⟩
      have HF : Aside0 (Below q w ((((w8.setCell ⟨q, 0, none⟩ (.int .u64 0)).setCell ⟨q, 1, none⟩ (.int .i64 0)).setCell ⟨q, 2, none⟩ (.int .u32 0)).setCell ⟨q, 3, none⟩ (.slice none 0 0))) := ⟨(Below.setCell (Below.setCell (Below.setCell (Below.setCell HB7.out (p := ⟨q, 0, none⟩) (Nat.le_refl _) (.int .u64 0)) (p := ⟨q, 1, none⟩) (Nat.le_refl _) (.int .i64 0)) (p := ⟨q, 2, none⟩) (Nat.le_refl _) (.int .u32 0)) (p := ⟨q, 3, none⟩) (Nat.le_refl _) (.slice none 0 0))⟩
      have d0 := (XF.out.cell 0).trans (rfl : _ = some (Value.int .u64 0))
      have d1 := (XF.out.cell 1).trans (rfl : _ = some (Value.int .i64 0))
      have d2 := (XF.out.cell 2).trans (rfl : _ = some (Value.int .u32 0))
      have d3 := (XF.out.cell 3).trans (rfl : _ = some (Value.slice none 0 0))
      refine bodyPost_ret (v := .tuple #[.agg #[.int .u64 0, .int .i64 0, .int .u32 0, .slice none 0 0], .int .i64 21]) ?_ rfl ⟨_, rfl, Kd.R_nil _ _ _ _ _, by rw [hq]; exact HF.out⟩
      simp [results, Try.results40, go_sem, d0, d1, d2, d3]
    · have hz := HX.out
      unfold gsel_posting at hz
      rw [hok, if_pos (by simp)] at hz
      simp only [Prod.mk.injEq] at hz
      obtain ⟨⟨rfl, rfl, rfl, rfl⟩, rfl⟩ := hz
      clear HX hok
      go_wp2_with fail
      have XF : Aside0 (Blk ((((w8.setCell ⟨q, 0, none⟩ (.int .u64 n0)).setCell ⟨q, 1, none⟩ (.int .i64 n1)).setCell ⟨q, 2, none⟩ (.int .u32 n2)).setCell ⟨q, 3, none⟩ (.slice Av L.length cv)) q (Obj.cells #[.int .u64 n0, .int .i64 n1, .int .u32 n2, .slice Av L.length cv] 26 (0, 0))) := ⟨((((X6'.out.put 0 (.int .u64 n0) rfl).put 1 (.int .i64 n1) rfl).put 2 (.int .u32 n2) rfl).put 3 (.slice Av L.length cv) rfl)⟩
      have HF : Aside0 (Below q w ((((w8.setCell ⟨q, 0, none⟩ (.int .u64 n0)).setCell ⟨q, 1, none⟩ (.int .i64 n1)).setCell ⟨q, 2, none⟩ (.int .u32 n2)).setCell ⟨q, 3, none⟩ (.slice Av L.length cv))) := ⟨(Below.setCell (Below.setCell (Below.setCell (Below.setCell HB7.out (p := ⟨q, 0, none⟩) (Nat.le_refl _) (.int .u64 n0)) (p := ⟨q, 1, none⟩) (Nat.le_refl _) (.int .i64 n1)) (p := ⟨q, 2, none⟩) (Nat.le_refl _) (.int .u32 n2)) (p := ⟨q, 3, none⟩) (Nat.le_refl _) (.slice Av L.length cv))⟩
      have VF : Aside0 (Kd.R k37 37 ((((w8.setCell ⟨q, 0, none⟩ (.int .u64 n0)).setCell ⟨q, 1, none⟩ (.int .i64 n1)).setCell ⟨q, 2, none⟩ (.int .u32 n2)).setCell ⟨q, 3, none⟩ (.slice Av L.length cv)) q (fun _ => True) (.slice Av L.length cv) L) := ⟨Kd.R_mono (Kd.R_lower (Kd.R_far (Kd.R_bound (Kd.R_far (Kd.R_bound (Kd.R_far (Kd.R_bound (Kd.R_far (Kd.R_bound V8.out) (p := ⟨q, 0, none⟩) (fun k hk => by have := hk.2.1; show k ≠ q; omega) (.int .u64 n0))) (p := ⟨q, 1, none⟩) (fun k hk => by have := hk.2.1; show k ≠ q; omega) (.int .i64 n1))) (p := ⟨q, 2, none⟩) (fun k hk => by have := hk.2.1; show k ≠ q; omega) (.int .u32 n2))) (p := ⟨q, 3, none⟩) (fun k hk => by have := hk.2.1; show k ≠ q; omega) (.slice Av L.length cv)) (by omega)) (fun _ _ => trivial)⟩
      have d0 := (XF.out.cell 0).trans (rfl : _ = some (Value.int .u64 n0))
      have d1 := (XF.out.cell 1).trans (rfl : _ = some (Value.int .i64 n1))
      have d2 := (XF.out.cell 2).trans (rfl : _ = some (Value.int .u32 n2))
      have d3 := (XF.out.cell 3).trans (rfl : _ = some (Value.slice Av L.length cv))
      refine bodyPost_ret (v := .tuple #[.agg #[.int .u64 n0, .int .i64 n1, .int .u32 n2, .slice Av L.length cv], .int .i64 0]) ?_ rfl ⟨_, rfl, by rw [hq]; exact VF.out, by rw [hq]; exact HF.out⟩
      simp [results, Try.results40, go_sem, d0, d1, d2, d3]
  · subst h0
    have HB7 := HB6
    have hz := HX.out
    unfold gsel_posting at hz
    rw [if_neg (by simp)] at hz
    simp only [Prod.mk.injEq] at hz
    obtain ⟨⟨rfl, rfl, rfl, rfl⟩, rfl⟩ := hz
    clear HX
    have b0 := (X86.out.cell 0).trans (rfl : _ = some (Value.int .u64 0))
    have b1 := (X86.out.cell 1).trans (rfl : _ = some (Value.int .i64 0))
    have b2 := (X86.out.cell 2).trans (rfl : _ = some (Value.int .u32 0))
    have b3 := (X86.out.cell 3).trans (rfl : _ = some (Value.slice none 0 0))
    have c0 := (X6'.out.cell 0).trans (rfl : _ = some (Value.int .u64 0))
    have cf0 := X6'.out.free 0
    have c1 := (X6'.out.cell 1).trans (rfl : _ = some (Value.int .i64 0))
    have cf1 := X6'.out.free 1
    have c2 := (X6'.out.cell 2).trans (rfl : _ = some (Value.int .u32 0))
    have cf2 := X6'.out.free 2
    have c3 := (X6'.out.cell 3).trans (rfl : _ = some (Value.slice none 0 0))
    have cf3 := X6'.out.free 3
    go_wp2_with fail
    have XF : Aside0 (Blk ((((w6.setCell ⟨q, 0, none⟩ (.int .u64 0)).setCell ⟨q, 1, none⟩ (.int .i64 0)).setCell ⟨q, 2, none⟩ (.int .u32 0)).setCell ⟨q, 3, none⟩ (.slice none 0 0)) q (Obj.cells #[.int .u64 0, .int .i64 0, .int .u32 0, .slice none 0 0] 26 (0, 0))) := ⟨((((X6'.out.put 0 (.int .u64 0) rfl).put 1 (.int .i64 0) rfl).put 2 (.int .u32 0) rfl).put 3 (.slice none 0 0) rfl)⟩
    have HF : Aside0 (Below q w ((((w6.setCell ⟨q, 0, none⟩ (.int .u64 0)).setCell ⟨q, 1, none⟩ (.int .i64 0)).setCell ⟨q, 2, none⟩ (.int .u32 0)).setCell ⟨q, 3, none⟩ (.slice none 0 0))) := ⟨(Below.setCell (Below.setCell (Below.setCell (Below.setCell HB7.out (p := ⟨q, 0, none⟩) (Nat.le_refl _) (.int .u64 0)) (p := ⟨q, 1, none⟩) (Nat.le_refl _) (.int .i64 0)) (p := ⟨q, 2, none⟩) (Nat.le_refl _) (.int .u32 0)) (p := ⟨q, 3, none⟩) (Nat.le_refl _) (.slice none 0 0))⟩
    have d0 := (XF.out.cell 0).trans (rfl : _ = some (Value.int .u64 0))
    have d1 := (XF.out.cell 1).trans (rfl : _ = some (Value.int .i64 0))
    have d2 := (XF.out.cell 2).trans (rfl : _ = some (Value.int .u32 0))
    have d3 := (XF.out.cell 3).trans (rfl : _ = some (Value.slice none 0 0))
    refine bodyPost_ret (v := .tuple #[.agg #[.int .u64 0, .int .i64 0, .int .u32 0, .slice none 0 0], .int .i64 21]) ?_ rfl ⟨_, rfl, Kd.R_nil _ _ _ _ _, by rw [hq]; exact HF.out⟩
    simp [results, Try.results40, go_sem, d0, d1, d2, d3]
set_option maxRecDepth 100000 in
set_option maxHeartbeats 1600000 in
theorem Getposting_all (A : Option Addr) (c : Nat) (l : List Int) (w : World) (hC : Kd.C (Kd.int .u8) w A l.length l) (hby : ∀ x ∈ l, IsByte x) (hm : l.length ≤ 140737488355000) (z0 z1 z2 er : Int) (LL : List S37) (hG : gposting l = ((z0, z1, z2, LL), er)) :
    Calls Try.prog 22 #[.slice A l.length c] w fun e w' => ∃ v : Value, e = .returned (.tuple #[.agg #[.int .u64 z0, .int .i64 z1, .int .u32 z2, v], .int .i64 er]) ∧ Kd.R k37 37 w' w.heap.size (fun _ => True) v LL ∧ Below w.heap.size w w' := by
  have kr := Aside0.mk (fun w hC => read_posting A c l w hC hby hm z0 z1 z2 er LL hG)
  have HC := Aside0.mk hC
  clear hC hby hm hG
  go_enter Try.func22, Try.ntmps22
  go_wp2_with fail
  have X0 : Aside0 (Blk (w.alloc (Obj.cells #[.int .u64 0, .int .i64 0, .int .u32 0, .slice none 0 0] 26)) w.heap.size (Obj.cells #[.int .u64 0, .int .i64 0, .int .u32 0, .slice none 0 0] 26 (0, 0))) := ⟨Blk.new_⟩
  refine (kr.out _ (Kd.C_below HC.out (below_alloc (Below.refl _ _) _))).mono ?_
  rintro e w2 ⟨v, rfl, hV, hb⟩
  obtain ⟨Av, cv, rfl⟩ := Kd.R_slice hV
  have X1 := Aside0.mk (X0.out.below hb)
  have HB := Aside0.mk (below_step (below_alloc (Below.refl _ _) _) hb)
  rw [size_alloc] at hV
  have V2 := Aside0.mk hV
  clear hb X0 kr hV
  obtain ⟨q, hq⟩ : ∃ q, w.heap.size = q := ⟨_, rfl⟩
  rw [hq] at X1 HB V2 ⊢
  have c0 := (X1.out.cell 0).trans (rfl : _ = some (Value.int .u64 0))
  have cf0 := X1.out.free 0
  have c1 := (X1.out.cell 1).trans (rfl : _ = some (Value.int .i64 0))
  have cf1 := X1.out.free 1
  have c2 := (X1.out.cell 2).trans (rfl : _ = some (Value.int .u32 0))
  have cf2 := X1.out.free 2
  have c3 := (X1.out.cell 3).trans (rfl : _ = some (Value.slice none 0 0))
  have cf3 := X1.out.free 3
  go_wp2_with fail
  have XF : Aside0 (Blk ((((w2.setCell ⟨q, 0, none⟩ (.int .u64 z0)).setCell ⟨q, 1, none⟩ (.int .i64 z1)).setCell ⟨q, 2, none⟩ (.int .u32 z2)).setCell ⟨q, 3, none⟩ (.slice Av LL.length cv)) q (Obj.cells #[.int .u64 z0, .int .i64 z1, .int .u32 z2, .slice Av LL.length cv] 26 (0, 0))) := ⟨((((X1.out.put 0 (.int .u64 z0) rfl).put 1 (.int .i64 z1) rfl).put 2 (.int .u32 z2) rfl).put 3 (.slice Av LL.length cv) rfl)⟩
  have HF : Aside0 (Below q w ((((w2.setCell ⟨q, 0, none⟩ (.int .u64 z0)).setCell ⟨q, 1, none⟩ (.int .i64 z1)).setCell ⟨q, 2, none⟩ (.int .u32 z2)).setCell ⟨q, 3, none⟩ (.slice Av LL.length cv))) := ⟨(Below.setCell (Below.setCell (Below.setCell (Below.setCell HB.out (p := ⟨q, 0, none⟩) (Nat.le_refl _) (.int .u64 z0)) (p := ⟨q, 1, none⟩) (Nat.le_refl _) (.int .i64 z1)) (p := ⟨q, 2, none⟩) (Nat.le_refl _) (.int .u32 z2)) (p := ⟨q, 3, none⟩) (Nat.le_refl _) (.slice Av LL.length cv))⟩
  have VF : Aside0 (Kd.R k37 37 ((((w2.setCell ⟨q, 0, none⟩ (.int .u64 z0)).setCell ⟨q, 1, none⟩ (.int .i64 z1)).setCell ⟨q, 2, none⟩ (.int .u32 z2)).setCell ⟨q, 3, none⟩ (.slice Av LL.length cv)) q (fun _ => True) (.slice Av LL.length cv) LL) := ⟨Kd.R_mono (Kd.R_lower (Kd.R_far (Kd.R_bound (Kd.R_far (Kd.R_bound (Kd.R_far (Kd.R_bound (Kd.R_far (Kd.R_bound V2.out) (p := ⟨q, 0, none⟩) (fun k hk => by have := hk.2.1; show k ≠ q; omega) (.int .u64 z0))) (p := ⟨q, 1, none⟩) (fun k hk => by have := hk.2.1; show k ≠ q; omega) (.int .i64 z1))) (p := ⟨q, 2, none⟩) (fun k hk => by have := hk.2.1; show k ≠ q; omega) (.int .u32 z2))) (p := ⟨q, 3, none⟩) (fun k hk => by have := hk.2.1; show k ≠ q; omega) (.slice Av LL.length cv)) (by omega)) (fun _ _ => trivial)⟩
  have d0 := (XF.out.cell 0).trans (rfl : _ = some (Value.int .u64 z0))
  have d1 := (XF.out.cell 1).trans (rfl : _ = some (Value.int .i64 z1))
  have d2 := (XF.out.cell 2).trans (rfl : _ = some (Value.int .u32 z2))
  have d3 := (XF.out.cell 3).trans (rfl : _ = some (Value.slice Av LL.length cv))
  refine bodyPost_ret (v := .tuple #[.agg #[.int .u64 z0, .int .i64 z1, .int .u32 z2, .slice Av LL.length cv], .int .i64 er]) ?_ rfl ⟨_, rfl, by rw [hq]; exact VF.out, by rw [hq]; exact HF.out⟩
  simp [results, Try.results22, go_sem, d0, d1, d2, d3]
end Go.Proofs.Ytdfmganmchmbjaa.Ext
