/- frame.Newest, proved by walking its code. -/
import Derived.Test.YtddajglkefpjdaaFPut
import Derived.Test.YtddajglkefpjdaaFBytes
import Derived.Test.YtddajglkefpjdaaInRound
namespace Go.Proofs.Ytddajglkefpjdaa.Ext
open Go.RowKit Go.Shelf Go.Proofs.YtddajglkefpjdaaW.PrintWords Go.Proofs.YtddajglkefpjdaaW.PrintLast Go.Proofs.YtddajglkefpjdaaW.PrintMore Go.Proofs.YtddajglkefpjdaaW.Hand
attribute [local go_sem] Oper.semAt_some
attribute [local go_sem] max2_int min2_int max_two min_two
set_option linter.unusedVariables false
def fsec (page : List Int) (k : Nat) : Int := (⟨(page.drop (512 * k)).take 8, false⟩ : Rs).uint.1
def fnewest (page : List Int) (ks : List Nat) : Int := ks.foldl (fun m k => if m < fsec page k then fsec page k else m) 0
theorem fnewest_snoc (page : List Int) (ks : List Nat) (k : Nat) : fnewest page (ks ++ [k]) = if fnewest page ks < fsec page k then fsec page k else fnewest page ks := by unfold fnewest; rw [List.foldl_append]; rfl
def fnewv (page : List Int) : Int := if page.length = 4096 then fnewest page (List.range 8) else 0
theorem fNew_short (A : Option Addr) (c n : Nat) (w : World) (hn : n ≠ 4096) :
    Calls Try.prog 12 #[.slice A n c] w fun e w' => e = .returned (.int .u64 0) ∧ Below w.heap.size w w' := by
  have d1 : ((n : Int) != 4096) = true := bne_iff_ne.2 (by omega)
  go_enter Try.func12, Try.ntmps12
  go_wp2
  go_ret
  exact ⟨rfl, below_alloc (below_alloc (Below.refl _ _) _) _⟩
structure NI (w W : World) (q : Nat) (A : Option Addr) (c : Nat) (m : Int) : Prop where
  below : Below q w W
  pbox : W.heap[q]? = some (Obj.cells #[.slice A 4096 c] 23 (0, 0))
  obox : W.heap[q + 1]? = some (Obj.cells #[.int .u64 m] 22 (0, 0))
theorem NI.step {w W W' : World} {q : Nat} {A : Option Addr} {c : Nat} {m : Int} (h : NI w W q A c m) (hb : Below W.heap.size W W') : NI w W' q A c m :=
  ⟨h.below.trans (below_weak_ hb (by have := (Array.getElem?_eq_some_iff.1 h.pbox).1; omega)), (hb.block q (Array.getElem?_eq_some_iff.1 h.pbox).1).trans h.pbox, (hb.block (q + 1) (Array.getElem?_eq_some_iff.1 h.obox).1).trans h.obox⟩
theorem NI.own {w W W' : World} {q L : Nat} {A : Option Addr} {c : Nat} {m : Int} {row : Option Nat} (h : NI w W q A c m) (hL : q ≤ L) (hg : W.grownBy W' row) (hr : ∀ r, row = some r → L ≤ r ∧ ∃ o : Obj, W.heap[r]? = some o ∧ o.isCells = false) : NI w W' q A c m :=
  ⟨h.below.grown hg (by have := (Array.getElem?_eq_some_iff.1 h.pbox).1; omega) (fun k e => by have := (hr k e).1; omega), blk_own h.pbox rfl hg hr, blk_own h.obox rfl hg hr⟩
theorem NI.put {w W : World} {q : Nat} {A : Option Addr} {c : Nat} {m : Int} (h : NI w W q A c m) (m' : Int) : NI w (W.setCell ⟨q + 1, 0, none⟩ (.int .u64 m')) q A c m' :=
  ⟨h.below.setCell (by show q ≤ q + 1; omega) _, (Below.heap_setCell W ⟨q + 1, 0, none⟩ _ q (by show q ≠ q + 1; omega)).trans h.pbox, (Blk.put ⟨h.obox⟩ 0 _ rfl).out⟩
set_option maxRecDepth 100000 in
set_option maxHeartbeats 3200000 in
theorem fNew_full (A : Option Addr) (c : Nat) (page : List Int) (hp : page.length = 4096) (hby : ∀ x ∈ page, IsByte x) (w : World) (hC : Kd.C (Kd.int .u8) w A 4096 page) (hc : 4096 ≤ c) :
    Calls Try.prog 12 #[.slice A 4096 c] w fun e w' => e = .returned (.int .u64 (fnewest page (List.range 8))) ∧ Below w.heap.size w w' := by
  have HC := Aside0.mk hC
  have Hc := Aside0.mk hc
  have HP := Aside0.mk hp
  have HBy := Aside0.mk hby
  clear hC hc hp hby
  refine (callsIn_wide (n := 5)).1 ?_
  refine callsIn_of_wp_marks Try.func12 rfl trivial ?_ rfl
  simp only [Try.ntmps12, List.size_toArray, List.length_cons, List.length_nil, Nat.reduceAdd, Nat.reduceSub, Array.replicate_succ, Array.replicate_zero, List.push_toArray, List.append_toArray, List.nil_append, List.cons_append]
  refine wpIn_wide.2 ?_
  go_wp2_with fail
  refine ((callsIn_wide (n := 5)).1 (sectors_in Fence.wide 5 trivial rfl _)).mono ?_
  rintro e w1 ⟨rfl, rfl⟩
  have G0 : Aside0 (NI w (((w.alloc (Obj.cells #[.slice A 4096 c] 23)).alloc (Obj.cells #[.int .u64 0] 22))) w.heap.size A c 0) := by
    refine ⟨⟨below_alloc (below_alloc (Below.refl _ _) _) _, ?_, ?_⟩⟩
    · exact heap_alloc_lt _ _ (by simp) (heap_new _ _)
    · exact heap_new' _ _ (by simp)
  obtain ⟨q, hq⟩ : ∃ q, w.heap.size = q := ⟨_, rfl⟩
  rw [hq] at G0 ⊢
  obtain ⟨wL, hwL⟩ : ∃ W, ((w.alloc (Obj.cells #[.slice A 4096 c] 23)).alloc (Obj.cells #[.int .u64 0] 22)) = W := ⟨_, rfl⟩
  rw [hwL] at G0 ⊢
  clear hwL
  go_wp2_with fail
  refine (wpIn_wide (n := 5)).1 ?_
  have hqL : q ≤ wL.heap.size := by have := (Array.getElem?_eq_some_iff.1 G0.out.pbox).1; omega
  obtain ⟨L0, hL0⟩ : ∃ L, wL.heap.size = L := ⟨_, rfl⟩
  refine wpIn_rangeFunc_ownF rfl (by omega) (gf := 29) (lb := #[]) rfl trivial (enters_of Try.func29 (by kernel_rfl) rfl)
    (sectors_stopsT Fence.wide _ rfl (by omega) wL) (fun _ _ => trivial) (fun _ _ _ _ _ _ _ _ => trivial) (Below.refl _ _) (fun _ => rfl)
    (fun pre W => NI w W q A c (fnewest page (pre.map Subtype.val)))
    (fun _ _ _ => False)
    (fun pre W W' row hI hg hr => hI.own hqL hg hr)
    (fun _ _ _ _ _ hs _ _ => hs)
    G0.out
    (fun x => { tmps := #[.slice A 4096 c, .pointer (some ⟨q, 0, none⟩), .int .u64 0, .pointer (some ⟨q + 1, 0, none⟩), undef, .int .i64 (((x.1 : Nat) : Int) * 512), .slice A 4096 c, .int .i64 4096, .bool false, undef, .func (Fn.func 29) #[] #[], .int .i64 (((x.1 : Nat) : Int) * 504), .int .i64 (((x.1 : Nat) : Int) * 512), undef, undef, undef, undef, undef, undef, undef, undef, undef, undef], defers := [] }) ?assign ?body ?done ?stop
  case assign =>
    intro l x W K hK
    gi_wp2
    exact hK
  case body =>
    rintro l pre ⟨k, hk8⟩ W hI hlt
    have HSN : Aside0 (fnewest page ((pre ++ [(⟨k, hk8⟩ : N8)]).map Subtype.val) = if fnewest page (pre.map Subtype.val) < fsec page k then fsec page k else fnewest page (pre.map Subtype.val)) := ⟨by rw [List.map_append, List.map_cons, List.map_nil, fnewest_snoc]⟩
    obtain ⟨m, hm⟩ : ∃ m, fnewest page (pre.map Subtype.val) = m := ⟨_, rfl⟩
    rw [hm] at hI HSN
    have Id := Aside0.mk (hI.step (below_drew (Below.refl _ _)))
    clear hI hm
    obtain ⟨A14, c14, s14, t14, l14⟩ := cut_mid (A := A) (c := c) (xs := page) (a := 512 * k) (b := 512 * k + 8) (by omega) (by rw [HP.out]; omega) (by rw [HP.out]; exact Hc.out) ((k : Int) * 512) ((k : Int) * 512 + 8) (by omega) (by omega)
    have C14 := t14 W.drew (Kd.C_below (by rw [HP.out]; exact HC.out) (hq ▸ Id.out.below))
    rw [HP.out] at s14
    rw [show 512 * k + 8 - 512 * k = 8 by omega] at s14 C14
    have hl8 : ((page.drop (512 * k)).take 8).length = 8 := by rw [List.length_take, List.length_drop, HP.out]; omega
    have HL8 : Aside0 ((⟨(page.drop (512 * k)).take 8, false⟩ : Rs).xs.length ≤ 140737488355000) := ⟨by show ((page.drop (512 * k)).take 8).length ≤ _; rw [hl8]; decide⟩
    have kn := New_calls A14 c14 ((page.drop (512 * k)).take 8) W.drew (by rw [hl8]; exact C14) (fun x hx => HBy.out x (List.mem_of_mem_drop (List.mem_of_mem_take hx))) (by rw [hl8]; decide)
    rw [hl8] at kn
    have kn' := Aside0.mk kn
    clear kn C14 t14 l14 hl8
    have kn := kn'
    clear kn'
    have HS : Aside0 ((⟨(page.drop (512 * k)).take 8, false⟩ : Rs).uint.1 = fsec page k) := ⟨rfl⟩
    obtain ⟨s, hs⟩ : ∃ s, fsec page k = s := ⟨_, rfl⟩
    rw [hs] at HSN HS
    clear hs
    have co := (cell_of_row W.drew (q + 1) 0 _ _ _ Id.out.obox).trans (rfl : _ = some (Value.int .u64 m))
    have cp := (cell_of_row W.drew q 0 _ _ _ Id.out.pbox).trans (rfl : _ = some (Value.slice A 4096 c))
    have ew1 : IntKind.i64.wrap ((k : Int) * 512 + 8) = (k : Int) * 512 + 8 := by rw [IntKind.wrap_i64]; omega
    dsimp only
    gi_wp2_with fail
    refine start_in (S := (fun w' => w'.cell? ⟨q + 1, 0, none⟩ = some (Value.int .u64 m) ∧ w'.cell? ⟨q, 0, none⟩ = some (Value.slice A 4096 c))) (ds := [9]) #[false, false, false, false, false, false, false, false, false, false] (by kernel_rfl) rfl rfl (by kernel_rfl) ⟨co, cp⟩ (fun hHeld => ?_)
    refine take_ (i := 0) (N := some 13) (v := ?_) (a' := ?_) #[true, false, false, false, false, false, false, false, false, false] rfl rfl (by kernel_rfl) (fun _ _ _ h => h) (Or.inl ⟨by rfl, ?_⟩) hHeld ?_ ?_
    rotate_left
    · rintro w' ⟨s0, s1⟩
      go_simp
      with_reducible rfl
    rotate_left
    · simp only [Act.put, List.setIfInBounds_toArray, List.set_cons_zero, List.set_cons_succ]
      rfl
    refine take_ (i := 1) (N := some 14) (v := ?_) (a' := ?_) #[true, true, false, false, false, false, false, false, false, false] rfl rfl (by kernel_rfl) (fun _ _ _ h => h) (Or.inl ⟨by rfl, ?_⟩) hHeld ?_ ?_
    rotate_left
    · rintro w' ⟨s0, s1⟩
      go_simp
      with_reducible rfl
    rotate_left
    · simp only [Act.put, List.setIfInBounds_toArray, List.set_cons_zero, List.set_cons_succ]
      rfl
    refine pure_ (i := 2) (N := some 15) (v := ?_) (a' := ?_) #[true, true, true, false, false, false, false, false, false, false] rfl rfl (by kernel_rfl) (fun _ _ _ h => h) (Or.inl ⟨by rfl, ?_⟩) ?_ ?_
    rotate_left
    · intro w'
      go_simp
      with_reducible rfl
    rotate_left
    · simp only [Act.put, List.setIfInBounds_toArray, List.set_cons_zero, List.set_cons_succ]
      rfl
    refine pure_ (i := 3) (N := some 16) (v := ?_) (a' := ?_) #[true, true, true, true, false, false, false, false, false, false] rfl rfl (by kernel_rfl) (fun _ _ _ h => h) (Or.inl ⟨by rfl, ?_⟩) ?_ ?_
    rotate_left
    · intro w'
      go_simp
      with_reducible rfl
    rotate_left
    · simp only [Act.put, List.setIfInBounds_toArray, List.set_cons_zero, List.set_cons_succ]
      rfl
    refine pure_ (i := 4) (N := some 17) (v := ?_) (a' := ?_) #[true, true, true, true, true, false, false, false, false, false] rfl rfl (by kernel_rfl) (fun _ _ _ h => h) (Or.inl ⟨by rfl, ?_⟩) ?_ ?_
    rotate_left
    · intro w'
      go_simp
      with_reducible rfl
    rotate_left
    · simp only [Act.put, List.setIfInBounds_toArray, List.set_cons_zero, List.set_cons_succ]
      rfl
    refine pure_ (i := 5) (N := some 18) (v := ?_) (a' := ?_) #[true, true, true, true, true, true, false, false, false, false] rfl rfl (by kernel_rfl) (fun _ _ _ h => h) (Or.inl ⟨by rfl, ?_⟩) ?_ ?_
    rotate_left
    · intro w'
      go_simp
      with_reducible rfl
    rotate_left
    · simp only [Act.put, List.setIfInBounds_toArray, List.set_cons_zero, List.set_cons_succ]
      rfl
    refine one_ (i := 6) (N := some 19) #[true, true, true, true, true, true, true, false, false, false] rfl rfl (by kernel_rfl) (by decide) (fun K hK => ?_)
    refine goes_ Try.func20 (by kernel_rfl) rfl #[.slice A14 8 c14] (by rfl) rfl rfl (by (try simp only [List.map_toArray, List.map_cons, List.map_nil]); first | done | rfl) ?_
    refine kn.out.mono ?_
    rintro e w4 ⟨g, rfl, hr4, hb4⟩
    have I4 := Aside0.mk (Id.out.step hb4)
    have HR4 := Aside0.mk hr4
    have HB4 := Aside0.mk hb4
    have HG4 : Aside0 (W.drew.heap.size ≤ g) := ⟨by obtain ⟨_, _, _, _, _, _, h⟩ := hr4; exact h.1⟩
    clear hr4 hb4 kn
    refine ⟨_, rfl, ?_⟩
    refine hK.out _ _ ⟨(cell_of_row w4 (q + 1) 0 _ _ _ I4.out.obox).trans rfl, (cell_of_row w4 q 0 _ _ _ I4.out.pbox).trans rfl⟩ (fun hHeld => ?_)
    clear hK K
    refine norm_ (a' := ?_) ?_ ?_
    rotate_left
    · show Act.put _ (some 19) _ = _
      simp only [Act.put, List.setIfInBounds_toArray, List.set_cons_zero, List.set_cons_succ]
      rfl
    refine one_ (i := 7) (N := some 20) #[true, true, true, true, true, true, true, true, false, false] rfl rfl (by kernel_rfl) (by decide) (fun K hK => ?_)
    refine goes_ Try.func21 (by kernel_rfl) rfl #[.pointer (some ⟨g, 0, none⟩)] (by rfl) rfl rfl (by (try simp only [List.map_toArray, List.map_cons, List.map_nil]); first | done | rfl) ?_
    refine (Uint_calls g _ ⟨(page.drop (512 * k)).take 8, false⟩ w4 HR4.out HL8.out).mono ?_
    rintro e w5 ⟨rfl, hr5, hg5⟩
    have HB5 : Aside0 (Below W.drew.heap.size W.drew w5) := ⟨HB4.out.grown hg5 HB4.out.size (fun k e => by injection e with e; have := HG4.out; omega)⟩
    have I5 := Aside0.mk (Id.out.step HB5.out)
    clear hr5 hg5
    rw [HS.out]
    refine ⟨_, rfl, ?_⟩
    refine hK.out _ _ ⟨(cell_of_row w5 (q + 1) 0 _ _ _ I5.out.obox).trans rfl, (cell_of_row w5 q 0 _ _ _ I5.out.pbox).trans rfl⟩ (fun hHeld => ?_)
    clear hK K
    refine norm_ (a' := ?_) ?_ ?_
    rotate_left
    · show Act.put _ (some 20) _ = _
      simp only [Act.put, List.setIfInBounds_toArray, List.set_cons_zero, List.set_cons_succ]
      rfl
    refine pure_ (i := 8) (N := some 21) (v := ?_) (a' := ?_) #[true, true, true, true, true, true, true, true, true, false] rfl rfl (by kernel_rfl) (fun _ _ _ h => h) (Or.inl ⟨by rfl, ?_⟩) ?_ ?_
    rotate_left
    · intro w'
      go_simp
      with_reducible rfl
    rotate_left
    · simp only [Act.put, List.setIfInBounds_toArray, List.set_cons_zero, List.set_cons_succ]
      rfl
    have co5 := (cell_of_row w5 (q + 1) 0 _ _ _ I5.out.obox).trans (rfl : _ = some (Value.int .u64 m))
    have gi5 := blk_frozen I5.out.obox 0
    refine last_ (i := 9) (N := none) #[true, true, true, true, true, true, true, true, true, true] rfl rfl (by kernel_rfl) (by decide) (fun K hK => ?_)
    go_simp
    refine hK.out _ _ ?_
    clear hK K
    refine done_ (by kernel_rfl) ?_
    refine OnlyNormal.normal ?_
    gi_wp2
    all_goals
      refine ⟨?_, trivial, ?_⟩
      · exact (ko_below (Below.trans (below_drew (Below.refl _ W)) HB5.out)).trans (KeepsOthers.setCell _ _ _)
      · show NI w _ q A c (fnewest page ((pre ++ [(⟨k, hk8⟩ : N8)]).map Subtype.val))
        rw [HSN.out]
        first
          | (rw [show (if m < s then s else m) = m by split <;> omega]; exact I5.out.put m)
          | (rw [show (if m < s then s else m) = s by split <;> omega]; exact I5.out.put s)
  case done =>
    rintro D ys W hD hys hI hK
    rw [hys] at hI
    have K9 := Aside0.mk (And.intro hI hK)
    have co := (cell_of_row W (q + 1) 0 _ _ _ hI.obox).trans (rfl : _ = some (Value.int .u64 (fnewest page (List.range 8))))
    clear hI hK hys
    go_wp2_with fail
    refine ⟨by simp, .inl ⟨_, _, rfl, run_takeDeferred K9.out.2, ?_⟩⟩
    have HO := K9.out.1.own (L := q) (Nat.le_refl _) (grownBy_putObj' W D (.deferred none)) (fun r e => by cases e; exact ⟨by omega, _, K9.out.2, rfl⟩)
    refine ⟨.int .u64 (fnewest page (List.range 8)), ?_, ⟨rfl, ?_⟩⟩
    · simp [results, Try.results12, go_sem]
    · rw [hq]
      exact HO.below
  case stop =>
    rintro D c' pre W hD hpre hF hK
    exact hF.elim
end Go.Proofs.Ytddajglkefpjdaa.Ext
