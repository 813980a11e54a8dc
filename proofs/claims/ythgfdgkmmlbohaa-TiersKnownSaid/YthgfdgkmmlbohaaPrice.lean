/- tiers.Price, proved by walking its code. -/
import Derived.Test.YthgfdgkmmlbohaaSpans
namespace Go.Proofs.Ythgfdgkmmlbohaa.Ext
open Go.RowKit Go.Shelf Go.Proofs.YthgfdgkmmlbohaaW.PrintWords Go.Proofs.YthgfdgkmmlbohaaW.PrintLast Go.Proofs.YthgfdgkmmlbohaaW.PrintMore Go.Proofs.YthgfdgkmmlbohaaW.Hand Go.Proofs.Ythgfdgkmmlbohaa.PZ
attribute [local go_sem] Oper.semAt_some
set_option linter.unusedVariables false
/-- One tier's cost more. -/
def pstep (s : Option Int) (x : S27 × Int) : Option Int :=
  s.bind fun s => if I64 (x.1.f1 * x.2) then (if I64 (s + x.1.f1 * x.2) then some (s + x.1.f1 * x.2) else none) else none
def priceAcc (l : List (S27 × Int)) : Option Int := l.foldl pstep (some 0)
theorem priceAcc_snoc (l : List (S27 × Int)) (x : S27 × Int) : priceAcc (l ++ [x]) = pstep (priceAcc l) x := by simp [priceAcc]
theorem foldl_none (l : List (S27 × Int)) : l.foldl pstep none = none := by
  induction l with
  | nil => rfl
  | cons x l ih => exact ih
theorem priceAcc_prefix {a b : List (S27 × Int)} (h : a <+: b) (ha : priceAcc a = none) : priceAcc b = none := by
  obtain ⟨c, rfl⟩ := h
  unfold priceAcc at *
  rw [List.foldl_append, ha, foldl_none]
def priceOf : Option Int → Int × Int
  | some s => (s, 0)
  | none => (0, 30)
theorem kpt_below {n₀ Bn : Nat} {W W' : World} (h : Below W.heap.size W W') (hn : n₀ ≤ W.heap.size) : KpT n₀ Bn W W' :=
  ⟨below_weak_ h hn, fun k c fr hk => (h.block k (Array.getElem?_eq_some_iff.1 hk).1).trans hk, fun o ho => (h.block Bn (Array.getElem?_eq_some_iff.1 ho).1).trans ho⟩
theorem kpt_set {n₀ Bn B t : Nat} {W : World} {v : Value} (u : Value) (hv : Boxed W B t v) (ht : t ≠ 27) (hB : Bn ≠ B) (hn : n₀ ≤ B) : KpT n₀ Bn W (W.setCell ⟨B, 0, none⟩ u) :=
  ⟨(Below.refl n₀ W).setCell (p := ⟨B, 0, none⟩) hn u, fun k c fr hk => (Below.heap_setCell W ⟨B, 0, none⟩ u k (fun e => by
    have e : k = B := e
    subst e
    have h2 : W.heap[k]? = some (.cells #[v] t (0, 0)) := hv
    rw [hk] at h2
    injection h2 with h2
    injection h2 with _ h3
    exact ht h3.symm)).trans hk, fun o ho => (Below.heap_setCell W ⟨B, 0, none⟩ u Bn hB).trans ho⟩
theorem boxed_below {W W' : World} {B t : Nat} {v : Value} (h : Boxed W B t v) (hb : Below W.heap.size W W') : Boxed W' B t v := (hb.block B h.lt).trans h
theorem boxed_ne {W : World} {B B' t : Nat} {v : Value} (h : Boxed W B t v) (hne : B ≠ B') (u : Value) : Boxed (W.setCell ⟨B', 0, none⟩ u) B t v := (Below.heap_setCell W ⟨B', 0, none⟩ u B hne).trans h
theorem ko_drewN (W : World) (n : Nat) : KeepsOthers W (W.drewN n) := ⟨Nat.le_refl _, fun k o h _ => h⟩
theorem ko_below {W W' : World} (h : Below W.heap.size W W') : KeepsOthers W W' := ⟨h.size, fun k o hk _ => (h.block k (Array.getElem?_eq_some_iff.1 hk).1).trans hk⟩
set_option maxRecDepth 100000 in
set_option maxHeartbeats 2000000 in
theorem Price_yes (A : Option Addr) (c : Nat) (ls : List S27) (n : Int) (w : World) (hC : Kd.C k27 w A ls.length ls) (hcap : ls.length ≤ c) (hk : chk ls = true) (hn0 : 0 ≤ n) (hn1 : n < 9223372036854775808) :
    Calls Try.prog 8 #[.slice A ls.length c, .int .i64 n] w fun e w' => e = .returned (.tuple #[.int .i64 (priceOf (priceAcc (spansFrom n 0 ls))).1, .int .i64 (priceOf (priceAcc (spansFrom n 0 ls))).2]) ∧ Below w.heap.size w w' := by
  obtain ⟨hl4, hls⟩ := chk_range hk
  have kc := Aside0.mk (fun (w : World) (hC : Kd.C k27 w A ls.length ls) => tiers_Check.calls A c ls true w hC hcap (by unfold tiers_Check.f; rw [hk]))
  have HC := Aside0.mk hC
  have HLS := Aside0.mk hls
  have hnn : decide (n < 0) = false := decide_eq_false (by omega)
  clear hC hls hk
  refine (callsIn_wide (n := 5)).1 ?_
  refine callsIn_of_wp_marks Try.func8 rfl trivial ?_ rfl
  simp only [Try.ntmps8, List.size_toArray, List.length_cons, List.length_nil, Nat.reduceAdd, Nat.reduceSub, Array.replicate_succ, Array.replicate_zero, List.push_toArray, List.append_toArray, List.nil_append, List.cons_append]
  gi_wp2_with fail
  refine ⟨trivial, callsIn_wide.2 ?_⟩
  have b4 := (Boxed.new w 2 (.int .i64 0)).alloc (.cells #[.int .i64 0] 23)
  have b5 := Boxed.new (w.alloc (.cells #[.int .i64 0] 2)) 23 (.int .i64 0)
  rw [World.size_alloc] at b5
  have hb0 : Below w.heap.size w ((w.alloc (.cells #[.int .i64 0] 2)).alloc (.cells #[.int .i64 0] 23)) := ((Below.refl _ w).alloc (Nat.le_refl _) _).alloc (by simp) _
  have hz0 : ((w.alloc (.cells #[.int .i64 0] 2)).alloc (.cells #[.int .i64 0] 23)).heap.size = w.heap.size + 2 := by simp
  refine (kc.out _ (Kd.C_below HC.out hb0)).mono ?_
  generalize ((w.alloc (.cells #[.int .i64 0] 2)).alloc (.cells #[.int .i64 0] 23)) = wa at b4 b5 hb0 hz0 ⊢
  rintro e w1 ⟨rfl, hb⟩
  have B4 := Aside0.mk (boxed_below b4 hb)
  have B5 := Aside0.mk (boxed_below b5 hb)
  have HB := Aside0.mk (below_step hb0 hb)
  have HC1 := Aside0.mk (Kd.C_below HC.out HB.out)
  have hs1 : w.heap.size + 2 ≤ w1.heap.size := by have := hb.size; omega
  clear hb kc b4 b5 hb0 hz0
  gi_wp2_with fail
  refine ⟨trivial, ?_⟩
  refine (spans_in Fence.wide _ trivial rfl A ls.length c n _).mono ?_
  rintro e w2 ⟨rfl, rfl⟩
  gi_wp2_with fail
  have b6 := ((Boxed.new w1 2 (.int .i64 0)).alloc (.cells #[.slice A ls.length c] 22)).alloc (.cells #[.int .i64 n] 2)
  have bL := (Boxed.new (w1.alloc (.cells #[.int .i64 0] 2)) 22 (.slice A ls.length c)).alloc (.cells #[.int .i64 n] 2)
  have bN := Boxed.new ((w1.alloc (.cells #[.int .i64 0] 2)).alloc (.cells #[.slice A ls.length c] 22)) 2 (.int .i64 n)
  have b4 := ((B4.out.alloc (.cells #[.int .i64 0] 2)).alloc (.cells #[.slice A ls.length c] 22)).alloc (.cells #[.int .i64 n] 2)
  have b5 := ((B5.out.alloc (.cells #[.int .i64 0] 2)).alloc (.cells #[.slice A ls.length c] 22)).alloc (.cells #[.int .i64 n] 2)
  rw [World.size_alloc, World.size_alloc] at bN
  rw [World.size_alloc] at bL
  have hB1 : Below w.heap.size w (((w1.alloc (.cells #[.int .i64 0] 2)).alloc (.cells #[.slice A ls.length c] 22)).alloc (.cells #[.int .i64 n] 2)) := below_alloc (below_alloc (below_alloc HB.out _) _) _
  have hsz : (((w1.alloc (.cells #[.int .i64 0] 2)).alloc (.cells #[.slice A ls.length c] 22)).alloc (.cells #[.int .i64 n] 2)).heap.size = w1.heap.size + 3 := by simp
  obtain ⟨wL, hwL⟩ : ∃ W, (((w1.alloc (.cells #[.int .i64 0] 2)).alloc (.cells #[.slice A ls.length c] 22)).alloc (.cells #[.int .i64 n] 2)) = W := ⟨_, rfl⟩
  rw [hwL] at b6 bL bN b4 b5 hB1 hsz ⊢
  clear hwL B4 B5
  obtain ⟨L0, hL0⟩ : ∃ L, wL.heap.size = L := ⟨_, rfl⟩
  have hL3 : w1.heap.size + 3 = L0 := by omega
  obtain ⟨q4, hq4⟩ : ∃ q, w.heap.size = q := ⟨_, rfl⟩
  obtain ⟨q6, hq6⟩ : ∃ q, w1.heap.size = q := ⟨_, rfl⟩
  rw [hq4] at b4 b5 hB1 hs1 ⊢
  rw [hq6] at b6 bL bN hs1 hL3 ⊢
  have own1 : ∀ {B t : Nat} {v : Value} {W W' : World} {row : Option Nat}, Boxed W B t v → W.grownBy W' row → (∀ r, row = some r → wL.heap.size ≤ r ∧ ∃ o : Obj, W.heap[r]? = some o ∧ o.isCells = false) → Boxed W' B t v := fun {B t v W W' row} h hg hr => h.kept hg (fun e => by
    obtain ⟨_, o, ho, hc⟩ := hr B e.symm
    have h2 : W.heap[B]? = some (.cells #[v] t (0, 0)) := h
    rw [ho] at h2
    injection h2 with h2
    subst h2
    cases hc)
  have ownB : ∀ {W W' : World} {row : Option Nat}, Below q4 w W ∧ L0 ≤ W.heap.size → W.grownBy W' row → (∀ r, row = some r → wL.heap.size ≤ r ∧ ∃ o : Obj, W.heap[r]? = some o ∧ o.isCells = false) → Below q4 w W' ∧ L0 ≤ W'.heap.size := fun {W W' row} h hg hr => ⟨h.1.grown hg (by omega) (fun k e => by have := (hr k e).1; omega), Nat.le_trans h.2 hg.size⟩
  refine wpIn_rangeFunc_ownH rfl (by omega) (gf := 27) (lb := #[.pointer (some ⟨q6 + 1, 0, none⟩), .pointer (some ⟨q6 + 1 + 1, 0, none⟩)]) rfl trivial (enters_of Try.func27 (by kernel_rfl) rfl)
    (spans_stopsT Fence.wide _ trivial rfl (by omega) (q6 + 1) (q6 + 1 + 1) A c ls n w wL HC.out HLS.out hn0 hn1 (hq4 ▸ hB1) bL bN) KpT.trans (kpt_b (by omega) (by omega)) (Below.refl _ _) (fun _ => rfl)
    (fun pre W => ∃ s, priceAcc (pre.map Subtype.val) = some s ∧ I64 s ∧ Boxed W q4 2 (.int .i64 0) ∧ Boxed W (q4 + 1) 23 (.int .i64 0) ∧ Boxed W q6 2 (.int .i64 s) ∧ (Below q4 w W ∧ L0 ≤ W.heap.size))
    (fun c pre W => c = .ret ∧ priceAcc (pre.map Subtype.val) = none ∧ Boxed W q4 2 (.int .i64 0) ∧ Boxed W (q4 + 1) 23 (.int .i64 30) ∧ (Below q4 w W ∧ L0 ≤ W.heap.size))
    (fun pre W W' row ⟨s, h1, h2, h3, h4, h5, h6⟩ hg hr => ⟨s, h1, h2, own1 h3 hg hr, own1 h4 hg hr, own1 h5 hg hr, ownB h6 hg hr⟩)
    (fun c pre W W' row ⟨h1, h2, h3, h4, h6⟩ hg hr => ⟨h1, h2, own1 h3 hg hr, own1 h4 hg hr, ownB h6 hg hr⟩)
    ⟨0, rfl, by unfold I64; omega, b4, b5, b6, hB1, by omega⟩
    (fun x a' W => ∃ Bx, W.heap[Bx]? = some (Obj.cells #[.int .i64 x.1.1.f0, .int .i64 x.1.1.f1] 27 (0, 0)) ∧ a' = { tmps := #[.slice A ls.length c, .int .i64 n, undef, undef, .pointer (some ⟨q4, 0, none⟩), .pointer (some ⟨q4 + 1, 0, none⟩), .pointer (some ⟨q6, 0, none⟩), .pointer (some ⟨Bx, 0, none⟩), .int .i64 x.1.2, undef, undef, .slice A ls.length c, .bool true, .bool false, .bool false, .int .i64 n, .bool false, .bool false, .slice A ls.length c, .int .i64 n, .func (.func 27) #[] #[.pointer (some ⟨q6 + 1, 0, none⟩), .pointer (some ⟨q6 + 1 + 1, 0, none⟩)], .agg #[.int .i64 x.1.1.f0, .int .i64 x.1.1.f1], .int .i64 x.1.2, undef, undef, undef, undef, undef, undef, undef, undef, undef, undef, undef, undef, undef, undef, undef, undef, undef, undef, undef, undef], defers := [] })
    (fun x a' _ W W' row ⟨Bx, h1, h2⟩ hg hr => ⟨Bx, (hg.block Bx (Array.getElem?_eq_some_iff.1 h1).1 (fun e => by
      obtain ⟨_, o, ho, hc⟩ := hr Bx e.symm
      rw [ho] at h1
      injection h1 with h1
      subst h1
      cases hc)).trans h1, h2⟩) ?assign ?body ?done ?stop
  case assign =>
    rintro l pre x W K ⟨s, h1, h2, h3, h4, h5, h6, h7⟩ hK
    gi_wp2
    refine hK _ _ ((KeepsOthers.alloc _ _).from _) (kpt_below (below_alloc (Below.refl _ _) _) (by omega)) ⟨s, h1, h2, h3.alloc _, h4.alloc _, h5.alloc _, h6.alloc (by omega) _, by simp; omega⟩ ⟨W.heap.size, heap_alloc_new W _, rfl⟩
  case body =>
    rintro l pre x a' W hl ⟨r, hr⟩ ⟨s, h1, h2, h3, h4, h5, h6, h7⟩ ⟨Bx, hcx, rfl⟩ hlt
    obtain ⟨p2, hp2⟩ : ∃ p2, pre ++ [x] = p2 := ⟨_, rfl⟩
    have hmap : p2.map Subtype.val = pre.map Subtype.val ++ [x.1] := by rw [← hp2]; simp
    rw [hp2]
    clear hp2
    obtain ⟨⟨⟨f0, f1⟩, k⟩, hf1, hk1⟩ := x
    dsimp only at hf1 hk1 hcx hmap ⊢
    have hx1 : W.cell? ⟨Bx, 1, none⟩ = some (.int .i64 f1) := (cell_of_row W Bx 1 _ _ _ hcx).trans rfl
    have c4 := h3.cell
    have c5 := h4.cell
    have c6 := h5.cell
    have g4 := h3.frozen
    have g5 := h4.frozen
    have g6 := h5.frozen
    have HP : Aside0 (priceAcc (p2.map Subtype.val) = pstep (some s) (⟨f0, f1⟩, k)) := ⟨by rw [hmap, priceAcc_snoc, h1]⟩
    clear hmap
    have H3 := Aside0.mk h3
    have H4 := Aside0.mk h4
    have H5 := Aside0.mk h5
    have H6 := Aside0.mk h6
    clear h1 h3 h4 h5 h6 hcx hlt hr
    have hb0 : ∀ m, Below q4 w (W.drewN m) := fun m => ⟨H6.out.os, H6.out.tape, H6.out.output, H6.out.size, H6.out.block⟩
    have HB0 := Aside0.mk hb0
    clear hb0
    by_cases hm : I64 (f1 * k)
    · have HM := Aside0.mk (show money_Mul.f f1 k = some (f1 * k, 0) by rw [Mul_small _ _ hf1 hk1, small_yes _ hm])
      obtain ⟨M, hM⟩ : ∃ M, f1 * k = M := ⟨_, rfl⟩
      have HP : Aside0 (priceAcc (p2.map Subtype.val) = if I64 (s + M) then some (s + M) else none) := ⟨by rw [HP.out, ← hM]; simp only [pstep, Option.bind_some]; rw [if_pos hm]⟩
      rw [hM] at hm HM
      clear hM
      by_cases ha : I64 (s + M)
      · have HA := Aside0.mk (show money_Add.f s M = some (s + M, 0) by rw [Add_small _ _ h2 hm, small_yes _ ha])
        have HN := Aside0.mk (show priceAcc (p2.map Subtype.val) = some (s + M) by rw [HP.out, if_pos ha])
        have HI := Aside0.mk ha
        obtain ⟨T, hT⟩ : ∃ T, s + M = T := ⟨_, rfl⟩
        rw [hT] at HA HN HI
        clear hm ha hf1 hk1 h2 hT
        gi_wp2_with (first
          | (refine ⟨trivial, ?_⟩; gi_at_call 16; refine (CallsIn.inRound l (callsIn_wide.2 (money_Mul.calls f1 k M 0 _ HM.out))).mono ?_; rintro e w' ⟨rfl, ⟨nd, rfl⟩⟩)
          | (refine ⟨trivial, ?_⟩; gi_at_call 13; refine (CallsIn.inRound l (callsIn_wide.2 (money_Add.calls s M T 0 _ HA.out))).mono ?_; rintro e w3 ⟨rfl, hb⟩; have HBB := Aside0.mk hb; have H3b := Aside0.mk (boxed_below (show Boxed (W.drewN nd) q4 _ _ from H3.out) hb); have H4b := Aside0.mk (boxed_below (show Boxed (W.drewN nd) (q4 + 1) _ _ from H4.out) hb); have H5b := Aside0.mk (boxed_below (show Boxed (W.drewN nd) q6 _ _ from H5.out) hb); have c6' := H5b.out.cell; have g6' := H5b.out.frozen; clear hb))
        refine ⟨(((ko_drewN W nd).trans (ko_below HBB.out)).trans (KeepsOthers.setCell _ _ _)).from _, KpT.trans (kpt_below (W' := w3) (below_step (pw_below_drewN (Below.refl _ _) nd) HBB.out) (by omega)) (kpt_set _ H5b.out (by decide) (by omega) (by omega)), T, HN.out, HI.out, boxed_ne H3b.out (by omega) _, boxed_ne H4b.out (by omega) _, H5b.out.set _, (HB0.out nd |>.trans (below_weak_ HBB.out (by show q4 ≤ W.heap.size; omega))).setCell (by show q4 ≤ q6; omega) _, ?_⟩
        have := HBB.out.size
        have h9 : L0 ≤ w3.heap.size := Nat.le_trans h7 this
        simpa using h9
      · have HA := Aside0.mk (show money_Add.f s M = some (0, 30) by rw [Add_small _ _ h2 hm, small_no _ ha])
        have HN := Aside0.mk (show priceAcc (p2.map Subtype.val) = none by rw [HP.out, if_neg ha])
        clear hm ha hf1 hk1 h2
        gi_wp2_with (first
          | (refine ⟨trivial, ?_⟩; gi_at_call 16; refine (CallsIn.inRound l (callsIn_wide.2 (money_Mul.calls f1 k M 0 _ HM.out))).mono ?_; rintro e w' ⟨rfl, ⟨nd, rfl⟩⟩)
          | (refine ⟨trivial, ?_⟩; gi_at_call 13; refine (CallsIn.inRound l (callsIn_wide.2 (money_Add.calls s M 0 30 _ HA.out))).mono ?_; rintro e w3 ⟨rfl, hb⟩; have HBB := Aside0.mk hb; have H3b := Aside0.mk (boxed_below (show Boxed (W.drewN nd) q4 _ _ from H3.out) hb); have H4b := Aside0.mk (boxed_below (show Boxed (W.drewN nd) (q4 + 1) _ _ from H4.out) hb); have H5b := Aside0.mk (boxed_below (show Boxed (W.drewN nd) q6 _ _ from H5.out) hb); have c6' := H5b.out.cell; have g6' := H5b.out.frozen; have c4' := H3b.out.cell; have g4' := H3b.out.frozen; have c5' := H4b.out.cell; have g5' := H4b.out.frozen; clear hb))
        refine ⟨(((((ko_drewN W nd).trans (ko_below HBB.out)).trans (KeepsOthers.setCell _ _ _)).trans (KeepsOthers.setCell _ _ _)).trans (KeepsOthers.setCell _ _ _)).from _, rfl, HN.out, boxed_ne ((boxed_ne H3b.out (by omega) _).set _) (by omega) _, (boxed_ne (boxed_ne H4b.out (by omega) _) (by omega) _).set _, (((HB0.out nd |>.trans (below_weak_ HBB.out (by show q4 ≤ W.heap.size; omega))).setCell (by show q4 ≤ q6; omega) _).setCell (Nat.le_refl _) _).setCell (by show q4 ≤ q4 + 1; omega) _, ?_⟩
        have := HBB.out.size
        have h9 : L0 ≤ w3.heap.size := Nat.le_trans h7 this
        simpa using h9
    · have HM := Aside0.mk (show money_Mul.f f1 k = some (0, 30) by rw [Mul_small _ _ hf1 hk1, small_no _ hm])
      have HN : Aside0 (priceAcc (p2.map Subtype.val) = none) := ⟨by rw [HP.out]; simp only [pstep, Option.bind_some]; rw [if_neg hm]⟩
      clear hm hf1 hk1 h2
      gi_wp2_with (refine ⟨trivial, ?_⟩; gi_at_call 16; refine (CallsIn.inRound l (callsIn_wide.2 (money_Mul.calls f1 k 0 30 _ HM.out))).mono ?_; rintro e w' ⟨rfl, ⟨nd, rfl⟩⟩)
      refine ⟨(((ko_drewN W nd).trans (KeepsOthers.setCell _ _ _)).trans (KeepsOthers.setCell _ _ _)).from _, rfl, HN.out, boxed_ne ((show Boxed (W.drewN nd) q4 _ _ from H3.out).set _) (by omega) _, (boxed_ne (show Boxed (W.drewN nd) (q4 + 1) _ _ from H4.out) (by omega) _).set _, ((HB0.out nd).setCell (Nat.le_refl _) _).setCell (by show q4 ≤ q4 + 1; omega) _, by simpa using h7⟩
  case done =>
    rintro D ys W hD hys ⟨s, h1, h2, h3, h4, h5, h6, h7⟩ hK
    rw [hys] at h1
    have c6 := h5.cell
    have g4 := h3.frozen
    have g5 := h4.frozen
    have c4 := h3.cell
    have c5 := h4.cell
    have H1 := Aside0.mk h1
    have H3 := Aside0.mk h3
    have H4 := Aside0.mk h4
    have H6 := Aside0.mk h6
    have HK := Aside0.mk hK
    clear h1 h2 h3 h4 h5 h6 hys
    gi_wp2
    have e4 : Boxed ((W.setCell ⟨q4, 0, none⟩ (.int .i64 s)).setCell ⟨q4 + 1, 0, none⟩ (.int .i64 0)) q4 2 (.int .i64 s) := boxed_ne (H3.out.set _) (by omega) _
    have e5 : Boxed ((W.setCell ⟨q4, 0, none⟩ (.int .i64 s)).setCell ⟨q4 + 1, 0, none⟩ (.int .i64 0)) (q4 + 1) 23 (.int .i64 0) := (boxed_ne H4.out (by omega) _).set _
    have hK' := ((KeepsOthers.setCell W ⟨q4, 0, none⟩ (.int .i64 s)).trans (KeepsOthers.setCell (W.setCell ⟨q4, 0, none⟩ (.int .i64 s)) ⟨q4 + 1, 0, none⟩ (.int .i64 0))).same D _ HK.out rfl
    have hb : Below q4 w ((W.setCell ⟨q4, 0, none⟩ (.int .i64 s)).setCell ⟨q4 + 1, 0, none⟩ (.int .i64 0)) := (H6.out.setCell (Nat.le_refl _) _).setCell (by show q4 ≤ q4 + 1; omega) _
    generalize ((W.setCell ⟨q4, 0, none⟩ (.int .i64 s)).setCell ⟨q4 + 1, 0, none⟩ (.int .i64 0)) = Wd at e4 e5 hK' hb ⊢
    refine ⟨by simp, .inl ⟨_, _, rfl, run_takeDeferred hK', ?_⟩⟩
    have f4 := cell_kept e4.cell (grownBy_putObj' _ D (.deferred none)) (fun r e => by cases e; exact ⟨_, hK', rfl⟩)
    have f5 := cell_kept e5.cell (grownBy_putObj' _ D (.deferred none)) (fun r e => by cases e; exact ⟨_, hK', rfl⟩)
    refine ⟨.tuple #[.int .i64 s, .int .i64 0], ?_, by rw [H1.out]; rfl, ?_⟩
    · simp [results, Try.results8, go_sem, f4, f5]
    · rw [hq4]
      exact hb.trans (belowK_b (n₀ := q4) (w := wL) (by omega) Wd D _ (.deferred none) (by omega) hK' rfl rfl)
  case stop =>
    rintro D c pre W hD hpre ⟨rfl, h2, h3, h4, h6, h7⟩ hK
    have HN := Aside0.mk (priceAcc_prefix hpre h2)
    have c4 := h3.cell
    have c5 := h4.cell
    have H3 := Aside0.mk h3
    have H4 := Aside0.mk h4
    have H6 := Aside0.mk h6
    have HK := Aside0.mk hK
    clear h2 h3 h4 h6 hpre
    gi_wp2
    refine ⟨by simp, .inl ⟨_, _, rfl, run_takeDeferred HK.out, ?_⟩⟩
    have f4 := cell_kept H3.out.cell (grownBy_putObj' _ D (.deferred none)) (fun r e => by cases e; exact ⟨_, HK.out, rfl⟩)
    have f5 := cell_kept H4.out.cell (grownBy_putObj' _ D (.deferred none)) (fun r e => by cases e; exact ⟨_, HK.out, rfl⟩)
    refine ⟨.tuple #[.int .i64 0, .int .i64 30], ?_, by rw [HN.out]; rfl, ?_⟩
    · simp [results, Try.results8, go_sem, f4, f5]
    · rw [hq4]
      exact H6.out.trans (belowK_b (n₀ := q4) (w := wL) (by omega) W D _ (.deferred none) (by omega) HK.out rfl rfl)
/-- What Price answers. -/
def priceL (ls : List S27) (n : Int) : Int × Int := if chk ls = true ∧ 0 ≤ n then priceOf (priceAcc (spansFrom n 0 ls)) else (0, 1)
set_option maxRecDepth 100000 in
theorem Price_no (A : Option Addr) (c : Nat) (ls : List S27) (n : Int) (w : World) (hC : Kd.C k27 w A ls.length ls) (hcap : ls.length ≤ c) (hk : chk ls = false ∨ n < 0) :
    Calls Try.prog 8 #[.slice A ls.length c, .int .i64 n] w fun e w' => e = .returned (.tuple #[.int .i64 0, .int .i64 1]) ∧ Below w.heap.size w w' := by
  have hb0 : Below w.heap.size w ((w.alloc (.cells #[.int .i64 0] 2)).alloc (.cells #[.int .i64 0] 23)) := ((Below.refl _ w).alloc (Nat.le_refl _) _).alloc (by simp) _
  have b4 := (Boxed.new w 2 (.int .i64 0)).alloc (.cells #[.int .i64 0] 23)
  have b5 := Boxed.new (w.alloc (.cells #[.int .i64 0] 2)) 23 (.int .i64 0)
  rw [World.size_alloc] at b5
  have kc := Aside0.mk (tiers_Check.calls A c ls (chk ls) _ (Kd.C_below hC hb0) hcap rfl)
  clear hC hcap
  have key : ∀ r : Bool, chk ls = r → (r = false ∨ n < 0) → Calls Try.prog 8 #[.slice A ls.length c, .int .i64 n] w fun e w' => e = .returned (.tuple #[.int .i64 0, .int .i64 1]) ∧ Below w.heap.size w w' := by
    intro r hr hrn
    rw [hr] at kc
    have HB0 := Aside0.mk hb0
    have B4 := Aside0.mk b4
    have B5 := Aside0.mk b5
    clear hb0 b4 b5 hk hr
    have hd : r = false ∨ (r = true ∧ decide (n < 0) = true) := by
      cases r with
      | false => exact .inl rfl
      | true => rcases hrn with h | h; cases h; exact .inr ⟨rfl, decide_eq_true h⟩
    clear hrn
    rcases hd with rfl | ⟨rfl, hd⟩
    all_goals
      go_enter Try.func8, Try.ntmps8
      go_wp2_with fail
      refine kc.out.mono ?_
      rintro e w1 ⟨rfl, hb⟩
      have e4 := boxed_below B4.out hb
      have e5 := boxed_below B5.out hb
      have c4 := e4.cell
      have c5 := e5.cell
      have g4 := e4.frozen
      have g5 := e5.frozen
      have HB := Aside0.mk (below_step HB0.out hb)
      have E4 := Aside0.mk e4
      have E5 := Aside0.mk e5
      clear hb kc e4 e5
      go_wp2_with fail
      have q4 := (boxed_ne (E4.out.set (.int .i64 0)) (B' := w.heap.size + 1) (by omega) (.int .i64 1)).cell
      have q5 := ((boxed_ne E5.out (B' := w.heap.size) (by omega) (.int .i64 0)).set (.int .i64 1)).cell
      refine bodyPost_ret (v := .tuple #[.int .i64 0, .int .i64 1]) (by simp [results, Try.results8, go_sem, q4, q5]) rfl ⟨rfl, (HB.out.setCell (Nat.le_refl _) _).setCell (by show w.heap.size ≤ w.heap.size + 1; omega) _⟩
  exact key _ rfl hk
def tiers_Price.f (ls : List S27) (n : Int) : Option (Int × Int) := if I64 n then some (priceL ls n) else none
theorem tiers_Price.calls (A0 : Option Addr) (c0 : Nat) (l0 : List S27) (a1 r1 r2 : Int) (w : World) (hr0 : Kd.C k27 w A0 l0.length l0) (hc0 : l0.length ≤ c0) (h : tiers_Price.f l0 a1 = some (r1, r2)) :
    Calls Try.prog 8 #[.slice A0 l0.length c0, .int .i64 a1] w fun e w' => e = .returned (.tuple #[.int .i64 r1, .int .i64 r2]) ∧ Below w.heap.size w w' := by
  unfold tiers_Price.f at h
  by_cases h1 : I64 a1
  · rw [if_pos h1] at h
    have h := Option.some.inj h
    unfold I64 at h1
    by_cases h2 : chk l0 = true ∧ 0 ≤ a1
    · unfold priceL at h
      rw [if_pos h2] at h
      have := Price_yes A0 c0 l0 a1 w hr0 hc0 h2.1 h2.2 (by omega)
      rw [h] at this
      exact this
    · unfold priceL at h
      rw [if_neg h2] at h
      injection h with h3 h4
      subst h3; subst h4
      refine Price_no A0 c0 l0 a1 w hr0 hc0 ?_
      cases hc : chk l0 with
      | false => exact .inl rfl
      | true => exact .inr (Int.not_le.1 (fun h3 => h2 ⟨hc, h3⟩))
  · rw [if_neg h1] at h; cases h
end Go.Proofs.Ythgfdgkmmlbohaa.Ext
