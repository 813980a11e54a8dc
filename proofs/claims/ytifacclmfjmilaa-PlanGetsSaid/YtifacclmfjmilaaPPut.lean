/- plan.Put, proved by walking its code. -/
import Derived.Test.YtifacclmfjmilaaCheck
import Derived.Test.YtifacclmfjmilaaPut
import Derived.Stop.RegionWithIn
import Derived.Deep.RegionWith
namespace Go.Proofs.Ytifacclmfjmilaa.Ext
open Go.RowKit Go.Shelf Go.Proofs.YtifacclmfjmilaaW.PrintWords Go.Proofs.YtifacclmfjmilaaW.PrintLast Go.Proofs.YtifacclmfjmilaaW.PrintMore Go.Proofs.YtifacclmfjmilaaW.Hand Go.Proofs.Ytifacclmfjmilaa.PZ
attribute [local go_sem] Oper.semAt_some
set_option linter.unusedVariables false
/-- Bytes of a list of numbers. -/
def bytes8 (l : List Int) : List Int := (l.map fun v => beN 8 (v % top64)).flatten
theorem bytes8_snoc (l : List Int) (v : Int) : bytes8 (l ++ [v]) = bytes8 l ++ beN 8 (v % top64) := by simp [bytes8]
theorem bytes8_length (l : List Int) : (bytes8 l).length = 8 * l.length := by
  induction l with
  | nil => rfl
  | cons v l ih => simp [bytes8, beN_length] at ih ⊢; omega
def tierNums (ls : List S55) : List Int := (ls.map fun t => [t.f0, t.f1]).flatten
theorem tierNums_snoc (l : List S55) (t : S55) : tierNums (l ++ [t]) = tierNums l ++ [t.f0] ++ [t.f1] := by simp [tierNums]
/-- A plan's numbers, in the order of its bytes. -/
def planNums (a0 a1 a2 a3 a4 a5 : Int) (ls : List S55) : List Int := [a0, a1, a2, a3, a4, a5, (ls.length : Int)] ++ tierNums ls
def pput (a0 a1 a2 a3 a4 a5 : Int) (ls : List S55) : List Int × Int := if pchk a0 a1 a2 a3 a4 a5 ls = true then (bytes8 (planNums a0 a1 a2 a3 a4 a5 ls), 0) else ([], 1)
theorem R_grown {W W' : World} {row : Option Nat} {base : Nat} {ok : Nat → Prop} {v : Value} {xs : List Int} {L : Nat} (hr : Kd.R (Kd.int .u8) 5 W base ok v xs) (hg : W.grownBy W' row) (hrow : ∀ r, row = some r → L ≤ r ∧ ∃ o : Obj, W.heap[r]? = some o ∧ o.isCells = false) : Kd.R (Kd.int .u8) 5 W' base ok v xs := by
  refine Kd.R_mono (Kd.R_step (Kd.R_bound hr) (fun k hk hlt => ?_)) (fun k hk => hk.1)
  obtain ⟨h0, hb, _, q, hq, cells, hc⟩ := hk
  exact hg.block k hlt (fun e => by
    obtain ⟨_, o2, h2, h3⟩ := hrow k e.symm
    rw [hc] at h2
    injection h2 with h2
    subst h2
    cases h3)
theorem R_ne {w : World} {e base b : Nat} {v : Value} {xs : List Int} (h : Kd.R (Kd.int .u8) e w base (fun _ => True) v xs) (hb : b < base) : Kd.R (Kd.int .u8) e w base (fun k => k ≠ b) v xs :=
  Kd.R_mono (Kd.R_bound h) (fun k hk => by have := hk.2.1; omega)
theorem take_oneT (ls : List S55) (k : Nat) (h : k < ls.length) : ls.take (k + 1) = ls.take k ++ [rd_T55 ls k] := by
  rw [List.take_succ_eq_append_getElem h]
  simp [rd_T55, List.getD_eq_getElem?_getD, List.getElem?_eq_getElem h]
theorem boxed_below {W W' : World} {B t : Nat} {v : Value} (h : Boxed W B t v) (hb : Below W.heap.size W W') : Boxed W' B t v := (hb.block B h.lt).trans h
theorem ko_below {W W' : World} (h : Below W.heap.size W W') : KeepsOthers W W' := ⟨h.size, fun k o hk _ => (h.block k (Array.getElem?_eq_some_iff.1 hk).1).trans hk⟩
theorem kpn_set {W : World} {B t : Nat} {cs : Array Value} {fr : Nat × Nat} {j : Nat} (v' : Value) (h : W.heap[B]? = some (Obj.cells cs t fr)) (h1 : t ≠ 51) (h2 : t ≠ 52) : KpN W (W.setCell ⟨B, j, none⟩ v') :=
  ⟨by simp, fun k t2 c fr2 ht hk => (Below.heap_setCell W ⟨B, j, none⟩ v' k (fun e => by
    have e : k = B := e
    subst e
    rw [hk] at h
    injection h with h
    injection h with _ h3 _
    rcases ht with ht | ht
    · exact h1 (h3 ▸ ht)
    · exact h2 (h3 ▸ ht))).trans hk⟩
set_option maxRecDepth 100000 in
set_option maxHeartbeats 3200000 in
theorem plan_Put_yes (a0 a1 a2 a3 a4 a5 : Int) (A : Option Addr) (c : Nat) (ls : List S55) (w : World) (hC : Kd.C k55 w A ls.length ls) (hcap : ls.length ≤ c) (hk : pchk a0 a1 a2 a3 a4 a5 ls = true) :
    Calls Try.prog 9 #[.agg #[.int .u32 a0, .int .i64 a1, .int .i64 a2, .int .i64 a3, .int .i64 a4, .int .i64 a5, .slice A ls.length c]] w fun e w' => ∃ v : Value, e = .returned (.tuple #[v, .int .i64 0]) ∧ Kd.R (Kd.int .u8) 5 w' w.heap.size (fun _ => True) v (bytes8 (planNums a0 a1 a2 a3 a4 a5 ls)) ∧ Below w.heap.size w w' := by
  have kc := Aside0.mk (fun (w : World) (hC : Kd.C k55 w A ls.length ls) => hk ▸ plan_Check_go a0 a1 a2 a3 a4 a5 A c ls w hC hcap)
  have HC := Aside0.mk hC
  clear hC hcap
  refine (callsIn_wide (n := 5)).1 ?_
  refine callsIn_of_wp_marks Try.func9 rfl trivial ?_ rfl
  simp only [Try.ntmps9, List.size_toArray, List.length_cons, List.length_nil, Nat.reduceAdd, Nat.reduceSub, Array.replicate_succ, Array.replicate_zero, List.push_toArray, List.append_toArray, List.nil_append, List.cons_append]
  gi_wp2_with fail
  refine ⟨trivial, callsIn_wide.2 ?_⟩
  refine (kc.out _ (Kd.C_below HC.out (below_alloc (Below.refl _ _) _))).mono ?_
  rintro e w1 ⟨rfl, hb⟩
  have bP := ((Blk.new_ (W := w) (o := .cells #[.int .u32 a0, .int .i64 a1, .int .i64 a2, .int .i64 a3, .int .i64 a4, .int .i64 a5, .slice A ls.length c] 25)).below hb).out
  have HB := Aside0.mk (below_step (below_alloc (Below.refl _ w) (.cells #[.int .u32 a0, .int .i64 a1, .int .i64 a2, .int .i64 a3, .int .i64 a4, .int .i64 a5, .slice A ls.length c] 25)) hb)
  have cI := (cell_of_row w1 w.heap.size 0 _ _ _ bP).trans (rfl : _ = some (Value.int .u32 a0))
  have BP := Aside0.mk bP
  clear hb kc bP
  gi_wp2_with fail
  refine ⟨trivial, callsIn_wide.2 ?_⟩
  rw [u64_conv]
  refine (Uint_any none 0 [] (a0 % top64) _ (Kd.C_nil _ _) (by decide) (top_pos a0).1 (top_pos a0).2).mono ?_
  rintro e w2 ⟨v1, rfl, hV, hb⟩
  obtain ⟨A1, c1, ev⟩ := Kd.R_slice hV
  subst ev
  have hl0 : ([] ++ beN 8 (a0 % top64)) = bytes8 [a0] := by simp [bytes8]
  rw [hl0] at hV ⊢
  have HV0 := Aside0.mk hV
  have HB2 := Aside0.mk (below_step HB.out hb)
  have BP2 := Aside0.mk ((hb.block _ (Array.getElem?_eq_some_iff.1 BP.out).1).trans BP.out)
  have HS1 := Aside0.mk hb.size
  have HS0 := Aside0.mk (Array.getElem?_eq_some_iff.1 BP.out).1
  clear hV hb hl0 HB BP cI
  gi_wp2_with fail
  refine ⟨trivial, ?_⟩
  refine (numbers_in _ _ _).mono ?_
  rintro e w3 ⟨rfl, rfl⟩
  gi_wp2_with fail
  obtain ⟨q, hq⟩ : ∃ q, w.heap.size = q := ⟨_, rfl⟩
  obtain ⟨b, hb⟩ : ∃ b, w2.heap.size = b := ⟨_, rfl⟩
  have hqb : q < b := by have := HS0.out; have := HS1.out; omega
  have bP := heap_alloc_lt _ (.cells #[.pointer (some ⟨w.heap.size, 0, none⟩)] 51) (by have := (Array.getElem?_eq_some_iff.1 BP2.out).1; simp; omega) (heap_alloc_lt w2 (.cells #[.slice A1 (bytes8 [a0]).length c1] 26) (Array.getElem?_eq_some_iff.1 BP2.out).1 BP2.out)
  have bB := (Boxed.new w2 26 (.slice A1 (bytes8 [a0]).length c1)).alloc (.cells #[.pointer (some ⟨w.heap.size, 0, none⟩)] 51)
  have bX := Boxed.new (w2.alloc (.cells #[.slice A1 (bytes8 [a0]).length c1] 26)) 51 (.pointer (some ⟨w.heap.size, 0, none⟩))
  have hR : Kd.R (Kd.int .u8) 5 ((w2.alloc (.cells #[.slice A1 (bytes8 [a0]).length c1] 26)).alloc (.cells #[.pointer (some ⟨w.heap.size, 0, none⟩)] 51)) q (fun k => k ≠ b) (.slice A1 (bytes8 [a0]).length c1) (bytes8 [a0]) :=
    Kd.R_lower (Kd.R_below (Kd.R_mono (Kd.R_bound HV0.out) (fun k hk => by have := hk.2.2.1; omega)) (below_alloc (below_alloc (Below.refl _ _) _) _)) (by have := HS0.out; omega)
  have hB1 : Below w.heap.size w ((w2.alloc (.cells #[.slice A1 (bytes8 [a0]).length c1] 26)).alloc (.cells #[.pointer (some ⟨w.heap.size, 0, none⟩)] 51)) := below_alloc (below_alloc HB2.out _) _
  have hsz : ((w2.alloc (.cells #[.slice A1 (bytes8 [a0]).length c1] 26)).alloc (.cells #[.pointer (some ⟨w.heap.size, 0, none⟩)] 51)).heap.size = w2.heap.size + 2 := by simp
  rw [World.size_alloc] at bX
  obtain ⟨wL, hwL⟩ : ∃ W, ((w2.alloc (.cells #[.slice A1 (bytes8 [a0]).length c1] 26)).alloc (.cells #[.pointer (some ⟨w.heap.size, 0, none⟩)] 51)) = W := ⟨_, rfl⟩
  rw [hwL] at bP bB bX hB1 hsz hR ⊢
  clear hwL HV0 HB2 BP2 HS1 HS0
  rw [hb] at bB bX hsz ⊢
  rw [hq] at bP bX hB1 ⊢
  rw [bytes8_length] at bB hR ⊢
  obtain ⟨L0, hL0⟩ : ∃ L, wL.heap.size = L := ⟨_, rfl⟩
  refine wpIn_rangeFunc_ownF rfl (by omega) (gf := 33) (lb := #[.pointer (some ⟨b + 1, 0, none⟩)]) rfl trivial (enters_of Try.func33 (by kernel_rfl) rfl)
    (numbers_stops _ (by omega) (b + 1) q wL bX) KpN.trans (fun W l o o' _ h hc _ => kpn_b W l o o' h hc) (Below.refl _ _) (fun _ => rfl)
    (fun pre W => (∃ A' c', Boxed W b 26 (.slice A' (8 * (pre.length + 1)) c') ∧ Kd.R (Kd.int .u8) 5 W q (fun k => k ≠ b) (.slice A' (8 * (pre.length + 1)) c') (bytes8 (a0 :: pre.map fun i => numOf a1 a2 a3 a4 a5 i.1))) ∧ W.heap[q]? = some (Obj.cells #[.int .u32 a0, .int .i64 a1, .int .i64 a2, .int .i64 a3, .int .i64 a4, .int .i64 a5, .slice A ls.length c] 25 (0, 0)) ∧ Below q w W ∧ b < W.heap.size)
    (fun _ _ _ => False)
    (fun pre W W' row ⟨⟨A', c', h1, h2⟩, h3, h4, h5⟩ hg hr => ⟨⟨A', c', blk_own h1 rfl hg hr, R_grown h2 hg hr⟩, blk_own h3 rfl hg hr, h4.grown hg (by have := h4.size; omega) (fun k e => by have := (hr k e).1; omega), Nat.lt_of_lt_of_le h5 hg.size⟩)
    (fun _ _ _ _ _ hs _ _ => hs)
    ⟨⟨A1, c1, bB, hR⟩, bP, hB1, by omega⟩
    (fun x => { tmps := #[.agg #[.int .u32 a0, .int .i64 a1, .int .i64 a2, .int .i64 a3, .int .i64 a4, .int .i64 a5, .slice A ls.length c], .pointer (some ⟨q, 0, none⟩), .slice none 0 0, .int .i64 0, .pointer (some ⟨b, 0, none⟩), .pointer (some ⟨q, x.1 + 1, none⟩), undef, undef, .agg #[.int .u32 a0, .int .i64 a1, .int .i64 a2, .int .i64 a3, .int .i64 a4, .int .i64 a5, .slice A ls.length c], .bool true, .bool false, .pointer (some ⟨q, 0, none⟩), .int .u32 a0, .int .u64 (a0 % top64), .slice A1 8 c1, .func (.func 33) #[] #[.pointer (some ⟨b + 1, 0, none⟩)], .pointer (some ⟨q, x.1 + 1, none⟩), .int .i64 (mostOf x.1), undef, undef, undef, undef, undef, undef, undef, undef, undef, undef, undef, undef, undef, undef, undef, undef, undef, undef, undef, undef, undef, undef, undef, undef, undef, undef], defers := [] }) ?assign ?body ?done ?stop
  case assign =>
    intro l x W K hK
    gi_wp2
    exact hK
  case body =>
    rintro l pre ⟨i, hi5⟩ W ⟨⟨A', c', h1, h2⟩, h3, h4, h5⟩ hlt
    have hx := plan_num h3 i hi5
    have c1 := h1.cell
    have g1 := h1.frozen
    have hln : (bytes8 (a0 :: pre.map fun i => numOf a1 a2 a3 a4 a5 i.1)).length = 8 * (pre.length + 1) := by rw [bytes8_length]; simp
    have ki := Aside0.mk (Int_any A' c' (bytes8 (a0 :: pre.map fun i => numOf a1 a2 a3 a4 a5 i.1)) (numOf a1 a2 a3 a4 a5 i) W.drew (hln ▸ (Kd.R_reads' (Kd.R_below h2 (below_drew (Below.refl _ _)))).2.2) (by rw [hln]; omega))
    rw [hln] at ki
    have hsn : bytes8 (a0 :: pre.map fun i => numOf a1 a2 a3 a4 a5 i.1) ++ beN 8 (numOf a1 a2 a3 a4 a5 i % top64) = bytes8 (a0 :: (pre ++ [(⟨i, hi5⟩ : N5)]).map fun i : N5 => numOf a1 a2 a3 a4 a5 i.1) := by
      rw [← bytes8_snoc]; simp
    rw [hsn] at ki
    have H1 := Aside0.mk h1
    have H3 := Aside0.mk h3
    have H4 := Aside0.mk h4
    have H5 := Aside0.mk h5
    have HLN : Aside0 ((bytes8 (a0 :: (pre ++ [(⟨i, hi5⟩ : N5)]).map fun i : N5 => numOf a1 a2 a3 a4 a5 i.1)).length = 8 * ((pre ++ [(⟨i, hi5⟩ : N5)]).length + 1)) := ⟨by rw [bytes8_length]; simp⟩
    clear h1 h2 h3 h4 h5 hsn
    obtain ⟨v, hv⟩ : ∃ v, numOf a1 a2 a3 a4 a5 i = v := ⟨_, rfl⟩
    rw [hv] at hx ki
    clear hv
    dsimp only
    gi_wp2_with fail
    gi_region_with (refine ⟨trivial, ?_⟩; gi_at_call 22; refine (CallsIn.inRound l (callsIn_wide.2 ki.out)).mono ?_; rintro e w3 ⟨v3, rfl, hV, hbl⟩; obtain ⟨A3, c3, ev⟩ := Kd.R_slice hV; subst ev; rw [HLN.out] at hV ⊢; have HV := Aside0.mk hV; have HBL := Aside0.mk hbl; have H1b := Aside0.mk (boxed_below (show Boxed W.drew b 26 _ from H1.out) hbl); have g1' := H1b.out.frozen; have c1' := H1b.out.cell; clear hV hbl ki)
    all_goals
      gi_wp2
      have HBL2 : Below W.heap.size W w3 := Below.trans (below_drew (Below.refl _ W)) HBL.out
      have H1c : w3.heap[b]? = some (Obj.cells #[.slice A' (8 * (pre.length + 1)) c'] 26 (0, 0)) := H1b.out
      refine ⟨(ko_below HBL2).trans (KeepsOthers.setCell _ _ _), (kpn_below HBL2).trans (kpn_set _ H1c (by decide) (by decide)), ⟨A3, c3, ?_, ?_⟩, ?_, ?_, ?_⟩
      · have := H1b.out.set (.slice A3 (8 * ((pre ++ [(⟨i, hi5⟩ : N5)]).length + 1)) c3)
        simpa using this
      · have := Kd.R_far (Kd.R_lower (base' := q) (R_ne (b := b) HV.out H5.out) (by have := H4.out.size; have := H5.out; show q ≤ W.heap.size; omega)) (p := ⟨b, 0, none⟩) (fun k hk => hk) (.slice A3 (8 * ((pre ++ [(⟨i, hi5⟩ : N5)]).length + 1)) c3)
        simpa using this
      · exact (Below.heap_setCell w3 ⟨b, 0, none⟩ _ q (by show q ≠ b; omega)).trans ((HBL2.block q (Array.getElem?_eq_some_iff.1 H3.out).1).trans H3.out)
      · exact (H4.out.trans (below_weak_ HBL2 (by have := H5.out; omega))).setCell (by show q ≤ b; omega) _
      · have h6 := H5.out
        have h7 := HBL2.size
        rw [World.size_setCell]
        omega
  case done =>
    rintro D ys W hD hys ⟨⟨A', c', h1, h2⟩, h3, h4, h5⟩ hK
    have hyl : ys.length = 5 := by have := congrArg List.length hys; simpa using this
    rw [hyl] at h1 h2
    have hyb : bytes8 (a0 :: ys.map fun i => numOf a1 a2 a3 a4 a5 i.1) = bytes8 [a0, a1, a2, a3, a4, a5] := by
      have e : (ys.map fun i => numOf a1 a2 a3 a4 a5 i.1) = (ys.map Subtype.val).map (numOf a1 a2 a3 a4 a5) := by rw [List.map_map]; rfl
      rw [e, hys]; rfl
    rw [hyb] at h2
    have c1 := h1.cell
    have g1 := h1.frozen
    have cT := (cell_of_row W q 6 _ _ _ h3).trans (rfl : _ = some (Value.slice A ls.length c))
    have ki := Aside0.mk (Int_any A' c' (bytes8 [a0, a1, a2, a3, a4, a5]) ls.length W (by have := (Kd.R_reads' h2).2.2; rwa [bytes8_length]) (by rw [bytes8_length]; simp))
    rw [bytes8_length, ← bytes8_snoc] at ki
    have H1 := Aside0.mk h1
    have H3 := Aside0.mk h3
    have H4 := Aside0.mk h4
    have H5 := Aside0.mk h5
    have HK := Aside0.mk hK
    have hDL : L0 ≤ D := by omega
    have hWD : D < W.heap.size := (Array.getElem?_eq_some_iff.1 hK).1
    clear h1 h2 h3 h4 h5 hys hK hyb
    gi_wp2_with fail
    refine ⟨trivial, callsIn_wide.2 ?_⟩
    refine ki.out.mono ?_
    rintro e w3 ⟨v3, rfl, hV, hbl⟩
    obtain ⟨A3, c3, ev⟩ := Kd.R_slice hV
    subst ev
    rw [bytes8_length] at hV ⊢
    have HV := Aside0.mk hV
    have HBL := Aside0.mk hbl
    have H1b := Aside0.mk (boxed_below H1.out hbl)
    have HP3 := Aside0.mk ((hbl.block q (Array.getElem?_eq_some_iff.1 H3.out).1).trans H3.out)
    have HK3 := Aside0.mk ((hbl.block D hWD).trans HK.out)
    have g1' := H1b.out.frozen
    have c1' := H1b.out.cell
    have cT' := (cell_of_row w3 q 6 _ _ _ HP3.out).trans (rfl : _ = some (Value.slice A ls.length c))
    clear hV hbl ki c1 g1 cT
    have hl4 : ls.length ≤ 4 := by
      unfold pchk chk at hk
      rw [Bool.and_eq_true, Bool.and_eq_true, Bool.and_eq_true, decide_eq_true_eq, decide_eq_true_eq] at hk
      exact hk.2.2.1.2
    have hqW : q ≤ W.heap.size := by have := H5.out; omega
    have hbW3 : b < w3.heap.size := H1b.out.lt
    have HB3 : Aside0 (Below q w (w3.setCell ⟨b, 0, none⟩ (.slice A3 56 c3))) := ⟨(H4.out.trans (below_weak_ HBL.out hqW)).setCell (by show q ≤ b; omega) _⟩
    have HBX3 : Aside0 (Boxed (w3.setCell ⟨b, 0, none⟩ (.slice A3 56 c3)) b 26 (.slice A3 56 c3)) := ⟨H1b.out.set _⟩
    have HR3 : Aside0 (Kd.R (Kd.int .u8) 5 (w3.setCell ⟨b, 0, none⟩ (.slice A3 56 c3)) q (fun k => k ≠ b) (.slice A3 56 c3) (bytes8 [a0, a1, a2, a3, a4, a5, (ls.length : Int)])) := ⟨Kd.R_far (Kd.R_lower (R_ne (b := b) HV.out H5.out) hqW) (p := ⟨b, 0, none⟩) (fun k hk => hk) _⟩
    have HD3 : Aside0 ((w3.setCell ⟨b, 0, none⟩ (.slice A3 56 c3)).heap[D]? = some (Obj.deferred (some []))) := ⟨(KeepsOthers.setCell _ _ _).same D _ HK3.out rfl⟩
    clear HV HBL H1b HP3 HK3 H1 H3 H4 H5 HK
    gi_wp2_with fail
    clear cT' c1' g1'
    gi_loopw [31] (fun i wr => ∃ k : Nat, k ≤ ls.length ∧ i = .int .i64 k ∧ Aside0 (Below q w wr) ∧ Aside0 (wr.heap[D]? = some (Obj.deferred (some []))) ∧ Aside0 (b < wr.heap.size) ∧ ∃ A' c', Aside0 (Boxed wr b 26 (.slice A' (56 + 16 * k) c')) ∧ Aside0 (Kd.R (Kd.int .u8) 5 wr q (fun k => k ≠ b) (.slice A' (56 + 16 * k) c') (bytes8 ([a0, a1, a2, a3, a4, a5, (ls.length : Int)] ++ tierNums (ls.take k)))))
      (fun i _ => ls.length - (intOf i).toNat)
    case atStart => exact ⟨0, Nat.zero_le _, rfl, HB3, HD3, ⟨by rw [World.size_setCell]; exact hbW3⟩, A3, c3, HBX3, HR3⟩
    case round =>
      obtain ⟨k, hk, rfl, HBk, HDk, HSk, Ak, ck, HXk, HRk⟩ := hrel
      by_cases hlt : k < ls.length
      · obtain ⟨ad, e1, hx0, hx1⟩ := at_T55 (Kd.C_below HC.out (hq ▸ HBk.out)) k (by omega) (by omega)
        cases e1
        simp only [Int.toNat_natCast] at hx0 hx1
        have hst := take_oneT ls k hlt
        obtain ⟨⟨f0, f1⟩, ht⟩ : ∃ t, rd_T55 ls k = t := ⟨_, rfl⟩
        rw [ht] at hx0 hx1 hst
        dsimp only at hx0 hx1
        have hbyt : bytes8 ([a0, a1, a2, a3, a4, a5, (ls.length : Int)] ++ tierNums (ls.take k)) ++ beN 8 (f0 % top64) ++ beN 8 (f1 % top64) = bytes8 ([a0, a1, a2, a3, a4, a5, (ls.length : Int)] ++ tierNums (ls.take (k + 1))) := by
          rw [hst, tierNums_snoc, ← bytes8_snoc, ← bytes8_snoc]
          simp
        have HBYT := Aside0.mk hbyt
        have hln : (bytes8 ([a0, a1, a2, a3, a4, a5, (ls.length : Int)] ++ tierNums (ls.take k))).length = 56 + 16 * k := by
          have := (Kd.R_reads' HRk.out).1
          omega
        have c1 := HXk.out.cell
        clear hst ht hbyt
        gi_wp2_with fail
        have hbx : (wr.alloc (Obj.cells #[.int .i64 f0, .int .i64 f1] 55)).heap[wr.heap.size]? = some (Obj.cells #[.int .i64 f0, .int .i64 f1] 55 (0, 0)) := heap_alloc_new wr _
        have hba : Below wr.heap.size wr (wr.alloc (Obj.cells #[.int .i64 f0, .int .i64 f1] 55)) := below_alloc (Below.refl _ _) _
        obtain ⟨t, ht⟩ : ∃ t, wr.heap.size = t := ⟨_, rfl⟩
        have hbt : b < t := by have := HSk.out; omega
        rw [ht] at hbx hba ⊢
        obtain ⟨wa, hwa⟩ : ∃ W, (wr.alloc (Obj.cells #[.int .i64 f0, .int .i64 f1] 55)) = W := ⟨_, rfl⟩
        rw [hwa] at hbx hba ⊢
        have c1a := ((show Boxed wa b 26 _ from (hba.block b hbt).trans HXk.out)).cell
        have g1a := ((show Boxed wa b 26 _ from (hba.block b hbt).trans HXk.out)).frozen
        have ct0 := (cell_of_row wa t 0 _ _ _ hbx).trans (rfl : _ = some (Value.int .i64 f0))
        have ct1 := (cell_of_row wa t 1 _ _ _ hbx).trans (rfl : _ = some (Value.int .i64 f1))
        have htw : t < wa.heap.size := (Array.getElem?_eq_some_iff.1 hbx).1
        have hbd : Below wr.heap.size wr wa.drew := by rw [ht]; exact Below.trans hba (below_drew (Below.refl t wa))
        have hC1 : Kd.C (Kd.int .u8) wa.drew Ak (bytes8 ([a0, a1, a2, a3, a4, a5, (ls.length : Int)] ++ tierNums (ls.take k))).length (bytes8 ([a0, a1, a2, a3, a4, a5, (ls.length : Int)] ++ tierNums (ls.take k))) := (Kd.R_reads' (Kd.R_below HRk.out hbd)).2.2
        have k1 := Aside0.mk (Int_any Ak ck _ f0 wa.drew hC1 (by rw [hln]; omega))
        clear hbd hC1
        rw [hln] at k1
        have hln1 : (bytes8 ([a0, a1, a2, a3, a4, a5, (ls.length : Int)] ++ tierNums (ls.take k)) ++ beN 8 (f0 % top64)).length = 56 + 16 * k + 8 := by rw [List.length_append, hln, beN_length]
        have hln2 : (bytes8 ([a0, a1, a2, a3, a4, a5, (ls.length : Int)] ++ tierNums (ls.take k)) ++ beN 8 (f0 % top64) ++ beN 8 (f1 % top64)).length = 56 + 16 * (k + 1) := by rw [List.length_append, hln1, beN_length]; omega
        have HBA := Aside0.mk hba
        have HLN1 := Aside0.mk hln1
        have HLN2 := Aside0.mk hln2
        have HBX := Aside0.mk hbx
        have H2 := Aside0.mk (⟨hbt, htw, ht⟩ : b < t ∧ t < wa.heap.size ∧ wr.heap.size = t)
        have FIN : Aside0 (∀ (w6 : World) (A6 : Option Addr) (c6 : Nat), Below wa.heap.size wa w6 → Boxed w6 b 26 (.slice Ak (56 + 16 * k) ck) → Kd.R (Kd.int .u8) 5 w6 t (fun _ => True) (.slice A6 (56 + 16 * (k + 1)) c6) (bytes8 ([a0, a1, a2, a3, a4, a5, (ls.length : Int)] ++ tierNums (ls.take k)) ++ beN 8 (f0 % top64) ++ beN 8 (f1 % top64)) →
            Aside0 (Below q w (w6.setCell ⟨b, 0, none⟩ (.slice A6 (56 + 16 * (k + 1)) c6))) ∧ Aside0 ((w6.setCell ⟨b, 0, none⟩ (.slice A6 (56 + 16 * (k + 1)) c6)).heap[D]? = some (Obj.deferred (some []))) ∧ Aside0 (b < (w6.setCell ⟨b, 0, none⟩ (.slice A6 (56 + 16 * (k + 1)) c6)).heap.size) ∧ ∃ A' c', Aside0 (Boxed (w6.setCell ⟨b, 0, none⟩ (.slice A6 (56 + 16 * (k + 1)) c6)) b 26 (.slice A' (56 + 16 * (k + 1)) c')) ∧ Aside0 (Kd.R (Kd.int .u8) 5 (w6.setCell ⟨b, 0, none⟩ (.slice A6 (56 + 16 * (k + 1)) c6)) q (fun k => k ≠ b) (.slice A' (56 + 16 * (k + 1)) c') (bytes8 ([a0, a1, a2, a3, a4, a5, (ls.length : Int)] ++ tierNums (ls.take (k + 1)))))) := ⟨fun w6 A6 c6 h1 h2 h3 => by
          have hdw : D < t := by rw [← ht]; exact (Array.getElem?_eq_some_iff.1 HDk.out).1
          refine ⟨⟨((HBk.out.trans (below_weak_ hba (by omega))).trans (below_weak_ h1 (by omega))).setCell (by show q ≤ b; omega) _⟩, ⟨(KeepsOthers.setCell _ _ _).same D _ ((h1.block D (by omega)).trans ((hba.block D hdw).trans HDk.out)) rfl⟩, ⟨?_⟩, A6, c6, ⟨h2.set _⟩, ⟨?_⟩⟩
          · rw [World.size_setCell]
            have := h1.size
            omega
          · rw [HBYT.out] at h3
            exact Kd.R_far (Kd.R_lower (R_ne (b := b) h3 hbt) (by omega)) (p := ⟨b, 0, none⟩) (fun k hk => hk) _⟩
        clear hba hln hln1 hln2 hwa c1 hx0 hx1 hbx hbt htw ht
        refine wpIn_wide.2 ?_
        refine wp_region_noPanic ?_
        go_region_with (first
          | (go_at_call 22; refine k1.out.mono ?_; rintro e w5 ⟨v5, rfl, hV5, hbl5⟩; obtain ⟨A5, c5, ev⟩ := Kd.R_slice hV5; subst ev; have hC2 := (Kd.R_reads' hV5).2.2; rw [HLN1.out] at hV5 ⊢; have HB5 := Aside0.mk (show Below wa.heap.size wa w5 from Below.trans (below_drew (Below.refl wa.heap.size wa)) hbl5); have k2 := Aside0.mk (Int_any A5 c5 _ f1 w5 hC2 (by rw [HLN1.out]; omega)); rw [HLN1.out] at k2; have ct1' := (cell_of_row w5 t 1 _ _ _ ((HB5.out.block t H2.out.2.1).trans HBX.out)).trans (rfl : _ = some (Value.int .i64 f1)); clear hV5 hbl5 k1 hC2)
          | (go_at_call 22; refine k2.out.mono ?_; rintro e w6 ⟨v6, rfl, hV6, hbl6⟩; obtain ⟨A6, c6, ev⟩ := Kd.R_slice hV6; subst ev; rw [HLN2.out] at hV6 ⊢; have HB6 := Aside0.mk (show Below wa.heap.size wa w6 from Below.trans HB5.out (below_weak_ hbl6 HB5.out.size)); have HX6 := Aside0.mk (show Boxed w6 b 26 _ from (HB6.out.block b (by have := H2.out; omega)).trans ((HBA.out.block b H2.out.1).trans HXk.out)); have c6' := HX6.out.cell; have g6' := HX6.out.frozen; have HV6 := Aside0.mk (Kd.R_lower (base' := t) hV6 (by have := HB5.out.size; have := H2.out; omega)); clear hV6 hbl6 k2))
        all_goals
          refine NoPanic.normal ?_
          gi_wp2
          go_roundw
          case rel => exact ⟨k + 1, by omega, by go_num, FIN.out _ _ _ HB6.out HX6.out HV6.out⟩
          case measure => first | go_num | (simp [intOf]; omega) | (simp only [intOf]; omega)
      · obtain rfl : k = ls.length := by omega
        have c1 := HXk.out.cell
        gi_wp2_with fail
        refine ⟨by simp, .inl ⟨_, _, rfl, run_takeDeferred HDk.out, ?_⟩⟩
        refine ⟨.tuple #[.slice Ak (56 + 16 * ls.length) ck, .int .i64 0], ?_, ⟨_, rfl, ?_, ?_⟩⟩
        · simp [results, Try.results9, go_sem]
        · have h := R_grown (L := 0) HRk.out (grownBy_putObj' _ D (.deferred none)) (fun r e => by cases e; exact ⟨Nat.zero_le _, _, HDk.out, rfl⟩)
          rw [List.take_length] at h
          rw [hq]
          exact Kd.R_mono h (fun _ _ => trivial)
        · rw [hq]
          exact HBk.out.trans (belowK_b (n₀ := q) (w := wL) (by omega) wr D _ (.deferred none) (by omega) HDk.out rfl rfl)
  case stop =>
    rintro D c' pre W hD hpre hF hK
    exact hF.elim
end Go.Proofs.Ytifacclmfjmilaa.Ext
