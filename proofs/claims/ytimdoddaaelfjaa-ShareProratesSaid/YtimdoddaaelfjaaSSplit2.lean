/- The contract of share.Split where there is an answer: the walk of the first loop. -/
import Derived.Test.YtimdoddaaelfjaaSRowI
import Derived.Deep.RegionHeld3
namespace Go.Proofs.Ytimdoddaaelfjaa.Ext
open Go.RowKit Go.Proofs.YtimdoddaaelfjaaW.PrintWords Go.Proofs.YtimdoddaaelfjaaW.PrintLast Go.Proofs.YtimdoddaaelfjaaW.PrintMore Go.Proofs.YtimdoddaaelfjaaW.Hand
set_option linter.unusedVariables false
set_option linter.unusedSimpArgs false
theorem tk {P : Program} {md : Region.Mode} {ops : Array Oper} {Q : Exit → Act → World → Prop} {i : Nat} {o : Oper} {v : Value} {fuel : Nat} {listed : Array Bool} {a : Act} {w : World} (hQ : ∀ c a w, Q (.panic c) a w → False) (hi : ops[i]? = some o) (hs : Region.noSelect ops = true) (hf : Region.free md ops listed i = true) (hr : (Region.ready md ops listed).contains i = true)
    (hw : Region.wanted o (yielded ops a.tmps) = true) (hv : ∀ w, True → (execOp a.eval o).run P w = .ok (.value v) w) (h : wpAnyH P md ops Q (fun _ => True) fuel (listed.setIfInBounds i true) (a.put o.dst v) w) : wpAnyH P md ops Q (fun _ => True) (fuel + 1) listed a w :=
  wpAnyH_take hi hs hf hr (fun c a w h => (hQ _ _ _ h).elim) (Or.inl ⟨hw, hv⟩) trivial h
theorem held_q {P : Program} {md : Region.Mode} {ops : Array Oper} {Q : Exit → Act → World → Prop} {S : World → Prop} {fuel : Nat} {listed : Array Bool} {a : Act} {w : World} (h : ∀ Q0 : Exit → Act → World → Prop, (∀ a w, Q .normal a w → Q0 .normal a w) → (∀ c a w, Q0 (.panic c) a w → False) → wpAnyH P md ops Q0 S fuel listed a w) (hq : ∀ c a w, Q (.panic c) a w → False) : wpAnyH P md ops Q S fuel listed a w := h Q (fun _ _ h => h) hq
theorem region_once {P : Program} {id : Nat} {ops : Array Oper} {b : Bool} {Q : Exit → Act → World → Prop} {a : Act} {w : World} (Φ : Act → World → Prop) (h : (Code.region id ops b).wp P (NoPanic (Exit.then Φ fun _ _ _ => False)) a w) (hq : ∀ a w, Φ a w → Q .normal a w) : (Code.region id ops b).wp P Q a w :=
  Code.wp_mono (fun e a w h => by have h := NoPanic.imp e a w h; cases e <;> first | exact hq a w h | exact (h : False).elim) h
abbrev sp0 : Oper := { dst := some 59, op := Go.Op.move (Go.Operand.tmp 8), type := 22, pos := "share.go:38", after := #[], guard := none }
abbrev sp1 : Oper := { dst := some 60, op := Go.Op.move (Go.Operand.tmp 14), type := 2, pos := "share.go:38", after := #[], guard := none }
abbrev sp2 : Oper := { dst := some 61, op := Go.Op.buildSlice 22 1 #[(0, Go.Operand.tmp 60)], type := 22, pos := "share.go:38", after := #[{ on := 1, ground := Go.Ground.data }], guard := none }
abbrev sp3 : Oper := { dst := some 62, op := Go.Op.call { callee := Go.Callee.builtin Go.Builtin.append, args := #[Go.Operand.tmp 59, Go.Operand.tmp 61], argTypes := #[22, 22] }, type := 22, pos := "share.go:38", after := #[{ on := 0, ground := Go.Ground.data }, { on := 2, ground := Go.Ground.data }], guard := none }
abbrev sp4 : Oper := { dst := some 63, op := Go.Op.load 22 (Go.Operand.tmp 9), type := 22, pos := "share.go:38", after := #[], guard := none }
abbrev sp5 : Oper := { dst := some 64, op := Go.Op.move (Go.Operand.tmp 15), type := 2, pos := "share.go:38", after := #[], guard := none }
abbrev sp6 : Oper := { dst := some 65, op := Go.Op.buildSlice 22 1 #[(0, Go.Operand.tmp 64)], type := 22, pos := "share.go:38", after := #[{ on := 5, ground := Go.Ground.data }], guard := none }
abbrev sp7 : Oper := { dst := some 66, op := Go.Op.call { callee := Go.Callee.builtin Go.Builtin.append, args := #[Go.Operand.tmp 63, Go.Operand.tmp 65], argTypes := #[22, 22] }, type := 22, pos := "share.go:38", after := #[{ on := 4, ground := Go.Ground.data }, { on := 6, ground := Go.Ground.data }, { on := 3, ground := Go.Ground.chain }], guard := none }
abbrev sp8 : Oper := { dst := some 67, op := Go.Op.move (Go.Operand.tmp 10), type := 37, pos := "share.go:38", after := #[], guard := none }
abbrev sp9 : Oper := { dst := some 68, op := Go.Op.move (Go.Operand.tmp 12), type := 3, pos := "share.go:38", after := #[], guard := none }
abbrev sp10 : Oper := { dst := some 69, op := Go.Op.buildSlice 37 1 #[(0, Go.Operand.tmp 68)], type := 37, pos := "share.go:38", after := #[{ on := 9, ground := Go.Ground.data }], guard := none }
abbrev sp11 : Oper := { dst := some 70, op := Go.Op.call { callee := Go.Callee.builtin Go.Builtin.append, args := #[Go.Operand.tmp 67, Go.Operand.tmp 69], argTypes := #[37, 37] }, type := 37, pos := "share.go:38", after := #[{ on := 8, ground := Go.Ground.data }, { on := 10, ground := Go.Ground.data }, { on := 7, ground := Go.Ground.chain }], guard := none }
abbrev sp12 : Oper := { dst := some 8, op := Go.Op.assign (Go.Operand.tmp 62), type := 22, pos := "share.go:38", after := #[{ on := 3, ground := Go.Ground.data }, { on := 11, ground := Go.Ground.chain }, { on := 0, ground := Go.Ground.phase }, { on := 1, ground := Go.Ground.phase }, { on := 2, ground := Go.Ground.phase }, { on := 3, ground := Go.Ground.phase }, { on := 4, ground := Go.Ground.textOnly Go.Departure.lateStores }, { on := 5, ground := Go.Ground.textOnly Go.Departure.lateStores }, { on := 6, ground := Go.Ground.textOnly Go.Departure.lateStores }, { on := 7, ground := Go.Ground.textOnly Go.Departure.lateStoresUnsure }, { on := 8, ground := Go.Ground.textOnly Go.Departure.lateStores }, { on := 9, ground := Go.Ground.textOnly Go.Departure.lateStores }, { on := 10, ground := Go.Ground.textOnly Go.Departure.inlinedCapture }, { on := 11, ground := Go.Ground.textOnly Go.Departure.lateStoresUnsure }], guard := none }
abbrev sp13 : Oper := { dst := none, op := Go.Op.store 22 (Go.Operand.tmp 9) (Go.Operand.tmp 66), type := 0, pos := "share.go:38", after := #[{ on := 7, ground := Go.Ground.data }, { on := 12, ground := Go.Ground.chain }, { on := 0, ground := Go.Ground.phase }, { on := 1, ground := Go.Ground.phase }, { on := 2, ground := Go.Ground.phase }, { on := 3, ground := Go.Ground.phase }, { on := 4, ground := Go.Ground.phase }, { on := 5, ground := Go.Ground.phase }, { on := 6, ground := Go.Ground.phase }, { on := 7, ground := Go.Ground.phase }, { on := 8, ground := Go.Ground.textOnly Go.Departure.lateStores }, { on := 9, ground := Go.Ground.textOnly Go.Departure.lateStores }, { on := 10, ground := Go.Ground.textOnly Go.Departure.inlinedCapture }, { on := 11, ground := Go.Ground.textOnly Go.Departure.lateStoresUnsure }, { on := 12, ground := Go.Ground.phase }], guard := none }
abbrev sp14 : Oper := { dst := some 10, op := Go.Op.assign (Go.Operand.tmp 70), type := 37, pos := "share.go:38", after := #[{ on := 11, ground := Go.Ground.data }, { on := 13, ground := Go.Ground.chain }, { on := 0, ground := Go.Ground.phase }, { on := 1, ground := Go.Ground.phase }, { on := 2, ground := Go.Ground.phase }, { on := 3, ground := Go.Ground.phase }, { on := 4, ground := Go.Ground.phase }, { on := 5, ground := Go.Ground.phase }, { on := 6, ground := Go.Ground.phase }, { on := 7, ground := Go.Ground.phase }, { on := 8, ground := Go.Ground.phase }, { on := 9, ground := Go.Ground.phase }, { on := 10, ground := Go.Ground.phase }, { on := 11, ground := Go.Ground.phase }, { on := 12, ground := Go.Ground.phase }, { on := 13, ground := Go.Ground.phase }], guard := none }
def spOps : Array Oper := #[sp0, sp1, sp2, sp3, sp4, sp5, sp6, sp7, sp8, sp9, sp10, sp11, sp12, sp13, sp14]
set_option maxRecDepth 100000 in
set_option maxHeartbeats 25600000 in
theorem split_ok {n c : Nat} (t : Int) (A : Option Addr) (ws : List Int) (hn : ws.length = n) (w : World) (hr : Kd.C (Kd.int .i64) w A n ws) (hc : n ≤ c) (ht : I64 t) (hw : ∀ x ∈ ws, I64 x)
    (hm : n ≤ 100) (ht0 : 0 ≤ t) (hnn : ∀ x ∈ ws, 0 ≤ x) (hS : I64 ws.sum) (hs0 : 0 < ws.sum) :
    Calls Try.prog 8 #[.int .i64 t, .slice A n c] w fun e w' => SplitPost t ws w e w' := by
  subst hn
  have RND := Aside0.mk (fun k hk => rnd_of ht0 ht hw hS hnn hs0 k hk)
  have HR := Aside0.mk hr
  have b1 := beyond_one ht
  have b2 := beyond_all hw
  have c3 : ¬ ∃ x ∈ ws, x < 0 := fun ⟨x, hx, e⟩ => by have := hnn x hx; omega
  have z : ¬ (100 : Int) < (ws.length : Int) := by omega
  have k1 := Aside0.mk (beyond_calls (c := 1) 9223372036854775807 (some ⟨w.heap.size, 0, none⟩) [t] rfl (w.alloc (.cells #[.int .i64 t] 2)) (C_block (Blk.new_ (W := w)).out rfl (by simp)) (by simp))
  rw [b1, decide_eq_false (by omega)] at k1
  have k2 := Aside0.mk (fun w1 hb => beyond_calls (c := c) 9223372036854775807 A ws rfl w1 (Kd.C_below HR.out hb) (by omega))
  rw [b2, decide_eq_false c3] at k2
  have k3 : Aside0 (∀ w1, Below w.heap.size w w1 → Calls Try.prog 14 #[.slice A ws.length c] w1 fun e w' => e = .returned (.tuple #[.int .i64 ws.sum, .int .i64 0]) ∧ Drawn0 w1 w') :=
    ⟨fun w1 hb => money_Sum.calls A c ws ws.sum 0 w1 (Kd.C_below HR.out hb) hc (by unfold money_Sum.f; rw [if_pos ⟨hw, by omega⟩]; unfold small; rw [if_pos hS])⟩
  have H1 := Aside0.mk hw
  have H2 := Aside0.mk ht
  have H3 := Aside0.mk hnn
  have H4 := Aside0.mk hS
  have hsz : ¬ ws.sum = 0 := by omega
  have hsz2 : (ws.sum == 0) = false := by rw [beq_eq_false_iff_ne]; exact hsz
  have H5 := Aside0.mk hs0
  obtain ⟨all, hall⟩ : ∃ all, all = ws.sum := ⟨_, rfl⟩
  rw [← hall] at RND k3 hsz hsz2
  have HALL := Aside0.mk hall
  clear hr hw ht hnn hS b1 b2 c3 hall hs0
  go_enter Try.func8, Try.ntmps8
  go_wp2_with (first | (go_at_call 16; refine k1.out.mono ?_; rintro e w1 ⟨rfl, hb⟩; have HB := Aside0.mk (below_step' (below_alloc (Below.refl _ _) _) hb); clear hb k1) | (go_at_call 16; refine (k2.out _ HB.out).mono ?_; rintro e w2 ⟨rfl, hb⟩; have HB2 := Aside0.mk (below_step' HB.out hb); clear hb k2) | (go_at_call 14; refine (k3.out _ HB2.out).mono ?_; rintro e w3 ⟨rfl, hb⟩; have HB3 := Aside0.mk (below_step' HB2.out hb.below); clear hb k3))
  go_loopw [8, 10, 11, 46] (fun vo vd vl vi wr => ∃ (k : Nat) (vr : Value), k ≤ ws.length ∧ vi = .int .i64 k ∧ vl = .int .i64 (t - ((qL t all ws).take k).sum) ∧ Aside0 (N3 w3 w3.heap.size w3.heap.size wr vr vo vr vd ((qL t all ws).take k) ((rL t all ws).take k) (ids k) [])) (fun _ _ _ i _ => ws.length - (intOf i).toNat)
  case atStart =>
    exact ⟨0, .slice none 0 0, Nat.zero_le _, rfl, by simp, ⟨own_nil _ _ _ _, own_nil _ _ _ _, own_nil _ _ _ _, Blk.new_, fun k hk => by simp [Value.ownBlock] at hk, fun x hx => by simp at hx, by rw [size_alloc]; omega, Nat.le_refl _, below_alloc (Below.refl _ _) _⟩⟩
  case round =>
    obtain ⟨k, vr, hk, rfl, rfl, HN⟩ := hrel
    by_cases hlt : k < ws.length
    · have hlz : (k : Int) < (ws.length : Int) := by omega
      obtain ⟨ad, e1, hx⟩ := Kd.at_int (Kd.C_below HR.out (below_step' HB3.out HN.out.low)) k (by omega) (by omega)
      cases e1
      simp only [Int.toNat_natCast] at hx
      obtain ⟨q, hq⟩ : ∃ q, q = qAt t all ws k := ⟨_, rfl⟩
      obtain ⟨r, hrr⟩ : ∃ r, r = rAt t all ws k := ⟨_, rfl⟩
      obtain ⟨lv, hlv⟩ : ∃ lv, lv = t - ((qL t all ws).take k).sum := ⟨_, rfl⟩
      obtain ⟨lv2, hlv2⟩ : ∃ lv2, lv2 = t - ((qL t all ws).take (k + 1)).sum := ⟨_, rfl⟩
      obtain ⟨x, hx0⟩ : ∃ x, x = ws.getD k 0 := ⟨_, rfl⟩
      have hx1 : rd ws (k : Int) = x := by rw [hx0]; rfl
      rw [hx1] at hx
      obtain ⟨p1, p2⟩ := RND.out k hlt
      rw [← hq, ← hlv, ← hlv2] at p2
      rw [← hq, ← hrr, ← hx0] at p1
      have k4 := Aside0.mk (fun w => money_Part.calls t x all q r 0 w p1)
      have HQ := Aside0.mk hq
      have HRR := Aside0.mk hrr
      have HL2 := Aside0.mk hlv2
      rw [← hlv]
      clear hq hrr hlv hlv2 hx0 hx1 p1
      go_wp2_with (go_at_call 15; refine (k4.out _).mono ?_; rintro e w4 ⟨rfl, hb⟩; have HN4 := Aside0.mk (HN.out.below hb.below); clear hb)
      have hlo : ((qL t all ws).take k).length < 1000 := by rw [List.length_take, qL_len]; omega
      have hlr : ((rL t all ws).take k).length < 1000 := by rw [List.length_take, rL_len]; omega
      have hld : (ids k).length < 1000 := by rw [ids_len]; omega
      have HR1 := Aside0.mk (show ((rL t all ws).take k ++ [r]).length = k + 1 by rw [List.length_append, List.length_take, rL_len]; simp; omega)
      refine region_once (fun a W => ∃ vo1 vr1 vd1 y59 y60 y61 y62 y63 y64 y65 y66 y67 y68 y69 y70, a = ⟨#[Value.int IntKind.i64 t, Value.slice (some ad) ws.length c, undef, undef, Value.slice none 0 0, Value.int IntKind.i64 0, Value.int IntKind.i64 all, Value.int IntKind.i64 0, vo1, Value.pointer (some { block := w3.heap.size, off := 0 }), vd1, Value.int IntKind.i64 lv, Value.int IntKind.i64 (k : Int), Value.int IntKind.i64 x, Value.int IntKind.i64 q, Value.int IntKind.i64 r, Value.int IntKind.i64 0, undef, undef, Value.slice (some ad) ws.length c, Value.int IntKind.i64 (ws.length : Int), Value.bool false, Value.bool false, Value.int IntKind.i64 t, Value.slice (some { block := w.heap.size, off := 0 }) 1 1, Value.bool false, Value.bool false, Value.bool false, Value.slice (some ad) ws.length c, Value.bool false, Value.bool false, Value.tuple #[Value.int IntKind.i64 all, Value.int IntKind.i64 0], Value.slice (some ad) ws.length c, Value.tuple #[Value.int IntKind.i64 all, Value.int IntKind.i64 0], Value.int IntKind.i64 all, Value.int IntKind.i64 0, Value.bool false, Value.int IntKind.i64 0, Value.bool false, undef, Value.bool false, Value.int IntKind.i64 all, Value.bool false, Value.int IntKind.i64 t, Value.slice (some ad) ws.length c, Value.int IntKind.i64 (ws.length : Int), Value.int IntKind.i64 (k : Int), Value.bool true, Value.int IntKind.i64 (k : Int), Value.pointer (some (ad.add k)), Value.int IntKind.i64 x, Value.tuple #[Value.int IntKind.i64 q, Value.int IntKind.i64 r, Value.int IntKind.i64 0], Value.int IntKind.i64 t, Value.int IntKind.i64 x, Value.int IntKind.i64 all, Value.tuple #[Value.int IntKind.i64 q, Value.int IntKind.i64 r, Value.int IntKind.i64 0], Value.int IntKind.i64 q, Value.int IntKind.i64 r, Value.int IntKind.i64 0, y59, y60, y61, y62, y63, y64, y65, y66, y67, y68, y69, y70, u71, u72, u73, u74, undef, undef, undef, undef, undef, undef, undef, undef, undef, undef, undef, undef, undef, undef, undef, undef, undef, undef, undef], []⟩ ∧ N3 w3 w3.heap.size w3.heap.size W vr1 vo1 vr1 vd1 ((qL t all ws).take k ++ [q]) ((rL t all ws).take k ++ [r]) (ids k ++ [(k : Int)]) []) ?_ ?_
      · refine wp_region_held_drew (S := fun _ => True) (by kernel_rfl) trivial (fun hHeld => ?_)
        refine held_q (fun Q0 HN0 HP0 => ?_) (fun _ _ _ h => h)
        change wpAnyH Try.prog .any spOps Q0 (fun _ => True) 15 (Array.replicate 15 false) _ _
        have M0 := HN4.out.drew
        generalize w4.drew = wq0 at M0 ⊢
        clear HN4 HN
        refine tk (i := 0) (o := sp0) (v := ?vt1) HP0 rfl (by kernel_rfl) (by kernel_rfl) (by kernel_rfl) (by rfl) ?ht1 ?rt1
        case ht1 => (intro w _; unfold sp0; go_simp <;> with_reducible rfl)
        try simp only [sp0, Act.put, List.setIfInBounds_toArray, List.set_cons_zero, List.set_cons_succ]
        refine tk (i := 1) (o := sp1) (v := ?vt2) HP0 rfl (by kernel_rfl) (by kernel_rfl) (by kernel_rfl) (by rfl) ?ht2 ?rt2
        case ht2 => (intro w _; unfold sp1; go_simp <;> with_reducible rfl)
        try simp only [sp1, Act.put, List.setIfInBounds_toArray, List.set_cons_zero, List.set_cons_succ]
        refine tk (i := 5) (o := sp5) (v := ?vt3) HP0 rfl (by kernel_rfl) (by kernel_rfl) (by kernel_rfl) (by rfl) ?ht3 ?rt3
        case ht3 => (intro w _; unfold sp5; go_simp <;> with_reducible rfl)
        try simp only [sp5, Act.put, List.setIfInBounds_toArray, List.set_cons_zero, List.set_cons_succ]
        refine tk (i := 8) (o := sp8) (v := ?vt4) HP0 rfl (by kernel_rfl) (by kernel_rfl) (by kernel_rfl) (by rfl) ?ht4 ?rt4
        case ht4 => (intro w _; unfold sp8; go_simp <;> with_reducible rfl)
        try simp only [sp8, Act.put, List.setIfInBounds_toArray, List.set_cons_zero, List.set_cons_succ]
        refine tk (i := 9) (o := sp9) (v := ?vt5) HP0 rfl (by kernel_rfl) (by kernel_rfl) (by kernel_rfl) (by rfl) ?ht5 ?rt5
        case ht5 => (intro w _; unfold sp9; go_simp <;> with_reducible rfl)
        try simp only [sp9, Act.put, List.setIfInBounds_toArray, List.set_cons_zero, List.set_cons_succ]
        refine wpAnyH_ready (rs := [2, 4, 6, 10]) (by kernel_rfl) (by simp) ?_
        refine (AllReadyH.cons (o := sp2) rfl (fun K hK => ?_) (AllReadyH.cons (o := sp4) rfl (fun K hK => ?_) (AllReadyH.cons (o := sp6) rfl (fun K hK => ?_) (AllReadyH.cons (o := sp10) rfl (fun K hK => ?_) AllReadyH.nil))))
        unfold sp2
        go_simp
        have M1 := M0.alloc q 2
        generalize (wq0.alloc (Obj.cells #[Value.int .i64 q] 2)) = wq1 at M1 ⊢
        refine hK.out _ _ trivial fun _ => ?_
        clear hK K
        try simp only [sp2, Act.put, List.setIfInBounds_toArray, List.set_cons_zero, List.set_cons_succ]
        refine wpAnyH_ready (rs := [3, 4, 6, 10]) (by kernel_rfl) (by simp) ?_
        refine (AllReadyH.cons (o := sp3) rfl (fun K hK => ?_) (AllReadyH.cons (o := sp4) rfl (fun K hK => ?_) (AllReadyH.cons (o := sp6) rfl (fun K hK => ?_) (AllReadyH.cons (o := sp10) rfl (fun K hK => ?_) AllReadyH.nil))))
        unfold sp3
        refine N3.step_o M1 (u := q) (h0 := wq0.heap.size) (by simp only [List.mem_cons, true_or, or_true]) (by rfl) (.tmp 59) (.tmp 61) rfl rfl rfl hlo ?_
        intro vo1 wq2 M2
        refine hK.out _ _ trivial fun _ => ?_
        clear hK K
        try simp only [sp3, Act.put, List.setIfInBounds_toArray, List.set_cons_zero, List.set_cons_succ]
        refine wpAnyH_ready (rs := [4, 6, 10]) (by kernel_rfl) (by simp) ?_
        refine (AllReadyH.cons (o := sp4) rfl (fun K hK => ?_) (AllReadyH.cons (o := sp6) rfl (fun K hK => ?_) (AllReadyH.cons (o := sp10) rfl (fun K hK => ?_) AllReadyH.nil)))
        have cb : wq2.cell? ⟨w3.heap.size, 0, none⟩ = some vr := (M2.box.cell 0).trans rfl
        unfold sp4
        go_simp
        clear cb
        refine hK.out _ _ trivial fun _ => ?_
        clear hK K
        try simp only [sp4, Act.put, List.setIfInBounds_toArray, List.set_cons_zero, List.set_cons_succ]
        refine wpAnyH_ready (rs := [6, 10]) (by kernel_rfl) (by simp) ?_
        refine (AllReadyH.cons (o := sp6) rfl (fun K hK => ?_) (AllReadyH.cons (o := sp10) rfl (fun K hK => ?_) AllReadyH.nil))
        unfold sp6
        go_simp
        have M3 := M2.alloc r 2
        generalize (wq2.alloc (Obj.cells #[Value.int .i64 r] 2)) = wq3 at M3 ⊢
        refine hK.out _ _ trivial fun _ => ?_
        clear hK K
        try simp only [sp6, Act.put, List.setIfInBounds_toArray, List.set_cons_zero, List.set_cons_succ]
        refine wpAnyH_ready (rs := [7, 10]) (by kernel_rfl) (by simp) ?_
        refine (AllReadyH.cons (o := sp7) rfl (fun K hK => ?_) (AllReadyH.cons (o := sp10) rfl (fun K hK => ?_) AllReadyH.nil))
        unfold sp7
        refine N3.step_r M3 (u := r) (h0 := wq2.heap.size) (by simp only [List.mem_cons, true_or, or_true]) (by rfl) (.tmp 63) (.tmp 65) rfl rfl rfl hlr ?_
        intro vr1 wq4 M4
        refine hK.out _ _ trivial fun _ => ?_
        clear hK K
        try simp only [sp7, Act.put, List.setIfInBounds_toArray, List.set_cons_zero, List.set_cons_succ]
        refine wpAnyH_ready (rs := [10]) (by kernel_rfl) (by simp) ?_
        refine (AllReadyH.cons (o := sp10) rfl (fun K hK => ?_) AllReadyH.nil)
        unfold sp10
        go_simp
        have M5 := M4.alloc (k : Int) 3
        generalize (wq4.alloc (Obj.cells #[Value.int .i64 (k : Int)] 3)) = wq5 at M5 ⊢
        refine hK.out _ _ trivial fun _ => ?_
        clear hK K
        try simp only [sp10, Act.put, List.setIfInBounds_toArray, List.set_cons_zero, List.set_cons_succ]
        refine wpAnyH_ready (rs := [11]) (by kernel_rfl) (by simp) ?_
        refine (AllReadyH.cons (o := sp11) rfl (fun K hK => ?_) AllReadyH.nil)
        unfold sp11
        refine N3.step_d M5 (u := (k : Int)) (h0 := wq4.heap.size) (by simp only [List.mem_cons, true_or, or_true]) (by rfl) (.tmp 67) (.tmp 69) rfl rfl rfl hld ?_
        intro vd1 wq6 M6
        refine hK.out _ _ trivial fun _ => ?_
        clear hK K
        try simp only [sp11, Act.put, List.setIfInBounds_toArray, List.set_cons_zero, List.set_cons_succ]
        refine tk (i := 12) (o := sp12) (v := ?vt6) HP0 rfl (by kernel_rfl) (by kernel_rfl) (by kernel_rfl) (by rfl) ?ht6 ?rt6
        case ht6 => (intro w _; unfold sp12; go_simp <;> with_reducible rfl)
        try simp only [sp12, Act.put, List.setIfInBounds_toArray, List.set_cons_zero, List.set_cons_succ]
        refine wpAnyH_ready (rs := [13]) (by kernel_rfl) (by simp) ?_
        refine (AllReadyH.cons (o := sp13) rfl (fun K hK => ?_) AllReadyH.nil)
        have cb : wq6.cell? ⟨w3.heap.size, 0, none⟩ = some vr := (M6.box.cell 0).trans rfl
        have fb := M6.box.free 0
        obtain ⟨A9, c9, e9⟩ := own_slice M6.r
        rw [HR1.out] at e9
        subst e9
        unfold sp13
        go_simp
        have M7 := M6.store (.slice A9 (k + 1) c9)
        clear cb fb
        refine hK.out _ _ trivial fun _ => ?_
        clear hK K
        try simp only [sp13, Act.put, List.setIfInBounds_toArray, List.set_cons_zero, List.set_cons_succ]
        refine tk (i := 14) (o := sp14) (v := ?vt7) HP0 rfl (by kernel_rfl) (by kernel_rfl) (by kernel_rfl) (by rfl) ?ht7 ?rt7
        case ht7 => (intro w _; unfold sp14; go_simp <;> with_reducible rfl)
        try simp only [sp14, Act.put, List.setIfInBounds_toArray, List.set_cons_zero, List.set_cons_succ]
        refine wpAnyH_done (by kernel_rfl) ?_ _
        exact HN0 _ _ (NoPanic.normal ⟨vo1, _, vd1, _, _, _, _, _, _, _, _, _, _, _, _, rfl, M7⟩)
        unfold sp10
        go_simp
        have M4 := M3.alloc (k : Int) 3
        generalize (wq3.alloc (Obj.cells #[Value.int .i64 (k : Int)] 3)) = wq4 at M4 ⊢
        refine hK.out _ _ trivial fun _ => ?_
        clear hK K
        try simp only [sp10, Act.put, List.setIfInBounds_toArray, List.set_cons_zero, List.set_cons_succ]
        refine wpAnyH_ready (rs := [7]) (by kernel_rfl) (by simp) ?_
        refine (AllReadyH.cons (o := sp7) rfl (fun K hK => ?_) AllReadyH.nil)
        unfold sp7
        refine N3.step_r M4 (u := r) (h0 := wq2.heap.size) (by simp only [List.mem_cons, true_or, or_true]) (by rfl) (.tmp 63) (.tmp 65) rfl rfl rfl hlr ?_
        intro vr1 wq5 M5
        refine hK.out _ _ trivial fun _ => ?_
        clear hK K
        try simp only [sp7, Act.put, List.setIfInBounds_toArray, List.set_cons_zero, List.set_cons_succ]
        refine wpAnyH_ready (rs := [11]) (by kernel_rfl) (by simp) ?_
        refine (AllReadyH.cons (o := sp11) rfl (fun K hK => ?_) AllReadyH.nil)
        unfold sp11
        refine N3.step_d M5 (u := (k : Int)) (h0 := wq3.heap.size) (by simp only [List.mem_cons, true_or, or_true]) (by rfl) (.tmp 67) (.tmp 69) rfl rfl rfl hld ?_
        intro vd1 wq6 M6
        refine hK.out _ _ trivial fun _ => ?_
        clear hK K
        try simp only [sp11, Act.put, List.setIfInBounds_toArray, List.set_cons_zero, List.set_cons_succ]
        refine tk (i := 12) (o := sp12) (v := ?vt8) HP0 rfl (by kernel_rfl) (by kernel_rfl) (by kernel_rfl) (by rfl) ?ht8 ?rt8
        case ht8 => (intro w _; unfold sp12; go_simp <;> with_reducible rfl)
        try simp only [sp12, Act.put, List.setIfInBounds_toArray, List.set_cons_zero, List.set_cons_succ]
        refine wpAnyH_ready (rs := [13]) (by kernel_rfl) (by simp) ?_
        refine (AllReadyH.cons (o := sp13) rfl (fun K hK => ?_) AllReadyH.nil)
        have cb : wq6.cell? ⟨w3.heap.size, 0, none⟩ = some vr := (M6.box.cell 0).trans rfl
        have fb := M6.box.free 0
        obtain ⟨A9, c9, e9⟩ := own_slice M6.r
        rw [HR1.out] at e9
        subst e9
        unfold sp13
        go_simp
        have M7 := M6.store (.slice A9 (k + 1) c9)
        clear cb fb
        refine hK.out _ _ trivial fun _ => ?_
        clear hK K
        try simp only [sp13, Act.put, List.setIfInBounds_toArray, List.set_cons_zero, List.set_cons_succ]
        refine tk (i := 14) (o := sp14) (v := ?vt9) HP0 rfl (by kernel_rfl) (by kernel_rfl) (by kernel_rfl) (by rfl) ?ht9 ?rt9
        case ht9 => (intro w _; unfold sp14; go_simp <;> with_reducible rfl)
        try simp only [sp14, Act.put, List.setIfInBounds_toArray, List.set_cons_zero, List.set_cons_succ]
        refine wpAnyH_done (by kernel_rfl) ?_ _
        exact HN0 _ _ (NoPanic.normal ⟨vo1, _, vd1, _, _, _, _, _, _, _, _, _, _, _, _, rfl, M7⟩)
        unfold sp10
        go_simp
        have M3 := M2.alloc (k : Int) 3
        generalize (wq2.alloc (Obj.cells #[Value.int .i64 (k : Int)] 3)) = wq3 at M3 ⊢
        refine hK.out _ _ trivial fun _ => ?_
        clear hK K
        try simp only [sp10, Act.put, List.setIfInBounds_toArray, List.set_cons_zero, List.set_cons_succ]
        refine wpAnyH_ready (rs := [6]) (by kernel_rfl) (by simp) ?_
        refine (AllReadyH.cons (o := sp6) rfl (fun K hK => ?_) AllReadyH.nil)
        unfold sp6
        go_simp
        have M4 := M3.alloc r 2
        generalize (wq3.alloc (Obj.cells #[Value.int .i64 r] 2)) = wq4 at M4 ⊢
        refine hK.out _ _ trivial fun _ => ?_
        clear hK K
        try simp only [sp6, Act.put, List.setIfInBounds_toArray, List.set_cons_zero, List.set_cons_succ]
        refine wpAnyH_ready (rs := [7]) (by kernel_rfl) (by simp) ?_
        refine (AllReadyH.cons (o := sp7) rfl (fun K hK => ?_) AllReadyH.nil)
        unfold sp7
        refine N3.step_r M4 (u := r) (h0 := wq3.heap.size) (by simp only [List.mem_cons, true_or, or_true]) (by rfl) (.tmp 63) (.tmp 65) rfl rfl rfl hlr ?_
        intro vr1 wq5 M5
        refine hK.out _ _ trivial fun _ => ?_
        clear hK K
        try simp only [sp7, Act.put, List.setIfInBounds_toArray, List.set_cons_zero, List.set_cons_succ]
        refine wpAnyH_ready (rs := [11]) (by kernel_rfl) (by simp) ?_
        refine (AllReadyH.cons (o := sp11) rfl (fun K hK => ?_) AllReadyH.nil)
        unfold sp11
        refine N3.step_d M5 (u := (k : Int)) (h0 := wq2.heap.size) (by simp only [List.mem_cons, true_or, or_true]) (by rfl) (.tmp 67) (.tmp 69) rfl rfl rfl hld ?_
        intro vd1 wq6 M6
        refine hK.out _ _ trivial fun _ => ?_
        clear hK K
        try simp only [sp11, Act.put, List.setIfInBounds_toArray, List.set_cons_zero, List.set_cons_succ]
        refine tk (i := 12) (o := sp12) (v := ?vt10) HP0 rfl (by kernel_rfl) (by kernel_rfl) (by kernel_rfl) (by rfl) ?ht10 ?rt10
        case ht10 => (intro w _; unfold sp12; go_simp <;> with_reducible rfl)
        try simp only [sp12, Act.put, List.setIfInBounds_toArray, List.set_cons_zero, List.set_cons_succ]
        refine wpAnyH_ready (rs := [13]) (by kernel_rfl) (by simp) ?_
        refine (AllReadyH.cons (o := sp13) rfl (fun K hK => ?_) AllReadyH.nil)
        have cb : wq6.cell? ⟨w3.heap.size, 0, none⟩ = some vr := (M6.box.cell 0).trans rfl
        have fb := M6.box.free 0
        obtain ⟨A9, c9, e9⟩ := own_slice M6.r
        rw [HR1.out] at e9
        subst e9
        unfold sp13
        go_simp
        have M7 := M6.store (.slice A9 (k + 1) c9)
        clear cb fb
        refine hK.out _ _ trivial fun _ => ?_
        clear hK K
        try simp only [sp13, Act.put, List.setIfInBounds_toArray, List.set_cons_zero, List.set_cons_succ]
        refine tk (i := 14) (o := sp14) (v := ?vt11) HP0 rfl (by kernel_rfl) (by kernel_rfl) (by kernel_rfl) (by rfl) ?ht11 ?rt11
        case ht11 => (intro w _; unfold sp14; go_simp <;> with_reducible rfl)
        try simp only [sp14, Act.put, List.setIfInBounds_toArray, List.set_cons_zero, List.set_cons_succ]
        refine wpAnyH_done (by kernel_rfl) ?_ _
        exact HN0 _ _ (NoPanic.normal ⟨vo1, _, vd1, _, _, _, _, _, _, _, _, _, _, _, _, rfl, M7⟩)
        unfold sp6
        go_simp
        have M3 := M2.alloc r 2
        generalize (wq2.alloc (Obj.cells #[Value.int .i64 r] 2)) = wq3 at M3 ⊢
        refine hK.out _ _ trivial fun _ => ?_
        clear hK K
        try simp only [sp6, Act.put, List.setIfInBounds_toArray, List.set_cons_zero, List.set_cons_succ]
        refine wpAnyH_ready (rs := [4, 10]) (by kernel_rfl) (by simp) ?_
        refine (AllReadyH.cons (o := sp4) rfl (fun K hK => ?_) (AllReadyH.cons (o := sp10) rfl (fun K hK => ?_) AllReadyH.nil))
        have cb : wq3.cell? ⟨w3.heap.size, 0, none⟩ = some vr := (M3.box.cell 0).trans rfl
        unfold sp4
        go_simp
        clear cb
        refine hK.out _ _ trivial fun _ => ?_
        clear hK K
        try simp only [sp4, Act.put, List.setIfInBounds_toArray, List.set_cons_zero, List.set_cons_succ]
        refine wpAnyH_ready (rs := [7, 10]) (by kernel_rfl) (by simp) ?_
        refine (AllReadyH.cons (o := sp7) rfl (fun K hK => ?_) (AllReadyH.cons (o := sp10) rfl (fun K hK => ?_) AllReadyH.nil))
        unfold sp7
        refine N3.step_r M3 (u := r) (h0 := wq2.heap.size) (by simp only [List.mem_cons, true_or, or_true]) (by rfl) (.tmp 63) (.tmp 65) rfl rfl rfl hlr ?_
        intro vr1 wq4 M4
        refine hK.out _ _ trivial fun _ => ?_
        clear hK K
        try simp only [sp7, Act.put, List.setIfInBounds_toArray, List.set_cons_zero, List.set_cons_succ]
        refine wpAnyH_ready (rs := [10]) (by kernel_rfl) (by simp) ?_
        refine (AllReadyH.cons (o := sp10) rfl (fun K hK => ?_) AllReadyH.nil)
        unfold sp10
        go_simp
        have M5 := M4.alloc (k : Int) 3
        generalize (wq4.alloc (Obj.cells #[Value.int .i64 (k : Int)] 3)) = wq5 at M5 ⊢
        refine hK.out _ _ trivial fun _ => ?_
        clear hK K
        try simp only [sp10, Act.put, List.setIfInBounds_toArray, List.set_cons_zero, List.set_cons_succ]
        refine wpAnyH_ready (rs := [11]) (by kernel_rfl) (by simp) ?_
        refine (AllReadyH.cons (o := sp11) rfl (fun K hK => ?_) AllReadyH.nil)
        unfold sp11
        refine N3.step_d M5 (u := (k : Int)) (h0 := wq4.heap.size) (by simp only [List.mem_cons, true_or, or_true]) (by rfl) (.tmp 67) (.tmp 69) rfl rfl rfl hld ?_
        intro vd1 wq6 M6
        refine hK.out _ _ trivial fun _ => ?_
        clear hK K
        try simp only [sp11, Act.put, List.setIfInBounds_toArray, List.set_cons_zero, List.set_cons_succ]
        refine tk (i := 12) (o := sp12) (v := ?vt12) HP0 rfl (by kernel_rfl) (by kernel_rfl) (by kernel_rfl) (by rfl) ?ht12 ?rt12
        case ht12 => (intro w _; unfold sp12; go_simp <;> with_reducible rfl)
        try simp only [sp12, Act.put, List.setIfInBounds_toArray, List.set_cons_zero, List.set_cons_succ]
        refine wpAnyH_ready (rs := [13]) (by kernel_rfl) (by simp) ?_
        refine (AllReadyH.cons (o := sp13) rfl (fun K hK => ?_) AllReadyH.nil)
        have cb : wq6.cell? ⟨w3.heap.size, 0, none⟩ = some vr := (M6.box.cell 0).trans rfl
        have fb := M6.box.free 0
        obtain ⟨A9, c9, e9⟩ := own_slice M6.r
        rw [HR1.out] at e9
        subst e9
        unfold sp13
        go_simp
        have M7 := M6.store (.slice A9 (k + 1) c9)
        clear cb fb
        refine hK.out _ _ trivial fun _ => ?_
        clear hK K
        try simp only [sp13, Act.put, List.setIfInBounds_toArray, List.set_cons_zero, List.set_cons_succ]
        refine tk (i := 14) (o := sp14) (v := ?vt13) HP0 rfl (by kernel_rfl) (by kernel_rfl) (by kernel_rfl) (by rfl) ?ht13 ?rt13
        case ht13 => (intro w _; unfold sp14; go_simp <;> with_reducible rfl)
        try simp only [sp14, Act.put, List.setIfInBounds_toArray, List.set_cons_zero, List.set_cons_succ]
        refine wpAnyH_done (by kernel_rfl) ?_ _
        exact HN0 _ _ (NoPanic.normal ⟨vo1, _, vd1, _, _, _, _, _, _, _, _, _, _, _, _, rfl, M7⟩)
        unfold sp10
        go_simp
        have M4 := M3.alloc (k : Int) 3
        generalize (wq3.alloc (Obj.cells #[Value.int .i64 (k : Int)] 3)) = wq4 at M4 ⊢
        refine hK.out _ _ trivial fun _ => ?_
        clear hK K
        try simp only [sp10, Act.put, List.setIfInBounds_toArray, List.set_cons_zero, List.set_cons_succ]
        refine wpAnyH_ready (rs := [7]) (by kernel_rfl) (by simp) ?_
        refine (AllReadyH.cons (o := sp7) rfl (fun K hK => ?_) AllReadyH.nil)
        unfold sp7
        refine N3.step_r M4 (u := r) (h0 := wq2.heap.size) (by simp only [List.mem_cons, true_or, or_true]) (by rfl) (.tmp 63) (.tmp 65) rfl rfl rfl hlr ?_
        intro vr1 wq5 M5
        refine hK.out _ _ trivial fun _ => ?_
        clear hK K
        try simp only [sp7, Act.put, List.setIfInBounds_toArray, List.set_cons_zero, List.set_cons_succ]
        refine wpAnyH_ready (rs := [11]) (by kernel_rfl) (by simp) ?_
        refine (AllReadyH.cons (o := sp11) rfl (fun K hK => ?_) AllReadyH.nil)
        unfold sp11
        refine N3.step_d M5 (u := (k : Int)) (h0 := wq3.heap.size) (by simp only [List.mem_cons, true_or, or_true]) (by rfl) (.tmp 67) (.tmp 69) rfl rfl rfl hld ?_
        intro vd1 wq6 M6
        refine hK.out _ _ trivial fun _ => ?_
        clear hK K
        try simp only [sp11, Act.put, List.setIfInBounds_toArray, List.set_cons_zero, List.set_cons_succ]
        refine tk (i := 12) (o := sp12) (v := ?vt14) HP0 rfl (by kernel_rfl) (by kernel_rfl) (by kernel_rfl) (by rfl) ?ht14 ?rt14
        case ht14 => (intro w _; unfold sp12; go_simp <;> with_reducible rfl)
        try simp only [sp12, Act.put, List.setIfInBounds_toArray, List.set_cons_zero, List.set_cons_succ]
        refine wpAnyH_ready (rs := [13]) (by kernel_rfl) (by simp) ?_
        refine (AllReadyH.cons (o := sp13) rfl (fun K hK => ?_) AllReadyH.nil)
        have cb : wq6.cell? ⟨w3.heap.size, 0, none⟩ = some vr := (M6.box.cell 0).trans rfl
        have fb := M6.box.free 0
        obtain ⟨A9, c9, e9⟩ := own_slice M6.r
        rw [HR1.out] at e9
        subst e9
        unfold sp13
        go_simp
        have M7 := M6.store (.slice A9 (k + 1) c9)
        clear cb fb
        refine hK.out _ _ trivial fun _ => ?_
        clear hK K
        try simp only [sp13, Act.put, List.setIfInBounds_toArray, List.set_cons_zero, List.set_cons_succ]
        refine tk (i := 14) (o := sp14) (v := ?vt15) HP0 rfl (by kernel_rfl) (by kernel_rfl) (by kernel_rfl) (by rfl) ?ht15 ?rt15
        case ht15 => (intro w _; unfold sp14; go_simp <;> with_reducible rfl)
        try simp only [sp14, Act.put, List.setIfInBounds_toArray, List.set_cons_zero, List.set_cons_succ]
        refine wpAnyH_done (by kernel_rfl) ?_ _
        exact HN0 _ _ (NoPanic.normal ⟨vo1, _, vd1, _, _, _, _, _, _, _, _, _, _, _, _, rfl, M7⟩)
        unfold sp10
        go_simp
        have M4 := M3.alloc (k : Int) 3
        generalize (wq3.alloc (Obj.cells #[Value.int .i64 (k : Int)] 3)) = wq4 at M4 ⊢
        refine hK.out _ _ trivial fun _ => ?_
        clear hK K
        try simp only [sp10, Act.put, List.setIfInBounds_toArray, List.set_cons_zero, List.set_cons_succ]
        refine wpAnyH_ready (rs := [4]) (by kernel_rfl) (by simp) ?_
        refine (AllReadyH.cons (o := sp4) rfl (fun K hK => ?_) AllReadyH.nil)
        have cb : wq4.cell? ⟨w3.heap.size, 0, none⟩ = some vr := (M4.box.cell 0).trans rfl
        unfold sp4
        go_simp
        clear cb
        refine hK.out _ _ trivial fun _ => ?_
        clear hK K
        try simp only [sp4, Act.put, List.setIfInBounds_toArray, List.set_cons_zero, List.set_cons_succ]
        refine wpAnyH_ready (rs := [7]) (by kernel_rfl) (by simp) ?_
        refine (AllReadyH.cons (o := sp7) rfl (fun K hK => ?_) AllReadyH.nil)
        unfold sp7
        refine N3.step_r M4 (u := r) (h0 := wq2.heap.size) (by simp only [List.mem_cons, true_or, or_true]) (by rfl) (.tmp 63) (.tmp 65) rfl rfl rfl hlr ?_
        intro vr1 wq5 M5
        refine hK.out _ _ trivial fun _ => ?_
        clear hK K
        try simp only [sp7, Act.put, List.setIfInBounds_toArray, List.set_cons_zero, List.set_cons_succ]
        refine wpAnyH_ready (rs := [11]) (by kernel_rfl) (by simp) ?_
        refine (AllReadyH.cons (o := sp11) rfl (fun K hK => ?_) AllReadyH.nil)
        unfold sp11
        refine N3.step_d M5 (u := (k : Int)) (h0 := wq3.heap.size) (by simp only [List.mem_cons, true_or, or_true]) (by rfl) (.tmp 67) (.tmp 69) rfl rfl rfl hld ?_
        intro vd1 wq6 M6
        refine hK.out _ _ trivial fun _ => ?_
        clear hK K
        try simp only [sp11, Act.put, List.setIfInBounds_toArray, List.set_cons_zero, List.set_cons_succ]
        refine tk (i := 12) (o := sp12) (v := ?vt16) HP0 rfl (by kernel_rfl) (by kernel_rfl) (by kernel_rfl) (by rfl) ?ht16 ?rt16
        case ht16 => (intro w _; unfold sp12; go_simp <;> with_reducible rfl)
        try simp only [sp12, Act.put, List.setIfInBounds_toArray, List.set_cons_zero, List.set_cons_succ]
        refine wpAnyH_ready (rs := [13]) (by kernel_rfl) (by simp) ?_
        refine (AllReadyH.cons (o := sp13) rfl (fun K hK => ?_) AllReadyH.nil)
        have cb : wq6.cell? ⟨w3.heap.size, 0, none⟩ = some vr := (M6.box.cell 0).trans rfl
        have fb := M6.box.free 0
        obtain ⟨A9, c9, e9⟩ := own_slice M6.r
        rw [HR1.out] at e9
        subst e9
        unfold sp13
        go_simp
        have M7 := M6.store (.slice A9 (k + 1) c9)
        clear cb fb
        refine hK.out _ _ trivial fun _ => ?_
        clear hK K
        try simp only [sp13, Act.put, List.setIfInBounds_toArray, List.set_cons_zero, List.set_cons_succ]
        refine tk (i := 14) (o := sp14) (v := ?vt17) HP0 rfl (by kernel_rfl) (by kernel_rfl) (by kernel_rfl) (by rfl) ?ht17 ?rt17
        case ht17 => (intro w _; unfold sp14; go_simp <;> with_reducible rfl)
        try simp only [sp14, Act.put, List.setIfInBounds_toArray, List.set_cons_zero, List.set_cons_succ]
        refine wpAnyH_done (by kernel_rfl) ?_ _
        exact HN0 _ _ (NoPanic.normal ⟨vo1, _, vd1, _, _, _, _, _, _, _, _, _, _, _, _, rfl, M7⟩)
        unfold sp10
        go_simp
        have M3 := M2.alloc (k : Int) 3
        generalize (wq2.alloc (Obj.cells #[Value.int .i64 (k : Int)] 3)) = wq3 at M3 ⊢
        refine hK.out _ _ trivial fun _ => ?_
        clear hK K
        try simp only [sp10, Act.put, List.setIfInBounds_toArray, List.set_cons_zero, List.set_cons_succ]
        refine wpAnyH_ready (rs := [4, 6]) (by kernel_rfl) (by simp) ?_
        refine (AllReadyH.cons (o := sp4) rfl (fun K hK => ?_) (AllReadyH.cons (o := sp6) rfl (fun K hK => ?_) AllReadyH.nil))
        have cb : wq3.cell? ⟨w3.heap.size, 0, none⟩ = some vr := (M3.box.cell 0).trans rfl
        unfold sp4
        go_simp
        clear cb
        refine hK.out _ _ trivial fun _ => ?_
        clear hK K
        try simp only [sp4, Act.put, List.setIfInBounds_toArray, List.set_cons_zero, List.set_cons_succ]
        refine wpAnyH_ready (rs := [6]) (by kernel_rfl) (by simp) ?_
        refine (AllReadyH.cons (o := sp6) rfl (fun K hK => ?_) AllReadyH.nil)
        unfold sp6
        go_simp
        have M4 := M3.alloc r 2
        generalize (wq3.alloc (Obj.cells #[Value.int .i64 r] 2)) = wq4 at M4 ⊢
        refine hK.out _ _ trivial fun _ => ?_
        clear hK K
        try simp only [sp6, Act.put, List.setIfInBounds_toArray, List.set_cons_zero, List.set_cons_succ]
        refine wpAnyH_ready (rs := [7]) (by kernel_rfl) (by simp) ?_
        refine (AllReadyH.cons (o := sp7) rfl (fun K hK => ?_) AllReadyH.nil)
        unfold sp7
        refine N3.step_r M4 (u := r) (h0 := wq3.heap.size) (by simp only [List.mem_cons, true_or, or_true]) (by rfl) (.tmp 63) (.tmp 65) rfl rfl rfl hlr ?_
        intro vr1 wq5 M5
        refine hK.out _ _ trivial fun _ => ?_
        clear hK K
        try simp only [sp7, Act.put, List.setIfInBounds_toArray, List.set_cons_zero, List.set_cons_succ]
        refine wpAnyH_ready (rs := [11]) (by kernel_rfl) (by simp) ?_
        refine (AllReadyH.cons (o := sp11) rfl (fun K hK => ?_) AllReadyH.nil)
        unfold sp11
        refine N3.step_d M5 (u := (k : Int)) (h0 := wq2.heap.size) (by simp only [List.mem_cons, true_or, or_true]) (by rfl) (.tmp 67) (.tmp 69) rfl rfl rfl hld ?_
        intro vd1 wq6 M6
        refine hK.out _ _ trivial fun _ => ?_
        clear hK K
        try simp only [sp11, Act.put, List.setIfInBounds_toArray, List.set_cons_zero, List.set_cons_succ]
        refine tk (i := 12) (o := sp12) (v := ?vt18) HP0 rfl (by kernel_rfl) (by kernel_rfl) (by kernel_rfl) (by rfl) ?ht18 ?rt18
        case ht18 => (intro w _; unfold sp12; go_simp <;> with_reducible rfl)
        try simp only [sp12, Act.put, List.setIfInBounds_toArray, List.set_cons_zero, List.set_cons_succ]
        refine wpAnyH_ready (rs := [13]) (by kernel_rfl) (by simp) ?_
        refine (AllReadyH.cons (o := sp13) rfl (fun K hK => ?_) AllReadyH.nil)
        have cb : wq6.cell? ⟨w3.heap.size, 0, none⟩ = some vr := (M6.box.cell 0).trans rfl
        have fb := M6.box.free 0
        obtain ⟨A9, c9, e9⟩ := own_slice M6.r
        rw [HR1.out] at e9
        subst e9
        unfold sp13
        go_simp
        have M7 := M6.store (.slice A9 (k + 1) c9)
        clear cb fb
        refine hK.out _ _ trivial fun _ => ?_
        clear hK K
        try simp only [sp13, Act.put, List.setIfInBounds_toArray, List.set_cons_zero, List.set_cons_succ]
        refine tk (i := 14) (o := sp14) (v := ?vt19) HP0 rfl (by kernel_rfl) (by kernel_rfl) (by kernel_rfl) (by rfl) ?ht19 ?rt19
        case ht19 => (intro w _; unfold sp14; go_simp <;> with_reducible rfl)
        try simp only [sp14, Act.put, List.setIfInBounds_toArray, List.set_cons_zero, List.set_cons_succ]
        refine wpAnyH_done (by kernel_rfl) ?_ _
        exact HN0 _ _ (NoPanic.normal ⟨vo1, _, vd1, _, _, _, _, _, _, _, _, _, _, _, _, rfl, M7⟩)
        unfold sp6
        go_simp
        have M4 := M3.alloc r 2
        generalize (wq3.alloc (Obj.cells #[Value.int .i64 r] 2)) = wq4 at M4 ⊢
        refine hK.out _ _ trivial fun _ => ?_
        clear hK K
        try simp only [sp6, Act.put, List.setIfInBounds_toArray, List.set_cons_zero, List.set_cons_succ]
        refine wpAnyH_ready (rs := [4]) (by kernel_rfl) (by simp) ?_
        refine (AllReadyH.cons (o := sp4) rfl (fun K hK => ?_) AllReadyH.nil)
        have cb : wq4.cell? ⟨w3.heap.size, 0, none⟩ = some vr := (M4.box.cell 0).trans rfl
        unfold sp4
        go_simp
        clear cb
        refine hK.out _ _ trivial fun _ => ?_
        clear hK K
        try simp only [sp4, Act.put, List.setIfInBounds_toArray, List.set_cons_zero, List.set_cons_succ]
        refine wpAnyH_ready (rs := [7]) (by kernel_rfl) (by simp) ?_
        refine (AllReadyH.cons (o := sp7) rfl (fun K hK => ?_) AllReadyH.nil)
        unfold sp7
        refine N3.step_r M4 (u := r) (h0 := wq3.heap.size) (by simp only [List.mem_cons, true_or, or_true]) (by rfl) (.tmp 63) (.tmp 65) rfl rfl rfl hlr ?_
        intro vr1 wq5 M5
        refine hK.out _ _ trivial fun _ => ?_
        clear hK K
        try simp only [sp7, Act.put, List.setIfInBounds_toArray, List.set_cons_zero, List.set_cons_succ]
        refine wpAnyH_ready (rs := [11]) (by kernel_rfl) (by simp) ?_
        refine (AllReadyH.cons (o := sp11) rfl (fun K hK => ?_) AllReadyH.nil)
        unfold sp11
        refine N3.step_d M5 (u := (k : Int)) (h0 := wq2.heap.size) (by simp only [List.mem_cons, true_or, or_true]) (by rfl) (.tmp 67) (.tmp 69) rfl rfl rfl hld ?_
        intro vd1 wq6 M6
        refine hK.out _ _ trivial fun _ => ?_
        clear hK K
        try simp only [sp11, Act.put, List.setIfInBounds_toArray, List.set_cons_zero, List.set_cons_succ]
        refine tk (i := 12) (o := sp12) (v := ?vt20) HP0 rfl (by kernel_rfl) (by kernel_rfl) (by kernel_rfl) (by rfl) ?ht20 ?rt20
        case ht20 => (intro w _; unfold sp12; go_simp <;> with_reducible rfl)
        try simp only [sp12, Act.put, List.setIfInBounds_toArray, List.set_cons_zero, List.set_cons_succ]
        refine wpAnyH_ready (rs := [13]) (by kernel_rfl) (by simp) ?_
        refine (AllReadyH.cons (o := sp13) rfl (fun K hK => ?_) AllReadyH.nil)
        have cb : wq6.cell? ⟨w3.heap.size, 0, none⟩ = some vr := (M6.box.cell 0).trans rfl
        have fb := M6.box.free 0
        obtain ⟨A9, c9, e9⟩ := own_slice M6.r
        rw [HR1.out] at e9
        subst e9
        unfold sp13
        go_simp
        have M7 := M6.store (.slice A9 (k + 1) c9)
        clear cb fb
        refine hK.out _ _ trivial fun _ => ?_
        clear hK K
        try simp only [sp13, Act.put, List.setIfInBounds_toArray, List.set_cons_zero, List.set_cons_succ]
        refine tk (i := 14) (o := sp14) (v := ?vt21) HP0 rfl (by kernel_rfl) (by kernel_rfl) (by kernel_rfl) (by rfl) ?ht21 ?rt21
        case ht21 => (intro w _; unfold sp14; go_simp <;> with_reducible rfl)
        try simp only [sp14, Act.put, List.setIfInBounds_toArray, List.set_cons_zero, List.set_cons_succ]
        refine wpAnyH_done (by kernel_rfl) ?_ _
        exact HN0 _ _ (NoPanic.normal ⟨vo1, _, vd1, _, _, _, _, _, _, _, _, _, _, _, _, rfl, M7⟩)
        have cb : wq1.cell? ⟨w3.heap.size, 0, none⟩ = some vr := (M1.box.cell 0).trans rfl
        unfold sp4
        go_simp
        clear cb
        refine hK.out _ _ trivial fun _ => ?_
        clear hK K
        try simp only [sp4, Act.put, List.setIfInBounds_toArray, List.set_cons_zero, List.set_cons_succ]
        refine wpAnyH_ready (rs := [3, 6, 10]) (by kernel_rfl) (by simp) ?_
        refine (AllReadyH.cons (o := sp3) rfl (fun K hK => ?_) (AllReadyH.cons (o := sp6) rfl (fun K hK => ?_) (AllReadyH.cons (o := sp10) rfl (fun K hK => ?_) AllReadyH.nil)))
        unfold sp3
        refine N3.step_o M1 (u := q) (h0 := wq0.heap.size) (by simp only [List.mem_cons, true_or, or_true]) (by rfl) (.tmp 59) (.tmp 61) rfl rfl rfl hlo ?_
        intro vo1 wq2 M2
        refine hK.out _ _ trivial fun _ => ?_
        clear hK K
        try simp only [sp3, Act.put, List.setIfInBounds_toArray, List.set_cons_zero, List.set_cons_succ]
        refine wpAnyH_ready (rs := [6, 10]) (by kernel_rfl) (by simp) ?_
        refine (AllReadyH.cons (o := sp6) rfl (fun K hK => ?_) (AllReadyH.cons (o := sp10) rfl (fun K hK => ?_) AllReadyH.nil))
        unfold sp6
        go_simp
        have M3 := M2.alloc r 2
        generalize (wq2.alloc (Obj.cells #[Value.int .i64 r] 2)) = wq3 at M3 ⊢
        refine hK.out _ _ trivial fun _ => ?_
        clear hK K
        try simp only [sp6, Act.put, List.setIfInBounds_toArray, List.set_cons_zero, List.set_cons_succ]
        refine wpAnyH_ready (rs := [7, 10]) (by kernel_rfl) (by simp) ?_
        refine (AllReadyH.cons (o := sp7) rfl (fun K hK => ?_) (AllReadyH.cons (o := sp10) rfl (fun K hK => ?_) AllReadyH.nil))
        unfold sp7
        refine N3.step_r M3 (u := r) (h0 := wq2.heap.size) (by simp only [List.mem_cons, true_or, or_true]) (by rfl) (.tmp 63) (.tmp 65) rfl rfl rfl hlr ?_
        intro vr1 wq4 M4
        refine hK.out _ _ trivial fun _ => ?_
        clear hK K
        try simp only [sp7, Act.put, List.setIfInBounds_toArray, List.set_cons_zero, List.set_cons_succ]
        refine wpAnyH_ready (rs := [10]) (by kernel_rfl) (by simp) ?_
        refine (AllReadyH.cons (o := sp10) rfl (fun K hK => ?_) AllReadyH.nil)
        unfold sp10
        go_simp
        have M5 := M4.alloc (k : Int) 3
        generalize (wq4.alloc (Obj.cells #[Value.int .i64 (k : Int)] 3)) = wq5 at M5 ⊢
        refine hK.out _ _ trivial fun _ => ?_
        clear hK K
        try simp only [sp10, Act.put, List.setIfInBounds_toArray, List.set_cons_zero, List.set_cons_succ]
        refine wpAnyH_ready (rs := [11]) (by kernel_rfl) (by simp) ?_
        refine (AllReadyH.cons (o := sp11) rfl (fun K hK => ?_) AllReadyH.nil)
        unfold sp11
        refine N3.step_d M5 (u := (k : Int)) (h0 := wq4.heap.size) (by simp only [List.mem_cons, true_or, or_true]) (by rfl) (.tmp 67) (.tmp 69) rfl rfl rfl hld ?_
        intro vd1 wq6 M6
        refine hK.out _ _ trivial fun _ => ?_
        clear hK K
        try simp only [sp11, Act.put, List.setIfInBounds_toArray, List.set_cons_zero, List.set_cons_succ]
        refine tk (i := 12) (o := sp12) (v := ?vt22) HP0 rfl (by kernel_rfl) (by kernel_rfl) (by kernel_rfl) (by rfl) ?ht22 ?rt22
        case ht22 => (intro w _; unfold sp12; go_simp <;> with_reducible rfl)
        try simp only [sp12, Act.put, List.setIfInBounds_toArray, List.set_cons_zero, List.set_cons_succ]
        refine wpAnyH_ready (rs := [13]) (by kernel_rfl) (by simp) ?_
        refine (AllReadyH.cons (o := sp13) rfl (fun K hK => ?_) AllReadyH.nil)
        have cb : wq6.cell? ⟨w3.heap.size, 0, none⟩ = some vr := (M6.box.cell 0).trans rfl
        have fb := M6.box.free 0
        obtain ⟨A9, c9, e9⟩ := own_slice M6.r
        rw [HR1.out] at e9
        subst e9
        unfold sp13
        go_simp
        have M7 := M6.store (.slice A9 (k + 1) c9)
        clear cb fb
        refine hK.out _ _ trivial fun _ => ?_
        clear hK K
        try simp only [sp13, Act.put, List.setIfInBounds_toArray, List.set_cons_zero, List.set_cons_succ]
        refine tk (i := 14) (o := sp14) (v := ?vt23) HP0 rfl (by kernel_rfl) (by kernel_rfl) (by kernel_rfl) (by rfl) ?ht23 ?rt23
        case ht23 => (intro w _; unfold sp14; go_simp <;> with_reducible rfl)
        try simp only [sp14, Act.put, List.setIfInBounds_toArray, List.set_cons_zero, List.set_cons_succ]
        refine wpAnyH_done (by kernel_rfl) ?_ _
        exact HN0 _ _ (NoPanic.normal ⟨vo1, _, vd1, _, _, _, _, _, _, _, _, _, _, _, _, rfl, M7⟩)
        unfold sp10
        go_simp
        have M4 := M3.alloc (k : Int) 3
        generalize (wq3.alloc (Obj.cells #[Value.int .i64 (k : Int)] 3)) = wq4 at M4 ⊢
        refine hK.out _ _ trivial fun _ => ?_
        clear hK K
        try simp only [sp10, Act.put, List.setIfInBounds_toArray, List.set_cons_zero, List.set_cons_succ]
        refine wpAnyH_ready (rs := [7]) (by kernel_rfl) (by simp) ?_
        refine (AllReadyH.cons (o := sp7) rfl (fun K hK => ?_) AllReadyH.nil)
        unfold sp7
        refine N3.step_r M4 (u := r) (h0 := wq2.heap.size) (by simp only [List.mem_cons, true_or, or_true]) (by rfl) (.tmp 63) (.tmp 65) rfl rfl rfl hlr ?_
        intro vr1 wq5 M5
        refine hK.out _ _ trivial fun _ => ?_
        clear hK K
        try simp only [sp7, Act.put, List.setIfInBounds_toArray, List.set_cons_zero, List.set_cons_succ]
        refine wpAnyH_ready (rs := [11]) (by kernel_rfl) (by simp) ?_
        refine (AllReadyH.cons (o := sp11) rfl (fun K hK => ?_) AllReadyH.nil)
        unfold sp11
        refine N3.step_d M5 (u := (k : Int)) (h0 := wq3.heap.size) (by simp only [List.mem_cons, true_or, or_true]) (by rfl) (.tmp 67) (.tmp 69) rfl rfl rfl hld ?_
        intro vd1 wq6 M6
        refine hK.out _ _ trivial fun _ => ?_
        clear hK K
        try simp only [sp11, Act.put, List.setIfInBounds_toArray, List.set_cons_zero, List.set_cons_succ]
        refine tk (i := 12) (o := sp12) (v := ?vt24) HP0 rfl (by kernel_rfl) (by kernel_rfl) (by kernel_rfl) (by rfl) ?ht24 ?rt24
        case ht24 => (intro w _; unfold sp12; go_simp <;> with_reducible rfl)
        try simp only [sp12, Act.put, List.setIfInBounds_toArray, List.set_cons_zero, List.set_cons_succ]
        refine wpAnyH_ready (rs := [13]) (by kernel_rfl) (by simp) ?_
        refine (AllReadyH.cons (o := sp13) rfl (fun K hK => ?_) AllReadyH.nil)
        have cb : wq6.cell? ⟨w3.heap.size, 0, none⟩ = some vr := (M6.box.cell 0).trans rfl
        have fb := M6.box.free 0
        obtain ⟨A9, c9, e9⟩ := own_slice M6.r
        rw [HR1.out] at e9
        subst e9
        unfold sp13
        go_simp
        have M7 := M6.store (.slice A9 (k + 1) c9)
        clear cb fb
        refine hK.out _ _ trivial fun _ => ?_
        clear hK K
        try simp only [sp13, Act.put, List.setIfInBounds_toArray, List.set_cons_zero, List.set_cons_succ]
        refine tk (i := 14) (o := sp14) (v := ?vt25) HP0 rfl (by kernel_rfl) (by kernel_rfl) (by kernel_rfl) (by rfl) ?ht25 ?rt25
        case ht25 => (intro w _; unfold sp14; go_simp <;> with_reducible rfl)
        try simp only [sp14, Act.put, List.setIfInBounds_toArray, List.set_cons_zero, List.set_cons_succ]
        refine wpAnyH_done (by kernel_rfl) ?_ _
        exact HN0 _ _ (NoPanic.normal ⟨vo1, _, vd1, _, _, _, _, _, _, _, _, _, _, _, _, rfl, M7⟩)
        unfold sp10
        go_simp
        have M3 := M2.alloc (k : Int) 3
        generalize (wq2.alloc (Obj.cells #[Value.int .i64 (k : Int)] 3)) = wq3 at M3 ⊢
        refine hK.out _ _ trivial fun _ => ?_
        clear hK K
        try simp only [sp10, Act.put, List.setIfInBounds_toArray, List.set_cons_zero, List.set_cons_succ]
        refine wpAnyH_ready (rs := [6]) (by kernel_rfl) (by simp) ?_
        refine (AllReadyH.cons (o := sp6) rfl (fun K hK => ?_) AllReadyH.nil)
        unfold sp6
        go_simp
        have M4 := M3.alloc r 2
        generalize (wq3.alloc (Obj.cells #[Value.int .i64 r] 2)) = wq4 at M4 ⊢
        refine hK.out _ _ trivial fun _ => ?_
        clear hK K
        try simp only [sp6, Act.put, List.setIfInBounds_toArray, List.set_cons_zero, List.set_cons_succ]
        refine wpAnyH_ready (rs := [7]) (by kernel_rfl) (by simp) ?_
        refine (AllReadyH.cons (o := sp7) rfl (fun K hK => ?_) AllReadyH.nil)
        unfold sp7
        refine N3.step_r M4 (u := r) (h0 := wq3.heap.size) (by simp only [List.mem_cons, true_or, or_true]) (by rfl) (.tmp 63) (.tmp 65) rfl rfl rfl hlr ?_
        intro vr1 wq5 M5
        refine hK.out _ _ trivial fun _ => ?_
        clear hK K
        try simp only [sp7, Act.put, List.setIfInBounds_toArray, List.set_cons_zero, List.set_cons_succ]
        refine wpAnyH_ready (rs := [11]) (by kernel_rfl) (by simp) ?_
        refine (AllReadyH.cons (o := sp11) rfl (fun K hK => ?_) AllReadyH.nil)
        unfold sp11
        refine N3.step_d M5 (u := (k : Int)) (h0 := wq2.heap.size) (by simp only [List.mem_cons, true_or, or_true]) (by rfl) (.tmp 67) (.tmp 69) rfl rfl rfl hld ?_
        intro vd1 wq6 M6
        refine hK.out _ _ trivial fun _ => ?_
        clear hK K
        try simp only [sp11, Act.put, List.setIfInBounds_toArray, List.set_cons_zero, List.set_cons_succ]
        refine tk (i := 12) (o := sp12) (v := ?vt26) HP0 rfl (by kernel_rfl) (by kernel_rfl) (by kernel_rfl) (by rfl) ?ht26 ?rt26
        case ht26 => (intro w _; unfold sp12; go_simp <;> with_reducible rfl)
        try simp only [sp12, Act.put, List.setIfInBounds_toArray, List.set_cons_zero, List.set_cons_succ]
        refine wpAnyH_ready (rs := [13]) (by kernel_rfl) (by simp) ?_
        refine (AllReadyH.cons (o := sp13) rfl (fun K hK => ?_) AllReadyH.nil)
        have cb : wq6.cell? ⟨w3.heap.size, 0, none⟩ = some vr := (M6.box.cell 0).trans rfl
        have fb := M6.box.free 0
        obtain ⟨A9, c9, e9⟩ := own_slice M6.r
        rw [HR1.out] at e9
        subst e9
        unfold sp13
        go_simp
        have M7 := M6.store (.slice A9 (k + 1) c9)
        clear cb fb
        refine hK.out _ _ trivial fun _ => ?_
        clear hK K
        try simp only [sp13, Act.put, List.setIfInBounds_toArray, List.set_cons_zero, List.set_cons_succ]
        refine tk (i := 14) (o := sp14) (v := ?vt27) HP0 rfl (by kernel_rfl) (by kernel_rfl) (by kernel_rfl) (by rfl) ?ht27 ?rt27
        case ht27 => (intro w _; unfold sp14; go_simp <;> with_reducible rfl)
        try simp only [sp14, Act.put, List.setIfInBounds_toArray, List.set_cons_zero, List.set_cons_succ]
        refine wpAnyH_done (by kernel_rfl) ?_ _
        exact HN0 _ _ (NoPanic.normal ⟨vo1, _, vd1, _, _, _, _, _, _, _, _, _, _, _, _, rfl, M7⟩)
        unfold sp6
        go_simp
        have M2 := M1.alloc r 2
        generalize (wq1.alloc (Obj.cells #[Value.int .i64 r] 2)) = wq2 at M2 ⊢
        refine hK.out _ _ trivial fun _ => ?_
        clear hK K
        try simp only [sp6, Act.put, List.setIfInBounds_toArray, List.set_cons_zero, List.set_cons_succ]
        refine wpAnyH_ready (rs := [3, 10]) (by kernel_rfl) (by simp) ?_
        refine (AllReadyH.cons (o := sp3) rfl (fun K hK => ?_) (AllReadyH.cons (o := sp10) rfl (fun K hK => ?_) AllReadyH.nil))
        unfold sp3
        refine N3.step_o M2 (u := q) (h0 := wq0.heap.size) (by simp only [List.mem_cons, true_or, or_true]) (by rfl) (.tmp 59) (.tmp 61) rfl rfl rfl hlo ?_
        intro vo1 wq3 M3
        refine hK.out _ _ trivial fun _ => ?_
        clear hK K
        try simp only [sp3, Act.put, List.setIfInBounds_toArray, List.set_cons_zero, List.set_cons_succ]
        refine wpAnyH_ready (rs := [7, 10]) (by kernel_rfl) (by simp) ?_
        refine (AllReadyH.cons (o := sp7) rfl (fun K hK => ?_) (AllReadyH.cons (o := sp10) rfl (fun K hK => ?_) AllReadyH.nil))
        unfold sp7
        refine N3.step_r M3 (u := r) (h0 := wq1.heap.size) (by simp only [List.mem_cons, true_or, or_true]) (by rfl) (.tmp 63) (.tmp 65) rfl rfl rfl hlr ?_
        intro vr1 wq4 M4
        refine hK.out _ _ trivial fun _ => ?_
        clear hK K
        try simp only [sp7, Act.put, List.setIfInBounds_toArray, List.set_cons_zero, List.set_cons_succ]
        refine wpAnyH_ready (rs := [10]) (by kernel_rfl) (by simp) ?_
        refine (AllReadyH.cons (o := sp10) rfl (fun K hK => ?_) AllReadyH.nil)
        unfold sp10
        go_simp
        have M5 := M4.alloc (k : Int) 3
        generalize (wq4.alloc (Obj.cells #[Value.int .i64 (k : Int)] 3)) = wq5 at M5 ⊢
        refine hK.out _ _ trivial fun _ => ?_
        clear hK K
        try simp only [sp10, Act.put, List.setIfInBounds_toArray, List.set_cons_zero, List.set_cons_succ]
        refine wpAnyH_ready (rs := [11]) (by kernel_rfl) (by simp) ?_
        refine (AllReadyH.cons (o := sp11) rfl (fun K hK => ?_) AllReadyH.nil)
        unfold sp11
        refine N3.step_d M5 (u := (k : Int)) (h0 := wq4.heap.size) (by simp only [List.mem_cons, true_or, or_true]) (by rfl) (.tmp 67) (.tmp 69) rfl rfl rfl hld ?_
        intro vd1 wq6 M6
        refine hK.out _ _ trivial fun _ => ?_
        clear hK K
        try simp only [sp11, Act.put, List.setIfInBounds_toArray, List.set_cons_zero, List.set_cons_succ]
        refine tk (i := 12) (o := sp12) (v := ?vt28) HP0 rfl (by kernel_rfl) (by kernel_rfl) (by kernel_rfl) (by rfl) ?ht28 ?rt28
        case ht28 => (intro w _; unfold sp12; go_simp <;> with_reducible rfl)
        try simp only [sp12, Act.put, List.setIfInBounds_toArray, List.set_cons_zero, List.set_cons_succ]
        refine wpAnyH_ready (rs := [13]) (by kernel_rfl) (by simp) ?_
        refine (AllReadyH.cons (o := sp13) rfl (fun K hK => ?_) AllReadyH.nil)
        have cb : wq6.cell? ⟨w3.heap.size, 0, none⟩ = some vr := (M6.box.cell 0).trans rfl
        have fb := M6.box.free 0
        obtain ⟨A9, c9, e9⟩ := own_slice M6.r
        rw [HR1.out] at e9
        subst e9
        unfold sp13
        go_simp
        have M7 := M6.store (.slice A9 (k + 1) c9)
        clear cb fb
        refine hK.out _ _ trivial fun _ => ?_
        clear hK K
        try simp only [sp13, Act.put, List.setIfInBounds_toArray, List.set_cons_zero, List.set_cons_succ]
        refine tk (i := 14) (o := sp14) (v := ?vt29) HP0 rfl (by kernel_rfl) (by kernel_rfl) (by kernel_rfl) (by rfl) ?ht29 ?rt29
        case ht29 => (intro w _; unfold sp14; go_simp <;> with_reducible rfl)
        try simp only [sp14, Act.put, List.setIfInBounds_toArray, List.set_cons_zero, List.set_cons_succ]
        refine wpAnyH_done (by kernel_rfl) ?_ _
        exact HN0 _ _ (NoPanic.normal ⟨vo1, _, vd1, _, _, _, _, _, _, _, _, _, _, _, _, rfl, M7⟩)
        unfold sp10
        go_simp
        have M4 := M3.alloc (k : Int) 3
        generalize (wq3.alloc (Obj.cells #[Value.int .i64 (k : Int)] 3)) = wq4 at M4 ⊢
        refine hK.out _ _ trivial fun _ => ?_
        clear hK K
        try simp only [sp10, Act.put, List.setIfInBounds_toArray, List.set_cons_zero, List.set_cons_succ]
        refine wpAnyH_ready (rs := [7]) (by kernel_rfl) (by simp) ?_
        refine (AllReadyH.cons (o := sp7) rfl (fun K hK => ?_) AllReadyH.nil)
        unfold sp7
        refine N3.step_r M4 (u := r) (h0 := wq1.heap.size) (by simp only [List.mem_cons, true_or, or_true]) (by rfl) (.tmp 63) (.tmp 65) rfl rfl rfl hlr ?_
        intro vr1 wq5 M5
        refine hK.out _ _ trivial fun _ => ?_
        clear hK K
        try simp only [sp7, Act.put, List.setIfInBounds_toArray, List.set_cons_zero, List.set_cons_succ]
        refine wpAnyH_ready (rs := [11]) (by kernel_rfl) (by simp) ?_
        refine (AllReadyH.cons (o := sp11) rfl (fun K hK => ?_) AllReadyH.nil)
        unfold sp11
        refine N3.step_d M5 (u := (k : Int)) (h0 := wq3.heap.size) (by simp only [List.mem_cons, true_or, or_true]) (by rfl) (.tmp 67) (.tmp 69) rfl rfl rfl hld ?_
        intro vd1 wq6 M6
        refine hK.out _ _ trivial fun _ => ?_
        clear hK K
        try simp only [sp11, Act.put, List.setIfInBounds_toArray, List.set_cons_zero, List.set_cons_succ]
        refine tk (i := 12) (o := sp12) (v := ?vt30) HP0 rfl (by kernel_rfl) (by kernel_rfl) (by kernel_rfl) (by rfl) ?ht30 ?rt30
        case ht30 => (intro w _; unfold sp12; go_simp <;> with_reducible rfl)
        try simp only [sp12, Act.put, List.setIfInBounds_toArray, List.set_cons_zero, List.set_cons_succ]
        refine wpAnyH_ready (rs := [13]) (by kernel_rfl) (by simp) ?_
        refine (AllReadyH.cons (o := sp13) rfl (fun K hK => ?_) AllReadyH.nil)
        have cb : wq6.cell? ⟨w3.heap.size, 0, none⟩ = some vr := (M6.box.cell 0).trans rfl
        have fb := M6.box.free 0
        obtain ⟨A9, c9, e9⟩ := own_slice M6.r
        rw [HR1.out] at e9
        subst e9
        unfold sp13
        go_simp
        have M7 := M6.store (.slice A9 (k + 1) c9)
        clear cb fb
        refine hK.out _ _ trivial fun _ => ?_
        clear hK K
        try simp only [sp13, Act.put, List.setIfInBounds_toArray, List.set_cons_zero, List.set_cons_succ]
        refine tk (i := 14) (o := sp14) (v := ?vt31) HP0 rfl (by kernel_rfl) (by kernel_rfl) (by kernel_rfl) (by rfl) ?ht31 ?rt31
        case ht31 => (intro w _; unfold sp14; go_simp <;> with_reducible rfl)
        try simp only [sp14, Act.put, List.setIfInBounds_toArray, List.set_cons_zero, List.set_cons_succ]
        refine wpAnyH_done (by kernel_rfl) ?_ _
        exact HN0 _ _ (NoPanic.normal ⟨vo1, _, vd1, _, _, _, _, _, _, _, _, _, _, _, _, rfl, M7⟩)
        unfold sp10
        go_simp
        have M3 := M2.alloc (k : Int) 3
        generalize (wq2.alloc (Obj.cells #[Value.int .i64 (k : Int)] 3)) = wq3 at M3 ⊢
        refine hK.out _ _ trivial fun _ => ?_
        clear hK K
        try simp only [sp10, Act.put, List.setIfInBounds_toArray, List.set_cons_zero, List.set_cons_succ]
        refine wpAnyH_ready (rs := [3]) (by kernel_rfl) (by simp) ?_
        refine (AllReadyH.cons (o := sp3) rfl (fun K hK => ?_) AllReadyH.nil)
        unfold sp3
        refine N3.step_o M3 (u := q) (h0 := wq0.heap.size) (by simp only [List.mem_cons, true_or, or_true]) (by rfl) (.tmp 59) (.tmp 61) rfl rfl rfl hlo ?_
        intro vo1 wq4 M4
        refine hK.out _ _ trivial fun _ => ?_
        clear hK K
        try simp only [sp3, Act.put, List.setIfInBounds_toArray, List.set_cons_zero, List.set_cons_succ]
        refine wpAnyH_ready (rs := [7]) (by kernel_rfl) (by simp) ?_
        refine (AllReadyH.cons (o := sp7) rfl (fun K hK => ?_) AllReadyH.nil)
        unfold sp7
        refine N3.step_r M4 (u := r) (h0 := wq1.heap.size) (by simp only [List.mem_cons, true_or, or_true]) (by rfl) (.tmp 63) (.tmp 65) rfl rfl rfl hlr ?_
        intro vr1 wq5 M5
        refine hK.out _ _ trivial fun _ => ?_
        clear hK K
        try simp only [sp7, Act.put, List.setIfInBounds_toArray, List.set_cons_zero, List.set_cons_succ]
        refine wpAnyH_ready (rs := [11]) (by kernel_rfl) (by simp) ?_
        refine (AllReadyH.cons (o := sp11) rfl (fun K hK => ?_) AllReadyH.nil)
        unfold sp11
        refine N3.step_d M5 (u := (k : Int)) (h0 := wq2.heap.size) (by simp only [List.mem_cons, true_or, or_true]) (by rfl) (.tmp 67) (.tmp 69) rfl rfl rfl hld ?_
        intro vd1 wq6 M6
        refine hK.out _ _ trivial fun _ => ?_
        clear hK K
        try simp only [sp11, Act.put, List.setIfInBounds_toArray, List.set_cons_zero, List.set_cons_succ]
        refine tk (i := 12) (o := sp12) (v := ?vt32) HP0 rfl (by kernel_rfl) (by kernel_rfl) (by kernel_rfl) (by rfl) ?ht32 ?rt32
        case ht32 => (intro w _; unfold sp12; go_simp <;> with_reducible rfl)
        try simp only [sp12, Act.put, List.setIfInBounds_toArray, List.set_cons_zero, List.set_cons_succ]
        refine wpAnyH_ready (rs := [13]) (by kernel_rfl) (by simp) ?_
        refine (AllReadyH.cons (o := sp13) rfl (fun K hK => ?_) AllReadyH.nil)
        have cb : wq6.cell? ⟨w3.heap.size, 0, none⟩ = some vr := (M6.box.cell 0).trans rfl
        have fb := M6.box.free 0
        obtain ⟨A9, c9, e9⟩ := own_slice M6.r
        rw [HR1.out] at e9
        subst e9
        unfold sp13
        go_simp
        have M7 := M6.store (.slice A9 (k + 1) c9)
        clear cb fb
        refine hK.out _ _ trivial fun _ => ?_
        clear hK K
        try simp only [sp13, Act.put, List.setIfInBounds_toArray, List.set_cons_zero, List.set_cons_succ]
        refine tk (i := 14) (o := sp14) (v := ?vt33) HP0 rfl (by kernel_rfl) (by kernel_rfl) (by kernel_rfl) (by rfl) ?ht33 ?rt33
        case ht33 => (intro w _; unfold sp14; go_simp <;> with_reducible rfl)
        try simp only [sp14, Act.put, List.setIfInBounds_toArray, List.set_cons_zero, List.set_cons_succ]
        refine wpAnyH_done (by kernel_rfl) ?_ _
        exact HN0 _ _ (NoPanic.normal ⟨vo1, _, vd1, _, _, _, _, _, _, _, _, _, _, _, _, rfl, M7⟩)
        unfold sp10
        go_simp
        have M2 := M1.alloc (k : Int) 3
        generalize (wq1.alloc (Obj.cells #[Value.int .i64 (k : Int)] 3)) = wq2 at M2 ⊢
        refine hK.out _ _ trivial fun _ => ?_
        clear hK K
        try simp only [sp10, Act.put, List.setIfInBounds_toArray, List.set_cons_zero, List.set_cons_succ]
        refine wpAnyH_ready (rs := [3, 6]) (by kernel_rfl) (by simp) ?_
        refine (AllReadyH.cons (o := sp3) rfl (fun K hK => ?_) (AllReadyH.cons (o := sp6) rfl (fun K hK => ?_) AllReadyH.nil))
        unfold sp3
        refine N3.step_o M2 (u := q) (h0 := wq0.heap.size) (by simp only [List.mem_cons, true_or, or_true]) (by rfl) (.tmp 59) (.tmp 61) rfl rfl rfl hlo ?_
        intro vo1 wq3 M3
        refine hK.out _ _ trivial fun _ => ?_
        clear hK K
        try simp only [sp3, Act.put, List.setIfInBounds_toArray, List.set_cons_zero, List.set_cons_succ]
        refine wpAnyH_ready (rs := [6]) (by kernel_rfl) (by simp) ?_
        refine (AllReadyH.cons (o := sp6) rfl (fun K hK => ?_) AllReadyH.nil)
        unfold sp6
        go_simp
        have M4 := M3.alloc r 2
        generalize (wq3.alloc (Obj.cells #[Value.int .i64 r] 2)) = wq4 at M4 ⊢
        refine hK.out _ _ trivial fun _ => ?_
        clear hK K
        try simp only [sp6, Act.put, List.setIfInBounds_toArray, List.set_cons_zero, List.set_cons_succ]
        refine wpAnyH_ready (rs := [7]) (by kernel_rfl) (by simp) ?_
        refine (AllReadyH.cons (o := sp7) rfl (fun K hK => ?_) AllReadyH.nil)
        unfold sp7
        refine N3.step_r M4 (u := r) (h0 := wq3.heap.size) (by simp only [List.mem_cons, true_or, or_true]) (by rfl) (.tmp 63) (.tmp 65) rfl rfl rfl hlr ?_
        intro vr1 wq5 M5
        refine hK.out _ _ trivial fun _ => ?_
        clear hK K
        try simp only [sp7, Act.put, List.setIfInBounds_toArray, List.set_cons_zero, List.set_cons_succ]
        refine wpAnyH_ready (rs := [11]) (by kernel_rfl) (by simp) ?_
        refine (AllReadyH.cons (o := sp11) rfl (fun K hK => ?_) AllReadyH.nil)
        unfold sp11
        refine N3.step_d M5 (u := (k : Int)) (h0 := wq1.heap.size) (by simp only [List.mem_cons, true_or, or_true]) (by rfl) (.tmp 67) (.tmp 69) rfl rfl rfl hld ?_
        intro vd1 wq6 M6
        refine hK.out _ _ trivial fun _ => ?_
        clear hK K
        try simp only [sp11, Act.put, List.setIfInBounds_toArray, List.set_cons_zero, List.set_cons_succ]
        refine tk (i := 12) (o := sp12) (v := ?vt34) HP0 rfl (by kernel_rfl) (by kernel_rfl) (by kernel_rfl) (by rfl) ?ht34 ?rt34
        case ht34 => (intro w _; unfold sp12; go_simp <;> with_reducible rfl)
        try simp only [sp12, Act.put, List.setIfInBounds_toArray, List.set_cons_zero, List.set_cons_succ]
        refine wpAnyH_ready (rs := [13]) (by kernel_rfl) (by simp) ?_
        refine (AllReadyH.cons (o := sp13) rfl (fun K hK => ?_) AllReadyH.nil)
        have cb : wq6.cell? ⟨w3.heap.size, 0, none⟩ = some vr := (M6.box.cell 0).trans rfl
        have fb := M6.box.free 0
        obtain ⟨A9, c9, e9⟩ := own_slice M6.r
        rw [HR1.out] at e9
        subst e9
        unfold sp13
        go_simp
        have M7 := M6.store (.slice A9 (k + 1) c9)
        clear cb fb
        refine hK.out _ _ trivial fun _ => ?_
        clear hK K
        try simp only [sp13, Act.put, List.setIfInBounds_toArray, List.set_cons_zero, List.set_cons_succ]
        refine tk (i := 14) (o := sp14) (v := ?vt35) HP0 rfl (by kernel_rfl) (by kernel_rfl) (by kernel_rfl) (by rfl) ?ht35 ?rt35
        case ht35 => (intro w _; unfold sp14; go_simp <;> with_reducible rfl)
        try simp only [sp14, Act.put, List.setIfInBounds_toArray, List.set_cons_zero, List.set_cons_succ]
        refine wpAnyH_done (by kernel_rfl) ?_ _
        exact HN0 _ _ (NoPanic.normal ⟨vo1, _, vd1, _, _, _, _, _, _, _, _, _, _, _, _, rfl, M7⟩)
        unfold sp6
        go_simp
        have M3 := M2.alloc r 2
        generalize (wq2.alloc (Obj.cells #[Value.int .i64 r] 2)) = wq3 at M3 ⊢
        refine hK.out _ _ trivial fun _ => ?_
        clear hK K
        try simp only [sp6, Act.put, List.setIfInBounds_toArray, List.set_cons_zero, List.set_cons_succ]
        refine wpAnyH_ready (rs := [3]) (by kernel_rfl) (by simp) ?_
        refine (AllReadyH.cons (o := sp3) rfl (fun K hK => ?_) AllReadyH.nil)
        unfold sp3
        refine N3.step_o M3 (u := q) (h0 := wq0.heap.size) (by simp only [List.mem_cons, true_or, or_true]) (by rfl) (.tmp 59) (.tmp 61) rfl rfl rfl hlo ?_
        intro vo1 wq4 M4
        refine hK.out _ _ trivial fun _ => ?_
        clear hK K
        try simp only [sp3, Act.put, List.setIfInBounds_toArray, List.set_cons_zero, List.set_cons_succ]
        refine wpAnyH_ready (rs := [7]) (by kernel_rfl) (by simp) ?_
        refine (AllReadyH.cons (o := sp7) rfl (fun K hK => ?_) AllReadyH.nil)
        unfold sp7
        refine N3.step_r M4 (u := r) (h0 := wq2.heap.size) (by simp only [List.mem_cons, true_or, or_true]) (by rfl) (.tmp 63) (.tmp 65) rfl rfl rfl hlr ?_
        intro vr1 wq5 M5
        refine hK.out _ _ trivial fun _ => ?_
        clear hK K
        try simp only [sp7, Act.put, List.setIfInBounds_toArray, List.set_cons_zero, List.set_cons_succ]
        refine wpAnyH_ready (rs := [11]) (by kernel_rfl) (by simp) ?_
        refine (AllReadyH.cons (o := sp11) rfl (fun K hK => ?_) AllReadyH.nil)
        unfold sp11
        refine N3.step_d M5 (u := (k : Int)) (h0 := wq1.heap.size) (by simp only [List.mem_cons, true_or, or_true]) (by rfl) (.tmp 67) (.tmp 69) rfl rfl rfl hld ?_
        intro vd1 wq6 M6
        refine hK.out _ _ trivial fun _ => ?_
        clear hK K
        try simp only [sp11, Act.put, List.setIfInBounds_toArray, List.set_cons_zero, List.set_cons_succ]
        refine tk (i := 12) (o := sp12) (v := ?vt36) HP0 rfl (by kernel_rfl) (by kernel_rfl) (by kernel_rfl) (by rfl) ?ht36 ?rt36
        case ht36 => (intro w _; unfold sp12; go_simp <;> with_reducible rfl)
        try simp only [sp12, Act.put, List.setIfInBounds_toArray, List.set_cons_zero, List.set_cons_succ]
        refine wpAnyH_ready (rs := [13]) (by kernel_rfl) (by simp) ?_
        refine (AllReadyH.cons (o := sp13) rfl (fun K hK => ?_) AllReadyH.nil)
        have cb : wq6.cell? ⟨w3.heap.size, 0, none⟩ = some vr := (M6.box.cell 0).trans rfl
        have fb := M6.box.free 0
        obtain ⟨A9, c9, e9⟩ := own_slice M6.r
        rw [HR1.out] at e9
        subst e9
        unfold sp13
        go_simp
        have M7 := M6.store (.slice A9 (k + 1) c9)
        clear cb fb
        refine hK.out _ _ trivial fun _ => ?_
        clear hK K
        try simp only [sp13, Act.put, List.setIfInBounds_toArray, List.set_cons_zero, List.set_cons_succ]
        refine tk (i := 14) (o := sp14) (v := ?vt37) HP0 rfl (by kernel_rfl) (by kernel_rfl) (by kernel_rfl) (by rfl) ?ht37 ?rt37
        case ht37 => (intro w _; unfold sp14; go_simp <;> with_reducible rfl)
        try simp only [sp14, Act.put, List.setIfInBounds_toArray, List.set_cons_zero, List.set_cons_succ]
        refine wpAnyH_done (by kernel_rfl) ?_ _
        exact HN0 _ _ (NoPanic.normal ⟨vo1, _, vd1, _, _, _, _, _, _, _, _, _, _, _, _, rfl, M7⟩)
        unfold sp6
        go_simp
        have M2 := M1.alloc r 2
        generalize (wq1.alloc (Obj.cells #[Value.int .i64 r] 2)) = wq2 at M2 ⊢
        refine hK.out _ _ trivial fun _ => ?_
        clear hK K
        try simp only [sp6, Act.put, List.setIfInBounds_toArray, List.set_cons_zero, List.set_cons_succ]
        refine wpAnyH_ready (rs := [3, 4, 10]) (by kernel_rfl) (by simp) ?_
        refine (AllReadyH.cons (o := sp3) rfl (fun K hK => ?_) (AllReadyH.cons (o := sp4) rfl (fun K hK => ?_) (AllReadyH.cons (o := sp10) rfl (fun K hK => ?_) AllReadyH.nil)))
        unfold sp3
        refine N3.step_o M2 (u := q) (h0 := wq0.heap.size) (by simp only [List.mem_cons, true_or, or_true]) (by rfl) (.tmp 59) (.tmp 61) rfl rfl rfl hlo ?_
        intro vo1 wq3 M3
        refine hK.out _ _ trivial fun _ => ?_
        clear hK K
        try simp only [sp3, Act.put, List.setIfInBounds_toArray, List.set_cons_zero, List.set_cons_succ]
        refine wpAnyH_ready (rs := [4, 10]) (by kernel_rfl) (by simp) ?_
        refine (AllReadyH.cons (o := sp4) rfl (fun K hK => ?_) (AllReadyH.cons (o := sp10) rfl (fun K hK => ?_) AllReadyH.nil))
        have cb : wq3.cell? ⟨w3.heap.size, 0, none⟩ = some vr := (M3.box.cell 0).trans rfl
        unfold sp4
        go_simp
        clear cb
        refine hK.out _ _ trivial fun _ => ?_
        clear hK K
        try simp only [sp4, Act.put, List.setIfInBounds_toArray, List.set_cons_zero, List.set_cons_succ]
        refine wpAnyH_ready (rs := [7, 10]) (by kernel_rfl) (by simp) ?_
        refine (AllReadyH.cons (o := sp7) rfl (fun K hK => ?_) (AllReadyH.cons (o := sp10) rfl (fun K hK => ?_) AllReadyH.nil))
        unfold sp7
        refine N3.step_r M3 (u := r) (h0 := wq1.heap.size) (by simp only [List.mem_cons, true_or, or_true]) (by rfl) (.tmp 63) (.tmp 65) rfl rfl rfl hlr ?_
        intro vr1 wq4 M4
        refine hK.out _ _ trivial fun _ => ?_
        clear hK K
        try simp only [sp7, Act.put, List.setIfInBounds_toArray, List.set_cons_zero, List.set_cons_succ]
        refine wpAnyH_ready (rs := [10]) (by kernel_rfl) (by simp) ?_
        refine (AllReadyH.cons (o := sp10) rfl (fun K hK => ?_) AllReadyH.nil)
        unfold sp10
        go_simp
        have M5 := M4.alloc (k : Int) 3
        generalize (wq4.alloc (Obj.cells #[Value.int .i64 (k : Int)] 3)) = wq5 at M5 ⊢
        refine hK.out _ _ trivial fun _ => ?_
        clear hK K
        try simp only [sp10, Act.put, List.setIfInBounds_toArray, List.set_cons_zero, List.set_cons_succ]
        refine wpAnyH_ready (rs := [11]) (by kernel_rfl) (by simp) ?_
        refine (AllReadyH.cons (o := sp11) rfl (fun K hK => ?_) AllReadyH.nil)
        unfold sp11
        refine N3.step_d M5 (u := (k : Int)) (h0 := wq4.heap.size) (by simp only [List.mem_cons, true_or, or_true]) (by rfl) (.tmp 67) (.tmp 69) rfl rfl rfl hld ?_
        intro vd1 wq6 M6
        refine hK.out _ _ trivial fun _ => ?_
        clear hK K
        try simp only [sp11, Act.put, List.setIfInBounds_toArray, List.set_cons_zero, List.set_cons_succ]
        refine tk (i := 12) (o := sp12) (v := ?vt38) HP0 rfl (by kernel_rfl) (by kernel_rfl) (by kernel_rfl) (by rfl) ?ht38 ?rt38
        case ht38 => (intro w _; unfold sp12; go_simp <;> with_reducible rfl)
        try simp only [sp12, Act.put, List.setIfInBounds_toArray, List.set_cons_zero, List.set_cons_succ]
        refine wpAnyH_ready (rs := [13]) (by kernel_rfl) (by simp) ?_
        refine (AllReadyH.cons (o := sp13) rfl (fun K hK => ?_) AllReadyH.nil)
        have cb : wq6.cell? ⟨w3.heap.size, 0, none⟩ = some vr := (M6.box.cell 0).trans rfl
        have fb := M6.box.free 0
        obtain ⟨A9, c9, e9⟩ := own_slice M6.r
        rw [HR1.out] at e9
        subst e9
        unfold sp13
        go_simp
        have M7 := M6.store (.slice A9 (k + 1) c9)
        clear cb fb
        refine hK.out _ _ trivial fun _ => ?_
        clear hK K
        try simp only [sp13, Act.put, List.setIfInBounds_toArray, List.set_cons_zero, List.set_cons_succ]
        refine tk (i := 14) (o := sp14) (v := ?vt39) HP0 rfl (by kernel_rfl) (by kernel_rfl) (by kernel_rfl) (by rfl) ?ht39 ?rt39
        case ht39 => (intro w _; unfold sp14; go_simp <;> with_reducible rfl)
        try simp only [sp14, Act.put, List.setIfInBounds_toArray, List.set_cons_zero, List.set_cons_succ]
        refine wpAnyH_done (by kernel_rfl) ?_ _
        exact HN0 _ _ (NoPanic.normal ⟨vo1, _, vd1, _, _, _, _, _, _, _, _, _, _, _, _, rfl, M7⟩)
        unfold sp10
        go_simp
        have M4 := M3.alloc (k : Int) 3
        generalize (wq3.alloc (Obj.cells #[Value.int .i64 (k : Int)] 3)) = wq4 at M4 ⊢
        refine hK.out _ _ trivial fun _ => ?_
        clear hK K
        try simp only [sp10, Act.put, List.setIfInBounds_toArray, List.set_cons_zero, List.set_cons_succ]
        refine wpAnyH_ready (rs := [7]) (by kernel_rfl) (by simp) ?_
        refine (AllReadyH.cons (o := sp7) rfl (fun K hK => ?_) AllReadyH.nil)
        unfold sp7
        refine N3.step_r M4 (u := r) (h0 := wq1.heap.size) (by simp only [List.mem_cons, true_or, or_true]) (by rfl) (.tmp 63) (.tmp 65) rfl rfl rfl hlr ?_
        intro vr1 wq5 M5
        refine hK.out _ _ trivial fun _ => ?_
        clear hK K
        try simp only [sp7, Act.put, List.setIfInBounds_toArray, List.set_cons_zero, List.set_cons_succ]
        refine wpAnyH_ready (rs := [11]) (by kernel_rfl) (by simp) ?_
        refine (AllReadyH.cons (o := sp11) rfl (fun K hK => ?_) AllReadyH.nil)
        unfold sp11
        refine N3.step_d M5 (u := (k : Int)) (h0 := wq3.heap.size) (by simp only [List.mem_cons, true_or, or_true]) (by rfl) (.tmp 67) (.tmp 69) rfl rfl rfl hld ?_
        intro vd1 wq6 M6
        refine hK.out _ _ trivial fun _ => ?_
        clear hK K
        try simp only [sp11, Act.put, List.setIfInBounds_toArray, List.set_cons_zero, List.set_cons_succ]
        refine tk (i := 12) (o := sp12) (v := ?vt40) HP0 rfl (by kernel_rfl) (by kernel_rfl) (by kernel_rfl) (by rfl) ?ht40 ?rt40
        case ht40 => (intro w _; unfold sp12; go_simp <;> with_reducible rfl)
        try simp only [sp12, Act.put, List.setIfInBounds_toArray, List.set_cons_zero, List.set_cons_succ]
        refine wpAnyH_ready (rs := [13]) (by kernel_rfl) (by simp) ?_
        refine (AllReadyH.cons (o := sp13) rfl (fun K hK => ?_) AllReadyH.nil)
        have cb : wq6.cell? ⟨w3.heap.size, 0, none⟩ = some vr := (M6.box.cell 0).trans rfl
        have fb := M6.box.free 0
        obtain ⟨A9, c9, e9⟩ := own_slice M6.r
        rw [HR1.out] at e9
        subst e9
        unfold sp13
        go_simp
        have M7 := M6.store (.slice A9 (k + 1) c9)
        clear cb fb
        refine hK.out _ _ trivial fun _ => ?_
        clear hK K
        try simp only [sp13, Act.put, List.setIfInBounds_toArray, List.set_cons_zero, List.set_cons_succ]
        refine tk (i := 14) (o := sp14) (v := ?vt41) HP0 rfl (by kernel_rfl) (by kernel_rfl) (by kernel_rfl) (by rfl) ?ht41 ?rt41
        case ht41 => (intro w _; unfold sp14; go_simp <;> with_reducible rfl)
        try simp only [sp14, Act.put, List.setIfInBounds_toArray, List.set_cons_zero, List.set_cons_succ]
        refine wpAnyH_done (by kernel_rfl) ?_ _
        exact HN0 _ _ (NoPanic.normal ⟨vo1, _, vd1, _, _, _, _, _, _, _, _, _, _, _, _, rfl, M7⟩)
        unfold sp10
        go_simp
        have M4 := M3.alloc (k : Int) 3
        generalize (wq3.alloc (Obj.cells #[Value.int .i64 (k : Int)] 3)) = wq4 at M4 ⊢
        refine hK.out _ _ trivial fun _ => ?_
        clear hK K
        try simp only [sp10, Act.put, List.setIfInBounds_toArray, List.set_cons_zero, List.set_cons_succ]
        refine wpAnyH_ready (rs := [4]) (by kernel_rfl) (by simp) ?_
        refine (AllReadyH.cons (o := sp4) rfl (fun K hK => ?_) AllReadyH.nil)
        have cb : wq4.cell? ⟨w3.heap.size, 0, none⟩ = some vr := (M4.box.cell 0).trans rfl
        unfold sp4
        go_simp
        clear cb
        refine hK.out _ _ trivial fun _ => ?_
        clear hK K
        try simp only [sp4, Act.put, List.setIfInBounds_toArray, List.set_cons_zero, List.set_cons_succ]
        refine wpAnyH_ready (rs := [7]) (by kernel_rfl) (by simp) ?_
        refine (AllReadyH.cons (o := sp7) rfl (fun K hK => ?_) AllReadyH.nil)
        unfold sp7
        refine N3.step_r M4 (u := r) (h0 := wq1.heap.size) (by simp only [List.mem_cons, true_or, or_true]) (by rfl) (.tmp 63) (.tmp 65) rfl rfl rfl hlr ?_
        intro vr1 wq5 M5
        refine hK.out _ _ trivial fun _ => ?_
        clear hK K
        try simp only [sp7, Act.put, List.setIfInBounds_toArray, List.set_cons_zero, List.set_cons_succ]
        refine wpAnyH_ready (rs := [11]) (by kernel_rfl) (by simp) ?_
        refine (AllReadyH.cons (o := sp11) rfl (fun K hK => ?_) AllReadyH.nil)
        unfold sp11
        refine N3.step_d M5 (u := (k : Int)) (h0 := wq3.heap.size) (by simp only [List.mem_cons, true_or, or_true]) (by rfl) (.tmp 67) (.tmp 69) rfl rfl rfl hld ?_
        intro vd1 wq6 M6
        refine hK.out _ _ trivial fun _ => ?_
        clear hK K
        try simp only [sp11, Act.put, List.setIfInBounds_toArray, List.set_cons_zero, List.set_cons_succ]
        refine tk (i := 12) (o := sp12) (v := ?vt42) HP0 rfl (by kernel_rfl) (by kernel_rfl) (by kernel_rfl) (by rfl) ?ht42 ?rt42
        case ht42 => (intro w _; unfold sp12; go_simp <;> with_reducible rfl)
        try simp only [sp12, Act.put, List.setIfInBounds_toArray, List.set_cons_zero, List.set_cons_succ]
        refine wpAnyH_ready (rs := [13]) (by kernel_rfl) (by simp) ?_
        refine (AllReadyH.cons (o := sp13) rfl (fun K hK => ?_) AllReadyH.nil)
        have cb : wq6.cell? ⟨w3.heap.size, 0, none⟩ = some vr := (M6.box.cell 0).trans rfl
        have fb := M6.box.free 0
        obtain ⟨A9, c9, e9⟩ := own_slice M6.r
        rw [HR1.out] at e9
        subst e9
        unfold sp13
        go_simp
        have M7 := M6.store (.slice A9 (k + 1) c9)
        clear cb fb
        refine hK.out _ _ trivial fun _ => ?_
        clear hK K
        try simp only [sp13, Act.put, List.setIfInBounds_toArray, List.set_cons_zero, List.set_cons_succ]
        refine tk (i := 14) (o := sp14) (v := ?vt43) HP0 rfl (by kernel_rfl) (by kernel_rfl) (by kernel_rfl) (by rfl) ?ht43 ?rt43
        case ht43 => (intro w _; unfold sp14; go_simp <;> with_reducible rfl)
        try simp only [sp14, Act.put, List.setIfInBounds_toArray, List.set_cons_zero, List.set_cons_succ]
        refine wpAnyH_done (by kernel_rfl) ?_ _
        exact HN0 _ _ (NoPanic.normal ⟨vo1, _, vd1, _, _, _, _, _, _, _, _, _, _, _, _, rfl, M7⟩)
        have cb : wq2.cell? ⟨w3.heap.size, 0, none⟩ = some vr := (M2.box.cell 0).trans rfl
        unfold sp4
        go_simp
        clear cb
        refine hK.out _ _ trivial fun _ => ?_
        clear hK K
        try simp only [sp4, Act.put, List.setIfInBounds_toArray, List.set_cons_zero, List.set_cons_succ]
        refine wpAnyH_ready (rs := [3, 10]) (by kernel_rfl) (by simp) ?_
        refine (AllReadyH.cons (o := sp3) rfl (fun K hK => ?_) (AllReadyH.cons (o := sp10) rfl (fun K hK => ?_) AllReadyH.nil))
        unfold sp3
        refine N3.step_o M2 (u := q) (h0 := wq0.heap.size) (by simp only [List.mem_cons, true_or, or_true]) (by rfl) (.tmp 59) (.tmp 61) rfl rfl rfl hlo ?_
        intro vo1 wq3 M3
        refine hK.out _ _ trivial fun _ => ?_
        clear hK K
        try simp only [sp3, Act.put, List.setIfInBounds_toArray, List.set_cons_zero, List.set_cons_succ]
        refine wpAnyH_ready (rs := [7, 10]) (by kernel_rfl) (by simp) ?_
        refine (AllReadyH.cons (o := sp7) rfl (fun K hK => ?_) (AllReadyH.cons (o := sp10) rfl (fun K hK => ?_) AllReadyH.nil))
        unfold sp7
        refine N3.step_r M3 (u := r) (h0 := wq1.heap.size) (by simp only [List.mem_cons, true_or, or_true]) (by rfl) (.tmp 63) (.tmp 65) rfl rfl rfl hlr ?_
        intro vr1 wq4 M4
        refine hK.out _ _ trivial fun _ => ?_
        clear hK K
        try simp only [sp7, Act.put, List.setIfInBounds_toArray, List.set_cons_zero, List.set_cons_succ]
        refine wpAnyH_ready (rs := [10]) (by kernel_rfl) (by simp) ?_
        refine (AllReadyH.cons (o := sp10) rfl (fun K hK => ?_) AllReadyH.nil)
        unfold sp10
        go_simp
        have M5 := M4.alloc (k : Int) 3
        generalize (wq4.alloc (Obj.cells #[Value.int .i64 (k : Int)] 3)) = wq5 at M5 ⊢
        refine hK.out _ _ trivial fun _ => ?_
        clear hK K
        try simp only [sp10, Act.put, List.setIfInBounds_toArray, List.set_cons_zero, List.set_cons_succ]
        refine wpAnyH_ready (rs := [11]) (by kernel_rfl) (by simp) ?_
        refine (AllReadyH.cons (o := sp11) rfl (fun K hK => ?_) AllReadyH.nil)
        unfold sp11
        refine N3.step_d M5 (u := (k : Int)) (h0 := wq4.heap.size) (by simp only [List.mem_cons, true_or, or_true]) (by rfl) (.tmp 67) (.tmp 69) rfl rfl rfl hld ?_
        intro vd1 wq6 M6
        refine hK.out _ _ trivial fun _ => ?_
        clear hK K
        try simp only [sp11, Act.put, List.setIfInBounds_toArray, List.set_cons_zero, List.set_cons_succ]
        refine tk (i := 12) (o := sp12) (v := ?vt44) HP0 rfl (by kernel_rfl) (by kernel_rfl) (by kernel_rfl) (by rfl) ?ht44 ?rt44
        case ht44 => (intro w _; unfold sp12; go_simp <;> with_reducible rfl)
        try simp only [sp12, Act.put, List.setIfInBounds_toArray, List.set_cons_zero, List.set_cons_succ]
        refine wpAnyH_ready (rs := [13]) (by kernel_rfl) (by simp) ?_
        refine (AllReadyH.cons (o := sp13) rfl (fun K hK => ?_) AllReadyH.nil)
        have cb : wq6.cell? ⟨w3.heap.size, 0, none⟩ = some vr := (M6.box.cell 0).trans rfl
        have fb := M6.box.free 0
        obtain ⟨A9, c9, e9⟩ := own_slice M6.r
        rw [HR1.out] at e9
        subst e9
        unfold sp13
        go_simp
        have M7 := M6.store (.slice A9 (k + 1) c9)
        clear cb fb
        refine hK.out _ _ trivial fun _ => ?_
        clear hK K
        try simp only [sp13, Act.put, List.setIfInBounds_toArray, List.set_cons_zero, List.set_cons_succ]
        refine tk (i := 14) (o := sp14) (v := ?vt45) HP0 rfl (by kernel_rfl) (by kernel_rfl) (by kernel_rfl) (by rfl) ?ht45 ?rt45
        case ht45 => (intro w _; unfold sp14; go_simp <;> with_reducible rfl)
        try simp only [sp14, Act.put, List.setIfInBounds_toArray, List.set_cons_zero, List.set_cons_succ]
        refine wpAnyH_done (by kernel_rfl) ?_ _
        exact HN0 _ _ (NoPanic.normal ⟨vo1, _, vd1, _, _, _, _, _, _, _, _, _, _, _, _, rfl, M7⟩)
        unfold sp10
        go_simp
        have M4 := M3.alloc (k : Int) 3
        generalize (wq3.alloc (Obj.cells #[Value.int .i64 (k : Int)] 3)) = wq4 at M4 ⊢
        refine hK.out _ _ trivial fun _ => ?_
        clear hK K
        try simp only [sp10, Act.put, List.setIfInBounds_toArray, List.set_cons_zero, List.set_cons_succ]
        refine wpAnyH_ready (rs := [7]) (by kernel_rfl) (by simp) ?_
        refine (AllReadyH.cons (o := sp7) rfl (fun K hK => ?_) AllReadyH.nil)
        unfold sp7
        refine N3.step_r M4 (u := r) (h0 := wq1.heap.size) (by simp only [List.mem_cons, true_or, or_true]) (by rfl) (.tmp 63) (.tmp 65) rfl rfl rfl hlr ?_
        intro vr1 wq5 M5
        refine hK.out _ _ trivial fun _ => ?_
        clear hK K
        try simp only [sp7, Act.put, List.setIfInBounds_toArray, List.set_cons_zero, List.set_cons_succ]
        refine wpAnyH_ready (rs := [11]) (by kernel_rfl) (by simp) ?_
        refine (AllReadyH.cons (o := sp11) rfl (fun K hK => ?_) AllReadyH.nil)
        unfold sp11
        refine N3.step_d M5 (u := (k : Int)) (h0 := wq3.heap.size) (by simp only [List.mem_cons, true_or, or_true]) (by rfl) (.tmp 67) (.tmp 69) rfl rfl rfl hld ?_
        intro vd1 wq6 M6
        refine hK.out _ _ trivial fun _ => ?_
        clear hK K
        try simp only [sp11, Act.put, List.setIfInBounds_toArray, List.set_cons_zero, List.set_cons_succ]
        refine tk (i := 12) (o := sp12) (v := ?vt46) HP0 rfl (by kernel_rfl) (by kernel_rfl) (by kernel_rfl) (by rfl) ?ht46 ?rt46
        case ht46 => (intro w _; unfold sp12; go_simp <;> with_reducible rfl)
        try simp only [sp12, Act.put, List.setIfInBounds_toArray, List.set_cons_zero, List.set_cons_succ]
        refine wpAnyH_ready (rs := [13]) (by kernel_rfl) (by simp) ?_
        refine (AllReadyH.cons (o := sp13) rfl (fun K hK => ?_) AllReadyH.nil)
        have cb : wq6.cell? ⟨w3.heap.size, 0, none⟩ = some vr := (M6.box.cell 0).trans rfl
        have fb := M6.box.free 0
        obtain ⟨A9, c9, e9⟩ := own_slice M6.r
        rw [HR1.out] at e9
        subst e9
        unfold sp13
        go_simp
        have M7 := M6.store (.slice A9 (k + 1) c9)
        clear cb fb
        refine hK.out _ _ trivial fun _ => ?_
        clear hK K
        try simp only [sp13, Act.put, List.setIfInBounds_toArray, List.set_cons_zero, List.set_cons_succ]
        refine tk (i := 14) (o := sp14) (v := ?vt47) HP0 rfl (by kernel_rfl) (by kernel_rfl) (by kernel_rfl) (by rfl) ?ht47 ?rt47
        case ht47 => (intro w _; unfold sp14; go_simp <;> with_reducible rfl)
        try simp only [sp14, Act.put, List.setIfInBounds_toArray, List.set_cons_zero, List.set_cons_succ]
        refine wpAnyH_done (by kernel_rfl) ?_ _
        exact HN0 _ _ (NoPanic.normal ⟨vo1, _, vd1, _, _, _, _, _, _, _, _, _, _, _, _, rfl, M7⟩)
        unfold sp10
        go_simp
        have M3 := M2.alloc (k : Int) 3
        generalize (wq2.alloc (Obj.cells #[Value.int .i64 (k : Int)] 3)) = wq3 at M3 ⊢
        refine hK.out _ _ trivial fun _ => ?_
        clear hK K
        try simp only [sp10, Act.put, List.setIfInBounds_toArray, List.set_cons_zero, List.set_cons_succ]
        refine wpAnyH_ready (rs := [3]) (by kernel_rfl) (by simp) ?_
        refine (AllReadyH.cons (o := sp3) rfl (fun K hK => ?_) AllReadyH.nil)
        unfold sp3
        refine N3.step_o M3 (u := q) (h0 := wq0.heap.size) (by simp only [List.mem_cons, true_or, or_true]) (by rfl) (.tmp 59) (.tmp 61) rfl rfl rfl hlo ?_
        intro vo1 wq4 M4
        refine hK.out _ _ trivial fun _ => ?_
        clear hK K
        try simp only [sp3, Act.put, List.setIfInBounds_toArray, List.set_cons_zero, List.set_cons_succ]
        refine wpAnyH_ready (rs := [7]) (by kernel_rfl) (by simp) ?_
        refine (AllReadyH.cons (o := sp7) rfl (fun K hK => ?_) AllReadyH.nil)
        unfold sp7
        refine N3.step_r M4 (u := r) (h0 := wq1.heap.size) (by simp only [List.mem_cons, true_or, or_true]) (by rfl) (.tmp 63) (.tmp 65) rfl rfl rfl hlr ?_
        intro vr1 wq5 M5
        refine hK.out _ _ trivial fun _ => ?_
        clear hK K
        try simp only [sp7, Act.put, List.setIfInBounds_toArray, List.set_cons_zero, List.set_cons_succ]
        refine wpAnyH_ready (rs := [11]) (by kernel_rfl) (by simp) ?_
        refine (AllReadyH.cons (o := sp11) rfl (fun K hK => ?_) AllReadyH.nil)
        unfold sp11
        refine N3.step_d M5 (u := (k : Int)) (h0 := wq2.heap.size) (by simp only [List.mem_cons, true_or, or_true]) (by rfl) (.tmp 67) (.tmp 69) rfl rfl rfl hld ?_
        intro vd1 wq6 M6
        refine hK.out _ _ trivial fun _ => ?_
        clear hK K
        try simp only [sp11, Act.put, List.setIfInBounds_toArray, List.set_cons_zero, List.set_cons_succ]
        refine tk (i := 12) (o := sp12) (v := ?vt48) HP0 rfl (by kernel_rfl) (by kernel_rfl) (by kernel_rfl) (by rfl) ?ht48 ?rt48
        case ht48 => (intro w _; unfold sp12; go_simp <;> with_reducible rfl)
        try simp only [sp12, Act.put, List.setIfInBounds_toArray, List.set_cons_zero, List.set_cons_succ]
        refine wpAnyH_ready (rs := [13]) (by kernel_rfl) (by simp) ?_
        refine (AllReadyH.cons (o := sp13) rfl (fun K hK => ?_) AllReadyH.nil)
        have cb : wq6.cell? ⟨w3.heap.size, 0, none⟩ = some vr := (M6.box.cell 0).trans rfl
        have fb := M6.box.free 0
        obtain ⟨A9, c9, e9⟩ := own_slice M6.r
        rw [HR1.out] at e9
        subst e9
        unfold sp13
        go_simp
        have M7 := M6.store (.slice A9 (k + 1) c9)
        clear cb fb
        refine hK.out _ _ trivial fun _ => ?_
        clear hK K
        try simp only [sp13, Act.put, List.setIfInBounds_toArray, List.set_cons_zero, List.set_cons_succ]
        refine tk (i := 14) (o := sp14) (v := ?vt49) HP0 rfl (by kernel_rfl) (by kernel_rfl) (by kernel_rfl) (by rfl) ?ht49 ?rt49
        case ht49 => (intro w _; unfold sp14; go_simp <;> with_reducible rfl)
        try simp only [sp14, Act.put, List.setIfInBounds_toArray, List.set_cons_zero, List.set_cons_succ]
        refine wpAnyH_done (by kernel_rfl) ?_ _
        exact HN0 _ _ (NoPanic.normal ⟨vo1, _, vd1, _, _, _, _, _, _, _, _, _, _, _, _, rfl, M7⟩)
        unfold sp10
        go_simp
        have M3 := M2.alloc (k : Int) 3
        generalize (wq2.alloc (Obj.cells #[Value.int .i64 (k : Int)] 3)) = wq3 at M3 ⊢
        refine hK.out _ _ trivial fun _ => ?_
        clear hK K
        try simp only [sp10, Act.put, List.setIfInBounds_toArray, List.set_cons_zero, List.set_cons_succ]
        refine wpAnyH_ready (rs := [3, 4]) (by kernel_rfl) (by simp) ?_
        refine (AllReadyH.cons (o := sp3) rfl (fun K hK => ?_) (AllReadyH.cons (o := sp4) rfl (fun K hK => ?_) AllReadyH.nil))
        unfold sp3
        refine N3.step_o M3 (u := q) (h0 := wq0.heap.size) (by simp only [List.mem_cons, true_or, or_true]) (by rfl) (.tmp 59) (.tmp 61) rfl rfl rfl hlo ?_
        intro vo1 wq4 M4
        refine hK.out _ _ trivial fun _ => ?_
        clear hK K
        try simp only [sp3, Act.put, List.setIfInBounds_toArray, List.set_cons_zero, List.set_cons_succ]
        refine wpAnyH_ready (rs := [4]) (by kernel_rfl) (by simp) ?_
        refine (AllReadyH.cons (o := sp4) rfl (fun K hK => ?_) AllReadyH.nil)
        have cb : wq4.cell? ⟨w3.heap.size, 0, none⟩ = some vr := (M4.box.cell 0).trans rfl
        unfold sp4
        go_simp
        clear cb
        refine hK.out _ _ trivial fun _ => ?_
        clear hK K
        try simp only [sp4, Act.put, List.setIfInBounds_toArray, List.set_cons_zero, List.set_cons_succ]
        refine wpAnyH_ready (rs := [7]) (by kernel_rfl) (by simp) ?_
        refine (AllReadyH.cons (o := sp7) rfl (fun K hK => ?_) AllReadyH.nil)
        unfold sp7
        refine N3.step_r M4 (u := r) (h0 := wq1.heap.size) (by simp only [List.mem_cons, true_or, or_true]) (by rfl) (.tmp 63) (.tmp 65) rfl rfl rfl hlr ?_
        intro vr1 wq5 M5
        refine hK.out _ _ trivial fun _ => ?_
        clear hK K
        try simp only [sp7, Act.put, List.setIfInBounds_toArray, List.set_cons_zero, List.set_cons_succ]
        refine wpAnyH_ready (rs := [11]) (by kernel_rfl) (by simp) ?_
        refine (AllReadyH.cons (o := sp11) rfl (fun K hK => ?_) AllReadyH.nil)
        unfold sp11
        refine N3.step_d M5 (u := (k : Int)) (h0 := wq2.heap.size) (by simp only [List.mem_cons, true_or, or_true]) (by rfl) (.tmp 67) (.tmp 69) rfl rfl rfl hld ?_
        intro vd1 wq6 M6
        refine hK.out _ _ trivial fun _ => ?_
        clear hK K
        try simp only [sp11, Act.put, List.setIfInBounds_toArray, List.set_cons_zero, List.set_cons_succ]
        refine tk (i := 12) (o := sp12) (v := ?vt50) HP0 rfl (by kernel_rfl) (by kernel_rfl) (by kernel_rfl) (by rfl) ?ht50 ?rt50
        case ht50 => (intro w _; unfold sp12; go_simp <;> with_reducible rfl)
        try simp only [sp12, Act.put, List.setIfInBounds_toArray, List.set_cons_zero, List.set_cons_succ]
        refine wpAnyH_ready (rs := [13]) (by kernel_rfl) (by simp) ?_
        refine (AllReadyH.cons (o := sp13) rfl (fun K hK => ?_) AllReadyH.nil)
        have cb : wq6.cell? ⟨w3.heap.size, 0, none⟩ = some vr := (M6.box.cell 0).trans rfl
        have fb := M6.box.free 0
        obtain ⟨A9, c9, e9⟩ := own_slice M6.r
        rw [HR1.out] at e9
        subst e9
        unfold sp13
        go_simp
        have M7 := M6.store (.slice A9 (k + 1) c9)
        clear cb fb
        refine hK.out _ _ trivial fun _ => ?_
        clear hK K
        try simp only [sp13, Act.put, List.setIfInBounds_toArray, List.set_cons_zero, List.set_cons_succ]
        refine tk (i := 14) (o := sp14) (v := ?vt51) HP0 rfl (by kernel_rfl) (by kernel_rfl) (by kernel_rfl) (by rfl) ?ht51 ?rt51
        case ht51 => (intro w _; unfold sp14; go_simp <;> with_reducible rfl)
        try simp only [sp14, Act.put, List.setIfInBounds_toArray, List.set_cons_zero, List.set_cons_succ]
        refine wpAnyH_done (by kernel_rfl) ?_ _
        exact HN0 _ _ (NoPanic.normal ⟨vo1, _, vd1, _, _, _, _, _, _, _, _, _, _, _, _, rfl, M7⟩)
        have cb : wq3.cell? ⟨w3.heap.size, 0, none⟩ = some vr := (M3.box.cell 0).trans rfl
        unfold sp4
        go_simp
        clear cb
        refine hK.out _ _ trivial fun _ => ?_
        clear hK K
        try simp only [sp4, Act.put, List.setIfInBounds_toArray, List.set_cons_zero, List.set_cons_succ]
        refine wpAnyH_ready (rs := [3]) (by kernel_rfl) (by simp) ?_
        refine (AllReadyH.cons (o := sp3) rfl (fun K hK => ?_) AllReadyH.nil)
        unfold sp3
        refine N3.step_o M3 (u := q) (h0 := wq0.heap.size) (by simp only [List.mem_cons, true_or, or_true]) (by rfl) (.tmp 59) (.tmp 61) rfl rfl rfl hlo ?_
        intro vo1 wq4 M4
        refine hK.out _ _ trivial fun _ => ?_
        clear hK K
        try simp only [sp3, Act.put, List.setIfInBounds_toArray, List.set_cons_zero, List.set_cons_succ]
        refine wpAnyH_ready (rs := [7]) (by kernel_rfl) (by simp) ?_
        refine (AllReadyH.cons (o := sp7) rfl (fun K hK => ?_) AllReadyH.nil)
        unfold sp7
        refine N3.step_r M4 (u := r) (h0 := wq1.heap.size) (by simp only [List.mem_cons, true_or, or_true]) (by rfl) (.tmp 63) (.tmp 65) rfl rfl rfl hlr ?_
        intro vr1 wq5 M5
        refine hK.out _ _ trivial fun _ => ?_
        clear hK K
        try simp only [sp7, Act.put, List.setIfInBounds_toArray, List.set_cons_zero, List.set_cons_succ]
        refine wpAnyH_ready (rs := [11]) (by kernel_rfl) (by simp) ?_
        refine (AllReadyH.cons (o := sp11) rfl (fun K hK => ?_) AllReadyH.nil)
        unfold sp11
        refine N3.step_d M5 (u := (k : Int)) (h0 := wq2.heap.size) (by simp only [List.mem_cons, true_or, or_true]) (by rfl) (.tmp 67) (.tmp 69) rfl rfl rfl hld ?_
        intro vd1 wq6 M6
        refine hK.out _ _ trivial fun _ => ?_
        clear hK K
        try simp only [sp11, Act.put, List.setIfInBounds_toArray, List.set_cons_zero, List.set_cons_succ]
        refine tk (i := 12) (o := sp12) (v := ?vt52) HP0 rfl (by kernel_rfl) (by kernel_rfl) (by kernel_rfl) (by rfl) ?ht52 ?rt52
        case ht52 => (intro w _; unfold sp12; go_simp <;> with_reducible rfl)
        try simp only [sp12, Act.put, List.setIfInBounds_toArray, List.set_cons_zero, List.set_cons_succ]
        refine wpAnyH_ready (rs := [13]) (by kernel_rfl) (by simp) ?_
        refine (AllReadyH.cons (o := sp13) rfl (fun K hK => ?_) AllReadyH.nil)
        have cb : wq6.cell? ⟨w3.heap.size, 0, none⟩ = some vr := (M6.box.cell 0).trans rfl
        have fb := M6.box.free 0
        obtain ⟨A9, c9, e9⟩ := own_slice M6.r
        rw [HR1.out] at e9
        subst e9
        unfold sp13
        go_simp
        have M7 := M6.store (.slice A9 (k + 1) c9)
        clear cb fb
        refine hK.out _ _ trivial fun _ => ?_
        clear hK K
        try simp only [sp13, Act.put, List.setIfInBounds_toArray, List.set_cons_zero, List.set_cons_succ]
        refine tk (i := 14) (o := sp14) (v := ?vt53) HP0 rfl (by kernel_rfl) (by kernel_rfl) (by kernel_rfl) (by rfl) ?ht53 ?rt53
        case ht53 => (intro w _; unfold sp14; go_simp <;> with_reducible rfl)
        try simp only [sp14, Act.put, List.setIfInBounds_toArray, List.set_cons_zero, List.set_cons_succ]
        refine wpAnyH_done (by kernel_rfl) ?_ _
        exact HN0 _ _ (NoPanic.normal ⟨vo1, _, vd1, _, _, _, _, _, _, _, _, _, _, _, _, rfl, M7⟩)
        unfold sp10
        go_simp
        have M2 := M1.alloc (k : Int) 3
        generalize (wq1.alloc (Obj.cells #[Value.int .i64 (k : Int)] 3)) = wq2 at M2 ⊢
        refine hK.out _ _ trivial fun _ => ?_
        clear hK K
        try simp only [sp10, Act.put, List.setIfInBounds_toArray, List.set_cons_zero, List.set_cons_succ]
        refine wpAnyH_ready (rs := [3, 4, 6]) (by kernel_rfl) (by simp) ?_
        refine (AllReadyH.cons (o := sp3) rfl (fun K hK => ?_) (AllReadyH.cons (o := sp4) rfl (fun K hK => ?_) (AllReadyH.cons (o := sp6) rfl (fun K hK => ?_) AllReadyH.nil)))
        unfold sp3
        refine N3.step_o M2 (u := q) (h0 := wq0.heap.size) (by simp only [List.mem_cons, true_or, or_true]) (by rfl) (.tmp 59) (.tmp 61) rfl rfl rfl hlo ?_
        intro vo1 wq3 M3
        refine hK.out _ _ trivial fun _ => ?_
        clear hK K
        try simp only [sp3, Act.put, List.setIfInBounds_toArray, List.set_cons_zero, List.set_cons_succ]
        refine wpAnyH_ready (rs := [4, 6]) (by kernel_rfl) (by simp) ?_
        refine (AllReadyH.cons (o := sp4) rfl (fun K hK => ?_) (AllReadyH.cons (o := sp6) rfl (fun K hK => ?_) AllReadyH.nil))
        have cb : wq3.cell? ⟨w3.heap.size, 0, none⟩ = some vr := (M3.box.cell 0).trans rfl
        unfold sp4
        go_simp
        clear cb
        refine hK.out _ _ trivial fun _ => ?_
        clear hK K
        try simp only [sp4, Act.put, List.setIfInBounds_toArray, List.set_cons_zero, List.set_cons_succ]
        refine wpAnyH_ready (rs := [6]) (by kernel_rfl) (by simp) ?_
        refine (AllReadyH.cons (o := sp6) rfl (fun K hK => ?_) AllReadyH.nil)
        unfold sp6
        go_simp
        have M4 := M3.alloc r 2
        generalize (wq3.alloc (Obj.cells #[Value.int .i64 r] 2)) = wq4 at M4 ⊢
        refine hK.out _ _ trivial fun _ => ?_
        clear hK K
        try simp only [sp6, Act.put, List.setIfInBounds_toArray, List.set_cons_zero, List.set_cons_succ]
        refine wpAnyH_ready (rs := [7]) (by kernel_rfl) (by simp) ?_
        refine (AllReadyH.cons (o := sp7) rfl (fun K hK => ?_) AllReadyH.nil)
        unfold sp7
        refine N3.step_r M4 (u := r) (h0 := wq3.heap.size) (by simp only [List.mem_cons, true_or, or_true]) (by rfl) (.tmp 63) (.tmp 65) rfl rfl rfl hlr ?_
        intro vr1 wq5 M5
        refine hK.out _ _ trivial fun _ => ?_
        clear hK K
        try simp only [sp7, Act.put, List.setIfInBounds_toArray, List.set_cons_zero, List.set_cons_succ]
        refine wpAnyH_ready (rs := [11]) (by kernel_rfl) (by simp) ?_
        refine (AllReadyH.cons (o := sp11) rfl (fun K hK => ?_) AllReadyH.nil)
        unfold sp11
        refine N3.step_d M5 (u := (k : Int)) (h0 := wq1.heap.size) (by simp only [List.mem_cons, true_or, or_true]) (by rfl) (.tmp 67) (.tmp 69) rfl rfl rfl hld ?_
        intro vd1 wq6 M6
        refine hK.out _ _ trivial fun _ => ?_
        clear hK K
        try simp only [sp11, Act.put, List.setIfInBounds_toArray, List.set_cons_zero, List.set_cons_succ]
        refine tk (i := 12) (o := sp12) (v := ?vt54) HP0 rfl (by kernel_rfl) (by kernel_rfl) (by kernel_rfl) (by rfl) ?ht54 ?rt54
        case ht54 => (intro w _; unfold sp12; go_simp <;> with_reducible rfl)
        try simp only [sp12, Act.put, List.setIfInBounds_toArray, List.set_cons_zero, List.set_cons_succ]
        refine wpAnyH_ready (rs := [13]) (by kernel_rfl) (by simp) ?_
        refine (AllReadyH.cons (o := sp13) rfl (fun K hK => ?_) AllReadyH.nil)
        have cb : wq6.cell? ⟨w3.heap.size, 0, none⟩ = some vr := (M6.box.cell 0).trans rfl
        have fb := M6.box.free 0
        obtain ⟨A9, c9, e9⟩ := own_slice M6.r
        rw [HR1.out] at e9
        subst e9
        unfold sp13
        go_simp
        have M7 := M6.store (.slice A9 (k + 1) c9)
        clear cb fb
        refine hK.out _ _ trivial fun _ => ?_
        clear hK K
        try simp only [sp13, Act.put, List.setIfInBounds_toArray, List.set_cons_zero, List.set_cons_succ]
        refine tk (i := 14) (o := sp14) (v := ?vt55) HP0 rfl (by kernel_rfl) (by kernel_rfl) (by kernel_rfl) (by rfl) ?ht55 ?rt55
        case ht55 => (intro w _; unfold sp14; go_simp <;> with_reducible rfl)
        try simp only [sp14, Act.put, List.setIfInBounds_toArray, List.set_cons_zero, List.set_cons_succ]
        refine wpAnyH_done (by kernel_rfl) ?_ _
        exact HN0 _ _ (NoPanic.normal ⟨vo1, _, vd1, _, _, _, _, _, _, _, _, _, _, _, _, rfl, M7⟩)
        unfold sp6
        go_simp
        have M4 := M3.alloc r 2
        generalize (wq3.alloc (Obj.cells #[Value.int .i64 r] 2)) = wq4 at M4 ⊢
        refine hK.out _ _ trivial fun _ => ?_
        clear hK K
        try simp only [sp6, Act.put, List.setIfInBounds_toArray, List.set_cons_zero, List.set_cons_succ]
        refine wpAnyH_ready (rs := [4]) (by kernel_rfl) (by simp) ?_
        refine (AllReadyH.cons (o := sp4) rfl (fun K hK => ?_) AllReadyH.nil)
        have cb : wq4.cell? ⟨w3.heap.size, 0, none⟩ = some vr := (M4.box.cell 0).trans rfl
        unfold sp4
        go_simp
        clear cb
        refine hK.out _ _ trivial fun _ => ?_
        clear hK K
        try simp only [sp4, Act.put, List.setIfInBounds_toArray, List.set_cons_zero, List.set_cons_succ]
        refine wpAnyH_ready (rs := [7]) (by kernel_rfl) (by simp) ?_
        refine (AllReadyH.cons (o := sp7) rfl (fun K hK => ?_) AllReadyH.nil)
        unfold sp7
        refine N3.step_r M4 (u := r) (h0 := wq3.heap.size) (by simp only [List.mem_cons, true_or, or_true]) (by rfl) (.tmp 63) (.tmp 65) rfl rfl rfl hlr ?_
        intro vr1 wq5 M5
        refine hK.out _ _ trivial fun _ => ?_
        clear hK K
        try simp only [sp7, Act.put, List.setIfInBounds_toArray, List.set_cons_zero, List.set_cons_succ]
        refine wpAnyH_ready (rs := [11]) (by kernel_rfl) (by simp) ?_
        refine (AllReadyH.cons (o := sp11) rfl (fun K hK => ?_) AllReadyH.nil)
        unfold sp11
        refine N3.step_d M5 (u := (k : Int)) (h0 := wq1.heap.size) (by simp only [List.mem_cons, true_or, or_true]) (by rfl) (.tmp 67) (.tmp 69) rfl rfl rfl hld ?_
        intro vd1 wq6 M6
        refine hK.out _ _ trivial fun _ => ?_
        clear hK K
        try simp only [sp11, Act.put, List.setIfInBounds_toArray, List.set_cons_zero, List.set_cons_succ]
        refine tk (i := 12) (o := sp12) (v := ?vt56) HP0 rfl (by kernel_rfl) (by kernel_rfl) (by kernel_rfl) (by rfl) ?ht56 ?rt56
        case ht56 => (intro w _; unfold sp12; go_simp <;> with_reducible rfl)
        try simp only [sp12, Act.put, List.setIfInBounds_toArray, List.set_cons_zero, List.set_cons_succ]
        refine wpAnyH_ready (rs := [13]) (by kernel_rfl) (by simp) ?_
        refine (AllReadyH.cons (o := sp13) rfl (fun K hK => ?_) AllReadyH.nil)
        have cb : wq6.cell? ⟨w3.heap.size, 0, none⟩ = some vr := (M6.box.cell 0).trans rfl
        have fb := M6.box.free 0
        obtain ⟨A9, c9, e9⟩ := own_slice M6.r
        rw [HR1.out] at e9
        subst e9
        unfold sp13
        go_simp
        have M7 := M6.store (.slice A9 (k + 1) c9)
        clear cb fb
        refine hK.out _ _ trivial fun _ => ?_
        clear hK K
        try simp only [sp13, Act.put, List.setIfInBounds_toArray, List.set_cons_zero, List.set_cons_succ]
        refine tk (i := 14) (o := sp14) (v := ?vt57) HP0 rfl (by kernel_rfl) (by kernel_rfl) (by kernel_rfl) (by rfl) ?ht57 ?rt57
        case ht57 => (intro w _; unfold sp14; go_simp <;> with_reducible rfl)
        try simp only [sp14, Act.put, List.setIfInBounds_toArray, List.set_cons_zero, List.set_cons_succ]
        refine wpAnyH_done (by kernel_rfl) ?_ _
        exact HN0 _ _ (NoPanic.normal ⟨vo1, _, vd1, _, _, _, _, _, _, _, _, _, _, _, _, rfl, M7⟩)
        have cb : wq2.cell? ⟨w3.heap.size, 0, none⟩ = some vr := (M2.box.cell 0).trans rfl
        unfold sp4
        go_simp
        clear cb
        refine hK.out _ _ trivial fun _ => ?_
        clear hK K
        try simp only [sp4, Act.put, List.setIfInBounds_toArray, List.set_cons_zero, List.set_cons_succ]
        refine wpAnyH_ready (rs := [3, 6]) (by kernel_rfl) (by simp) ?_
        refine (AllReadyH.cons (o := sp3) rfl (fun K hK => ?_) (AllReadyH.cons (o := sp6) rfl (fun K hK => ?_) AllReadyH.nil))
        unfold sp3
        refine N3.step_o M2 (u := q) (h0 := wq0.heap.size) (by simp only [List.mem_cons, true_or, or_true]) (by rfl) (.tmp 59) (.tmp 61) rfl rfl rfl hlo ?_
        intro vo1 wq3 M3
        refine hK.out _ _ trivial fun _ => ?_
        clear hK K
        try simp only [sp3, Act.put, List.setIfInBounds_toArray, List.set_cons_zero, List.set_cons_succ]
        refine wpAnyH_ready (rs := [6]) (by kernel_rfl) (by simp) ?_
        refine (AllReadyH.cons (o := sp6) rfl (fun K hK => ?_) AllReadyH.nil)
        unfold sp6
        go_simp
        have M4 := M3.alloc r 2
        generalize (wq3.alloc (Obj.cells #[Value.int .i64 r] 2)) = wq4 at M4 ⊢
        refine hK.out _ _ trivial fun _ => ?_
        clear hK K
        try simp only [sp6, Act.put, List.setIfInBounds_toArray, List.set_cons_zero, List.set_cons_succ]
        refine wpAnyH_ready (rs := [7]) (by kernel_rfl) (by simp) ?_
        refine (AllReadyH.cons (o := sp7) rfl (fun K hK => ?_) AllReadyH.nil)
        unfold sp7
        refine N3.step_r M4 (u := r) (h0 := wq3.heap.size) (by simp only [List.mem_cons, true_or, or_true]) (by rfl) (.tmp 63) (.tmp 65) rfl rfl rfl hlr ?_
        intro vr1 wq5 M5
        refine hK.out _ _ trivial fun _ => ?_
        clear hK K
        try simp only [sp7, Act.put, List.setIfInBounds_toArray, List.set_cons_zero, List.set_cons_succ]
        refine wpAnyH_ready (rs := [11]) (by kernel_rfl) (by simp) ?_
        refine (AllReadyH.cons (o := sp11) rfl (fun K hK => ?_) AllReadyH.nil)
        unfold sp11
        refine N3.step_d M5 (u := (k : Int)) (h0 := wq1.heap.size) (by simp only [List.mem_cons, true_or, or_true]) (by rfl) (.tmp 67) (.tmp 69) rfl rfl rfl hld ?_
        intro vd1 wq6 M6
        refine hK.out _ _ trivial fun _ => ?_
        clear hK K
        try simp only [sp11, Act.put, List.setIfInBounds_toArray, List.set_cons_zero, List.set_cons_succ]
        refine tk (i := 12) (o := sp12) (v := ?vt58) HP0 rfl (by kernel_rfl) (by kernel_rfl) (by kernel_rfl) (by rfl) ?ht58 ?rt58
        case ht58 => (intro w _; unfold sp12; go_simp <;> with_reducible rfl)
        try simp only [sp12, Act.put, List.setIfInBounds_toArray, List.set_cons_zero, List.set_cons_succ]
        refine wpAnyH_ready (rs := [13]) (by kernel_rfl) (by simp) ?_
        refine (AllReadyH.cons (o := sp13) rfl (fun K hK => ?_) AllReadyH.nil)
        have cb : wq6.cell? ⟨w3.heap.size, 0, none⟩ = some vr := (M6.box.cell 0).trans rfl
        have fb := M6.box.free 0
        obtain ⟨A9, c9, e9⟩ := own_slice M6.r
        rw [HR1.out] at e9
        subst e9
        unfold sp13
        go_simp
        have M7 := M6.store (.slice A9 (k + 1) c9)
        clear cb fb
        refine hK.out _ _ trivial fun _ => ?_
        clear hK K
        try simp only [sp13, Act.put, List.setIfInBounds_toArray, List.set_cons_zero, List.set_cons_succ]
        refine tk (i := 14) (o := sp14) (v := ?vt59) HP0 rfl (by kernel_rfl) (by kernel_rfl) (by kernel_rfl) (by rfl) ?ht59 ?rt59
        case ht59 => (intro w _; unfold sp14; go_simp <;> with_reducible rfl)
        try simp only [sp14, Act.put, List.setIfInBounds_toArray, List.set_cons_zero, List.set_cons_succ]
        refine wpAnyH_done (by kernel_rfl) ?_ _
        exact HN0 _ _ (NoPanic.normal ⟨vo1, _, vd1, _, _, _, _, _, _, _, _, _, _, _, _, rfl, M7⟩)
        unfold sp6
        go_simp
        have M3 := M2.alloc r 2
        generalize (wq2.alloc (Obj.cells #[Value.int .i64 r] 2)) = wq3 at M3 ⊢
        refine hK.out _ _ trivial fun _ => ?_
        clear hK K
        try simp only [sp6, Act.put, List.setIfInBounds_toArray, List.set_cons_zero, List.set_cons_succ]
        refine wpAnyH_ready (rs := [3]) (by kernel_rfl) (by simp) ?_
        refine (AllReadyH.cons (o := sp3) rfl (fun K hK => ?_) AllReadyH.nil)
        unfold sp3
        refine N3.step_o M3 (u := q) (h0 := wq0.heap.size) (by simp only [List.mem_cons, true_or, or_true]) (by rfl) (.tmp 59) (.tmp 61) rfl rfl rfl hlo ?_
        intro vo1 wq4 M4
        refine hK.out _ _ trivial fun _ => ?_
        clear hK K
        try simp only [sp3, Act.put, List.setIfInBounds_toArray, List.set_cons_zero, List.set_cons_succ]
        refine wpAnyH_ready (rs := [7]) (by kernel_rfl) (by simp) ?_
        refine (AllReadyH.cons (o := sp7) rfl (fun K hK => ?_) AllReadyH.nil)
        unfold sp7
        refine N3.step_r M4 (u := r) (h0 := wq2.heap.size) (by simp only [List.mem_cons, true_or, or_true]) (by rfl) (.tmp 63) (.tmp 65) rfl rfl rfl hlr ?_
        intro vr1 wq5 M5
        refine hK.out _ _ trivial fun _ => ?_
        clear hK K
        try simp only [sp7, Act.put, List.setIfInBounds_toArray, List.set_cons_zero, List.set_cons_succ]
        refine wpAnyH_ready (rs := [11]) (by kernel_rfl) (by simp) ?_
        refine (AllReadyH.cons (o := sp11) rfl (fun K hK => ?_) AllReadyH.nil)
        unfold sp11
        refine N3.step_d M5 (u := (k : Int)) (h0 := wq1.heap.size) (by simp only [List.mem_cons, true_or, or_true]) (by rfl) (.tmp 67) (.tmp 69) rfl rfl rfl hld ?_
        intro vd1 wq6 M6
        refine hK.out _ _ trivial fun _ => ?_
        clear hK K
        try simp only [sp11, Act.put, List.setIfInBounds_toArray, List.set_cons_zero, List.set_cons_succ]
        refine tk (i := 12) (o := sp12) (v := ?vt60) HP0 rfl (by kernel_rfl) (by kernel_rfl) (by kernel_rfl) (by rfl) ?ht60 ?rt60
        case ht60 => (intro w _; unfold sp12; go_simp <;> with_reducible rfl)
        try simp only [sp12, Act.put, List.setIfInBounds_toArray, List.set_cons_zero, List.set_cons_succ]
        refine wpAnyH_ready (rs := [13]) (by kernel_rfl) (by simp) ?_
        refine (AllReadyH.cons (o := sp13) rfl (fun K hK => ?_) AllReadyH.nil)
        have cb : wq6.cell? ⟨w3.heap.size, 0, none⟩ = some vr := (M6.box.cell 0).trans rfl
        have fb := M6.box.free 0
        obtain ⟨A9, c9, e9⟩ := own_slice M6.r
        rw [HR1.out] at e9
        subst e9
        unfold sp13
        go_simp
        have M7 := M6.store (.slice A9 (k + 1) c9)
        clear cb fb
        refine hK.out _ _ trivial fun _ => ?_
        clear hK K
        try simp only [sp13, Act.put, List.setIfInBounds_toArray, List.set_cons_zero, List.set_cons_succ]
        refine tk (i := 14) (o := sp14) (v := ?vt61) HP0 rfl (by kernel_rfl) (by kernel_rfl) (by kernel_rfl) (by rfl) ?ht61 ?rt61
        case ht61 => (intro w _; unfold sp14; go_simp <;> with_reducible rfl)
        try simp only [sp14, Act.put, List.setIfInBounds_toArray, List.set_cons_zero, List.set_cons_succ]
        refine wpAnyH_done (by kernel_rfl) ?_ _
        exact HN0 _ _ (NoPanic.normal ⟨vo1, _, vd1, _, _, _, _, _, _, _, _, _, _, _, _, rfl, M7⟩)
        unfold sp6
        go_simp
        have M3 := M2.alloc r 2
        generalize (wq2.alloc (Obj.cells #[Value.int .i64 r] 2)) = wq3 at M3 ⊢
        refine hK.out _ _ trivial fun _ => ?_
        clear hK K
        try simp only [sp6, Act.put, List.setIfInBounds_toArray, List.set_cons_zero, List.set_cons_succ]
        refine wpAnyH_ready (rs := [3, 4]) (by kernel_rfl) (by simp) ?_
        refine (AllReadyH.cons (o := sp3) rfl (fun K hK => ?_) (AllReadyH.cons (o := sp4) rfl (fun K hK => ?_) AllReadyH.nil))
        unfold sp3
        refine N3.step_o M3 (u := q) (h0 := wq0.heap.size) (by simp only [List.mem_cons, true_or, or_true]) (by rfl) (.tmp 59) (.tmp 61) rfl rfl rfl hlo ?_
        intro vo1 wq4 M4
        refine hK.out _ _ trivial fun _ => ?_
        clear hK K
        try simp only [sp3, Act.put, List.setIfInBounds_toArray, List.set_cons_zero, List.set_cons_succ]
        refine wpAnyH_ready (rs := [4]) (by kernel_rfl) (by simp) ?_
        refine (AllReadyH.cons (o := sp4) rfl (fun K hK => ?_) AllReadyH.nil)
        have cb : wq4.cell? ⟨w3.heap.size, 0, none⟩ = some vr := (M4.box.cell 0).trans rfl
        unfold sp4
        go_simp
        clear cb
        refine hK.out _ _ trivial fun _ => ?_
        clear hK K
        try simp only [sp4, Act.put, List.setIfInBounds_toArray, List.set_cons_zero, List.set_cons_succ]
        refine wpAnyH_ready (rs := [7]) (by kernel_rfl) (by simp) ?_
        refine (AllReadyH.cons (o := sp7) rfl (fun K hK => ?_) AllReadyH.nil)
        unfold sp7
        refine N3.step_r M4 (u := r) (h0 := wq2.heap.size) (by simp only [List.mem_cons, true_or, or_true]) (by rfl) (.tmp 63) (.tmp 65) rfl rfl rfl hlr ?_
        intro vr1 wq5 M5
        refine hK.out _ _ trivial fun _ => ?_
        clear hK K
        try simp only [sp7, Act.put, List.setIfInBounds_toArray, List.set_cons_zero, List.set_cons_succ]
        refine wpAnyH_ready (rs := [11]) (by kernel_rfl) (by simp) ?_
        refine (AllReadyH.cons (o := sp11) rfl (fun K hK => ?_) AllReadyH.nil)
        unfold sp11
        refine N3.step_d M5 (u := (k : Int)) (h0 := wq1.heap.size) (by simp only [List.mem_cons, true_or, or_true]) (by rfl) (.tmp 67) (.tmp 69) rfl rfl rfl hld ?_
        intro vd1 wq6 M6
        refine hK.out _ _ trivial fun _ => ?_
        clear hK K
        try simp only [sp11, Act.put, List.setIfInBounds_toArray, List.set_cons_zero, List.set_cons_succ]
        refine tk (i := 12) (o := sp12) (v := ?vt62) HP0 rfl (by kernel_rfl) (by kernel_rfl) (by kernel_rfl) (by rfl) ?ht62 ?rt62
        case ht62 => (intro w _; unfold sp12; go_simp <;> with_reducible rfl)
        try simp only [sp12, Act.put, List.setIfInBounds_toArray, List.set_cons_zero, List.set_cons_succ]
        refine wpAnyH_ready (rs := [13]) (by kernel_rfl) (by simp) ?_
        refine (AllReadyH.cons (o := sp13) rfl (fun K hK => ?_) AllReadyH.nil)
        have cb : wq6.cell? ⟨w3.heap.size, 0, none⟩ = some vr := (M6.box.cell 0).trans rfl
        have fb := M6.box.free 0
        obtain ⟨A9, c9, e9⟩ := own_slice M6.r
        rw [HR1.out] at e9
        subst e9
        unfold sp13
        go_simp
        have M7 := M6.store (.slice A9 (k + 1) c9)
        clear cb fb
        refine hK.out _ _ trivial fun _ => ?_
        clear hK K
        try simp only [sp13, Act.put, List.setIfInBounds_toArray, List.set_cons_zero, List.set_cons_succ]
        refine tk (i := 14) (o := sp14) (v := ?vt63) HP0 rfl (by kernel_rfl) (by kernel_rfl) (by kernel_rfl) (by rfl) ?ht63 ?rt63
        case ht63 => (intro w _; unfold sp14; go_simp <;> with_reducible rfl)
        try simp only [sp14, Act.put, List.setIfInBounds_toArray, List.set_cons_zero, List.set_cons_succ]
        refine wpAnyH_done (by kernel_rfl) ?_ _
        exact HN0 _ _ (NoPanic.normal ⟨vo1, _, vd1, _, _, _, _, _, _, _, _, _, _, _, _, rfl, M7⟩)
        have cb : wq3.cell? ⟨w3.heap.size, 0, none⟩ = some vr := (M3.box.cell 0).trans rfl
        unfold sp4
        go_simp
        clear cb
        refine hK.out _ _ trivial fun _ => ?_
        clear hK K
        try simp only [sp4, Act.put, List.setIfInBounds_toArray, List.set_cons_zero, List.set_cons_succ]
        refine wpAnyH_ready (rs := [3]) (by kernel_rfl) (by simp) ?_
        refine (AllReadyH.cons (o := sp3) rfl (fun K hK => ?_) AllReadyH.nil)
        unfold sp3
        refine N3.step_o M3 (u := q) (h0 := wq0.heap.size) (by simp only [List.mem_cons, true_or, or_true]) (by rfl) (.tmp 59) (.tmp 61) rfl rfl rfl hlo ?_
        intro vo1 wq4 M4
        refine hK.out _ _ trivial fun _ => ?_
        clear hK K
        try simp only [sp3, Act.put, List.setIfInBounds_toArray, List.set_cons_zero, List.set_cons_succ]
        refine wpAnyH_ready (rs := [7]) (by kernel_rfl) (by simp) ?_
        refine (AllReadyH.cons (o := sp7) rfl (fun K hK => ?_) AllReadyH.nil)
        unfold sp7
        refine N3.step_r M4 (u := r) (h0 := wq2.heap.size) (by simp only [List.mem_cons, true_or, or_true]) (by rfl) (.tmp 63) (.tmp 65) rfl rfl rfl hlr ?_
        intro vr1 wq5 M5
        refine hK.out _ _ trivial fun _ => ?_
        clear hK K
        try simp only [sp7, Act.put, List.setIfInBounds_toArray, List.set_cons_zero, List.set_cons_succ]
        refine wpAnyH_ready (rs := [11]) (by kernel_rfl) (by simp) ?_
        refine (AllReadyH.cons (o := sp11) rfl (fun K hK => ?_) AllReadyH.nil)
        unfold sp11
        refine N3.step_d M5 (u := (k : Int)) (h0 := wq1.heap.size) (by simp only [List.mem_cons, true_or, or_true]) (by rfl) (.tmp 67) (.tmp 69) rfl rfl rfl hld ?_
        intro vd1 wq6 M6
        refine hK.out _ _ trivial fun _ => ?_
        clear hK K
        try simp only [sp11, Act.put, List.setIfInBounds_toArray, List.set_cons_zero, List.set_cons_succ]
        refine tk (i := 12) (o := sp12) (v := ?vt64) HP0 rfl (by kernel_rfl) (by kernel_rfl) (by kernel_rfl) (by rfl) ?ht64 ?rt64
        case ht64 => (intro w _; unfold sp12; go_simp <;> with_reducible rfl)
        try simp only [sp12, Act.put, List.setIfInBounds_toArray, List.set_cons_zero, List.set_cons_succ]
        refine wpAnyH_ready (rs := [13]) (by kernel_rfl) (by simp) ?_
        refine (AllReadyH.cons (o := sp13) rfl (fun K hK => ?_) AllReadyH.nil)
        have cb : wq6.cell? ⟨w3.heap.size, 0, none⟩ = some vr := (M6.box.cell 0).trans rfl
        have fb := M6.box.free 0
        obtain ⟨A9, c9, e9⟩ := own_slice M6.r
        rw [HR1.out] at e9
        subst e9
        unfold sp13
        go_simp
        have M7 := M6.store (.slice A9 (k + 1) c9)
        clear cb fb
        refine hK.out _ _ trivial fun _ => ?_
        clear hK K
        try simp only [sp13, Act.put, List.setIfInBounds_toArray, List.set_cons_zero, List.set_cons_succ]
        refine tk (i := 14) (o := sp14) (v := ?vt65) HP0 rfl (by kernel_rfl) (by kernel_rfl) (by kernel_rfl) (by rfl) ?ht65 ?rt65
        case ht65 => (intro w _; unfold sp14; go_simp <;> with_reducible rfl)
        try simp only [sp14, Act.put, List.setIfInBounds_toArray, List.set_cons_zero, List.set_cons_succ]
        refine wpAnyH_done (by kernel_rfl) ?_ _
        exact HN0 _ _ (NoPanic.normal ⟨vo1, _, vd1, _, _, _, _, _, _, _, _, _, _, _, _, rfl, M7⟩)
        have cb : wq0.cell? ⟨w3.heap.size, 0, none⟩ = some vr := (M0.box.cell 0).trans rfl
        unfold sp4
        go_simp
        clear cb
        refine hK.out _ _ trivial fun _ => ?_
        clear hK K
        try simp only [sp4, Act.put, List.setIfInBounds_toArray, List.set_cons_zero, List.set_cons_succ]
        refine wpAnyH_ready (rs := [2, 6, 10]) (by kernel_rfl) (by simp) ?_
        refine (AllReadyH.cons (o := sp2) rfl (fun K hK => ?_) (AllReadyH.cons (o := sp6) rfl (fun K hK => ?_) (AllReadyH.cons (o := sp10) rfl (fun K hK => ?_) AllReadyH.nil)))
        unfold sp2
        go_simp
        have M1 := M0.alloc q 2
        generalize (wq0.alloc (Obj.cells #[Value.int .i64 q] 2)) = wq1 at M1 ⊢
        refine hK.out _ _ trivial fun _ => ?_
        clear hK K
        try simp only [sp2, Act.put, List.setIfInBounds_toArray, List.set_cons_zero, List.set_cons_succ]
        refine wpAnyH_ready (rs := [3, 6, 10]) (by kernel_rfl) (by simp) ?_
        refine (AllReadyH.cons (o := sp3) rfl (fun K hK => ?_) (AllReadyH.cons (o := sp6) rfl (fun K hK => ?_) (AllReadyH.cons (o := sp10) rfl (fun K hK => ?_) AllReadyH.nil)))
        unfold sp3
        refine N3.step_o M1 (u := q) (h0 := wq0.heap.size) (by simp only [List.mem_cons, true_or, or_true]) (by rfl) (.tmp 59) (.tmp 61) rfl rfl rfl hlo ?_
        intro vo1 wq2 M2
        refine hK.out _ _ trivial fun _ => ?_
        clear hK K
        try simp only [sp3, Act.put, List.setIfInBounds_toArray, List.set_cons_zero, List.set_cons_succ]
        refine wpAnyH_ready (rs := [6, 10]) (by kernel_rfl) (by simp) ?_
        refine (AllReadyH.cons (o := sp6) rfl (fun K hK => ?_) (AllReadyH.cons (o := sp10) rfl (fun K hK => ?_) AllReadyH.nil))
        unfold sp6
        go_simp
        have M3 := M2.alloc r 2
        generalize (wq2.alloc (Obj.cells #[Value.int .i64 r] 2)) = wq3 at M3 ⊢
        refine hK.out _ _ trivial fun _ => ?_
        clear hK K
        try simp only [sp6, Act.put, List.setIfInBounds_toArray, List.set_cons_zero, List.set_cons_succ]
        refine wpAnyH_ready (rs := [7, 10]) (by kernel_rfl) (by simp) ?_
        refine (AllReadyH.cons (o := sp7) rfl (fun K hK => ?_) (AllReadyH.cons (o := sp10) rfl (fun K hK => ?_) AllReadyH.nil))
        unfold sp7
        refine N3.step_r M3 (u := r) (h0 := wq2.heap.size) (by simp only [List.mem_cons, true_or, or_true]) (by rfl) (.tmp 63) (.tmp 65) rfl rfl rfl hlr ?_
        intro vr1 wq4 M4
        refine hK.out _ _ trivial fun _ => ?_
        clear hK K
        try simp only [sp7, Act.put, List.setIfInBounds_toArray, List.set_cons_zero, List.set_cons_succ]
        refine wpAnyH_ready (rs := [10]) (by kernel_rfl) (by simp) ?_
        refine (AllReadyH.cons (o := sp10) rfl (fun K hK => ?_) AllReadyH.nil)
        unfold sp10
        go_simp
        have M5 := M4.alloc (k : Int) 3
        generalize (wq4.alloc (Obj.cells #[Value.int .i64 (k : Int)] 3)) = wq5 at M5 ⊢
        refine hK.out _ _ trivial fun _ => ?_
        clear hK K
        try simp only [sp10, Act.put, List.setIfInBounds_toArray, List.set_cons_zero, List.set_cons_succ]
        refine wpAnyH_ready (rs := [11]) (by kernel_rfl) (by simp) ?_
        refine (AllReadyH.cons (o := sp11) rfl (fun K hK => ?_) AllReadyH.nil)
        unfold sp11
        refine N3.step_d M5 (u := (k : Int)) (h0 := wq4.heap.size) (by simp only [List.mem_cons, true_or, or_true]) (by rfl) (.tmp 67) (.tmp 69) rfl rfl rfl hld ?_
        intro vd1 wq6 M6
        refine hK.out _ _ trivial fun _ => ?_
        clear hK K
        try simp only [sp11, Act.put, List.setIfInBounds_toArray, List.set_cons_zero, List.set_cons_succ]
        refine tk (i := 12) (o := sp12) (v := ?vt66) HP0 rfl (by kernel_rfl) (by kernel_rfl) (by kernel_rfl) (by rfl) ?ht66 ?rt66
        case ht66 => (intro w _; unfold sp12; go_simp <;> with_reducible rfl)
        try simp only [sp12, Act.put, List.setIfInBounds_toArray, List.set_cons_zero, List.set_cons_succ]
        refine wpAnyH_ready (rs := [13]) (by kernel_rfl) (by simp) ?_
        refine (AllReadyH.cons (o := sp13) rfl (fun K hK => ?_) AllReadyH.nil)
        have cb : wq6.cell? ⟨w3.heap.size, 0, none⟩ = some vr := (M6.box.cell 0).trans rfl
        have fb := M6.box.free 0
        obtain ⟨A9, c9, e9⟩ := own_slice M6.r
        rw [HR1.out] at e9
        subst e9
        unfold sp13
        go_simp
        have M7 := M6.store (.slice A9 (k + 1) c9)
        clear cb fb
        refine hK.out _ _ trivial fun _ => ?_
        clear hK K
        try simp only [sp13, Act.put, List.setIfInBounds_toArray, List.set_cons_zero, List.set_cons_succ]
        refine tk (i := 14) (o := sp14) (v := ?vt67) HP0 rfl (by kernel_rfl) (by kernel_rfl) (by kernel_rfl) (by rfl) ?ht67 ?rt67
        case ht67 => (intro w _; unfold sp14; go_simp <;> with_reducible rfl)
        try simp only [sp14, Act.put, List.setIfInBounds_toArray, List.set_cons_zero, List.set_cons_succ]
        refine wpAnyH_done (by kernel_rfl) ?_ _
        exact HN0 _ _ (NoPanic.normal ⟨vo1, _, vd1, _, _, _, _, _, _, _, _, _, _, _, _, rfl, M7⟩)
        unfold sp10
        go_simp
        have M4 := M3.alloc (k : Int) 3
        generalize (wq3.alloc (Obj.cells #[Value.int .i64 (k : Int)] 3)) = wq4 at M4 ⊢
        refine hK.out _ _ trivial fun _ => ?_
        clear hK K
        try simp only [sp10, Act.put, List.setIfInBounds_toArray, List.set_cons_zero, List.set_cons_succ]
        refine wpAnyH_ready (rs := [7]) (by kernel_rfl) (by simp) ?_
        refine (AllReadyH.cons (o := sp7) rfl (fun K hK => ?_) AllReadyH.nil)
        unfold sp7
        refine N3.step_r M4 (u := r) (h0 := wq2.heap.size) (by simp only [List.mem_cons, true_or, or_true]) (by rfl) (.tmp 63) (.tmp 65) rfl rfl rfl hlr ?_
        intro vr1 wq5 M5
        refine hK.out _ _ trivial fun _ => ?_
        clear hK K
        try simp only [sp7, Act.put, List.setIfInBounds_toArray, List.set_cons_zero, List.set_cons_succ]
        refine wpAnyH_ready (rs := [11]) (by kernel_rfl) (by simp) ?_
        refine (AllReadyH.cons (o := sp11) rfl (fun K hK => ?_) AllReadyH.nil)
        unfold sp11
        refine N3.step_d M5 (u := (k : Int)) (h0 := wq3.heap.size) (by simp only [List.mem_cons, true_or, or_true]) (by rfl) (.tmp 67) (.tmp 69) rfl rfl rfl hld ?_
        intro vd1 wq6 M6
        refine hK.out _ _ trivial fun _ => ?_
        clear hK K
        try simp only [sp11, Act.put, List.setIfInBounds_toArray, List.set_cons_zero, List.set_cons_succ]
        refine tk (i := 12) (o := sp12) (v := ?vt68) HP0 rfl (by kernel_rfl) (by kernel_rfl) (by kernel_rfl) (by rfl) ?ht68 ?rt68
        case ht68 => (intro w _; unfold sp12; go_simp <;> with_reducible rfl)
        try simp only [sp12, Act.put, List.setIfInBounds_toArray, List.set_cons_zero, List.set_cons_succ]
        refine wpAnyH_ready (rs := [13]) (by kernel_rfl) (by simp) ?_
        refine (AllReadyH.cons (o := sp13) rfl (fun K hK => ?_) AllReadyH.nil)
        have cb : wq6.cell? ⟨w3.heap.size, 0, none⟩ = some vr := (M6.box.cell 0).trans rfl
        have fb := M6.box.free 0
        obtain ⟨A9, c9, e9⟩ := own_slice M6.r
        rw [HR1.out] at e9
        subst e9
        unfold sp13
        go_simp
        have M7 := M6.store (.slice A9 (k + 1) c9)
        clear cb fb
        refine hK.out _ _ trivial fun _ => ?_
        clear hK K
        try simp only [sp13, Act.put, List.setIfInBounds_toArray, List.set_cons_zero, List.set_cons_succ]
        refine tk (i := 14) (o := sp14) (v := ?vt69) HP0 rfl (by kernel_rfl) (by kernel_rfl) (by kernel_rfl) (by rfl) ?ht69 ?rt69
        case ht69 => (intro w _; unfold sp14; go_simp <;> with_reducible rfl)
        try simp only [sp14, Act.put, List.setIfInBounds_toArray, List.set_cons_zero, List.set_cons_succ]
        refine wpAnyH_done (by kernel_rfl) ?_ _
        exact HN0 _ _ (NoPanic.normal ⟨vo1, _, vd1, _, _, _, _, _, _, _, _, _, _, _, _, rfl, M7⟩)
        unfold sp10
        go_simp
        have M3 := M2.alloc (k : Int) 3
        generalize (wq2.alloc (Obj.cells #[Value.int .i64 (k : Int)] 3)) = wq3 at M3 ⊢
        refine hK.out _ _ trivial fun _ => ?_
        clear hK K
        try simp only [sp10, Act.put, List.setIfInBounds_toArray, List.set_cons_zero, List.set_cons_succ]
        refine wpAnyH_ready (rs := [6]) (by kernel_rfl) (by simp) ?_
        refine (AllReadyH.cons (o := sp6) rfl (fun K hK => ?_) AllReadyH.nil)
        unfold sp6
        go_simp
        have M4 := M3.alloc r 2
        generalize (wq3.alloc (Obj.cells #[Value.int .i64 r] 2)) = wq4 at M4 ⊢
        refine hK.out _ _ trivial fun _ => ?_
        clear hK K
        try simp only [sp6, Act.put, List.setIfInBounds_toArray, List.set_cons_zero, List.set_cons_succ]
        refine wpAnyH_ready (rs := [7]) (by kernel_rfl) (by simp) ?_
        refine (AllReadyH.cons (o := sp7) rfl (fun K hK => ?_) AllReadyH.nil)
        unfold sp7
        refine N3.step_r M4 (u := r) (h0 := wq3.heap.size) (by simp only [List.mem_cons, true_or, or_true]) (by rfl) (.tmp 63) (.tmp 65) rfl rfl rfl hlr ?_
        intro vr1 wq5 M5
        refine hK.out _ _ trivial fun _ => ?_
        clear hK K
        try simp only [sp7, Act.put, List.setIfInBounds_toArray, List.set_cons_zero, List.set_cons_succ]
        refine wpAnyH_ready (rs := [11]) (by kernel_rfl) (by simp) ?_
        refine (AllReadyH.cons (o := sp11) rfl (fun K hK => ?_) AllReadyH.nil)
        unfold sp11
        refine N3.step_d M5 (u := (k : Int)) (h0 := wq2.heap.size) (by simp only [List.mem_cons, true_or, or_true]) (by rfl) (.tmp 67) (.tmp 69) rfl rfl rfl hld ?_
        intro vd1 wq6 M6
        refine hK.out _ _ trivial fun _ => ?_
        clear hK K
        try simp only [sp11, Act.put, List.setIfInBounds_toArray, List.set_cons_zero, List.set_cons_succ]
        refine tk (i := 12) (o := sp12) (v := ?vt70) HP0 rfl (by kernel_rfl) (by kernel_rfl) (by kernel_rfl) (by rfl) ?ht70 ?rt70
        case ht70 => (intro w _; unfold sp12; go_simp <;> with_reducible rfl)
        try simp only [sp12, Act.put, List.setIfInBounds_toArray, List.set_cons_zero, List.set_cons_succ]
        refine wpAnyH_ready (rs := [13]) (by kernel_rfl) (by simp) ?_
        refine (AllReadyH.cons (o := sp13) rfl (fun K hK => ?_) AllReadyH.nil)
        have cb : wq6.cell? ⟨w3.heap.size, 0, none⟩ = some vr := (M6.box.cell 0).trans rfl
        have fb := M6.box.free 0
        obtain ⟨A9, c9, e9⟩ := own_slice M6.r
        rw [HR1.out] at e9
        subst e9
        unfold sp13
        go_simp
        have M7 := M6.store (.slice A9 (k + 1) c9)
        clear cb fb
        refine hK.out _ _ trivial fun _ => ?_
        clear hK K
        try simp only [sp13, Act.put, List.setIfInBounds_toArray, List.set_cons_zero, List.set_cons_succ]
        refine tk (i := 14) (o := sp14) (v := ?vt71) HP0 rfl (by kernel_rfl) (by kernel_rfl) (by kernel_rfl) (by rfl) ?ht71 ?rt71
        case ht71 => (intro w _; unfold sp14; go_simp <;> with_reducible rfl)
        try simp only [sp14, Act.put, List.setIfInBounds_toArray, List.set_cons_zero, List.set_cons_succ]
        refine wpAnyH_done (by kernel_rfl) ?_ _
        exact HN0 _ _ (NoPanic.normal ⟨vo1, _, vd1, _, _, _, _, _, _, _, _, _, _, _, _, rfl, M7⟩)
        unfold sp6
        go_simp
        have M2 := M1.alloc r 2
        generalize (wq1.alloc (Obj.cells #[Value.int .i64 r] 2)) = wq2 at M2 ⊢
        refine hK.out _ _ trivial fun _ => ?_
        clear hK K
        try simp only [sp6, Act.put, List.setIfInBounds_toArray, List.set_cons_zero, List.set_cons_succ]
        refine wpAnyH_ready (rs := [3, 10]) (by kernel_rfl) (by simp) ?_
        refine (AllReadyH.cons (o := sp3) rfl (fun K hK => ?_) (AllReadyH.cons (o := sp10) rfl (fun K hK => ?_) AllReadyH.nil))
        unfold sp3
        refine N3.step_o M2 (u := q) (h0 := wq0.heap.size) (by simp only [List.mem_cons, true_or, or_true]) (by rfl) (.tmp 59) (.tmp 61) rfl rfl rfl hlo ?_
        intro vo1 wq3 M3
        refine hK.out _ _ trivial fun _ => ?_
        clear hK K
        try simp only [sp3, Act.put, List.setIfInBounds_toArray, List.set_cons_zero, List.set_cons_succ]
        refine wpAnyH_ready (rs := [7, 10]) (by kernel_rfl) (by simp) ?_
        refine (AllReadyH.cons (o := sp7) rfl (fun K hK => ?_) (AllReadyH.cons (o := sp10) rfl (fun K hK => ?_) AllReadyH.nil))
        unfold sp7
        refine N3.step_r M3 (u := r) (h0 := wq1.heap.size) (by simp only [List.mem_cons, true_or, or_true]) (by rfl) (.tmp 63) (.tmp 65) rfl rfl rfl hlr ?_
        intro vr1 wq4 M4
        refine hK.out _ _ trivial fun _ => ?_
        clear hK K
        try simp only [sp7, Act.put, List.setIfInBounds_toArray, List.set_cons_zero, List.set_cons_succ]
        refine wpAnyH_ready (rs := [10]) (by kernel_rfl) (by simp) ?_
        refine (AllReadyH.cons (o := sp10) rfl (fun K hK => ?_) AllReadyH.nil)
        unfold sp10
        go_simp
        have M5 := M4.alloc (k : Int) 3
        generalize (wq4.alloc (Obj.cells #[Value.int .i64 (k : Int)] 3)) = wq5 at M5 ⊢
        refine hK.out _ _ trivial fun _ => ?_
        clear hK K
        try simp only [sp10, Act.put, List.setIfInBounds_toArray, List.set_cons_zero, List.set_cons_succ]
        refine wpAnyH_ready (rs := [11]) (by kernel_rfl) (by simp) ?_
        refine (AllReadyH.cons (o := sp11) rfl (fun K hK => ?_) AllReadyH.nil)
        unfold sp11
        refine N3.step_d M5 (u := (k : Int)) (h0 := wq4.heap.size) (by simp only [List.mem_cons, true_or, or_true]) (by rfl) (.tmp 67) (.tmp 69) rfl rfl rfl hld ?_
        intro vd1 wq6 M6
        refine hK.out _ _ trivial fun _ => ?_
        clear hK K
        try simp only [sp11, Act.put, List.setIfInBounds_toArray, List.set_cons_zero, List.set_cons_succ]
        refine tk (i := 12) (o := sp12) (v := ?vt72) HP0 rfl (by kernel_rfl) (by kernel_rfl) (by kernel_rfl) (by rfl) ?ht72 ?rt72
        case ht72 => (intro w _; unfold sp12; go_simp <;> with_reducible rfl)
        try simp only [sp12, Act.put, List.setIfInBounds_toArray, List.set_cons_zero, List.set_cons_succ]
        refine wpAnyH_ready (rs := [13]) (by kernel_rfl) (by simp) ?_
        refine (AllReadyH.cons (o := sp13) rfl (fun K hK => ?_) AllReadyH.nil)
        have cb : wq6.cell? ⟨w3.heap.size, 0, none⟩ = some vr := (M6.box.cell 0).trans rfl
        have fb := M6.box.free 0
        obtain ⟨A9, c9, e9⟩ := own_slice M6.r
        rw [HR1.out] at e9
        subst e9
        unfold sp13
        go_simp
        have M7 := M6.store (.slice A9 (k + 1) c9)
        clear cb fb
        refine hK.out _ _ trivial fun _ => ?_
        clear hK K
        try simp only [sp13, Act.put, List.setIfInBounds_toArray, List.set_cons_zero, List.set_cons_succ]
        refine tk (i := 14) (o := sp14) (v := ?vt73) HP0 rfl (by kernel_rfl) (by kernel_rfl) (by kernel_rfl) (by rfl) ?ht73 ?rt73
        case ht73 => (intro w _; unfold sp14; go_simp <;> with_reducible rfl)
        try simp only [sp14, Act.put, List.setIfInBounds_toArray, List.set_cons_zero, List.set_cons_succ]
        refine wpAnyH_done (by kernel_rfl) ?_ _
        exact HN0 _ _ (NoPanic.normal ⟨vo1, _, vd1, _, _, _, _, _, _, _, _, _, _, _, _, rfl, M7⟩)
        unfold sp10
        go_simp
        have M4 := M3.alloc (k : Int) 3
        generalize (wq3.alloc (Obj.cells #[Value.int .i64 (k : Int)] 3)) = wq4 at M4 ⊢
        refine hK.out _ _ trivial fun _ => ?_
        clear hK K
        try simp only [sp10, Act.put, List.setIfInBounds_toArray, List.set_cons_zero, List.set_cons_succ]
        refine wpAnyH_ready (rs := [7]) (by kernel_rfl) (by simp) ?_
        refine (AllReadyH.cons (o := sp7) rfl (fun K hK => ?_) AllReadyH.nil)
        unfold sp7
        refine N3.step_r M4 (u := r) (h0 := wq1.heap.size) (by simp only [List.mem_cons, true_or, or_true]) (by rfl) (.tmp 63) (.tmp 65) rfl rfl rfl hlr ?_
        intro vr1 wq5 M5
        refine hK.out _ _ trivial fun _ => ?_
        clear hK K
        try simp only [sp7, Act.put, List.setIfInBounds_toArray, List.set_cons_zero, List.set_cons_succ]
        refine wpAnyH_ready (rs := [11]) (by kernel_rfl) (by simp) ?_
        refine (AllReadyH.cons (o := sp11) rfl (fun K hK => ?_) AllReadyH.nil)
        unfold sp11
        refine N3.step_d M5 (u := (k : Int)) (h0 := wq3.heap.size) (by simp only [List.mem_cons, true_or, or_true]) (by rfl) (.tmp 67) (.tmp 69) rfl rfl rfl hld ?_
        intro vd1 wq6 M6
        refine hK.out _ _ trivial fun _ => ?_
        clear hK K
        try simp only [sp11, Act.put, List.setIfInBounds_toArray, List.set_cons_zero, List.set_cons_succ]
        refine tk (i := 12) (o := sp12) (v := ?vt74) HP0 rfl (by kernel_rfl) (by kernel_rfl) (by kernel_rfl) (by rfl) ?ht74 ?rt74
        case ht74 => (intro w _; unfold sp12; go_simp <;> with_reducible rfl)
        try simp only [sp12, Act.put, List.setIfInBounds_toArray, List.set_cons_zero, List.set_cons_succ]
        refine wpAnyH_ready (rs := [13]) (by kernel_rfl) (by simp) ?_
        refine (AllReadyH.cons (o := sp13) rfl (fun K hK => ?_) AllReadyH.nil)
        have cb : wq6.cell? ⟨w3.heap.size, 0, none⟩ = some vr := (M6.box.cell 0).trans rfl
        have fb := M6.box.free 0
        obtain ⟨A9, c9, e9⟩ := own_slice M6.r
        rw [HR1.out] at e9
        subst e9
        unfold sp13
        go_simp
        have M7 := M6.store (.slice A9 (k + 1) c9)
        clear cb fb
        refine hK.out _ _ trivial fun _ => ?_
        clear hK K
        try simp only [sp13, Act.put, List.setIfInBounds_toArray, List.set_cons_zero, List.set_cons_succ]
        refine tk (i := 14) (o := sp14) (v := ?vt75) HP0 rfl (by kernel_rfl) (by kernel_rfl) (by kernel_rfl) (by rfl) ?ht75 ?rt75
        case ht75 => (intro w _; unfold sp14; go_simp <;> with_reducible rfl)
        try simp only [sp14, Act.put, List.setIfInBounds_toArray, List.set_cons_zero, List.set_cons_succ]
        refine wpAnyH_done (by kernel_rfl) ?_ _
        exact HN0 _ _ (NoPanic.normal ⟨vo1, _, vd1, _, _, _, _, _, _, _, _, _, _, _, _, rfl, M7⟩)
        unfold sp10
        go_simp
        have M3 := M2.alloc (k : Int) 3
        generalize (wq2.alloc (Obj.cells #[Value.int .i64 (k : Int)] 3)) = wq3 at M3 ⊢
        refine hK.out _ _ trivial fun _ => ?_
        clear hK K
        try simp only [sp10, Act.put, List.setIfInBounds_toArray, List.set_cons_zero, List.set_cons_succ]
        refine wpAnyH_ready (rs := [3]) (by kernel_rfl) (by simp) ?_
        refine (AllReadyH.cons (o := sp3) rfl (fun K hK => ?_) AllReadyH.nil)
        unfold sp3
        refine N3.step_o M3 (u := q) (h0 := wq0.heap.size) (by simp only [List.mem_cons, true_or, or_true]) (by rfl) (.tmp 59) (.tmp 61) rfl rfl rfl hlo ?_
        intro vo1 wq4 M4
        refine hK.out _ _ trivial fun _ => ?_
        clear hK K
        try simp only [sp3, Act.put, List.setIfInBounds_toArray, List.set_cons_zero, List.set_cons_succ]
        refine wpAnyH_ready (rs := [7]) (by kernel_rfl) (by simp) ?_
        refine (AllReadyH.cons (o := sp7) rfl (fun K hK => ?_) AllReadyH.nil)
        unfold sp7
        refine N3.step_r M4 (u := r) (h0 := wq1.heap.size) (by simp only [List.mem_cons, true_or, or_true]) (by rfl) (.tmp 63) (.tmp 65) rfl rfl rfl hlr ?_
        intro vr1 wq5 M5
        refine hK.out _ _ trivial fun _ => ?_
        clear hK K
        try simp only [sp7, Act.put, List.setIfInBounds_toArray, List.set_cons_zero, List.set_cons_succ]
        refine wpAnyH_ready (rs := [11]) (by kernel_rfl) (by simp) ?_
        refine (AllReadyH.cons (o := sp11) rfl (fun K hK => ?_) AllReadyH.nil)
        unfold sp11
        refine N3.step_d M5 (u := (k : Int)) (h0 := wq2.heap.size) (by simp only [List.mem_cons, true_or, or_true]) (by rfl) (.tmp 67) (.tmp 69) rfl rfl rfl hld ?_
        intro vd1 wq6 M6
        refine hK.out _ _ trivial fun _ => ?_
        clear hK K
        try simp only [sp11, Act.put, List.setIfInBounds_toArray, List.set_cons_zero, List.set_cons_succ]
        refine tk (i := 12) (o := sp12) (v := ?vt76) HP0 rfl (by kernel_rfl) (by kernel_rfl) (by kernel_rfl) (by rfl) ?ht76 ?rt76
        case ht76 => (intro w _; unfold sp12; go_simp <;> with_reducible rfl)
        try simp only [sp12, Act.put, List.setIfInBounds_toArray, List.set_cons_zero, List.set_cons_succ]
        refine wpAnyH_ready (rs := [13]) (by kernel_rfl) (by simp) ?_
        refine (AllReadyH.cons (o := sp13) rfl (fun K hK => ?_) AllReadyH.nil)
        have cb : wq6.cell? ⟨w3.heap.size, 0, none⟩ = some vr := (M6.box.cell 0).trans rfl
        have fb := M6.box.free 0
        obtain ⟨A9, c9, e9⟩ := own_slice M6.r
        rw [HR1.out] at e9
        subst e9
        unfold sp13
        go_simp
        have M7 := M6.store (.slice A9 (k + 1) c9)
        clear cb fb
        refine hK.out _ _ trivial fun _ => ?_
        clear hK K
        try simp only [sp13, Act.put, List.setIfInBounds_toArray, List.set_cons_zero, List.set_cons_succ]
        refine tk (i := 14) (o := sp14) (v := ?vt77) HP0 rfl (by kernel_rfl) (by kernel_rfl) (by kernel_rfl) (by rfl) ?ht77 ?rt77
        case ht77 => (intro w _; unfold sp14; go_simp <;> with_reducible rfl)
        try simp only [sp14, Act.put, List.setIfInBounds_toArray, List.set_cons_zero, List.set_cons_succ]
        refine wpAnyH_done (by kernel_rfl) ?_ _
        exact HN0 _ _ (NoPanic.normal ⟨vo1, _, vd1, _, _, _, _, _, _, _, _, _, _, _, _, rfl, M7⟩)
        unfold sp10
        go_simp
        have M2 := M1.alloc (k : Int) 3
        generalize (wq1.alloc (Obj.cells #[Value.int .i64 (k : Int)] 3)) = wq2 at M2 ⊢
        refine hK.out _ _ trivial fun _ => ?_
        clear hK K
        try simp only [sp10, Act.put, List.setIfInBounds_toArray, List.set_cons_zero, List.set_cons_succ]
        refine wpAnyH_ready (rs := [3, 6]) (by kernel_rfl) (by simp) ?_
        refine (AllReadyH.cons (o := sp3) rfl (fun K hK => ?_) (AllReadyH.cons (o := sp6) rfl (fun K hK => ?_) AllReadyH.nil))
        unfold sp3
        refine N3.step_o M2 (u := q) (h0 := wq0.heap.size) (by simp only [List.mem_cons, true_or, or_true]) (by rfl) (.tmp 59) (.tmp 61) rfl rfl rfl hlo ?_
        intro vo1 wq3 M3
        refine hK.out _ _ trivial fun _ => ?_
        clear hK K
        try simp only [sp3, Act.put, List.setIfInBounds_toArray, List.set_cons_zero, List.set_cons_succ]
        refine wpAnyH_ready (rs := [6]) (by kernel_rfl) (by simp) ?_
        refine (AllReadyH.cons (o := sp6) rfl (fun K hK => ?_) AllReadyH.nil)
        unfold sp6
        go_simp
        have M4 := M3.alloc r 2
        generalize (wq3.alloc (Obj.cells #[Value.int .i64 r] 2)) = wq4 at M4 ⊢
        refine hK.out _ _ trivial fun _ => ?_
        clear hK K
        try simp only [sp6, Act.put, List.setIfInBounds_toArray, List.set_cons_zero, List.set_cons_succ]
        refine wpAnyH_ready (rs := [7]) (by kernel_rfl) (by simp) ?_
        refine (AllReadyH.cons (o := sp7) rfl (fun K hK => ?_) AllReadyH.nil)
        unfold sp7
        refine N3.step_r M4 (u := r) (h0 := wq3.heap.size) (by simp only [List.mem_cons, true_or, or_true]) (by rfl) (.tmp 63) (.tmp 65) rfl rfl rfl hlr ?_
        intro vr1 wq5 M5
        refine hK.out _ _ trivial fun _ => ?_
        clear hK K
        try simp only [sp7, Act.put, List.setIfInBounds_toArray, List.set_cons_zero, List.set_cons_succ]
        refine wpAnyH_ready (rs := [11]) (by kernel_rfl) (by simp) ?_
        refine (AllReadyH.cons (o := sp11) rfl (fun K hK => ?_) AllReadyH.nil)
        unfold sp11
        refine N3.step_d M5 (u := (k : Int)) (h0 := wq1.heap.size) (by simp only [List.mem_cons, true_or, or_true]) (by rfl) (.tmp 67) (.tmp 69) rfl rfl rfl hld ?_
        intro vd1 wq6 M6
        refine hK.out _ _ trivial fun _ => ?_
        clear hK K
        try simp only [sp11, Act.put, List.setIfInBounds_toArray, List.set_cons_zero, List.set_cons_succ]
        refine tk (i := 12) (o := sp12) (v := ?vt78) HP0 rfl (by kernel_rfl) (by kernel_rfl) (by kernel_rfl) (by rfl) ?ht78 ?rt78
        case ht78 => (intro w _; unfold sp12; go_simp <;> with_reducible rfl)
        try simp only [sp12, Act.put, List.setIfInBounds_toArray, List.set_cons_zero, List.set_cons_succ]
        refine wpAnyH_ready (rs := [13]) (by kernel_rfl) (by simp) ?_
        refine (AllReadyH.cons (o := sp13) rfl (fun K hK => ?_) AllReadyH.nil)
        have cb : wq6.cell? ⟨w3.heap.size, 0, none⟩ = some vr := (M6.box.cell 0).trans rfl
        have fb := M6.box.free 0
        obtain ⟨A9, c9, e9⟩ := own_slice M6.r
        rw [HR1.out] at e9
        subst e9
        unfold sp13
        go_simp
        have M7 := M6.store (.slice A9 (k + 1) c9)
        clear cb fb
        refine hK.out _ _ trivial fun _ => ?_
        clear hK K
        try simp only [sp13, Act.put, List.setIfInBounds_toArray, List.set_cons_zero, List.set_cons_succ]
        refine tk (i := 14) (o := sp14) (v := ?vt79) HP0 rfl (by kernel_rfl) (by kernel_rfl) (by kernel_rfl) (by rfl) ?ht79 ?rt79
        case ht79 => (intro w _; unfold sp14; go_simp <;> with_reducible rfl)
        try simp only [sp14, Act.put, List.setIfInBounds_toArray, List.set_cons_zero, List.set_cons_succ]
        refine wpAnyH_done (by kernel_rfl) ?_ _
        exact HN0 _ _ (NoPanic.normal ⟨vo1, _, vd1, _, _, _, _, _, _, _, _, _, _, _, _, rfl, M7⟩)
        unfold sp6
        go_simp
        have M3 := M2.alloc r 2
        generalize (wq2.alloc (Obj.cells #[Value.int .i64 r] 2)) = wq3 at M3 ⊢
        refine hK.out _ _ trivial fun _ => ?_
        clear hK K
        try simp only [sp6, Act.put, List.setIfInBounds_toArray, List.set_cons_zero, List.set_cons_succ]
        refine wpAnyH_ready (rs := [3]) (by kernel_rfl) (by simp) ?_
        refine (AllReadyH.cons (o := sp3) rfl (fun K hK => ?_) AllReadyH.nil)
        unfold sp3
        refine N3.step_o M3 (u := q) (h0 := wq0.heap.size) (by simp only [List.mem_cons, true_or, or_true]) (by rfl) (.tmp 59) (.tmp 61) rfl rfl rfl hlo ?_
        intro vo1 wq4 M4
        refine hK.out _ _ trivial fun _ => ?_
        clear hK K
        try simp only [sp3, Act.put, List.setIfInBounds_toArray, List.set_cons_zero, List.set_cons_succ]
        refine wpAnyH_ready (rs := [7]) (by kernel_rfl) (by simp) ?_
        refine (AllReadyH.cons (o := sp7) rfl (fun K hK => ?_) AllReadyH.nil)
        unfold sp7
        refine N3.step_r M4 (u := r) (h0 := wq2.heap.size) (by simp only [List.mem_cons, true_or, or_true]) (by rfl) (.tmp 63) (.tmp 65) rfl rfl rfl hlr ?_
        intro vr1 wq5 M5
        refine hK.out _ _ trivial fun _ => ?_
        clear hK K
        try simp only [sp7, Act.put, List.setIfInBounds_toArray, List.set_cons_zero, List.set_cons_succ]
        refine wpAnyH_ready (rs := [11]) (by kernel_rfl) (by simp) ?_
        refine (AllReadyH.cons (o := sp11) rfl (fun K hK => ?_) AllReadyH.nil)
        unfold sp11
        refine N3.step_d M5 (u := (k : Int)) (h0 := wq1.heap.size) (by simp only [List.mem_cons, true_or, or_true]) (by rfl) (.tmp 67) (.tmp 69) rfl rfl rfl hld ?_
        intro vd1 wq6 M6
        refine hK.out _ _ trivial fun _ => ?_
        clear hK K
        try simp only [sp11, Act.put, List.setIfInBounds_toArray, List.set_cons_zero, List.set_cons_succ]
        refine tk (i := 12) (o := sp12) (v := ?vt80) HP0 rfl (by kernel_rfl) (by kernel_rfl) (by kernel_rfl) (by rfl) ?ht80 ?rt80
        case ht80 => (intro w _; unfold sp12; go_simp <;> with_reducible rfl)
        try simp only [sp12, Act.put, List.setIfInBounds_toArray, List.set_cons_zero, List.set_cons_succ]
        refine wpAnyH_ready (rs := [13]) (by kernel_rfl) (by simp) ?_
        refine (AllReadyH.cons (o := sp13) rfl (fun K hK => ?_) AllReadyH.nil)
        have cb : wq6.cell? ⟨w3.heap.size, 0, none⟩ = some vr := (M6.box.cell 0).trans rfl
        have fb := M6.box.free 0
        obtain ⟨A9, c9, e9⟩ := own_slice M6.r
        rw [HR1.out] at e9
        subst e9
        unfold sp13
        go_simp
        have M7 := M6.store (.slice A9 (k + 1) c9)
        clear cb fb
        refine hK.out _ _ trivial fun _ => ?_
        clear hK K
        try simp only [sp13, Act.put, List.setIfInBounds_toArray, List.set_cons_zero, List.set_cons_succ]
        refine tk (i := 14) (o := sp14) (v := ?vt81) HP0 rfl (by kernel_rfl) (by kernel_rfl) (by kernel_rfl) (by rfl) ?ht81 ?rt81
        case ht81 => (intro w _; unfold sp14; go_simp <;> with_reducible rfl)
        try simp only [sp14, Act.put, List.setIfInBounds_toArray, List.set_cons_zero, List.set_cons_succ]
        refine wpAnyH_done (by kernel_rfl) ?_ _
        exact HN0 _ _ (NoPanic.normal ⟨vo1, _, vd1, _, _, _, _, _, _, _, _, _, _, _, _, rfl, M7⟩)
        unfold sp6
        go_simp
        have M1 := M0.alloc r 2
        generalize (wq0.alloc (Obj.cells #[Value.int .i64 r] 2)) = wq1 at M1 ⊢
        refine hK.out _ _ trivial fun _ => ?_
        clear hK K
        try simp only [sp6, Act.put, List.setIfInBounds_toArray, List.set_cons_zero, List.set_cons_succ]
        refine wpAnyH_ready (rs := [2, 10]) (by kernel_rfl) (by simp) ?_
        refine (AllReadyH.cons (o := sp2) rfl (fun K hK => ?_) (AllReadyH.cons (o := sp10) rfl (fun K hK => ?_) AllReadyH.nil))
        unfold sp2
        go_simp
        have M2 := M1.alloc q 2
        generalize (wq1.alloc (Obj.cells #[Value.int .i64 q] 2)) = wq2 at M2 ⊢
        refine hK.out _ _ trivial fun _ => ?_
        clear hK K
        try simp only [sp2, Act.put, List.setIfInBounds_toArray, List.set_cons_zero, List.set_cons_succ]
        refine wpAnyH_ready (rs := [3, 10]) (by kernel_rfl) (by simp) ?_
        refine (AllReadyH.cons (o := sp3) rfl (fun K hK => ?_) (AllReadyH.cons (o := sp10) rfl (fun K hK => ?_) AllReadyH.nil))
        unfold sp3
        refine N3.step_o M2 (u := q) (h0 := wq1.heap.size) (by simp only [List.mem_cons, true_or, or_true]) (by rfl) (.tmp 59) (.tmp 61) rfl rfl rfl hlo ?_
        intro vo1 wq3 M3
        refine hK.out _ _ trivial fun _ => ?_
        clear hK K
        try simp only [sp3, Act.put, List.setIfInBounds_toArray, List.set_cons_zero, List.set_cons_succ]
        refine wpAnyH_ready (rs := [7, 10]) (by kernel_rfl) (by simp) ?_
        refine (AllReadyH.cons (o := sp7) rfl (fun K hK => ?_) (AllReadyH.cons (o := sp10) rfl (fun K hK => ?_) AllReadyH.nil))
        unfold sp7
        refine N3.step_r M3 (u := r) (h0 := wq0.heap.size) (by simp only [List.mem_cons, true_or, or_true]) (by rfl) (.tmp 63) (.tmp 65) rfl rfl rfl hlr ?_
        intro vr1 wq4 M4
        refine hK.out _ _ trivial fun _ => ?_
        clear hK K
        try simp only [sp7, Act.put, List.setIfInBounds_toArray, List.set_cons_zero, List.set_cons_succ]
        refine wpAnyH_ready (rs := [10]) (by kernel_rfl) (by simp) ?_
        refine (AllReadyH.cons (o := sp10) rfl (fun K hK => ?_) AllReadyH.nil)
        unfold sp10
        go_simp
        have M5 := M4.alloc (k : Int) 3
        generalize (wq4.alloc (Obj.cells #[Value.int .i64 (k : Int)] 3)) = wq5 at M5 ⊢
        refine hK.out _ _ trivial fun _ => ?_
        clear hK K
        try simp only [sp10, Act.put, List.setIfInBounds_toArray, List.set_cons_zero, List.set_cons_succ]
        refine wpAnyH_ready (rs := [11]) (by kernel_rfl) (by simp) ?_
        refine (AllReadyH.cons (o := sp11) rfl (fun K hK => ?_) AllReadyH.nil)
        unfold sp11
        refine N3.step_d M5 (u := (k : Int)) (h0 := wq4.heap.size) (by simp only [List.mem_cons, true_or, or_true]) (by rfl) (.tmp 67) (.tmp 69) rfl rfl rfl hld ?_
        intro vd1 wq6 M6
        refine hK.out _ _ trivial fun _ => ?_
        clear hK K
        try simp only [sp11, Act.put, List.setIfInBounds_toArray, List.set_cons_zero, List.set_cons_succ]
        refine tk (i := 12) (o := sp12) (v := ?vt82) HP0 rfl (by kernel_rfl) (by kernel_rfl) (by kernel_rfl) (by rfl) ?ht82 ?rt82
        case ht82 => (intro w _; unfold sp12; go_simp <;> with_reducible rfl)
        try simp only [sp12, Act.put, List.setIfInBounds_toArray, List.set_cons_zero, List.set_cons_succ]
        refine wpAnyH_ready (rs := [13]) (by kernel_rfl) (by simp) ?_
        refine (AllReadyH.cons (o := sp13) rfl (fun K hK => ?_) AllReadyH.nil)
        have cb : wq6.cell? ⟨w3.heap.size, 0, none⟩ = some vr := (M6.box.cell 0).trans rfl
        have fb := M6.box.free 0
        obtain ⟨A9, c9, e9⟩ := own_slice M6.r
        rw [HR1.out] at e9
        subst e9
        unfold sp13
        go_simp
        have M7 := M6.store (.slice A9 (k + 1) c9)
        clear cb fb
        refine hK.out _ _ trivial fun _ => ?_
        clear hK K
        try simp only [sp13, Act.put, List.setIfInBounds_toArray, List.set_cons_zero, List.set_cons_succ]
        refine tk (i := 14) (o := sp14) (v := ?vt83) HP0 rfl (by kernel_rfl) (by kernel_rfl) (by kernel_rfl) (by rfl) ?ht83 ?rt83
        case ht83 => (intro w _; unfold sp14; go_simp <;> with_reducible rfl)
        try simp only [sp14, Act.put, List.setIfInBounds_toArray, List.set_cons_zero, List.set_cons_succ]
        refine wpAnyH_done (by kernel_rfl) ?_ _
        exact HN0 _ _ (NoPanic.normal ⟨vo1, _, vd1, _, _, _, _, _, _, _, _, _, _, _, _, rfl, M7⟩)
        unfold sp10
        go_simp
        have M4 := M3.alloc (k : Int) 3
        generalize (wq3.alloc (Obj.cells #[Value.int .i64 (k : Int)] 3)) = wq4 at M4 ⊢
        refine hK.out _ _ trivial fun _ => ?_
        clear hK K
        try simp only [sp10, Act.put, List.setIfInBounds_toArray, List.set_cons_zero, List.set_cons_succ]
        refine wpAnyH_ready (rs := [7]) (by kernel_rfl) (by simp) ?_
        refine (AllReadyH.cons (o := sp7) rfl (fun K hK => ?_) AllReadyH.nil)
        unfold sp7
        refine N3.step_r M4 (u := r) (h0 := wq0.heap.size) (by simp only [List.mem_cons, true_or, or_true]) (by rfl) (.tmp 63) (.tmp 65) rfl rfl rfl hlr ?_
        intro vr1 wq5 M5
        refine hK.out _ _ trivial fun _ => ?_
        clear hK K
        try simp only [sp7, Act.put, List.setIfInBounds_toArray, List.set_cons_zero, List.set_cons_succ]
        refine wpAnyH_ready (rs := [11]) (by kernel_rfl) (by simp) ?_
        refine (AllReadyH.cons (o := sp11) rfl (fun K hK => ?_) AllReadyH.nil)
        unfold sp11
        refine N3.step_d M5 (u := (k : Int)) (h0 := wq3.heap.size) (by simp only [List.mem_cons, true_or, or_true]) (by rfl) (.tmp 67) (.tmp 69) rfl rfl rfl hld ?_
        intro vd1 wq6 M6
        refine hK.out _ _ trivial fun _ => ?_
        clear hK K
        try simp only [sp11, Act.put, List.setIfInBounds_toArray, List.set_cons_zero, List.set_cons_succ]
        refine tk (i := 12) (o := sp12) (v := ?vt84) HP0 rfl (by kernel_rfl) (by kernel_rfl) (by kernel_rfl) (by rfl) ?ht84 ?rt84
        case ht84 => (intro w _; unfold sp12; go_simp <;> with_reducible rfl)
        try simp only [sp12, Act.put, List.setIfInBounds_toArray, List.set_cons_zero, List.set_cons_succ]
        refine wpAnyH_ready (rs := [13]) (by kernel_rfl) (by simp) ?_
        refine (AllReadyH.cons (o := sp13) rfl (fun K hK => ?_) AllReadyH.nil)
        have cb : wq6.cell? ⟨w3.heap.size, 0, none⟩ = some vr := (M6.box.cell 0).trans rfl
        have fb := M6.box.free 0
        obtain ⟨A9, c9, e9⟩ := own_slice M6.r
        rw [HR1.out] at e9
        subst e9
        unfold sp13
        go_simp
        have M7 := M6.store (.slice A9 (k + 1) c9)
        clear cb fb
        refine hK.out _ _ trivial fun _ => ?_
        clear hK K
        try simp only [sp13, Act.put, List.setIfInBounds_toArray, List.set_cons_zero, List.set_cons_succ]
        refine tk (i := 14) (o := sp14) (v := ?vt85) HP0 rfl (by kernel_rfl) (by kernel_rfl) (by kernel_rfl) (by rfl) ?ht85 ?rt85
        case ht85 => (intro w _; unfold sp14; go_simp <;> with_reducible rfl)
        try simp only [sp14, Act.put, List.setIfInBounds_toArray, List.set_cons_zero, List.set_cons_succ]
        refine wpAnyH_done (by kernel_rfl) ?_ _
        exact HN0 _ _ (NoPanic.normal ⟨vo1, _, vd1, _, _, _, _, _, _, _, _, _, _, _, _, rfl, M7⟩)
        unfold sp10
        go_simp
        have M3 := M2.alloc (k : Int) 3
        generalize (wq2.alloc (Obj.cells #[Value.int .i64 (k : Int)] 3)) = wq3 at M3 ⊢
        refine hK.out _ _ trivial fun _ => ?_
        clear hK K
        try simp only [sp10, Act.put, List.setIfInBounds_toArray, List.set_cons_zero, List.set_cons_succ]
        refine wpAnyH_ready (rs := [3]) (by kernel_rfl) (by simp) ?_
        refine (AllReadyH.cons (o := sp3) rfl (fun K hK => ?_) AllReadyH.nil)
        unfold sp3
        refine N3.step_o M3 (u := q) (h0 := wq1.heap.size) (by simp only [List.mem_cons, true_or, or_true]) (by rfl) (.tmp 59) (.tmp 61) rfl rfl rfl hlo ?_
        intro vo1 wq4 M4
        refine hK.out _ _ trivial fun _ => ?_
        clear hK K
        try simp only [sp3, Act.put, List.setIfInBounds_toArray, List.set_cons_zero, List.set_cons_succ]
        refine wpAnyH_ready (rs := [7]) (by kernel_rfl) (by simp) ?_
        refine (AllReadyH.cons (o := sp7) rfl (fun K hK => ?_) AllReadyH.nil)
        unfold sp7
        refine N3.step_r M4 (u := r) (h0 := wq0.heap.size) (by simp only [List.mem_cons, true_or, or_true]) (by rfl) (.tmp 63) (.tmp 65) rfl rfl rfl hlr ?_
        intro vr1 wq5 M5
        refine hK.out _ _ trivial fun _ => ?_
        clear hK K
        try simp only [sp7, Act.put, List.setIfInBounds_toArray, List.set_cons_zero, List.set_cons_succ]
        refine wpAnyH_ready (rs := [11]) (by kernel_rfl) (by simp) ?_
        refine (AllReadyH.cons (o := sp11) rfl (fun K hK => ?_) AllReadyH.nil)
        unfold sp11
        refine N3.step_d M5 (u := (k : Int)) (h0 := wq2.heap.size) (by simp only [List.mem_cons, true_or, or_true]) (by rfl) (.tmp 67) (.tmp 69) rfl rfl rfl hld ?_
        intro vd1 wq6 M6
        refine hK.out _ _ trivial fun _ => ?_
        clear hK K
        try simp only [sp11, Act.put, List.setIfInBounds_toArray, List.set_cons_zero, List.set_cons_succ]
        refine tk (i := 12) (o := sp12) (v := ?vt86) HP0 rfl (by kernel_rfl) (by kernel_rfl) (by kernel_rfl) (by rfl) ?ht86 ?rt86
        case ht86 => (intro w _; unfold sp12; go_simp <;> with_reducible rfl)
        try simp only [sp12, Act.put, List.setIfInBounds_toArray, List.set_cons_zero, List.set_cons_succ]
        refine wpAnyH_ready (rs := [13]) (by kernel_rfl) (by simp) ?_
        refine (AllReadyH.cons (o := sp13) rfl (fun K hK => ?_) AllReadyH.nil)
        have cb : wq6.cell? ⟨w3.heap.size, 0, none⟩ = some vr := (M6.box.cell 0).trans rfl
        have fb := M6.box.free 0
        obtain ⟨A9, c9, e9⟩ := own_slice M6.r
        rw [HR1.out] at e9
        subst e9
        unfold sp13
        go_simp
        have M7 := M6.store (.slice A9 (k + 1) c9)
        clear cb fb
        refine hK.out _ _ trivial fun _ => ?_
        clear hK K
        try simp only [sp13, Act.put, List.setIfInBounds_toArray, List.set_cons_zero, List.set_cons_succ]
        refine tk (i := 14) (o := sp14) (v := ?vt87) HP0 rfl (by kernel_rfl) (by kernel_rfl) (by kernel_rfl) (by rfl) ?ht87 ?rt87
        case ht87 => (intro w _; unfold sp14; go_simp <;> with_reducible rfl)
        try simp only [sp14, Act.put, List.setIfInBounds_toArray, List.set_cons_zero, List.set_cons_succ]
        refine wpAnyH_done (by kernel_rfl) ?_ _
        exact HN0 _ _ (NoPanic.normal ⟨vo1, _, vd1, _, _, _, _, _, _, _, _, _, _, _, _, rfl, M7⟩)
        unfold sp10
        go_simp
        have M2 := M1.alloc (k : Int) 3
        generalize (wq1.alloc (Obj.cells #[Value.int .i64 (k : Int)] 3)) = wq2 at M2 ⊢
        refine hK.out _ _ trivial fun _ => ?_
        clear hK K
        try simp only [sp10, Act.put, List.setIfInBounds_toArray, List.set_cons_zero, List.set_cons_succ]
        refine wpAnyH_ready (rs := [2]) (by kernel_rfl) (by simp) ?_
        refine (AllReadyH.cons (o := sp2) rfl (fun K hK => ?_) AllReadyH.nil)
        unfold sp2
        go_simp
        have M3 := M2.alloc q 2
        generalize (wq2.alloc (Obj.cells #[Value.int .i64 q] 2)) = wq3 at M3 ⊢
        refine hK.out _ _ trivial fun _ => ?_
        clear hK K
        try simp only [sp2, Act.put, List.setIfInBounds_toArray, List.set_cons_zero, List.set_cons_succ]
        refine wpAnyH_ready (rs := [3]) (by kernel_rfl) (by simp) ?_
        refine (AllReadyH.cons (o := sp3) rfl (fun K hK => ?_) AllReadyH.nil)
        unfold sp3
        refine N3.step_o M3 (u := q) (h0 := wq2.heap.size) (by simp only [List.mem_cons, true_or, or_true]) (by rfl) (.tmp 59) (.tmp 61) rfl rfl rfl hlo ?_
        intro vo1 wq4 M4
        refine hK.out _ _ trivial fun _ => ?_
        clear hK K
        try simp only [sp3, Act.put, List.setIfInBounds_toArray, List.set_cons_zero, List.set_cons_succ]
        refine wpAnyH_ready (rs := [7]) (by kernel_rfl) (by simp) ?_
        refine (AllReadyH.cons (o := sp7) rfl (fun K hK => ?_) AllReadyH.nil)
        unfold sp7
        refine N3.step_r M4 (u := r) (h0 := wq0.heap.size) (by simp only [List.mem_cons, true_or, or_true]) (by rfl) (.tmp 63) (.tmp 65) rfl rfl rfl hlr ?_
        intro vr1 wq5 M5
        refine hK.out _ _ trivial fun _ => ?_
        clear hK K
        try simp only [sp7, Act.put, List.setIfInBounds_toArray, List.set_cons_zero, List.set_cons_succ]
        refine wpAnyH_ready (rs := [11]) (by kernel_rfl) (by simp) ?_
        refine (AllReadyH.cons (o := sp11) rfl (fun K hK => ?_) AllReadyH.nil)
        unfold sp11
        refine N3.step_d M5 (u := (k : Int)) (h0 := wq1.heap.size) (by simp only [List.mem_cons, true_or, or_true]) (by rfl) (.tmp 67) (.tmp 69) rfl rfl rfl hld ?_
        intro vd1 wq6 M6
        refine hK.out _ _ trivial fun _ => ?_
        clear hK K
        try simp only [sp11, Act.put, List.setIfInBounds_toArray, List.set_cons_zero, List.set_cons_succ]
        refine tk (i := 12) (o := sp12) (v := ?vt88) HP0 rfl (by kernel_rfl) (by kernel_rfl) (by kernel_rfl) (by rfl) ?ht88 ?rt88
        case ht88 => (intro w _; unfold sp12; go_simp <;> with_reducible rfl)
        try simp only [sp12, Act.put, List.setIfInBounds_toArray, List.set_cons_zero, List.set_cons_succ]
        refine wpAnyH_ready (rs := [13]) (by kernel_rfl) (by simp) ?_
        refine (AllReadyH.cons (o := sp13) rfl (fun K hK => ?_) AllReadyH.nil)
        have cb : wq6.cell? ⟨w3.heap.size, 0, none⟩ = some vr := (M6.box.cell 0).trans rfl
        have fb := M6.box.free 0
        obtain ⟨A9, c9, e9⟩ := own_slice M6.r
        rw [HR1.out] at e9
        subst e9
        unfold sp13
        go_simp
        have M7 := M6.store (.slice A9 (k + 1) c9)
        clear cb fb
        refine hK.out _ _ trivial fun _ => ?_
        clear hK K
        try simp only [sp13, Act.put, List.setIfInBounds_toArray, List.set_cons_zero, List.set_cons_succ]
        refine tk (i := 14) (o := sp14) (v := ?vt89) HP0 rfl (by kernel_rfl) (by kernel_rfl) (by kernel_rfl) (by rfl) ?ht89 ?rt89
        case ht89 => (intro w _; unfold sp14; go_simp <;> with_reducible rfl)
        try simp only [sp14, Act.put, List.setIfInBounds_toArray, List.set_cons_zero, List.set_cons_succ]
        refine wpAnyH_done (by kernel_rfl) ?_ _
        exact HN0 _ _ (NoPanic.normal ⟨vo1, _, vd1, _, _, _, _, _, _, _, _, _, _, _, _, rfl, M7⟩)
        unfold sp10
        go_simp
        have M1 := M0.alloc (k : Int) 3
        generalize (wq0.alloc (Obj.cells #[Value.int .i64 (k : Int)] 3)) = wq1 at M1 ⊢
        refine hK.out _ _ trivial fun _ => ?_
        clear hK K
        try simp only [sp10, Act.put, List.setIfInBounds_toArray, List.set_cons_zero, List.set_cons_succ]
        refine wpAnyH_ready (rs := [2, 6]) (by kernel_rfl) (by simp) ?_
        refine (AllReadyH.cons (o := sp2) rfl (fun K hK => ?_) (AllReadyH.cons (o := sp6) rfl (fun K hK => ?_) AllReadyH.nil))
        unfold sp2
        go_simp
        have M2 := M1.alloc q 2
        generalize (wq1.alloc (Obj.cells #[Value.int .i64 q] 2)) = wq2 at M2 ⊢
        refine hK.out _ _ trivial fun _ => ?_
        clear hK K
        try simp only [sp2, Act.put, List.setIfInBounds_toArray, List.set_cons_zero, List.set_cons_succ]
        refine wpAnyH_ready (rs := [3, 6]) (by kernel_rfl) (by simp) ?_
        refine (AllReadyH.cons (o := sp3) rfl (fun K hK => ?_) (AllReadyH.cons (o := sp6) rfl (fun K hK => ?_) AllReadyH.nil))
        unfold sp3
        refine N3.step_o M2 (u := q) (h0 := wq1.heap.size) (by simp only [List.mem_cons, true_or, or_true]) (by rfl) (.tmp 59) (.tmp 61) rfl rfl rfl hlo ?_
        intro vo1 wq3 M3
        refine hK.out _ _ trivial fun _ => ?_
        clear hK K
        try simp only [sp3, Act.put, List.setIfInBounds_toArray, List.set_cons_zero, List.set_cons_succ]
        refine wpAnyH_ready (rs := [6]) (by kernel_rfl) (by simp) ?_
        refine (AllReadyH.cons (o := sp6) rfl (fun K hK => ?_) AllReadyH.nil)
        unfold sp6
        go_simp
        have M4 := M3.alloc r 2
        generalize (wq3.alloc (Obj.cells #[Value.int .i64 r] 2)) = wq4 at M4 ⊢
        refine hK.out _ _ trivial fun _ => ?_
        clear hK K
        try simp only [sp6, Act.put, List.setIfInBounds_toArray, List.set_cons_zero, List.set_cons_succ]
        refine wpAnyH_ready (rs := [7]) (by kernel_rfl) (by simp) ?_
        refine (AllReadyH.cons (o := sp7) rfl (fun K hK => ?_) AllReadyH.nil)
        unfold sp7
        refine N3.step_r M4 (u := r) (h0 := wq3.heap.size) (by simp only [List.mem_cons, true_or, or_true]) (by rfl) (.tmp 63) (.tmp 65) rfl rfl rfl hlr ?_
        intro vr1 wq5 M5
        refine hK.out _ _ trivial fun _ => ?_
        clear hK K
        try simp only [sp7, Act.put, List.setIfInBounds_toArray, List.set_cons_zero, List.set_cons_succ]
        refine wpAnyH_ready (rs := [11]) (by kernel_rfl) (by simp) ?_
        refine (AllReadyH.cons (o := sp11) rfl (fun K hK => ?_) AllReadyH.nil)
        unfold sp11
        refine N3.step_d M5 (u := (k : Int)) (h0 := wq0.heap.size) (by simp only [List.mem_cons, true_or, or_true]) (by rfl) (.tmp 67) (.tmp 69) rfl rfl rfl hld ?_
        intro vd1 wq6 M6
        refine hK.out _ _ trivial fun _ => ?_
        clear hK K
        try simp only [sp11, Act.put, List.setIfInBounds_toArray, List.set_cons_zero, List.set_cons_succ]
        refine tk (i := 12) (o := sp12) (v := ?vt90) HP0 rfl (by kernel_rfl) (by kernel_rfl) (by kernel_rfl) (by rfl) ?ht90 ?rt90
        case ht90 => (intro w _; unfold sp12; go_simp <;> with_reducible rfl)
        try simp only [sp12, Act.put, List.setIfInBounds_toArray, List.set_cons_zero, List.set_cons_succ]
        refine wpAnyH_ready (rs := [13]) (by kernel_rfl) (by simp) ?_
        refine (AllReadyH.cons (o := sp13) rfl (fun K hK => ?_) AllReadyH.nil)
        have cb : wq6.cell? ⟨w3.heap.size, 0, none⟩ = some vr := (M6.box.cell 0).trans rfl
        have fb := M6.box.free 0
        obtain ⟨A9, c9, e9⟩ := own_slice M6.r
        rw [HR1.out] at e9
        subst e9
        unfold sp13
        go_simp
        have M7 := M6.store (.slice A9 (k + 1) c9)
        clear cb fb
        refine hK.out _ _ trivial fun _ => ?_
        clear hK K
        try simp only [sp13, Act.put, List.setIfInBounds_toArray, List.set_cons_zero, List.set_cons_succ]
        refine tk (i := 14) (o := sp14) (v := ?vt91) HP0 rfl (by kernel_rfl) (by kernel_rfl) (by kernel_rfl) (by rfl) ?ht91 ?rt91
        case ht91 => (intro w _; unfold sp14; go_simp <;> with_reducible rfl)
        try simp only [sp14, Act.put, List.setIfInBounds_toArray, List.set_cons_zero, List.set_cons_succ]
        refine wpAnyH_done (by kernel_rfl) ?_ _
        exact HN0 _ _ (NoPanic.normal ⟨vo1, _, vd1, _, _, _, _, _, _, _, _, _, _, _, _, rfl, M7⟩)
        unfold sp6
        go_simp
        have M3 := M2.alloc r 2
        generalize (wq2.alloc (Obj.cells #[Value.int .i64 r] 2)) = wq3 at M3 ⊢
        refine hK.out _ _ trivial fun _ => ?_
        clear hK K
        try simp only [sp6, Act.put, List.setIfInBounds_toArray, List.set_cons_zero, List.set_cons_succ]
        refine wpAnyH_ready (rs := [3]) (by kernel_rfl) (by simp) ?_
        refine (AllReadyH.cons (o := sp3) rfl (fun K hK => ?_) AllReadyH.nil)
        unfold sp3
        refine N3.step_o M3 (u := q) (h0 := wq1.heap.size) (by simp only [List.mem_cons, true_or, or_true]) (by rfl) (.tmp 59) (.tmp 61) rfl rfl rfl hlo ?_
        intro vo1 wq4 M4
        refine hK.out _ _ trivial fun _ => ?_
        clear hK K
        try simp only [sp3, Act.put, List.setIfInBounds_toArray, List.set_cons_zero, List.set_cons_succ]
        refine wpAnyH_ready (rs := [7]) (by kernel_rfl) (by simp) ?_
        refine (AllReadyH.cons (o := sp7) rfl (fun K hK => ?_) AllReadyH.nil)
        unfold sp7
        refine N3.step_r M4 (u := r) (h0 := wq2.heap.size) (by simp only [List.mem_cons, true_or, or_true]) (by rfl) (.tmp 63) (.tmp 65) rfl rfl rfl hlr ?_
        intro vr1 wq5 M5
        refine hK.out _ _ trivial fun _ => ?_
        clear hK K
        try simp only [sp7, Act.put, List.setIfInBounds_toArray, List.set_cons_zero, List.set_cons_succ]
        refine wpAnyH_ready (rs := [11]) (by kernel_rfl) (by simp) ?_
        refine (AllReadyH.cons (o := sp11) rfl (fun K hK => ?_) AllReadyH.nil)
        unfold sp11
        refine N3.step_d M5 (u := (k : Int)) (h0 := wq0.heap.size) (by simp only [List.mem_cons, true_or, or_true]) (by rfl) (.tmp 67) (.tmp 69) rfl rfl rfl hld ?_
        intro vd1 wq6 M6
        refine hK.out _ _ trivial fun _ => ?_
        clear hK K
        try simp only [sp11, Act.put, List.setIfInBounds_toArray, List.set_cons_zero, List.set_cons_succ]
        refine tk (i := 12) (o := sp12) (v := ?vt92) HP0 rfl (by kernel_rfl) (by kernel_rfl) (by kernel_rfl) (by rfl) ?ht92 ?rt92
        case ht92 => (intro w _; unfold sp12; go_simp <;> with_reducible rfl)
        try simp only [sp12, Act.put, List.setIfInBounds_toArray, List.set_cons_zero, List.set_cons_succ]
        refine wpAnyH_ready (rs := [13]) (by kernel_rfl) (by simp) ?_
        refine (AllReadyH.cons (o := sp13) rfl (fun K hK => ?_) AllReadyH.nil)
        have cb : wq6.cell? ⟨w3.heap.size, 0, none⟩ = some vr := (M6.box.cell 0).trans rfl
        have fb := M6.box.free 0
        obtain ⟨A9, c9, e9⟩ := own_slice M6.r
        rw [HR1.out] at e9
        subst e9
        unfold sp13
        go_simp
        have M7 := M6.store (.slice A9 (k + 1) c9)
        clear cb fb
        refine hK.out _ _ trivial fun _ => ?_
        clear hK K
        try simp only [sp13, Act.put, List.setIfInBounds_toArray, List.set_cons_zero, List.set_cons_succ]
        refine tk (i := 14) (o := sp14) (v := ?vt93) HP0 rfl (by kernel_rfl) (by kernel_rfl) (by kernel_rfl) (by rfl) ?ht93 ?rt93
        case ht93 => (intro w _; unfold sp14; go_simp <;> with_reducible rfl)
        try simp only [sp14, Act.put, List.setIfInBounds_toArray, List.set_cons_zero, List.set_cons_succ]
        refine wpAnyH_done (by kernel_rfl) ?_ _
        exact HN0 _ _ (NoPanic.normal ⟨vo1, _, vd1, _, _, _, _, _, _, _, _, _, _, _, _, rfl, M7⟩)
        unfold sp6
        go_simp
        have M2 := M1.alloc r 2
        generalize (wq1.alloc (Obj.cells #[Value.int .i64 r] 2)) = wq2 at M2 ⊢
        refine hK.out _ _ trivial fun _ => ?_
        clear hK K
        try simp only [sp6, Act.put, List.setIfInBounds_toArray, List.set_cons_zero, List.set_cons_succ]
        refine wpAnyH_ready (rs := [2]) (by kernel_rfl) (by simp) ?_
        refine (AllReadyH.cons (o := sp2) rfl (fun K hK => ?_) AllReadyH.nil)
        unfold sp2
        go_simp
        have M3 := M2.alloc q 2
        generalize (wq2.alloc (Obj.cells #[Value.int .i64 q] 2)) = wq3 at M3 ⊢
        refine hK.out _ _ trivial fun _ => ?_
        clear hK K
        try simp only [sp2, Act.put, List.setIfInBounds_toArray, List.set_cons_zero, List.set_cons_succ]
        refine wpAnyH_ready (rs := [3]) (by kernel_rfl) (by simp) ?_
        refine (AllReadyH.cons (o := sp3) rfl (fun K hK => ?_) AllReadyH.nil)
        unfold sp3
        refine N3.step_o M3 (u := q) (h0 := wq2.heap.size) (by simp only [List.mem_cons, true_or, or_true]) (by rfl) (.tmp 59) (.tmp 61) rfl rfl rfl hlo ?_
        intro vo1 wq4 M4
        refine hK.out _ _ trivial fun _ => ?_
        clear hK K
        try simp only [sp3, Act.put, List.setIfInBounds_toArray, List.set_cons_zero, List.set_cons_succ]
        refine wpAnyH_ready (rs := [7]) (by kernel_rfl) (by simp) ?_
        refine (AllReadyH.cons (o := sp7) rfl (fun K hK => ?_) AllReadyH.nil)
        unfold sp7
        refine N3.step_r M4 (u := r) (h0 := wq1.heap.size) (by simp only [List.mem_cons, true_or, or_true]) (by rfl) (.tmp 63) (.tmp 65) rfl rfl rfl hlr ?_
        intro vr1 wq5 M5
        refine hK.out _ _ trivial fun _ => ?_
        clear hK K
        try simp only [sp7, Act.put, List.setIfInBounds_toArray, List.set_cons_zero, List.set_cons_succ]
        refine wpAnyH_ready (rs := [11]) (by kernel_rfl) (by simp) ?_
        refine (AllReadyH.cons (o := sp11) rfl (fun K hK => ?_) AllReadyH.nil)
        unfold sp11
        refine N3.step_d M5 (u := (k : Int)) (h0 := wq0.heap.size) (by simp only [List.mem_cons, true_or, or_true]) (by rfl) (.tmp 67) (.tmp 69) rfl rfl rfl hld ?_
        intro vd1 wq6 M6
        refine hK.out _ _ trivial fun _ => ?_
        clear hK K
        try simp only [sp11, Act.put, List.setIfInBounds_toArray, List.set_cons_zero, List.set_cons_succ]
        refine tk (i := 12) (o := sp12) (v := ?vt94) HP0 rfl (by kernel_rfl) (by kernel_rfl) (by kernel_rfl) (by rfl) ?ht94 ?rt94
        case ht94 => (intro w _; unfold sp12; go_simp <;> with_reducible rfl)
        try simp only [sp12, Act.put, List.setIfInBounds_toArray, List.set_cons_zero, List.set_cons_succ]
        refine wpAnyH_ready (rs := [13]) (by kernel_rfl) (by simp) ?_
        refine (AllReadyH.cons (o := sp13) rfl (fun K hK => ?_) AllReadyH.nil)
        have cb : wq6.cell? ⟨w3.heap.size, 0, none⟩ = some vr := (M6.box.cell 0).trans rfl
        have fb := M6.box.free 0
        obtain ⟨A9, c9, e9⟩ := own_slice M6.r
        rw [HR1.out] at e9
        subst e9
        unfold sp13
        go_simp
        have M7 := M6.store (.slice A9 (k + 1) c9)
        clear cb fb
        refine hK.out _ _ trivial fun _ => ?_
        clear hK K
        try simp only [sp13, Act.put, List.setIfInBounds_toArray, List.set_cons_zero, List.set_cons_succ]
        refine tk (i := 14) (o := sp14) (v := ?vt95) HP0 rfl (by kernel_rfl) (by kernel_rfl) (by kernel_rfl) (by rfl) ?ht95 ?rt95
        case ht95 => (intro w _; unfold sp14; go_simp <;> with_reducible rfl)
        try simp only [sp14, Act.put, List.setIfInBounds_toArray, List.set_cons_zero, List.set_cons_succ]
        refine wpAnyH_done (by kernel_rfl) ?_ _
        exact HN0 _ _ (NoPanic.normal ⟨vo1, _, vd1, _, _, _, _, _, _, _, _, _, _, _, _, rfl, M7⟩)
        unfold sp6
        go_simp
        have M1 := M0.alloc r 2
        generalize (wq0.alloc (Obj.cells #[Value.int .i64 r] 2)) = wq1 at M1 ⊢
        refine hK.out _ _ trivial fun _ => ?_
        clear hK K
        try simp only [sp6, Act.put, List.setIfInBounds_toArray, List.set_cons_zero, List.set_cons_succ]
        refine wpAnyH_ready (rs := [2, 4, 10]) (by kernel_rfl) (by simp) ?_
        refine (AllReadyH.cons (o := sp2) rfl (fun K hK => ?_) (AllReadyH.cons (o := sp4) rfl (fun K hK => ?_) (AllReadyH.cons (o := sp10) rfl (fun K hK => ?_) AllReadyH.nil)))
        unfold sp2
        go_simp
        have M2 := M1.alloc q 2
        generalize (wq1.alloc (Obj.cells #[Value.int .i64 q] 2)) = wq2 at M2 ⊢
        refine hK.out _ _ trivial fun _ => ?_
        clear hK K
        try simp only [sp2, Act.put, List.setIfInBounds_toArray, List.set_cons_zero, List.set_cons_succ]
        refine wpAnyH_ready (rs := [3, 4, 10]) (by kernel_rfl) (by simp) ?_
        refine (AllReadyH.cons (o := sp3) rfl (fun K hK => ?_) (AllReadyH.cons (o := sp4) rfl (fun K hK => ?_) (AllReadyH.cons (o := sp10) rfl (fun K hK => ?_) AllReadyH.nil)))
        unfold sp3
        refine N3.step_o M2 (u := q) (h0 := wq1.heap.size) (by simp only [List.mem_cons, true_or, or_true]) (by rfl) (.tmp 59) (.tmp 61) rfl rfl rfl hlo ?_
        intro vo1 wq3 M3
        refine hK.out _ _ trivial fun _ => ?_
        clear hK K
        try simp only [sp3, Act.put, List.setIfInBounds_toArray, List.set_cons_zero, List.set_cons_succ]
        refine wpAnyH_ready (rs := [4, 10]) (by kernel_rfl) (by simp) ?_
        refine (AllReadyH.cons (o := sp4) rfl (fun K hK => ?_) (AllReadyH.cons (o := sp10) rfl (fun K hK => ?_) AllReadyH.nil))
        have cb : wq3.cell? ⟨w3.heap.size, 0, none⟩ = some vr := (M3.box.cell 0).trans rfl
        unfold sp4
        go_simp
        clear cb
        refine hK.out _ _ trivial fun _ => ?_
        clear hK K
        try simp only [sp4, Act.put, List.setIfInBounds_toArray, List.set_cons_zero, List.set_cons_succ]
        refine wpAnyH_ready (rs := [7, 10]) (by kernel_rfl) (by simp) ?_
        refine (AllReadyH.cons (o := sp7) rfl (fun K hK => ?_) (AllReadyH.cons (o := sp10) rfl (fun K hK => ?_) AllReadyH.nil))
        unfold sp7
        refine N3.step_r M3 (u := r) (h0 := wq0.heap.size) (by simp only [List.mem_cons, true_or, or_true]) (by rfl) (.tmp 63) (.tmp 65) rfl rfl rfl hlr ?_
        intro vr1 wq4 M4
        refine hK.out _ _ trivial fun _ => ?_
        clear hK K
        try simp only [sp7, Act.put, List.setIfInBounds_toArray, List.set_cons_zero, List.set_cons_succ]
        refine wpAnyH_ready (rs := [10]) (by kernel_rfl) (by simp) ?_
        refine (AllReadyH.cons (o := sp10) rfl (fun K hK => ?_) AllReadyH.nil)
        unfold sp10
        go_simp
        have M5 := M4.alloc (k : Int) 3
        generalize (wq4.alloc (Obj.cells #[Value.int .i64 (k : Int)] 3)) = wq5 at M5 ⊢
        refine hK.out _ _ trivial fun _ => ?_
        clear hK K
        try simp only [sp10, Act.put, List.setIfInBounds_toArray, List.set_cons_zero, List.set_cons_succ]
        refine wpAnyH_ready (rs := [11]) (by kernel_rfl) (by simp) ?_
        refine (AllReadyH.cons (o := sp11) rfl (fun K hK => ?_) AllReadyH.nil)
        unfold sp11
        refine N3.step_d M5 (u := (k : Int)) (h0 := wq4.heap.size) (by simp only [List.mem_cons, true_or, or_true]) (by rfl) (.tmp 67) (.tmp 69) rfl rfl rfl hld ?_
        intro vd1 wq6 M6
        refine hK.out _ _ trivial fun _ => ?_
        clear hK K
        try simp only [sp11, Act.put, List.setIfInBounds_toArray, List.set_cons_zero, List.set_cons_succ]
        refine tk (i := 12) (o := sp12) (v := ?vt96) HP0 rfl (by kernel_rfl) (by kernel_rfl) (by kernel_rfl) (by rfl) ?ht96 ?rt96
        case ht96 => (intro w _; unfold sp12; go_simp <;> with_reducible rfl)
        try simp only [sp12, Act.put, List.setIfInBounds_toArray, List.set_cons_zero, List.set_cons_succ]
        refine wpAnyH_ready (rs := [13]) (by kernel_rfl) (by simp) ?_
        refine (AllReadyH.cons (o := sp13) rfl (fun K hK => ?_) AllReadyH.nil)
        have cb : wq6.cell? ⟨w3.heap.size, 0, none⟩ = some vr := (M6.box.cell 0).trans rfl
        have fb := M6.box.free 0
        obtain ⟨A9, c9, e9⟩ := own_slice M6.r
        rw [HR1.out] at e9
        subst e9
        unfold sp13
        go_simp
        have M7 := M6.store (.slice A9 (k + 1) c9)
        clear cb fb
        refine hK.out _ _ trivial fun _ => ?_
        clear hK K
        try simp only [sp13, Act.put, List.setIfInBounds_toArray, List.set_cons_zero, List.set_cons_succ]
        refine tk (i := 14) (o := sp14) (v := ?vt97) HP0 rfl (by kernel_rfl) (by kernel_rfl) (by kernel_rfl) (by rfl) ?ht97 ?rt97
        case ht97 => (intro w _; unfold sp14; go_simp <;> with_reducible rfl)
        try simp only [sp14, Act.put, List.setIfInBounds_toArray, List.set_cons_zero, List.set_cons_succ]
        refine wpAnyH_done (by kernel_rfl) ?_ _
        exact HN0 _ _ (NoPanic.normal ⟨vo1, _, vd1, _, _, _, _, _, _, _, _, _, _, _, _, rfl, M7⟩)
        unfold sp10
        go_simp
        have M4 := M3.alloc (k : Int) 3
        generalize (wq3.alloc (Obj.cells #[Value.int .i64 (k : Int)] 3)) = wq4 at M4 ⊢
        refine hK.out _ _ trivial fun _ => ?_
        clear hK K
        try simp only [sp10, Act.put, List.setIfInBounds_toArray, List.set_cons_zero, List.set_cons_succ]
        refine wpAnyH_ready (rs := [7]) (by kernel_rfl) (by simp) ?_
        refine (AllReadyH.cons (o := sp7) rfl (fun K hK => ?_) AllReadyH.nil)
        unfold sp7
        refine N3.step_r M4 (u := r) (h0 := wq0.heap.size) (by simp only [List.mem_cons, true_or, or_true]) (by rfl) (.tmp 63) (.tmp 65) rfl rfl rfl hlr ?_
        intro vr1 wq5 M5
        refine hK.out _ _ trivial fun _ => ?_
        clear hK K
        try simp only [sp7, Act.put, List.setIfInBounds_toArray, List.set_cons_zero, List.set_cons_succ]
        refine wpAnyH_ready (rs := [11]) (by kernel_rfl) (by simp) ?_
        refine (AllReadyH.cons (o := sp11) rfl (fun K hK => ?_) AllReadyH.nil)
        unfold sp11
        refine N3.step_d M5 (u := (k : Int)) (h0 := wq3.heap.size) (by simp only [List.mem_cons, true_or, or_true]) (by rfl) (.tmp 67) (.tmp 69) rfl rfl rfl hld ?_
        intro vd1 wq6 M6
        refine hK.out _ _ trivial fun _ => ?_
        clear hK K
        try simp only [sp11, Act.put, List.setIfInBounds_toArray, List.set_cons_zero, List.set_cons_succ]
        refine tk (i := 12) (o := sp12) (v := ?vt98) HP0 rfl (by kernel_rfl) (by kernel_rfl) (by kernel_rfl) (by rfl) ?ht98 ?rt98
        case ht98 => (intro w _; unfold sp12; go_simp <;> with_reducible rfl)
        try simp only [sp12, Act.put, List.setIfInBounds_toArray, List.set_cons_zero, List.set_cons_succ]
        refine wpAnyH_ready (rs := [13]) (by kernel_rfl) (by simp) ?_
        refine (AllReadyH.cons (o := sp13) rfl (fun K hK => ?_) AllReadyH.nil)
        have cb : wq6.cell? ⟨w3.heap.size, 0, none⟩ = some vr := (M6.box.cell 0).trans rfl
        have fb := M6.box.free 0
        obtain ⟨A9, c9, e9⟩ := own_slice M6.r
        rw [HR1.out] at e9
        subst e9
        unfold sp13
        go_simp
        have M7 := M6.store (.slice A9 (k + 1) c9)
        clear cb fb
        refine hK.out _ _ trivial fun _ => ?_
        clear hK K
        try simp only [sp13, Act.put, List.setIfInBounds_toArray, List.set_cons_zero, List.set_cons_succ]
        refine tk (i := 14) (o := sp14) (v := ?vt99) HP0 rfl (by kernel_rfl) (by kernel_rfl) (by kernel_rfl) (by rfl) ?ht99 ?rt99
        case ht99 => (intro w _; unfold sp14; go_simp <;> with_reducible rfl)
        try simp only [sp14, Act.put, List.setIfInBounds_toArray, List.set_cons_zero, List.set_cons_succ]
        refine wpAnyH_done (by kernel_rfl) ?_ _
        exact HN0 _ _ (NoPanic.normal ⟨vo1, _, vd1, _, _, _, _, _, _, _, _, _, _, _, _, rfl, M7⟩)
        unfold sp10
        go_simp
        have M4 := M3.alloc (k : Int) 3
        generalize (wq3.alloc (Obj.cells #[Value.int .i64 (k : Int)] 3)) = wq4 at M4 ⊢
        refine hK.out _ _ trivial fun _ => ?_
        clear hK K
        try simp only [sp10, Act.put, List.setIfInBounds_toArray, List.set_cons_zero, List.set_cons_succ]
        refine wpAnyH_ready (rs := [4]) (by kernel_rfl) (by simp) ?_
        refine (AllReadyH.cons (o := sp4) rfl (fun K hK => ?_) AllReadyH.nil)
        have cb : wq4.cell? ⟨w3.heap.size, 0, none⟩ = some vr := (M4.box.cell 0).trans rfl
        unfold sp4
        go_simp
        clear cb
        refine hK.out _ _ trivial fun _ => ?_
        clear hK K
        try simp only [sp4, Act.put, List.setIfInBounds_toArray, List.set_cons_zero, List.set_cons_succ]
        refine wpAnyH_ready (rs := [7]) (by kernel_rfl) (by simp) ?_
        refine (AllReadyH.cons (o := sp7) rfl (fun K hK => ?_) AllReadyH.nil)
        unfold sp7
        refine N3.step_r M4 (u := r) (h0 := wq0.heap.size) (by simp only [List.mem_cons, true_or, or_true]) (by rfl) (.tmp 63) (.tmp 65) rfl rfl rfl hlr ?_
        intro vr1 wq5 M5
        refine hK.out _ _ trivial fun _ => ?_
        clear hK K
        try simp only [sp7, Act.put, List.setIfInBounds_toArray, List.set_cons_zero, List.set_cons_succ]
        refine wpAnyH_ready (rs := [11]) (by kernel_rfl) (by simp) ?_
        refine (AllReadyH.cons (o := sp11) rfl (fun K hK => ?_) AllReadyH.nil)
        unfold sp11
        refine N3.step_d M5 (u := (k : Int)) (h0 := wq3.heap.size) (by simp only [List.mem_cons, true_or, or_true]) (by rfl) (.tmp 67) (.tmp 69) rfl rfl rfl hld ?_
        intro vd1 wq6 M6
        refine hK.out _ _ trivial fun _ => ?_
        clear hK K
        try simp only [sp11, Act.put, List.setIfInBounds_toArray, List.set_cons_zero, List.set_cons_succ]
        refine tk (i := 12) (o := sp12) (v := ?vt100) HP0 rfl (by kernel_rfl) (by kernel_rfl) (by kernel_rfl) (by rfl) ?ht100 ?rt100
        case ht100 => (intro w _; unfold sp12; go_simp <;> with_reducible rfl)
        try simp only [sp12, Act.put, List.setIfInBounds_toArray, List.set_cons_zero, List.set_cons_succ]
        refine wpAnyH_ready (rs := [13]) (by kernel_rfl) (by simp) ?_
        refine (AllReadyH.cons (o := sp13) rfl (fun K hK => ?_) AllReadyH.nil)
        have cb : wq6.cell? ⟨w3.heap.size, 0, none⟩ = some vr := (M6.box.cell 0).trans rfl
        have fb := M6.box.free 0
        obtain ⟨A9, c9, e9⟩ := own_slice M6.r
        rw [HR1.out] at e9
        subst e9
        unfold sp13
        go_simp
        have M7 := M6.store (.slice A9 (k + 1) c9)
        clear cb fb
        refine hK.out _ _ trivial fun _ => ?_
        clear hK K
        try simp only [sp13, Act.put, List.setIfInBounds_toArray, List.set_cons_zero, List.set_cons_succ]
        refine tk (i := 14) (o := sp14) (v := ?vt101) HP0 rfl (by kernel_rfl) (by kernel_rfl) (by kernel_rfl) (by rfl) ?ht101 ?rt101
        case ht101 => (intro w _; unfold sp14; go_simp <;> with_reducible rfl)
        try simp only [sp14, Act.put, List.setIfInBounds_toArray, List.set_cons_zero, List.set_cons_succ]
        refine wpAnyH_done (by kernel_rfl) ?_ _
        exact HN0 _ _ (NoPanic.normal ⟨vo1, _, vd1, _, _, _, _, _, _, _, _, _, _, _, _, rfl, M7⟩)
        have cb : wq2.cell? ⟨w3.heap.size, 0, none⟩ = some vr := (M2.box.cell 0).trans rfl
        unfold sp4
        go_simp
        clear cb
        refine hK.out _ _ trivial fun _ => ?_
        clear hK K
        try simp only [sp4, Act.put, List.setIfInBounds_toArray, List.set_cons_zero, List.set_cons_succ]
        refine wpAnyH_ready (rs := [3, 10]) (by kernel_rfl) (by simp) ?_
        refine (AllReadyH.cons (o := sp3) rfl (fun K hK => ?_) (AllReadyH.cons (o := sp10) rfl (fun K hK => ?_) AllReadyH.nil))
        unfold sp3
        refine N3.step_o M2 (u := q) (h0 := wq1.heap.size) (by simp only [List.mem_cons, true_or, or_true]) (by rfl) (.tmp 59) (.tmp 61) rfl rfl rfl hlo ?_
        intro vo1 wq3 M3
        refine hK.out _ _ trivial fun _ => ?_
        clear hK K
        try simp only [sp3, Act.put, List.setIfInBounds_toArray, List.set_cons_zero, List.set_cons_succ]
        refine wpAnyH_ready (rs := [7, 10]) (by kernel_rfl) (by simp) ?_
        refine (AllReadyH.cons (o := sp7) rfl (fun K hK => ?_) (AllReadyH.cons (o := sp10) rfl (fun K hK => ?_) AllReadyH.nil))
        unfold sp7
        refine N3.step_r M3 (u := r) (h0 := wq0.heap.size) (by simp only [List.mem_cons, true_or, or_true]) (by rfl) (.tmp 63) (.tmp 65) rfl rfl rfl hlr ?_
        intro vr1 wq4 M4
        refine hK.out _ _ trivial fun _ => ?_
        clear hK K
        try simp only [sp7, Act.put, List.setIfInBounds_toArray, List.set_cons_zero, List.set_cons_succ]
        refine wpAnyH_ready (rs := [10]) (by kernel_rfl) (by simp) ?_
        refine (AllReadyH.cons (o := sp10) rfl (fun K hK => ?_) AllReadyH.nil)
        unfold sp10
        go_simp
        have M5 := M4.alloc (k : Int) 3
        generalize (wq4.alloc (Obj.cells #[Value.int .i64 (k : Int)] 3)) = wq5 at M5 ⊢
        refine hK.out _ _ trivial fun _ => ?_
        clear hK K
        try simp only [sp10, Act.put, List.setIfInBounds_toArray, List.set_cons_zero, List.set_cons_succ]
        refine wpAnyH_ready (rs := [11]) (by kernel_rfl) (by simp) ?_
        refine (AllReadyH.cons (o := sp11) rfl (fun K hK => ?_) AllReadyH.nil)
        unfold sp11
        refine N3.step_d M5 (u := (k : Int)) (h0 := wq4.heap.size) (by simp only [List.mem_cons, true_or, or_true]) (by rfl) (.tmp 67) (.tmp 69) rfl rfl rfl hld ?_
        intro vd1 wq6 M6
        refine hK.out _ _ trivial fun _ => ?_
        clear hK K
        try simp only [sp11, Act.put, List.setIfInBounds_toArray, List.set_cons_zero, List.set_cons_succ]
        refine tk (i := 12) (o := sp12) (v := ?vt102) HP0 rfl (by kernel_rfl) (by kernel_rfl) (by kernel_rfl) (by rfl) ?ht102 ?rt102
        case ht102 => (intro w _; unfold sp12; go_simp <;> with_reducible rfl)
        try simp only [sp12, Act.put, List.setIfInBounds_toArray, List.set_cons_zero, List.set_cons_succ]
        refine wpAnyH_ready (rs := [13]) (by kernel_rfl) (by simp) ?_
        refine (AllReadyH.cons (o := sp13) rfl (fun K hK => ?_) AllReadyH.nil)
        have cb : wq6.cell? ⟨w3.heap.size, 0, none⟩ = some vr := (M6.box.cell 0).trans rfl
        have fb := M6.box.free 0
        obtain ⟨A9, c9, e9⟩ := own_slice M6.r
        rw [HR1.out] at e9
        subst e9
        unfold sp13
        go_simp
        have M7 := M6.store (.slice A9 (k + 1) c9)
        clear cb fb
        refine hK.out _ _ trivial fun _ => ?_
        clear hK K
        try simp only [sp13, Act.put, List.setIfInBounds_toArray, List.set_cons_zero, List.set_cons_succ]
        refine tk (i := 14) (o := sp14) (v := ?vt103) HP0 rfl (by kernel_rfl) (by kernel_rfl) (by kernel_rfl) (by rfl) ?ht103 ?rt103
        case ht103 => (intro w _; unfold sp14; go_simp <;> with_reducible rfl)
        try simp only [sp14, Act.put, List.setIfInBounds_toArray, List.set_cons_zero, List.set_cons_succ]
        refine wpAnyH_done (by kernel_rfl) ?_ _
        exact HN0 _ _ (NoPanic.normal ⟨vo1, _, vd1, _, _, _, _, _, _, _, _, _, _, _, _, rfl, M7⟩)
        unfold sp10
        go_simp
        have M4 := M3.alloc (k : Int) 3
        generalize (wq3.alloc (Obj.cells #[Value.int .i64 (k : Int)] 3)) = wq4 at M4 ⊢
        refine hK.out _ _ trivial fun _ => ?_
        clear hK K
        try simp only [sp10, Act.put, List.setIfInBounds_toArray, List.set_cons_zero, List.set_cons_succ]
        refine wpAnyH_ready (rs := [7]) (by kernel_rfl) (by simp) ?_
        refine (AllReadyH.cons (o := sp7) rfl (fun K hK => ?_) AllReadyH.nil)
        unfold sp7
        refine N3.step_r M4 (u := r) (h0 := wq0.heap.size) (by simp only [List.mem_cons, true_or, or_true]) (by rfl) (.tmp 63) (.tmp 65) rfl rfl rfl hlr ?_
        intro vr1 wq5 M5
        refine hK.out _ _ trivial fun _ => ?_
        clear hK K
        try simp only [sp7, Act.put, List.setIfInBounds_toArray, List.set_cons_zero, List.set_cons_succ]
        refine wpAnyH_ready (rs := [11]) (by kernel_rfl) (by simp) ?_
        refine (AllReadyH.cons (o := sp11) rfl (fun K hK => ?_) AllReadyH.nil)
        unfold sp11
        refine N3.step_d M5 (u := (k : Int)) (h0 := wq3.heap.size) (by simp only [List.mem_cons, true_or, or_true]) (by rfl) (.tmp 67) (.tmp 69) rfl rfl rfl hld ?_
        intro vd1 wq6 M6
        refine hK.out _ _ trivial fun _ => ?_
        clear hK K
        try simp only [sp11, Act.put, List.setIfInBounds_toArray, List.set_cons_zero, List.set_cons_succ]
        refine tk (i := 12) (o := sp12) (v := ?vt104) HP0 rfl (by kernel_rfl) (by kernel_rfl) (by kernel_rfl) (by rfl) ?ht104 ?rt104
        case ht104 => (intro w _; unfold sp12; go_simp <;> with_reducible rfl)
        try simp only [sp12, Act.put, List.setIfInBounds_toArray, List.set_cons_zero, List.set_cons_succ]
        refine wpAnyH_ready (rs := [13]) (by kernel_rfl) (by simp) ?_
        refine (AllReadyH.cons (o := sp13) rfl (fun K hK => ?_) AllReadyH.nil)
        have cb : wq6.cell? ⟨w3.heap.size, 0, none⟩ = some vr := (M6.box.cell 0).trans rfl
        have fb := M6.box.free 0
        obtain ⟨A9, c9, e9⟩ := own_slice M6.r
        rw [HR1.out] at e9
        subst e9
        unfold sp13
        go_simp
        have M7 := M6.store (.slice A9 (k + 1) c9)
        clear cb fb
        refine hK.out _ _ trivial fun _ => ?_
        clear hK K
        try simp only [sp13, Act.put, List.setIfInBounds_toArray, List.set_cons_zero, List.set_cons_succ]
        refine tk (i := 14) (o := sp14) (v := ?vt105) HP0 rfl (by kernel_rfl) (by kernel_rfl) (by kernel_rfl) (by rfl) ?ht105 ?rt105
        case ht105 => (intro w _; unfold sp14; go_simp <;> with_reducible rfl)
        try simp only [sp14, Act.put, List.setIfInBounds_toArray, List.set_cons_zero, List.set_cons_succ]
        refine wpAnyH_done (by kernel_rfl) ?_ _
        exact HN0 _ _ (NoPanic.normal ⟨vo1, _, vd1, _, _, _, _, _, _, _, _, _, _, _, _, rfl, M7⟩)
        unfold sp10
        go_simp
        have M3 := M2.alloc (k : Int) 3
        generalize (wq2.alloc (Obj.cells #[Value.int .i64 (k : Int)] 3)) = wq3 at M3 ⊢
        refine hK.out _ _ trivial fun _ => ?_
        clear hK K
        try simp only [sp10, Act.put, List.setIfInBounds_toArray, List.set_cons_zero, List.set_cons_succ]
        refine wpAnyH_ready (rs := [3]) (by kernel_rfl) (by simp) ?_
        refine (AllReadyH.cons (o := sp3) rfl (fun K hK => ?_) AllReadyH.nil)
        unfold sp3
        refine N3.step_o M3 (u := q) (h0 := wq1.heap.size) (by simp only [List.mem_cons, true_or, or_true]) (by rfl) (.tmp 59) (.tmp 61) rfl rfl rfl hlo ?_
        intro vo1 wq4 M4
        refine hK.out _ _ trivial fun _ => ?_
        clear hK K
        try simp only [sp3, Act.put, List.setIfInBounds_toArray, List.set_cons_zero, List.set_cons_succ]
        refine wpAnyH_ready (rs := [7]) (by kernel_rfl) (by simp) ?_
        refine (AllReadyH.cons (o := sp7) rfl (fun K hK => ?_) AllReadyH.nil)
        unfold sp7
        refine N3.step_r M4 (u := r) (h0 := wq0.heap.size) (by simp only [List.mem_cons, true_or, or_true]) (by rfl) (.tmp 63) (.tmp 65) rfl rfl rfl hlr ?_
        intro vr1 wq5 M5
        refine hK.out _ _ trivial fun _ => ?_
        clear hK K
        try simp only [sp7, Act.put, List.setIfInBounds_toArray, List.set_cons_zero, List.set_cons_succ]
        refine wpAnyH_ready (rs := [11]) (by kernel_rfl) (by simp) ?_
        refine (AllReadyH.cons (o := sp11) rfl (fun K hK => ?_) AllReadyH.nil)
        unfold sp11
        refine N3.step_d M5 (u := (k : Int)) (h0 := wq2.heap.size) (by simp only [List.mem_cons, true_or, or_true]) (by rfl) (.tmp 67) (.tmp 69) rfl rfl rfl hld ?_
        intro vd1 wq6 M6
        refine hK.out _ _ trivial fun _ => ?_
        clear hK K
        try simp only [sp11, Act.put, List.setIfInBounds_toArray, List.set_cons_zero, List.set_cons_succ]
        refine tk (i := 12) (o := sp12) (v := ?vt106) HP0 rfl (by kernel_rfl) (by kernel_rfl) (by kernel_rfl) (by rfl) ?ht106 ?rt106
        case ht106 => (intro w _; unfold sp12; go_simp <;> with_reducible rfl)
        try simp only [sp12, Act.put, List.setIfInBounds_toArray, List.set_cons_zero, List.set_cons_succ]
        refine wpAnyH_ready (rs := [13]) (by kernel_rfl) (by simp) ?_
        refine (AllReadyH.cons (o := sp13) rfl (fun K hK => ?_) AllReadyH.nil)
        have cb : wq6.cell? ⟨w3.heap.size, 0, none⟩ = some vr := (M6.box.cell 0).trans rfl
        have fb := M6.box.free 0
        obtain ⟨A9, c9, e9⟩ := own_slice M6.r
        rw [HR1.out] at e9
        subst e9
        unfold sp13
        go_simp
        have M7 := M6.store (.slice A9 (k + 1) c9)
        clear cb fb
        refine hK.out _ _ trivial fun _ => ?_
        clear hK K
        try simp only [sp13, Act.put, List.setIfInBounds_toArray, List.set_cons_zero, List.set_cons_succ]
        refine tk (i := 14) (o := sp14) (v := ?vt107) HP0 rfl (by kernel_rfl) (by kernel_rfl) (by kernel_rfl) (by rfl) ?ht107 ?rt107
        case ht107 => (intro w _; unfold sp14; go_simp <;> with_reducible rfl)
        try simp only [sp14, Act.put, List.setIfInBounds_toArray, List.set_cons_zero, List.set_cons_succ]
        refine wpAnyH_done (by kernel_rfl) ?_ _
        exact HN0 _ _ (NoPanic.normal ⟨vo1, _, vd1, _, _, _, _, _, _, _, _, _, _, _, _, rfl, M7⟩)
        unfold sp10
        go_simp
        have M3 := M2.alloc (k : Int) 3
        generalize (wq2.alloc (Obj.cells #[Value.int .i64 (k : Int)] 3)) = wq3 at M3 ⊢
        refine hK.out _ _ trivial fun _ => ?_
        clear hK K
        try simp only [sp10, Act.put, List.setIfInBounds_toArray, List.set_cons_zero, List.set_cons_succ]
        refine wpAnyH_ready (rs := [3, 4]) (by kernel_rfl) (by simp) ?_
        refine (AllReadyH.cons (o := sp3) rfl (fun K hK => ?_) (AllReadyH.cons (o := sp4) rfl (fun K hK => ?_) AllReadyH.nil))
        unfold sp3
        refine N3.step_o M3 (u := q) (h0 := wq1.heap.size) (by simp only [List.mem_cons, true_or, or_true]) (by rfl) (.tmp 59) (.tmp 61) rfl rfl rfl hlo ?_
        intro vo1 wq4 M4
        refine hK.out _ _ trivial fun _ => ?_
        clear hK K
        try simp only [sp3, Act.put, List.setIfInBounds_toArray, List.set_cons_zero, List.set_cons_succ]
        refine wpAnyH_ready (rs := [4]) (by kernel_rfl) (by simp) ?_
        refine (AllReadyH.cons (o := sp4) rfl (fun K hK => ?_) AllReadyH.nil)
        have cb : wq4.cell? ⟨w3.heap.size, 0, none⟩ = some vr := (M4.box.cell 0).trans rfl
        unfold sp4
        go_simp
        clear cb
        refine hK.out _ _ trivial fun _ => ?_
        clear hK K
        try simp only [sp4, Act.put, List.setIfInBounds_toArray, List.set_cons_zero, List.set_cons_succ]
        refine wpAnyH_ready (rs := [7]) (by kernel_rfl) (by simp) ?_
        refine (AllReadyH.cons (o := sp7) rfl (fun K hK => ?_) AllReadyH.nil)
        unfold sp7
        refine N3.step_r M4 (u := r) (h0 := wq0.heap.size) (by simp only [List.mem_cons, true_or, or_true]) (by rfl) (.tmp 63) (.tmp 65) rfl rfl rfl hlr ?_
        intro vr1 wq5 M5
        refine hK.out _ _ trivial fun _ => ?_
        clear hK K
        try simp only [sp7, Act.put, List.setIfInBounds_toArray, List.set_cons_zero, List.set_cons_succ]
        refine wpAnyH_ready (rs := [11]) (by kernel_rfl) (by simp) ?_
        refine (AllReadyH.cons (o := sp11) rfl (fun K hK => ?_) AllReadyH.nil)
        unfold sp11
        refine N3.step_d M5 (u := (k : Int)) (h0 := wq2.heap.size) (by simp only [List.mem_cons, true_or, or_true]) (by rfl) (.tmp 67) (.tmp 69) rfl rfl rfl hld ?_
        intro vd1 wq6 M6
        refine hK.out _ _ trivial fun _ => ?_
        clear hK K
        try simp only [sp11, Act.put, List.setIfInBounds_toArray, List.set_cons_zero, List.set_cons_succ]
        refine tk (i := 12) (o := sp12) (v := ?vt108) HP0 rfl (by kernel_rfl) (by kernel_rfl) (by kernel_rfl) (by rfl) ?ht108 ?rt108
        case ht108 => (intro w _; unfold sp12; go_simp <;> with_reducible rfl)
        try simp only [sp12, Act.put, List.setIfInBounds_toArray, List.set_cons_zero, List.set_cons_succ]
        refine wpAnyH_ready (rs := [13]) (by kernel_rfl) (by simp) ?_
        refine (AllReadyH.cons (o := sp13) rfl (fun K hK => ?_) AllReadyH.nil)
        have cb : wq6.cell? ⟨w3.heap.size, 0, none⟩ = some vr := (M6.box.cell 0).trans rfl
        have fb := M6.box.free 0
        obtain ⟨A9, c9, e9⟩ := own_slice M6.r
        rw [HR1.out] at e9
        subst e9
        unfold sp13
        go_simp
        have M7 := M6.store (.slice A9 (k + 1) c9)
        clear cb fb
        refine hK.out _ _ trivial fun _ => ?_
        clear hK K
        try simp only [sp13, Act.put, List.setIfInBounds_toArray, List.set_cons_zero, List.set_cons_succ]
        refine tk (i := 14) (o := sp14) (v := ?vt109) HP0 rfl (by kernel_rfl) (by kernel_rfl) (by kernel_rfl) (by rfl) ?ht109 ?rt109
        case ht109 => (intro w _; unfold sp14; go_simp <;> with_reducible rfl)
        try simp only [sp14, Act.put, List.setIfInBounds_toArray, List.set_cons_zero, List.set_cons_succ]
        refine wpAnyH_done (by kernel_rfl) ?_ _
        exact HN0 _ _ (NoPanic.normal ⟨vo1, _, vd1, _, _, _, _, _, _, _, _, _, _, _, _, rfl, M7⟩)
        have cb : wq3.cell? ⟨w3.heap.size, 0, none⟩ = some vr := (M3.box.cell 0).trans rfl
        unfold sp4
        go_simp
        clear cb
        refine hK.out _ _ trivial fun _ => ?_
        clear hK K
        try simp only [sp4, Act.put, List.setIfInBounds_toArray, List.set_cons_zero, List.set_cons_succ]
        refine wpAnyH_ready (rs := [3]) (by kernel_rfl) (by simp) ?_
        refine (AllReadyH.cons (o := sp3) rfl (fun K hK => ?_) AllReadyH.nil)
        unfold sp3
        refine N3.step_o M3 (u := q) (h0 := wq1.heap.size) (by simp only [List.mem_cons, true_or, or_true]) (by rfl) (.tmp 59) (.tmp 61) rfl rfl rfl hlo ?_
        intro vo1 wq4 M4
        refine hK.out _ _ trivial fun _ => ?_
        clear hK K
        try simp only [sp3, Act.put, List.setIfInBounds_toArray, List.set_cons_zero, List.set_cons_succ]
        refine wpAnyH_ready (rs := [7]) (by kernel_rfl) (by simp) ?_
        refine (AllReadyH.cons (o := sp7) rfl (fun K hK => ?_) AllReadyH.nil)
        unfold sp7
        refine N3.step_r M4 (u := r) (h0 := wq0.heap.size) (by simp only [List.mem_cons, true_or, or_true]) (by rfl) (.tmp 63) (.tmp 65) rfl rfl rfl hlr ?_
        intro vr1 wq5 M5
        refine hK.out _ _ trivial fun _ => ?_
        clear hK K
        try simp only [sp7, Act.put, List.setIfInBounds_toArray, List.set_cons_zero, List.set_cons_succ]
        refine wpAnyH_ready (rs := [11]) (by kernel_rfl) (by simp) ?_
        refine (AllReadyH.cons (o := sp11) rfl (fun K hK => ?_) AllReadyH.nil)
        unfold sp11
        refine N3.step_d M5 (u := (k : Int)) (h0 := wq2.heap.size) (by simp only [List.mem_cons, true_or, or_true]) (by rfl) (.tmp 67) (.tmp 69) rfl rfl rfl hld ?_
        intro vd1 wq6 M6
        refine hK.out _ _ trivial fun _ => ?_
        clear hK K
        try simp only [sp11, Act.put, List.setIfInBounds_toArray, List.set_cons_zero, List.set_cons_succ]
        refine tk (i := 12) (o := sp12) (v := ?vt110) HP0 rfl (by kernel_rfl) (by kernel_rfl) (by kernel_rfl) (by rfl) ?ht110 ?rt110
        case ht110 => (intro w _; unfold sp12; go_simp <;> with_reducible rfl)
        try simp only [sp12, Act.put, List.setIfInBounds_toArray, List.set_cons_zero, List.set_cons_succ]
        refine wpAnyH_ready (rs := [13]) (by kernel_rfl) (by simp) ?_
        refine (AllReadyH.cons (o := sp13) rfl (fun K hK => ?_) AllReadyH.nil)
        have cb : wq6.cell? ⟨w3.heap.size, 0, none⟩ = some vr := (M6.box.cell 0).trans rfl
        have fb := M6.box.free 0
        obtain ⟨A9, c9, e9⟩ := own_slice M6.r
        rw [HR1.out] at e9
        subst e9
        unfold sp13
        go_simp
        have M7 := M6.store (.slice A9 (k + 1) c9)
        clear cb fb
        refine hK.out _ _ trivial fun _ => ?_
        clear hK K
        try simp only [sp13, Act.put, List.setIfInBounds_toArray, List.set_cons_zero, List.set_cons_succ]
        refine tk (i := 14) (o := sp14) (v := ?vt111) HP0 rfl (by kernel_rfl) (by kernel_rfl) (by kernel_rfl) (by rfl) ?ht111 ?rt111
        case ht111 => (intro w _; unfold sp14; go_simp <;> with_reducible rfl)
        try simp only [sp14, Act.put, List.setIfInBounds_toArray, List.set_cons_zero, List.set_cons_succ]
        refine wpAnyH_done (by kernel_rfl) ?_ _
        exact HN0 _ _ (NoPanic.normal ⟨vo1, _, vd1, _, _, _, _, _, _, _, _, _, _, _, _, rfl, M7⟩)
        have cb : wq1.cell? ⟨w3.heap.size, 0, none⟩ = some vr := (M1.box.cell 0).trans rfl
        unfold sp4
        go_simp
        clear cb
        refine hK.out _ _ trivial fun _ => ?_
        clear hK K
        try simp only [sp4, Act.put, List.setIfInBounds_toArray, List.set_cons_zero, List.set_cons_succ]
        refine wpAnyH_ready (rs := [2, 10]) (by kernel_rfl) (by simp) ?_
        refine (AllReadyH.cons (o := sp2) rfl (fun K hK => ?_) (AllReadyH.cons (o := sp10) rfl (fun K hK => ?_) AllReadyH.nil))
        unfold sp2
        go_simp
        have M2 := M1.alloc q 2
        generalize (wq1.alloc (Obj.cells #[Value.int .i64 q] 2)) = wq2 at M2 ⊢
        refine hK.out _ _ trivial fun _ => ?_
        clear hK K
        try simp only [sp2, Act.put, List.setIfInBounds_toArray, List.set_cons_zero, List.set_cons_succ]
        refine wpAnyH_ready (rs := [3, 10]) (by kernel_rfl) (by simp) ?_
        refine (AllReadyH.cons (o := sp3) rfl (fun K hK => ?_) (AllReadyH.cons (o := sp10) rfl (fun K hK => ?_) AllReadyH.nil))
        unfold sp3
        refine N3.step_o M2 (u := q) (h0 := wq1.heap.size) (by simp only [List.mem_cons, true_or, or_true]) (by rfl) (.tmp 59) (.tmp 61) rfl rfl rfl hlo ?_
        intro vo1 wq3 M3
        refine hK.out _ _ trivial fun _ => ?_
        clear hK K
        try simp only [sp3, Act.put, List.setIfInBounds_toArray, List.set_cons_zero, List.set_cons_succ]
        refine wpAnyH_ready (rs := [7, 10]) (by kernel_rfl) (by simp) ?_
        refine (AllReadyH.cons (o := sp7) rfl (fun K hK => ?_) (AllReadyH.cons (o := sp10) rfl (fun K hK => ?_) AllReadyH.nil))
        unfold sp7
        refine N3.step_r M3 (u := r) (h0 := wq0.heap.size) (by simp only [List.mem_cons, true_or, or_true]) (by rfl) (.tmp 63) (.tmp 65) rfl rfl rfl hlr ?_
        intro vr1 wq4 M4
        refine hK.out _ _ trivial fun _ => ?_
        clear hK K
        try simp only [sp7, Act.put, List.setIfInBounds_toArray, List.set_cons_zero, List.set_cons_succ]
        refine wpAnyH_ready (rs := [10]) (by kernel_rfl) (by simp) ?_
        refine (AllReadyH.cons (o := sp10) rfl (fun K hK => ?_) AllReadyH.nil)
        unfold sp10
        go_simp
        have M5 := M4.alloc (k : Int) 3
        generalize (wq4.alloc (Obj.cells #[Value.int .i64 (k : Int)] 3)) = wq5 at M5 ⊢
        refine hK.out _ _ trivial fun _ => ?_
        clear hK K
        try simp only [sp10, Act.put, List.setIfInBounds_toArray, List.set_cons_zero, List.set_cons_succ]
        refine wpAnyH_ready (rs := [11]) (by kernel_rfl) (by simp) ?_
        refine (AllReadyH.cons (o := sp11) rfl (fun K hK => ?_) AllReadyH.nil)
        unfold sp11
        refine N3.step_d M5 (u := (k : Int)) (h0 := wq4.heap.size) (by simp only [List.mem_cons, true_or, or_true]) (by rfl) (.tmp 67) (.tmp 69) rfl rfl rfl hld ?_
        intro vd1 wq6 M6
        refine hK.out _ _ trivial fun _ => ?_
        clear hK K
        try simp only [sp11, Act.put, List.setIfInBounds_toArray, List.set_cons_zero, List.set_cons_succ]
        refine tk (i := 12) (o := sp12) (v := ?vt112) HP0 rfl (by kernel_rfl) (by kernel_rfl) (by kernel_rfl) (by rfl) ?ht112 ?rt112
        case ht112 => (intro w _; unfold sp12; go_simp <;> with_reducible rfl)
        try simp only [sp12, Act.put, List.setIfInBounds_toArray, List.set_cons_zero, List.set_cons_succ]
        refine wpAnyH_ready (rs := [13]) (by kernel_rfl) (by simp) ?_
        refine (AllReadyH.cons (o := sp13) rfl (fun K hK => ?_) AllReadyH.nil)
        have cb : wq6.cell? ⟨w3.heap.size, 0, none⟩ = some vr := (M6.box.cell 0).trans rfl
        have fb := M6.box.free 0
        obtain ⟨A9, c9, e9⟩ := own_slice M6.r
        rw [HR1.out] at e9
        subst e9
        unfold sp13
        go_simp
        have M7 := M6.store (.slice A9 (k + 1) c9)
        clear cb fb
        refine hK.out _ _ trivial fun _ => ?_
        clear hK K
        try simp only [sp13, Act.put, List.setIfInBounds_toArray, List.set_cons_zero, List.set_cons_succ]
        refine tk (i := 14) (o := sp14) (v := ?vt113) HP0 rfl (by kernel_rfl) (by kernel_rfl) (by kernel_rfl) (by rfl) ?ht113 ?rt113
        case ht113 => (intro w _; unfold sp14; go_simp <;> with_reducible rfl)
        try simp only [sp14, Act.put, List.setIfInBounds_toArray, List.set_cons_zero, List.set_cons_succ]
        refine wpAnyH_done (by kernel_rfl) ?_ _
        exact HN0 _ _ (NoPanic.normal ⟨vo1, _, vd1, _, _, _, _, _, _, _, _, _, _, _, _, rfl, M7⟩)
        unfold sp10
        go_simp
        have M4 := M3.alloc (k : Int) 3
        generalize (wq3.alloc (Obj.cells #[Value.int .i64 (k : Int)] 3)) = wq4 at M4 ⊢
        refine hK.out _ _ trivial fun _ => ?_
        clear hK K
        try simp only [sp10, Act.put, List.setIfInBounds_toArray, List.set_cons_zero, List.set_cons_succ]
        refine wpAnyH_ready (rs := [7]) (by kernel_rfl) (by simp) ?_
        refine (AllReadyH.cons (o := sp7) rfl (fun K hK => ?_) AllReadyH.nil)
        unfold sp7
        refine N3.step_r M4 (u := r) (h0 := wq0.heap.size) (by simp only [List.mem_cons, true_or, or_true]) (by rfl) (.tmp 63) (.tmp 65) rfl rfl rfl hlr ?_
        intro vr1 wq5 M5
        refine hK.out _ _ trivial fun _ => ?_
        clear hK K
        try simp only [sp7, Act.put, List.setIfInBounds_toArray, List.set_cons_zero, List.set_cons_succ]
        refine wpAnyH_ready (rs := [11]) (by kernel_rfl) (by simp) ?_
        refine (AllReadyH.cons (o := sp11) rfl (fun K hK => ?_) AllReadyH.nil)
        unfold sp11
        refine N3.step_d M5 (u := (k : Int)) (h0 := wq3.heap.size) (by simp only [List.mem_cons, true_or, or_true]) (by rfl) (.tmp 67) (.tmp 69) rfl rfl rfl hld ?_
        intro vd1 wq6 M6
        refine hK.out _ _ trivial fun _ => ?_
        clear hK K
        try simp only [sp11, Act.put, List.setIfInBounds_toArray, List.set_cons_zero, List.set_cons_succ]
        refine tk (i := 12) (o := sp12) (v := ?vt114) HP0 rfl (by kernel_rfl) (by kernel_rfl) (by kernel_rfl) (by rfl) ?ht114 ?rt114
        case ht114 => (intro w _; unfold sp12; go_simp <;> with_reducible rfl)
        try simp only [sp12, Act.put, List.setIfInBounds_toArray, List.set_cons_zero, List.set_cons_succ]
        refine wpAnyH_ready (rs := [13]) (by kernel_rfl) (by simp) ?_
        refine (AllReadyH.cons (o := sp13) rfl (fun K hK => ?_) AllReadyH.nil)
        have cb : wq6.cell? ⟨w3.heap.size, 0, none⟩ = some vr := (M6.box.cell 0).trans rfl
        have fb := M6.box.free 0
        obtain ⟨A9, c9, e9⟩ := own_slice M6.r
        rw [HR1.out] at e9
        subst e9
        unfold sp13
        go_simp
        have M7 := M6.store (.slice A9 (k + 1) c9)
        clear cb fb
        refine hK.out _ _ trivial fun _ => ?_
        clear hK K
        try simp only [sp13, Act.put, List.setIfInBounds_toArray, List.set_cons_zero, List.set_cons_succ]
        refine tk (i := 14) (o := sp14) (v := ?vt115) HP0 rfl (by kernel_rfl) (by kernel_rfl) (by kernel_rfl) (by rfl) ?ht115 ?rt115
        case ht115 => (intro w _; unfold sp14; go_simp <;> with_reducible rfl)
        try simp only [sp14, Act.put, List.setIfInBounds_toArray, List.set_cons_zero, List.set_cons_succ]
        refine wpAnyH_done (by kernel_rfl) ?_ _
        exact HN0 _ _ (NoPanic.normal ⟨vo1, _, vd1, _, _, _, _, _, _, _, _, _, _, _, _, rfl, M7⟩)
        unfold sp10
        go_simp
        have M3 := M2.alloc (k : Int) 3
        generalize (wq2.alloc (Obj.cells #[Value.int .i64 (k : Int)] 3)) = wq3 at M3 ⊢
        refine hK.out _ _ trivial fun _ => ?_
        clear hK K
        try simp only [sp10, Act.put, List.setIfInBounds_toArray, List.set_cons_zero, List.set_cons_succ]
        refine wpAnyH_ready (rs := [3]) (by kernel_rfl) (by simp) ?_
        refine (AllReadyH.cons (o := sp3) rfl (fun K hK => ?_) AllReadyH.nil)
        unfold sp3
        refine N3.step_o M3 (u := q) (h0 := wq1.heap.size) (by simp only [List.mem_cons, true_or, or_true]) (by rfl) (.tmp 59) (.tmp 61) rfl rfl rfl hlo ?_
        intro vo1 wq4 M4
        refine hK.out _ _ trivial fun _ => ?_
        clear hK K
        try simp only [sp3, Act.put, List.setIfInBounds_toArray, List.set_cons_zero, List.set_cons_succ]
        refine wpAnyH_ready (rs := [7]) (by kernel_rfl) (by simp) ?_
        refine (AllReadyH.cons (o := sp7) rfl (fun K hK => ?_) AllReadyH.nil)
        unfold sp7
        refine N3.step_r M4 (u := r) (h0 := wq0.heap.size) (by simp only [List.mem_cons, true_or, or_true]) (by rfl) (.tmp 63) (.tmp 65) rfl rfl rfl hlr ?_
        intro vr1 wq5 M5
        refine hK.out _ _ trivial fun _ => ?_
        clear hK K
        try simp only [sp7, Act.put, List.setIfInBounds_toArray, List.set_cons_zero, List.set_cons_succ]
        refine wpAnyH_ready (rs := [11]) (by kernel_rfl) (by simp) ?_
        refine (AllReadyH.cons (o := sp11) rfl (fun K hK => ?_) AllReadyH.nil)
        unfold sp11
        refine N3.step_d M5 (u := (k : Int)) (h0 := wq2.heap.size) (by simp only [List.mem_cons, true_or, or_true]) (by rfl) (.tmp 67) (.tmp 69) rfl rfl rfl hld ?_
        intro vd1 wq6 M6
        refine hK.out _ _ trivial fun _ => ?_
        clear hK K
        try simp only [sp11, Act.put, List.setIfInBounds_toArray, List.set_cons_zero, List.set_cons_succ]
        refine tk (i := 12) (o := sp12) (v := ?vt116) HP0 rfl (by kernel_rfl) (by kernel_rfl) (by kernel_rfl) (by rfl) ?ht116 ?rt116
        case ht116 => (intro w _; unfold sp12; go_simp <;> with_reducible rfl)
        try simp only [sp12, Act.put, List.setIfInBounds_toArray, List.set_cons_zero, List.set_cons_succ]
        refine wpAnyH_ready (rs := [13]) (by kernel_rfl) (by simp) ?_
        refine (AllReadyH.cons (o := sp13) rfl (fun K hK => ?_) AllReadyH.nil)
        have cb : wq6.cell? ⟨w3.heap.size, 0, none⟩ = some vr := (M6.box.cell 0).trans rfl
        have fb := M6.box.free 0
        obtain ⟨A9, c9, e9⟩ := own_slice M6.r
        rw [HR1.out] at e9
        subst e9
        unfold sp13
        go_simp
        have M7 := M6.store (.slice A9 (k + 1) c9)
        clear cb fb
        refine hK.out _ _ trivial fun _ => ?_
        clear hK K
        try simp only [sp13, Act.put, List.setIfInBounds_toArray, List.set_cons_zero, List.set_cons_succ]
        refine tk (i := 14) (o := sp14) (v := ?vt117) HP0 rfl (by kernel_rfl) (by kernel_rfl) (by kernel_rfl) (by rfl) ?ht117 ?rt117
        case ht117 => (intro w _; unfold sp14; go_simp <;> with_reducible rfl)
        try simp only [sp14, Act.put, List.setIfInBounds_toArray, List.set_cons_zero, List.set_cons_succ]
        refine wpAnyH_done (by kernel_rfl) ?_ _
        exact HN0 _ _ (NoPanic.normal ⟨vo1, _, vd1, _, _, _, _, _, _, _, _, _, _, _, _, rfl, M7⟩)
        unfold sp10
        go_simp
        have M2 := M1.alloc (k : Int) 3
        generalize (wq1.alloc (Obj.cells #[Value.int .i64 (k : Int)] 3)) = wq2 at M2 ⊢
        refine hK.out _ _ trivial fun _ => ?_
        clear hK K
        try simp only [sp10, Act.put, List.setIfInBounds_toArray, List.set_cons_zero, List.set_cons_succ]
        refine wpAnyH_ready (rs := [2]) (by kernel_rfl) (by simp) ?_
        refine (AllReadyH.cons (o := sp2) rfl (fun K hK => ?_) AllReadyH.nil)
        unfold sp2
        go_simp
        have M3 := M2.alloc q 2
        generalize (wq2.alloc (Obj.cells #[Value.int .i64 q] 2)) = wq3 at M3 ⊢
        refine hK.out _ _ trivial fun _ => ?_
        clear hK K
        try simp only [sp2, Act.put, List.setIfInBounds_toArray, List.set_cons_zero, List.set_cons_succ]
        refine wpAnyH_ready (rs := [3]) (by kernel_rfl) (by simp) ?_
        refine (AllReadyH.cons (o := sp3) rfl (fun K hK => ?_) AllReadyH.nil)
        unfold sp3
        refine N3.step_o M3 (u := q) (h0 := wq2.heap.size) (by simp only [List.mem_cons, true_or, or_true]) (by rfl) (.tmp 59) (.tmp 61) rfl rfl rfl hlo ?_
        intro vo1 wq4 M4
        refine hK.out _ _ trivial fun _ => ?_
        clear hK K
        try simp only [sp3, Act.put, List.setIfInBounds_toArray, List.set_cons_zero, List.set_cons_succ]
        refine wpAnyH_ready (rs := [7]) (by kernel_rfl) (by simp) ?_
        refine (AllReadyH.cons (o := sp7) rfl (fun K hK => ?_) AllReadyH.nil)
        unfold sp7
        refine N3.step_r M4 (u := r) (h0 := wq0.heap.size) (by simp only [List.mem_cons, true_or, or_true]) (by rfl) (.tmp 63) (.tmp 65) rfl rfl rfl hlr ?_
        intro vr1 wq5 M5
        refine hK.out _ _ trivial fun _ => ?_
        clear hK K
        try simp only [sp7, Act.put, List.setIfInBounds_toArray, List.set_cons_zero, List.set_cons_succ]
        refine wpAnyH_ready (rs := [11]) (by kernel_rfl) (by simp) ?_
        refine (AllReadyH.cons (o := sp11) rfl (fun K hK => ?_) AllReadyH.nil)
        unfold sp11
        refine N3.step_d M5 (u := (k : Int)) (h0 := wq1.heap.size) (by simp only [List.mem_cons, true_or, or_true]) (by rfl) (.tmp 67) (.tmp 69) rfl rfl rfl hld ?_
        intro vd1 wq6 M6
        refine hK.out _ _ trivial fun _ => ?_
        clear hK K
        try simp only [sp11, Act.put, List.setIfInBounds_toArray, List.set_cons_zero, List.set_cons_succ]
        refine tk (i := 12) (o := sp12) (v := ?vt118) HP0 rfl (by kernel_rfl) (by kernel_rfl) (by kernel_rfl) (by rfl) ?ht118 ?rt118
        case ht118 => (intro w _; unfold sp12; go_simp <;> with_reducible rfl)
        try simp only [sp12, Act.put, List.setIfInBounds_toArray, List.set_cons_zero, List.set_cons_succ]
        refine wpAnyH_ready (rs := [13]) (by kernel_rfl) (by simp) ?_
        refine (AllReadyH.cons (o := sp13) rfl (fun K hK => ?_) AllReadyH.nil)
        have cb : wq6.cell? ⟨w3.heap.size, 0, none⟩ = some vr := (M6.box.cell 0).trans rfl
        have fb := M6.box.free 0
        obtain ⟨A9, c9, e9⟩ := own_slice M6.r
        rw [HR1.out] at e9
        subst e9
        unfold sp13
        go_simp
        have M7 := M6.store (.slice A9 (k + 1) c9)
        clear cb fb
        refine hK.out _ _ trivial fun _ => ?_
        clear hK K
        try simp only [sp13, Act.put, List.setIfInBounds_toArray, List.set_cons_zero, List.set_cons_succ]
        refine tk (i := 14) (o := sp14) (v := ?vt119) HP0 rfl (by kernel_rfl) (by kernel_rfl) (by kernel_rfl) (by rfl) ?ht119 ?rt119
        case ht119 => (intro w _; unfold sp14; go_simp <;> with_reducible rfl)
        try simp only [sp14, Act.put, List.setIfInBounds_toArray, List.set_cons_zero, List.set_cons_succ]
        refine wpAnyH_done (by kernel_rfl) ?_ _
        exact HN0 _ _ (NoPanic.normal ⟨vo1, _, vd1, _, _, _, _, _, _, _, _, _, _, _, _, rfl, M7⟩)
        unfold sp10
        go_simp
        have M2 := M1.alloc (k : Int) 3
        generalize (wq1.alloc (Obj.cells #[Value.int .i64 (k : Int)] 3)) = wq2 at M2 ⊢
        refine hK.out _ _ trivial fun _ => ?_
        clear hK K
        try simp only [sp10, Act.put, List.setIfInBounds_toArray, List.set_cons_zero, List.set_cons_succ]
        refine wpAnyH_ready (rs := [2, 4]) (by kernel_rfl) (by simp) ?_
        refine (AllReadyH.cons (o := sp2) rfl (fun K hK => ?_) (AllReadyH.cons (o := sp4) rfl (fun K hK => ?_) AllReadyH.nil))
        unfold sp2
        go_simp
        have M3 := M2.alloc q 2
        generalize (wq2.alloc (Obj.cells #[Value.int .i64 q] 2)) = wq3 at M3 ⊢
        refine hK.out _ _ trivial fun _ => ?_
        clear hK K
        try simp only [sp2, Act.put, List.setIfInBounds_toArray, List.set_cons_zero, List.set_cons_succ]
        refine wpAnyH_ready (rs := [3, 4]) (by kernel_rfl) (by simp) ?_
        refine (AllReadyH.cons (o := sp3) rfl (fun K hK => ?_) (AllReadyH.cons (o := sp4) rfl (fun K hK => ?_) AllReadyH.nil))
        unfold sp3
        refine N3.step_o M3 (u := q) (h0 := wq2.heap.size) (by simp only [List.mem_cons, true_or, or_true]) (by rfl) (.tmp 59) (.tmp 61) rfl rfl rfl hlo ?_
        intro vo1 wq4 M4
        refine hK.out _ _ trivial fun _ => ?_
        clear hK K
        try simp only [sp3, Act.put, List.setIfInBounds_toArray, List.set_cons_zero, List.set_cons_succ]
        refine wpAnyH_ready (rs := [4]) (by kernel_rfl) (by simp) ?_
        refine (AllReadyH.cons (o := sp4) rfl (fun K hK => ?_) AllReadyH.nil)
        have cb : wq4.cell? ⟨w3.heap.size, 0, none⟩ = some vr := (M4.box.cell 0).trans rfl
        unfold sp4
        go_simp
        clear cb
        refine hK.out _ _ trivial fun _ => ?_
        clear hK K
        try simp only [sp4, Act.put, List.setIfInBounds_toArray, List.set_cons_zero, List.set_cons_succ]
        refine wpAnyH_ready (rs := [7]) (by kernel_rfl) (by simp) ?_
        refine (AllReadyH.cons (o := sp7) rfl (fun K hK => ?_) AllReadyH.nil)
        unfold sp7
        refine N3.step_r M4 (u := r) (h0 := wq0.heap.size) (by simp only [List.mem_cons, true_or, or_true]) (by rfl) (.tmp 63) (.tmp 65) rfl rfl rfl hlr ?_
        intro vr1 wq5 M5
        refine hK.out _ _ trivial fun _ => ?_
        clear hK K
        try simp only [sp7, Act.put, List.setIfInBounds_toArray, List.set_cons_zero, List.set_cons_succ]
        refine wpAnyH_ready (rs := [11]) (by kernel_rfl) (by simp) ?_
        refine (AllReadyH.cons (o := sp11) rfl (fun K hK => ?_) AllReadyH.nil)
        unfold sp11
        refine N3.step_d M5 (u := (k : Int)) (h0 := wq1.heap.size) (by simp only [List.mem_cons, true_or, or_true]) (by rfl) (.tmp 67) (.tmp 69) rfl rfl rfl hld ?_
        intro vd1 wq6 M6
        refine hK.out _ _ trivial fun _ => ?_
        clear hK K
        try simp only [sp11, Act.put, List.setIfInBounds_toArray, List.set_cons_zero, List.set_cons_succ]
        refine tk (i := 12) (o := sp12) (v := ?vt120) HP0 rfl (by kernel_rfl) (by kernel_rfl) (by kernel_rfl) (by rfl) ?ht120 ?rt120
        case ht120 => (intro w _; unfold sp12; go_simp <;> with_reducible rfl)
        try simp only [sp12, Act.put, List.setIfInBounds_toArray, List.set_cons_zero, List.set_cons_succ]
        refine wpAnyH_ready (rs := [13]) (by kernel_rfl) (by simp) ?_
        refine (AllReadyH.cons (o := sp13) rfl (fun K hK => ?_) AllReadyH.nil)
        have cb : wq6.cell? ⟨w3.heap.size, 0, none⟩ = some vr := (M6.box.cell 0).trans rfl
        have fb := M6.box.free 0
        obtain ⟨A9, c9, e9⟩ := own_slice M6.r
        rw [HR1.out] at e9
        subst e9
        unfold sp13
        go_simp
        have M7 := M6.store (.slice A9 (k + 1) c9)
        clear cb fb
        refine hK.out _ _ trivial fun _ => ?_
        clear hK K
        try simp only [sp13, Act.put, List.setIfInBounds_toArray, List.set_cons_zero, List.set_cons_succ]
        refine tk (i := 14) (o := sp14) (v := ?vt121) HP0 rfl (by kernel_rfl) (by kernel_rfl) (by kernel_rfl) (by rfl) ?ht121 ?rt121
        case ht121 => (intro w _; unfold sp14; go_simp <;> with_reducible rfl)
        try simp only [sp14, Act.put, List.setIfInBounds_toArray, List.set_cons_zero, List.set_cons_succ]
        refine wpAnyH_done (by kernel_rfl) ?_ _
        exact HN0 _ _ (NoPanic.normal ⟨vo1, _, vd1, _, _, _, _, _, _, _, _, _, _, _, _, rfl, M7⟩)
        have cb : wq3.cell? ⟨w3.heap.size, 0, none⟩ = some vr := (M3.box.cell 0).trans rfl
        unfold sp4
        go_simp
        clear cb
        refine hK.out _ _ trivial fun _ => ?_
        clear hK K
        try simp only [sp4, Act.put, List.setIfInBounds_toArray, List.set_cons_zero, List.set_cons_succ]
        refine wpAnyH_ready (rs := [3]) (by kernel_rfl) (by simp) ?_
        refine (AllReadyH.cons (o := sp3) rfl (fun K hK => ?_) AllReadyH.nil)
        unfold sp3
        refine N3.step_o M3 (u := q) (h0 := wq2.heap.size) (by simp only [List.mem_cons, true_or, or_true]) (by rfl) (.tmp 59) (.tmp 61) rfl rfl rfl hlo ?_
        intro vo1 wq4 M4
        refine hK.out _ _ trivial fun _ => ?_
        clear hK K
        try simp only [sp3, Act.put, List.setIfInBounds_toArray, List.set_cons_zero, List.set_cons_succ]
        refine wpAnyH_ready (rs := [7]) (by kernel_rfl) (by simp) ?_
        refine (AllReadyH.cons (o := sp7) rfl (fun K hK => ?_) AllReadyH.nil)
        unfold sp7
        refine N3.step_r M4 (u := r) (h0 := wq0.heap.size) (by simp only [List.mem_cons, true_or, or_true]) (by rfl) (.tmp 63) (.tmp 65) rfl rfl rfl hlr ?_
        intro vr1 wq5 M5
        refine hK.out _ _ trivial fun _ => ?_
        clear hK K
        try simp only [sp7, Act.put, List.setIfInBounds_toArray, List.set_cons_zero, List.set_cons_succ]
        refine wpAnyH_ready (rs := [11]) (by kernel_rfl) (by simp) ?_
        refine (AllReadyH.cons (o := sp11) rfl (fun K hK => ?_) AllReadyH.nil)
        unfold sp11
        refine N3.step_d M5 (u := (k : Int)) (h0 := wq1.heap.size) (by simp only [List.mem_cons, true_or, or_true]) (by rfl) (.tmp 67) (.tmp 69) rfl rfl rfl hld ?_
        intro vd1 wq6 M6
        refine hK.out _ _ trivial fun _ => ?_
        clear hK K
        try simp only [sp11, Act.put, List.setIfInBounds_toArray, List.set_cons_zero, List.set_cons_succ]
        refine tk (i := 12) (o := sp12) (v := ?vt122) HP0 rfl (by kernel_rfl) (by kernel_rfl) (by kernel_rfl) (by rfl) ?ht122 ?rt122
        case ht122 => (intro w _; unfold sp12; go_simp <;> with_reducible rfl)
        try simp only [sp12, Act.put, List.setIfInBounds_toArray, List.set_cons_zero, List.set_cons_succ]
        refine wpAnyH_ready (rs := [13]) (by kernel_rfl) (by simp) ?_
        refine (AllReadyH.cons (o := sp13) rfl (fun K hK => ?_) AllReadyH.nil)
        have cb : wq6.cell? ⟨w3.heap.size, 0, none⟩ = some vr := (M6.box.cell 0).trans rfl
        have fb := M6.box.free 0
        obtain ⟨A9, c9, e9⟩ := own_slice M6.r
        rw [HR1.out] at e9
        subst e9
        unfold sp13
        go_simp
        have M7 := M6.store (.slice A9 (k + 1) c9)
        clear cb fb
        refine hK.out _ _ trivial fun _ => ?_
        clear hK K
        try simp only [sp13, Act.put, List.setIfInBounds_toArray, List.set_cons_zero, List.set_cons_succ]
        refine tk (i := 14) (o := sp14) (v := ?vt123) HP0 rfl (by kernel_rfl) (by kernel_rfl) (by kernel_rfl) (by rfl) ?ht123 ?rt123
        case ht123 => (intro w _; unfold sp14; go_simp <;> with_reducible rfl)
        try simp only [sp14, Act.put, List.setIfInBounds_toArray, List.set_cons_zero, List.set_cons_succ]
        refine wpAnyH_done (by kernel_rfl) ?_ _
        exact HN0 _ _ (NoPanic.normal ⟨vo1, _, vd1, _, _, _, _, _, _, _, _, _, _, _, _, rfl, M7⟩)
        have cb : wq2.cell? ⟨w3.heap.size, 0, none⟩ = some vr := (M2.box.cell 0).trans rfl
        unfold sp4
        go_simp
        clear cb
        refine hK.out _ _ trivial fun _ => ?_
        clear hK K
        try simp only [sp4, Act.put, List.setIfInBounds_toArray, List.set_cons_zero, List.set_cons_succ]
        refine wpAnyH_ready (rs := [2]) (by kernel_rfl) (by simp) ?_
        refine (AllReadyH.cons (o := sp2) rfl (fun K hK => ?_) AllReadyH.nil)
        unfold sp2
        go_simp
        have M3 := M2.alloc q 2
        generalize (wq2.alloc (Obj.cells #[Value.int .i64 q] 2)) = wq3 at M3 ⊢
        refine hK.out _ _ trivial fun _ => ?_
        clear hK K
        try simp only [sp2, Act.put, List.setIfInBounds_toArray, List.set_cons_zero, List.set_cons_succ]
        refine wpAnyH_ready (rs := [3]) (by kernel_rfl) (by simp) ?_
        refine (AllReadyH.cons (o := sp3) rfl (fun K hK => ?_) AllReadyH.nil)
        unfold sp3
        refine N3.step_o M3 (u := q) (h0 := wq2.heap.size) (by simp only [List.mem_cons, true_or, or_true]) (by rfl) (.tmp 59) (.tmp 61) rfl rfl rfl hlo ?_
        intro vo1 wq4 M4
        refine hK.out _ _ trivial fun _ => ?_
        clear hK K
        try simp only [sp3, Act.put, List.setIfInBounds_toArray, List.set_cons_zero, List.set_cons_succ]
        refine wpAnyH_ready (rs := [7]) (by kernel_rfl) (by simp) ?_
        refine (AllReadyH.cons (o := sp7) rfl (fun K hK => ?_) AllReadyH.nil)
        unfold sp7
        refine N3.step_r M4 (u := r) (h0 := wq0.heap.size) (by simp only [List.mem_cons, true_or, or_true]) (by rfl) (.tmp 63) (.tmp 65) rfl rfl rfl hlr ?_
        intro vr1 wq5 M5
        refine hK.out _ _ trivial fun _ => ?_
        clear hK K
        try simp only [sp7, Act.put, List.setIfInBounds_toArray, List.set_cons_zero, List.set_cons_succ]
        refine wpAnyH_ready (rs := [11]) (by kernel_rfl) (by simp) ?_
        refine (AllReadyH.cons (o := sp11) rfl (fun K hK => ?_) AllReadyH.nil)
        unfold sp11
        refine N3.step_d M5 (u := (k : Int)) (h0 := wq1.heap.size) (by simp only [List.mem_cons, true_or, or_true]) (by rfl) (.tmp 67) (.tmp 69) rfl rfl rfl hld ?_
        intro vd1 wq6 M6
        refine hK.out _ _ trivial fun _ => ?_
        clear hK K
        try simp only [sp11, Act.put, List.setIfInBounds_toArray, List.set_cons_zero, List.set_cons_succ]
        refine tk (i := 12) (o := sp12) (v := ?vt124) HP0 rfl (by kernel_rfl) (by kernel_rfl) (by kernel_rfl) (by rfl) ?ht124 ?rt124
        case ht124 => (intro w _; unfold sp12; go_simp <;> with_reducible rfl)
        try simp only [sp12, Act.put, List.setIfInBounds_toArray, List.set_cons_zero, List.set_cons_succ]
        refine wpAnyH_ready (rs := [13]) (by kernel_rfl) (by simp) ?_
        refine (AllReadyH.cons (o := sp13) rfl (fun K hK => ?_) AllReadyH.nil)
        have cb : wq6.cell? ⟨w3.heap.size, 0, none⟩ = some vr := (M6.box.cell 0).trans rfl
        have fb := M6.box.free 0
        obtain ⟨A9, c9, e9⟩ := own_slice M6.r
        rw [HR1.out] at e9
        subst e9
        unfold sp13
        go_simp
        have M7 := M6.store (.slice A9 (k + 1) c9)
        clear cb fb
        refine hK.out _ _ trivial fun _ => ?_
        clear hK K
        try simp only [sp13, Act.put, List.setIfInBounds_toArray, List.set_cons_zero, List.set_cons_succ]
        refine tk (i := 14) (o := sp14) (v := ?vt125) HP0 rfl (by kernel_rfl) (by kernel_rfl) (by kernel_rfl) (by rfl) ?ht125 ?rt125
        case ht125 => (intro w _; unfold sp14; go_simp <;> with_reducible rfl)
        try simp only [sp14, Act.put, List.setIfInBounds_toArray, List.set_cons_zero, List.set_cons_succ]
        refine wpAnyH_done (by kernel_rfl) ?_ _
        exact HN0 _ _ (NoPanic.normal ⟨vo1, _, vd1, _, _, _, _, _, _, _, _, _, _, _, _, rfl, M7⟩)
        unfold sp10
        go_simp
        have M1 := M0.alloc (k : Int) 3
        generalize (wq0.alloc (Obj.cells #[Value.int .i64 (k : Int)] 3)) = wq1 at M1 ⊢
        refine hK.out _ _ trivial fun _ => ?_
        clear hK K
        try simp only [sp10, Act.put, List.setIfInBounds_toArray, List.set_cons_zero, List.set_cons_succ]
        refine wpAnyH_ready (rs := [2, 4, 6]) (by kernel_rfl) (by simp) ?_
        refine (AllReadyH.cons (o := sp2) rfl (fun K hK => ?_) (AllReadyH.cons (o := sp4) rfl (fun K hK => ?_) (AllReadyH.cons (o := sp6) rfl (fun K hK => ?_) AllReadyH.nil)))
        unfold sp2
        go_simp
        have M2 := M1.alloc q 2
        generalize (wq1.alloc (Obj.cells #[Value.int .i64 q] 2)) = wq2 at M2 ⊢
        refine hK.out _ _ trivial fun _ => ?_
        clear hK K
        try simp only [sp2, Act.put, List.setIfInBounds_toArray, List.set_cons_zero, List.set_cons_succ]
        refine wpAnyH_ready (rs := [3, 4, 6]) (by kernel_rfl) (by simp) ?_
        refine (AllReadyH.cons (o := sp3) rfl (fun K hK => ?_) (AllReadyH.cons (o := sp4) rfl (fun K hK => ?_) (AllReadyH.cons (o := sp6) rfl (fun K hK => ?_) AllReadyH.nil)))
        unfold sp3
        refine N3.step_o M2 (u := q) (h0 := wq1.heap.size) (by simp only [List.mem_cons, true_or, or_true]) (by rfl) (.tmp 59) (.tmp 61) rfl rfl rfl hlo ?_
        intro vo1 wq3 M3
        refine hK.out _ _ trivial fun _ => ?_
        clear hK K
        try simp only [sp3, Act.put, List.setIfInBounds_toArray, List.set_cons_zero, List.set_cons_succ]
        refine wpAnyH_ready (rs := [4, 6]) (by kernel_rfl) (by simp) ?_
        refine (AllReadyH.cons (o := sp4) rfl (fun K hK => ?_) (AllReadyH.cons (o := sp6) rfl (fun K hK => ?_) AllReadyH.nil))
        have cb : wq3.cell? ⟨w3.heap.size, 0, none⟩ = some vr := (M3.box.cell 0).trans rfl
        unfold sp4
        go_simp
        clear cb
        refine hK.out _ _ trivial fun _ => ?_
        clear hK K
        try simp only [sp4, Act.put, List.setIfInBounds_toArray, List.set_cons_zero, List.set_cons_succ]
        refine wpAnyH_ready (rs := [6]) (by kernel_rfl) (by simp) ?_
        refine (AllReadyH.cons (o := sp6) rfl (fun K hK => ?_) AllReadyH.nil)
        unfold sp6
        go_simp
        have M4 := M3.alloc r 2
        generalize (wq3.alloc (Obj.cells #[Value.int .i64 r] 2)) = wq4 at M4 ⊢
        refine hK.out _ _ trivial fun _ => ?_
        clear hK K
        try simp only [sp6, Act.put, List.setIfInBounds_toArray, List.set_cons_zero, List.set_cons_succ]
        refine wpAnyH_ready (rs := [7]) (by kernel_rfl) (by simp) ?_
        refine (AllReadyH.cons (o := sp7) rfl (fun K hK => ?_) AllReadyH.nil)
        unfold sp7
        refine N3.step_r M4 (u := r) (h0 := wq3.heap.size) (by simp only [List.mem_cons, true_or, or_true]) (by rfl) (.tmp 63) (.tmp 65) rfl rfl rfl hlr ?_
        intro vr1 wq5 M5
        refine hK.out _ _ trivial fun _ => ?_
        clear hK K
        try simp only [sp7, Act.put, List.setIfInBounds_toArray, List.set_cons_zero, List.set_cons_succ]
        refine wpAnyH_ready (rs := [11]) (by kernel_rfl) (by simp) ?_
        refine (AllReadyH.cons (o := sp11) rfl (fun K hK => ?_) AllReadyH.nil)
        unfold sp11
        refine N3.step_d M5 (u := (k : Int)) (h0 := wq0.heap.size) (by simp only [List.mem_cons, true_or, or_true]) (by rfl) (.tmp 67) (.tmp 69) rfl rfl rfl hld ?_
        intro vd1 wq6 M6
        refine hK.out _ _ trivial fun _ => ?_
        clear hK K
        try simp only [sp11, Act.put, List.setIfInBounds_toArray, List.set_cons_zero, List.set_cons_succ]
        refine tk (i := 12) (o := sp12) (v := ?vt126) HP0 rfl (by kernel_rfl) (by kernel_rfl) (by kernel_rfl) (by rfl) ?ht126 ?rt126
        case ht126 => (intro w _; unfold sp12; go_simp <;> with_reducible rfl)
        try simp only [sp12, Act.put, List.setIfInBounds_toArray, List.set_cons_zero, List.set_cons_succ]
        refine wpAnyH_ready (rs := [13]) (by kernel_rfl) (by simp) ?_
        refine (AllReadyH.cons (o := sp13) rfl (fun K hK => ?_) AllReadyH.nil)
        have cb : wq6.cell? ⟨w3.heap.size, 0, none⟩ = some vr := (M6.box.cell 0).trans rfl
        have fb := M6.box.free 0
        obtain ⟨A9, c9, e9⟩ := own_slice M6.r
        rw [HR1.out] at e9
        subst e9
        unfold sp13
        go_simp
        have M7 := M6.store (.slice A9 (k + 1) c9)
        clear cb fb
        refine hK.out _ _ trivial fun _ => ?_
        clear hK K
        try simp only [sp13, Act.put, List.setIfInBounds_toArray, List.set_cons_zero, List.set_cons_succ]
        refine tk (i := 14) (o := sp14) (v := ?vt127) HP0 rfl (by kernel_rfl) (by kernel_rfl) (by kernel_rfl) (by rfl) ?ht127 ?rt127
        case ht127 => (intro w _; unfold sp14; go_simp <;> with_reducible rfl)
        try simp only [sp14, Act.put, List.setIfInBounds_toArray, List.set_cons_zero, List.set_cons_succ]
        refine wpAnyH_done (by kernel_rfl) ?_ _
        exact HN0 _ _ (NoPanic.normal ⟨vo1, _, vd1, _, _, _, _, _, _, _, _, _, _, _, _, rfl, M7⟩)
        unfold sp6
        go_simp
        have M4 := M3.alloc r 2
        generalize (wq3.alloc (Obj.cells #[Value.int .i64 r] 2)) = wq4 at M4 ⊢
        refine hK.out _ _ trivial fun _ => ?_
        clear hK K
        try simp only [sp6, Act.put, List.setIfInBounds_toArray, List.set_cons_zero, List.set_cons_succ]
        refine wpAnyH_ready (rs := [4]) (by kernel_rfl) (by simp) ?_
        refine (AllReadyH.cons (o := sp4) rfl (fun K hK => ?_) AllReadyH.nil)
        have cb : wq4.cell? ⟨w3.heap.size, 0, none⟩ = some vr := (M4.box.cell 0).trans rfl
        unfold sp4
        go_simp
        clear cb
        refine hK.out _ _ trivial fun _ => ?_
        clear hK K
        try simp only [sp4, Act.put, List.setIfInBounds_toArray, List.set_cons_zero, List.set_cons_succ]
        refine wpAnyH_ready (rs := [7]) (by kernel_rfl) (by simp) ?_
        refine (AllReadyH.cons (o := sp7) rfl (fun K hK => ?_) AllReadyH.nil)
        unfold sp7
        refine N3.step_r M4 (u := r) (h0 := wq3.heap.size) (by simp only [List.mem_cons, true_or, or_true]) (by rfl) (.tmp 63) (.tmp 65) rfl rfl rfl hlr ?_
        intro vr1 wq5 M5
        refine hK.out _ _ trivial fun _ => ?_
        clear hK K
        try simp only [sp7, Act.put, List.setIfInBounds_toArray, List.set_cons_zero, List.set_cons_succ]
        refine wpAnyH_ready (rs := [11]) (by kernel_rfl) (by simp) ?_
        refine (AllReadyH.cons (o := sp11) rfl (fun K hK => ?_) AllReadyH.nil)
        unfold sp11
        refine N3.step_d M5 (u := (k : Int)) (h0 := wq0.heap.size) (by simp only [List.mem_cons, true_or, or_true]) (by rfl) (.tmp 67) (.tmp 69) rfl rfl rfl hld ?_
        intro vd1 wq6 M6
        refine hK.out _ _ trivial fun _ => ?_
        clear hK K
        try simp only [sp11, Act.put, List.setIfInBounds_toArray, List.set_cons_zero, List.set_cons_succ]
        refine tk (i := 12) (o := sp12) (v := ?vt128) HP0 rfl (by kernel_rfl) (by kernel_rfl) (by kernel_rfl) (by rfl) ?ht128 ?rt128
        case ht128 => (intro w _; unfold sp12; go_simp <;> with_reducible rfl)
        try simp only [sp12, Act.put, List.setIfInBounds_toArray, List.set_cons_zero, List.set_cons_succ]
        refine wpAnyH_ready (rs := [13]) (by kernel_rfl) (by simp) ?_
        refine (AllReadyH.cons (o := sp13) rfl (fun K hK => ?_) AllReadyH.nil)
        have cb : wq6.cell? ⟨w3.heap.size, 0, none⟩ = some vr := (M6.box.cell 0).trans rfl
        have fb := M6.box.free 0
        obtain ⟨A9, c9, e9⟩ := own_slice M6.r
        rw [HR1.out] at e9
        subst e9
        unfold sp13
        go_simp
        have M7 := M6.store (.slice A9 (k + 1) c9)
        clear cb fb
        refine hK.out _ _ trivial fun _ => ?_
        clear hK K
        try simp only [sp13, Act.put, List.setIfInBounds_toArray, List.set_cons_zero, List.set_cons_succ]
        refine tk (i := 14) (o := sp14) (v := ?vt129) HP0 rfl (by kernel_rfl) (by kernel_rfl) (by kernel_rfl) (by rfl) ?ht129 ?rt129
        case ht129 => (intro w _; unfold sp14; go_simp <;> with_reducible rfl)
        try simp only [sp14, Act.put, List.setIfInBounds_toArray, List.set_cons_zero, List.set_cons_succ]
        refine wpAnyH_done (by kernel_rfl) ?_ _
        exact HN0 _ _ (NoPanic.normal ⟨vo1, _, vd1, _, _, _, _, _, _, _, _, _, _, _, _, rfl, M7⟩)
        have cb : wq2.cell? ⟨w3.heap.size, 0, none⟩ = some vr := (M2.box.cell 0).trans rfl
        unfold sp4
        go_simp
        clear cb
        refine hK.out _ _ trivial fun _ => ?_
        clear hK K
        try simp only [sp4, Act.put, List.setIfInBounds_toArray, List.set_cons_zero, List.set_cons_succ]
        refine wpAnyH_ready (rs := [3, 6]) (by kernel_rfl) (by simp) ?_
        refine (AllReadyH.cons (o := sp3) rfl (fun K hK => ?_) (AllReadyH.cons (o := sp6) rfl (fun K hK => ?_) AllReadyH.nil))
        unfold sp3
        refine N3.step_o M2 (u := q) (h0 := wq1.heap.size) (by simp only [List.mem_cons, true_or, or_true]) (by rfl) (.tmp 59) (.tmp 61) rfl rfl rfl hlo ?_
        intro vo1 wq3 M3
        refine hK.out _ _ trivial fun _ => ?_
        clear hK K
        try simp only [sp3, Act.put, List.setIfInBounds_toArray, List.set_cons_zero, List.set_cons_succ]
        refine wpAnyH_ready (rs := [6]) (by kernel_rfl) (by simp) ?_
        refine (AllReadyH.cons (o := sp6) rfl (fun K hK => ?_) AllReadyH.nil)
        unfold sp6
        go_simp
        have M4 := M3.alloc r 2
        generalize (wq3.alloc (Obj.cells #[Value.int .i64 r] 2)) = wq4 at M4 ⊢
        refine hK.out _ _ trivial fun _ => ?_
        clear hK K
        try simp only [sp6, Act.put, List.setIfInBounds_toArray, List.set_cons_zero, List.set_cons_succ]
        refine wpAnyH_ready (rs := [7]) (by kernel_rfl) (by simp) ?_
        refine (AllReadyH.cons (o := sp7) rfl (fun K hK => ?_) AllReadyH.nil)
        unfold sp7
        refine N3.step_r M4 (u := r) (h0 := wq3.heap.size) (by simp only [List.mem_cons, true_or, or_true]) (by rfl) (.tmp 63) (.tmp 65) rfl rfl rfl hlr ?_
        intro vr1 wq5 M5
        refine hK.out _ _ trivial fun _ => ?_
        clear hK K
        try simp only [sp7, Act.put, List.setIfInBounds_toArray, List.set_cons_zero, List.set_cons_succ]
        refine wpAnyH_ready (rs := [11]) (by kernel_rfl) (by simp) ?_
        refine (AllReadyH.cons (o := sp11) rfl (fun K hK => ?_) AllReadyH.nil)
        unfold sp11
        refine N3.step_d M5 (u := (k : Int)) (h0 := wq0.heap.size) (by simp only [List.mem_cons, true_or, or_true]) (by rfl) (.tmp 67) (.tmp 69) rfl rfl rfl hld ?_
        intro vd1 wq6 M6
        refine hK.out _ _ trivial fun _ => ?_
        clear hK K
        try simp only [sp11, Act.put, List.setIfInBounds_toArray, List.set_cons_zero, List.set_cons_succ]
        refine tk (i := 12) (o := sp12) (v := ?vt130) HP0 rfl (by kernel_rfl) (by kernel_rfl) (by kernel_rfl) (by rfl) ?ht130 ?rt130
        case ht130 => (intro w _; unfold sp12; go_simp <;> with_reducible rfl)
        try simp only [sp12, Act.put, List.setIfInBounds_toArray, List.set_cons_zero, List.set_cons_succ]
        refine wpAnyH_ready (rs := [13]) (by kernel_rfl) (by simp) ?_
        refine (AllReadyH.cons (o := sp13) rfl (fun K hK => ?_) AllReadyH.nil)
        have cb : wq6.cell? ⟨w3.heap.size, 0, none⟩ = some vr := (M6.box.cell 0).trans rfl
        have fb := M6.box.free 0
        obtain ⟨A9, c9, e9⟩ := own_slice M6.r
        rw [HR1.out] at e9
        subst e9
        unfold sp13
        go_simp
        have M7 := M6.store (.slice A9 (k + 1) c9)
        clear cb fb
        refine hK.out _ _ trivial fun _ => ?_
        clear hK K
        try simp only [sp13, Act.put, List.setIfInBounds_toArray, List.set_cons_zero, List.set_cons_succ]
        refine tk (i := 14) (o := sp14) (v := ?vt131) HP0 rfl (by kernel_rfl) (by kernel_rfl) (by kernel_rfl) (by rfl) ?ht131 ?rt131
        case ht131 => (intro w _; unfold sp14; go_simp <;> with_reducible rfl)
        try simp only [sp14, Act.put, List.setIfInBounds_toArray, List.set_cons_zero, List.set_cons_succ]
        refine wpAnyH_done (by kernel_rfl) ?_ _
        exact HN0 _ _ (NoPanic.normal ⟨vo1, _, vd1, _, _, _, _, _, _, _, _, _, _, _, _, rfl, M7⟩)
        unfold sp6
        go_simp
        have M3 := M2.alloc r 2
        generalize (wq2.alloc (Obj.cells #[Value.int .i64 r] 2)) = wq3 at M3 ⊢
        refine hK.out _ _ trivial fun _ => ?_
        clear hK K
        try simp only [sp6, Act.put, List.setIfInBounds_toArray, List.set_cons_zero, List.set_cons_succ]
        refine wpAnyH_ready (rs := [3]) (by kernel_rfl) (by simp) ?_
        refine (AllReadyH.cons (o := sp3) rfl (fun K hK => ?_) AllReadyH.nil)
        unfold sp3
        refine N3.step_o M3 (u := q) (h0 := wq1.heap.size) (by simp only [List.mem_cons, true_or, or_true]) (by rfl) (.tmp 59) (.tmp 61) rfl rfl rfl hlo ?_
        intro vo1 wq4 M4
        refine hK.out _ _ trivial fun _ => ?_
        clear hK K
        try simp only [sp3, Act.put, List.setIfInBounds_toArray, List.set_cons_zero, List.set_cons_succ]
        refine wpAnyH_ready (rs := [7]) (by kernel_rfl) (by simp) ?_
        refine (AllReadyH.cons (o := sp7) rfl (fun K hK => ?_) AllReadyH.nil)
        unfold sp7
        refine N3.step_r M4 (u := r) (h0 := wq2.heap.size) (by simp only [List.mem_cons, true_or, or_true]) (by rfl) (.tmp 63) (.tmp 65) rfl rfl rfl hlr ?_
        intro vr1 wq5 M5
        refine hK.out _ _ trivial fun _ => ?_
        clear hK K
        try simp only [sp7, Act.put, List.setIfInBounds_toArray, List.set_cons_zero, List.set_cons_succ]
        refine wpAnyH_ready (rs := [11]) (by kernel_rfl) (by simp) ?_
        refine (AllReadyH.cons (o := sp11) rfl (fun K hK => ?_) AllReadyH.nil)
        unfold sp11
        refine N3.step_d M5 (u := (k : Int)) (h0 := wq0.heap.size) (by simp only [List.mem_cons, true_or, or_true]) (by rfl) (.tmp 67) (.tmp 69) rfl rfl rfl hld ?_
        intro vd1 wq6 M6
        refine hK.out _ _ trivial fun _ => ?_
        clear hK K
        try simp only [sp11, Act.put, List.setIfInBounds_toArray, List.set_cons_zero, List.set_cons_succ]
        refine tk (i := 12) (o := sp12) (v := ?vt132) HP0 rfl (by kernel_rfl) (by kernel_rfl) (by kernel_rfl) (by rfl) ?ht132 ?rt132
        case ht132 => (intro w _; unfold sp12; go_simp <;> with_reducible rfl)
        try simp only [sp12, Act.put, List.setIfInBounds_toArray, List.set_cons_zero, List.set_cons_succ]
        refine wpAnyH_ready (rs := [13]) (by kernel_rfl) (by simp) ?_
        refine (AllReadyH.cons (o := sp13) rfl (fun K hK => ?_) AllReadyH.nil)
        have cb : wq6.cell? ⟨w3.heap.size, 0, none⟩ = some vr := (M6.box.cell 0).trans rfl
        have fb := M6.box.free 0
        obtain ⟨A9, c9, e9⟩ := own_slice M6.r
        rw [HR1.out] at e9
        subst e9
        unfold sp13
        go_simp
        have M7 := M6.store (.slice A9 (k + 1) c9)
        clear cb fb
        refine hK.out _ _ trivial fun _ => ?_
        clear hK K
        try simp only [sp13, Act.put, List.setIfInBounds_toArray, List.set_cons_zero, List.set_cons_succ]
        refine tk (i := 14) (o := sp14) (v := ?vt133) HP0 rfl (by kernel_rfl) (by kernel_rfl) (by kernel_rfl) (by rfl) ?ht133 ?rt133
        case ht133 => (intro w _; unfold sp14; go_simp <;> with_reducible rfl)
        try simp only [sp14, Act.put, List.setIfInBounds_toArray, List.set_cons_zero, List.set_cons_succ]
        refine wpAnyH_done (by kernel_rfl) ?_ _
        exact HN0 _ _ (NoPanic.normal ⟨vo1, _, vd1, _, _, _, _, _, _, _, _, _, _, _, _, rfl, M7⟩)
        unfold sp6
        go_simp
        have M3 := M2.alloc r 2
        generalize (wq2.alloc (Obj.cells #[Value.int .i64 r] 2)) = wq3 at M3 ⊢
        refine hK.out _ _ trivial fun _ => ?_
        clear hK K
        try simp only [sp6, Act.put, List.setIfInBounds_toArray, List.set_cons_zero, List.set_cons_succ]
        refine wpAnyH_ready (rs := [3, 4]) (by kernel_rfl) (by simp) ?_
        refine (AllReadyH.cons (o := sp3) rfl (fun K hK => ?_) (AllReadyH.cons (o := sp4) rfl (fun K hK => ?_) AllReadyH.nil))
        unfold sp3
        refine N3.step_o M3 (u := q) (h0 := wq1.heap.size) (by simp only [List.mem_cons, true_or, or_true]) (by rfl) (.tmp 59) (.tmp 61) rfl rfl rfl hlo ?_
        intro vo1 wq4 M4
        refine hK.out _ _ trivial fun _ => ?_
        clear hK K
        try simp only [sp3, Act.put, List.setIfInBounds_toArray, List.set_cons_zero, List.set_cons_succ]
        refine wpAnyH_ready (rs := [4]) (by kernel_rfl) (by simp) ?_
        refine (AllReadyH.cons (o := sp4) rfl (fun K hK => ?_) AllReadyH.nil)
        have cb : wq4.cell? ⟨w3.heap.size, 0, none⟩ = some vr := (M4.box.cell 0).trans rfl
        unfold sp4
        go_simp
        clear cb
        refine hK.out _ _ trivial fun _ => ?_
        clear hK K
        try simp only [sp4, Act.put, List.setIfInBounds_toArray, List.set_cons_zero, List.set_cons_succ]
        refine wpAnyH_ready (rs := [7]) (by kernel_rfl) (by simp) ?_
        refine (AllReadyH.cons (o := sp7) rfl (fun K hK => ?_) AllReadyH.nil)
        unfold sp7
        refine N3.step_r M4 (u := r) (h0 := wq2.heap.size) (by simp only [List.mem_cons, true_or, or_true]) (by rfl) (.tmp 63) (.tmp 65) rfl rfl rfl hlr ?_
        intro vr1 wq5 M5
        refine hK.out _ _ trivial fun _ => ?_
        clear hK K
        try simp only [sp7, Act.put, List.setIfInBounds_toArray, List.set_cons_zero, List.set_cons_succ]
        refine wpAnyH_ready (rs := [11]) (by kernel_rfl) (by simp) ?_
        refine (AllReadyH.cons (o := sp11) rfl (fun K hK => ?_) AllReadyH.nil)
        unfold sp11
        refine N3.step_d M5 (u := (k : Int)) (h0 := wq0.heap.size) (by simp only [List.mem_cons, true_or, or_true]) (by rfl) (.tmp 67) (.tmp 69) rfl rfl rfl hld ?_
        intro vd1 wq6 M6
        refine hK.out _ _ trivial fun _ => ?_
        clear hK K
        try simp only [sp11, Act.put, List.setIfInBounds_toArray, List.set_cons_zero, List.set_cons_succ]
        refine tk (i := 12) (o := sp12) (v := ?vt134) HP0 rfl (by kernel_rfl) (by kernel_rfl) (by kernel_rfl) (by rfl) ?ht134 ?rt134
        case ht134 => (intro w _; unfold sp12; go_simp <;> with_reducible rfl)
        try simp only [sp12, Act.put, List.setIfInBounds_toArray, List.set_cons_zero, List.set_cons_succ]
        refine wpAnyH_ready (rs := [13]) (by kernel_rfl) (by simp) ?_
        refine (AllReadyH.cons (o := sp13) rfl (fun K hK => ?_) AllReadyH.nil)
        have cb : wq6.cell? ⟨w3.heap.size, 0, none⟩ = some vr := (M6.box.cell 0).trans rfl
        have fb := M6.box.free 0
        obtain ⟨A9, c9, e9⟩ := own_slice M6.r
        rw [HR1.out] at e9
        subst e9
        unfold sp13
        go_simp
        have M7 := M6.store (.slice A9 (k + 1) c9)
        clear cb fb
        refine hK.out _ _ trivial fun _ => ?_
        clear hK K
        try simp only [sp13, Act.put, List.setIfInBounds_toArray, List.set_cons_zero, List.set_cons_succ]
        refine tk (i := 14) (o := sp14) (v := ?vt135) HP0 rfl (by kernel_rfl) (by kernel_rfl) (by kernel_rfl) (by rfl) ?ht135 ?rt135
        case ht135 => (intro w _; unfold sp14; go_simp <;> with_reducible rfl)
        try simp only [sp14, Act.put, List.setIfInBounds_toArray, List.set_cons_zero, List.set_cons_succ]
        refine wpAnyH_done (by kernel_rfl) ?_ _
        exact HN0 _ _ (NoPanic.normal ⟨vo1, _, vd1, _, _, _, _, _, _, _, _, _, _, _, _, rfl, M7⟩)
        have cb : wq3.cell? ⟨w3.heap.size, 0, none⟩ = some vr := (M3.box.cell 0).trans rfl
        unfold sp4
        go_simp
        clear cb
        refine hK.out _ _ trivial fun _ => ?_
        clear hK K
        try simp only [sp4, Act.put, List.setIfInBounds_toArray, List.set_cons_zero, List.set_cons_succ]
        refine wpAnyH_ready (rs := [3]) (by kernel_rfl) (by simp) ?_
        refine (AllReadyH.cons (o := sp3) rfl (fun K hK => ?_) AllReadyH.nil)
        unfold sp3
        refine N3.step_o M3 (u := q) (h0 := wq1.heap.size) (by simp only [List.mem_cons, true_or, or_true]) (by rfl) (.tmp 59) (.tmp 61) rfl rfl rfl hlo ?_
        intro vo1 wq4 M4
        refine hK.out _ _ trivial fun _ => ?_
        clear hK K
        try simp only [sp3, Act.put, List.setIfInBounds_toArray, List.set_cons_zero, List.set_cons_succ]
        refine wpAnyH_ready (rs := [7]) (by kernel_rfl) (by simp) ?_
        refine (AllReadyH.cons (o := sp7) rfl (fun K hK => ?_) AllReadyH.nil)
        unfold sp7
        refine N3.step_r M4 (u := r) (h0 := wq2.heap.size) (by simp only [List.mem_cons, true_or, or_true]) (by rfl) (.tmp 63) (.tmp 65) rfl rfl rfl hlr ?_
        intro vr1 wq5 M5
        refine hK.out _ _ trivial fun _ => ?_
        clear hK K
        try simp only [sp7, Act.put, List.setIfInBounds_toArray, List.set_cons_zero, List.set_cons_succ]
        refine wpAnyH_ready (rs := [11]) (by kernel_rfl) (by simp) ?_
        refine (AllReadyH.cons (o := sp11) rfl (fun K hK => ?_) AllReadyH.nil)
        unfold sp11
        refine N3.step_d M5 (u := (k : Int)) (h0 := wq0.heap.size) (by simp only [List.mem_cons, true_or, or_true]) (by rfl) (.tmp 67) (.tmp 69) rfl rfl rfl hld ?_
        intro vd1 wq6 M6
        refine hK.out _ _ trivial fun _ => ?_
        clear hK K
        try simp only [sp11, Act.put, List.setIfInBounds_toArray, List.set_cons_zero, List.set_cons_succ]
        refine tk (i := 12) (o := sp12) (v := ?vt136) HP0 rfl (by kernel_rfl) (by kernel_rfl) (by kernel_rfl) (by rfl) ?ht136 ?rt136
        case ht136 => (intro w _; unfold sp12; go_simp <;> with_reducible rfl)
        try simp only [sp12, Act.put, List.setIfInBounds_toArray, List.set_cons_zero, List.set_cons_succ]
        refine wpAnyH_ready (rs := [13]) (by kernel_rfl) (by simp) ?_
        refine (AllReadyH.cons (o := sp13) rfl (fun K hK => ?_) AllReadyH.nil)
        have cb : wq6.cell? ⟨w3.heap.size, 0, none⟩ = some vr := (M6.box.cell 0).trans rfl
        have fb := M6.box.free 0
        obtain ⟨A9, c9, e9⟩ := own_slice M6.r
        rw [HR1.out] at e9
        subst e9
        unfold sp13
        go_simp
        have M7 := M6.store (.slice A9 (k + 1) c9)
        clear cb fb
        refine hK.out _ _ trivial fun _ => ?_
        clear hK K
        try simp only [sp13, Act.put, List.setIfInBounds_toArray, List.set_cons_zero, List.set_cons_succ]
        refine tk (i := 14) (o := sp14) (v := ?vt137) HP0 rfl (by kernel_rfl) (by kernel_rfl) (by kernel_rfl) (by rfl) ?ht137 ?rt137
        case ht137 => (intro w _; unfold sp14; go_simp <;> with_reducible rfl)
        try simp only [sp14, Act.put, List.setIfInBounds_toArray, List.set_cons_zero, List.set_cons_succ]
        refine wpAnyH_done (by kernel_rfl) ?_ _
        exact HN0 _ _ (NoPanic.normal ⟨vo1, _, vd1, _, _, _, _, _, _, _, _, _, _, _, _, rfl, M7⟩)
        have cb : wq1.cell? ⟨w3.heap.size, 0, none⟩ = some vr := (M1.box.cell 0).trans rfl
        unfold sp4
        go_simp
        clear cb
        refine hK.out _ _ trivial fun _ => ?_
        clear hK K
        try simp only [sp4, Act.put, List.setIfInBounds_toArray, List.set_cons_zero, List.set_cons_succ]
        refine wpAnyH_ready (rs := [2, 6]) (by kernel_rfl) (by simp) ?_
        refine (AllReadyH.cons (o := sp2) rfl (fun K hK => ?_) (AllReadyH.cons (o := sp6) rfl (fun K hK => ?_) AllReadyH.nil))
        unfold sp2
        go_simp
        have M2 := M1.alloc q 2
        generalize (wq1.alloc (Obj.cells #[Value.int .i64 q] 2)) = wq2 at M2 ⊢
        refine hK.out _ _ trivial fun _ => ?_
        clear hK K
        try simp only [sp2, Act.put, List.setIfInBounds_toArray, List.set_cons_zero, List.set_cons_succ]
        refine wpAnyH_ready (rs := [3, 6]) (by kernel_rfl) (by simp) ?_
        refine (AllReadyH.cons (o := sp3) rfl (fun K hK => ?_) (AllReadyH.cons (o := sp6) rfl (fun K hK => ?_) AllReadyH.nil))
        unfold sp3
        refine N3.step_o M2 (u := q) (h0 := wq1.heap.size) (by simp only [List.mem_cons, true_or, or_true]) (by rfl) (.tmp 59) (.tmp 61) rfl rfl rfl hlo ?_
        intro vo1 wq3 M3
        refine hK.out _ _ trivial fun _ => ?_
        clear hK K
        try simp only [sp3, Act.put, List.setIfInBounds_toArray, List.set_cons_zero, List.set_cons_succ]
        refine wpAnyH_ready (rs := [6]) (by kernel_rfl) (by simp) ?_
        refine (AllReadyH.cons (o := sp6) rfl (fun K hK => ?_) AllReadyH.nil)
        unfold sp6
        go_simp
        have M4 := M3.alloc r 2
        generalize (wq3.alloc (Obj.cells #[Value.int .i64 r] 2)) = wq4 at M4 ⊢
        refine hK.out _ _ trivial fun _ => ?_
        clear hK K
        try simp only [sp6, Act.put, List.setIfInBounds_toArray, List.set_cons_zero, List.set_cons_succ]
        refine wpAnyH_ready (rs := [7]) (by kernel_rfl) (by simp) ?_
        refine (AllReadyH.cons (o := sp7) rfl (fun K hK => ?_) AllReadyH.nil)
        unfold sp7
        refine N3.step_r M4 (u := r) (h0 := wq3.heap.size) (by simp only [List.mem_cons, true_or, or_true]) (by rfl) (.tmp 63) (.tmp 65) rfl rfl rfl hlr ?_
        intro vr1 wq5 M5
        refine hK.out _ _ trivial fun _ => ?_
        clear hK K
        try simp only [sp7, Act.put, List.setIfInBounds_toArray, List.set_cons_zero, List.set_cons_succ]
        refine wpAnyH_ready (rs := [11]) (by kernel_rfl) (by simp) ?_
        refine (AllReadyH.cons (o := sp11) rfl (fun K hK => ?_) AllReadyH.nil)
        unfold sp11
        refine N3.step_d M5 (u := (k : Int)) (h0 := wq0.heap.size) (by simp only [List.mem_cons, true_or, or_true]) (by rfl) (.tmp 67) (.tmp 69) rfl rfl rfl hld ?_
        intro vd1 wq6 M6
        refine hK.out _ _ trivial fun _ => ?_
        clear hK K
        try simp only [sp11, Act.put, List.setIfInBounds_toArray, List.set_cons_zero, List.set_cons_succ]
        refine tk (i := 12) (o := sp12) (v := ?vt138) HP0 rfl (by kernel_rfl) (by kernel_rfl) (by kernel_rfl) (by rfl) ?ht138 ?rt138
        case ht138 => (intro w _; unfold sp12; go_simp <;> with_reducible rfl)
        try simp only [sp12, Act.put, List.setIfInBounds_toArray, List.set_cons_zero, List.set_cons_succ]
        refine wpAnyH_ready (rs := [13]) (by kernel_rfl) (by simp) ?_
        refine (AllReadyH.cons (o := sp13) rfl (fun K hK => ?_) AllReadyH.nil)
        have cb : wq6.cell? ⟨w3.heap.size, 0, none⟩ = some vr := (M6.box.cell 0).trans rfl
        have fb := M6.box.free 0
        obtain ⟨A9, c9, e9⟩ := own_slice M6.r
        rw [HR1.out] at e9
        subst e9
        unfold sp13
        go_simp
        have M7 := M6.store (.slice A9 (k + 1) c9)
        clear cb fb
        refine hK.out _ _ trivial fun _ => ?_
        clear hK K
        try simp only [sp13, Act.put, List.setIfInBounds_toArray, List.set_cons_zero, List.set_cons_succ]
        refine tk (i := 14) (o := sp14) (v := ?vt139) HP0 rfl (by kernel_rfl) (by kernel_rfl) (by kernel_rfl) (by rfl) ?ht139 ?rt139
        case ht139 => (intro w _; unfold sp14; go_simp <;> with_reducible rfl)
        try simp only [sp14, Act.put, List.setIfInBounds_toArray, List.set_cons_zero, List.set_cons_succ]
        refine wpAnyH_done (by kernel_rfl) ?_ _
        exact HN0 _ _ (NoPanic.normal ⟨vo1, _, vd1, _, _, _, _, _, _, _, _, _, _, _, _, rfl, M7⟩)
        unfold sp6
        go_simp
        have M3 := M2.alloc r 2
        generalize (wq2.alloc (Obj.cells #[Value.int .i64 r] 2)) = wq3 at M3 ⊢
        refine hK.out _ _ trivial fun _ => ?_
        clear hK K
        try simp only [sp6, Act.put, List.setIfInBounds_toArray, List.set_cons_zero, List.set_cons_succ]
        refine wpAnyH_ready (rs := [3]) (by kernel_rfl) (by simp) ?_
        refine (AllReadyH.cons (o := sp3) rfl (fun K hK => ?_) AllReadyH.nil)
        unfold sp3
        refine N3.step_o M3 (u := q) (h0 := wq1.heap.size) (by simp only [List.mem_cons, true_or, or_true]) (by rfl) (.tmp 59) (.tmp 61) rfl rfl rfl hlo ?_
        intro vo1 wq4 M4
        refine hK.out _ _ trivial fun _ => ?_
        clear hK K
        try simp only [sp3, Act.put, List.setIfInBounds_toArray, List.set_cons_zero, List.set_cons_succ]
        refine wpAnyH_ready (rs := [7]) (by kernel_rfl) (by simp) ?_
        refine (AllReadyH.cons (o := sp7) rfl (fun K hK => ?_) AllReadyH.nil)
        unfold sp7
        refine N3.step_r M4 (u := r) (h0 := wq2.heap.size) (by simp only [List.mem_cons, true_or, or_true]) (by rfl) (.tmp 63) (.tmp 65) rfl rfl rfl hlr ?_
        intro vr1 wq5 M5
        refine hK.out _ _ trivial fun _ => ?_
        clear hK K
        try simp only [sp7, Act.put, List.setIfInBounds_toArray, List.set_cons_zero, List.set_cons_succ]
        refine wpAnyH_ready (rs := [11]) (by kernel_rfl) (by simp) ?_
        refine (AllReadyH.cons (o := sp11) rfl (fun K hK => ?_) AllReadyH.nil)
        unfold sp11
        refine N3.step_d M5 (u := (k : Int)) (h0 := wq0.heap.size) (by simp only [List.mem_cons, true_or, or_true]) (by rfl) (.tmp 67) (.tmp 69) rfl rfl rfl hld ?_
        intro vd1 wq6 M6
        refine hK.out _ _ trivial fun _ => ?_
        clear hK K
        try simp only [sp11, Act.put, List.setIfInBounds_toArray, List.set_cons_zero, List.set_cons_succ]
        refine tk (i := 12) (o := sp12) (v := ?vt140) HP0 rfl (by kernel_rfl) (by kernel_rfl) (by kernel_rfl) (by rfl) ?ht140 ?rt140
        case ht140 => (intro w _; unfold sp12; go_simp <;> with_reducible rfl)
        try simp only [sp12, Act.put, List.setIfInBounds_toArray, List.set_cons_zero, List.set_cons_succ]
        refine wpAnyH_ready (rs := [13]) (by kernel_rfl) (by simp) ?_
        refine (AllReadyH.cons (o := sp13) rfl (fun K hK => ?_) AllReadyH.nil)
        have cb : wq6.cell? ⟨w3.heap.size, 0, none⟩ = some vr := (M6.box.cell 0).trans rfl
        have fb := M6.box.free 0
        obtain ⟨A9, c9, e9⟩ := own_slice M6.r
        rw [HR1.out] at e9
        subst e9
        unfold sp13
        go_simp
        have M7 := M6.store (.slice A9 (k + 1) c9)
        clear cb fb
        refine hK.out _ _ trivial fun _ => ?_
        clear hK K
        try simp only [sp13, Act.put, List.setIfInBounds_toArray, List.set_cons_zero, List.set_cons_succ]
        refine tk (i := 14) (o := sp14) (v := ?vt141) HP0 rfl (by kernel_rfl) (by kernel_rfl) (by kernel_rfl) (by rfl) ?ht141 ?rt141
        case ht141 => (intro w _; unfold sp14; go_simp <;> with_reducible rfl)
        try simp only [sp14, Act.put, List.setIfInBounds_toArray, List.set_cons_zero, List.set_cons_succ]
        refine wpAnyH_done (by kernel_rfl) ?_ _
        exact HN0 _ _ (NoPanic.normal ⟨vo1, _, vd1, _, _, _, _, _, _, _, _, _, _, _, _, rfl, M7⟩)
        unfold sp6
        go_simp
        have M2 := M1.alloc r 2
        generalize (wq1.alloc (Obj.cells #[Value.int .i64 r] 2)) = wq2 at M2 ⊢
        refine hK.out _ _ trivial fun _ => ?_
        clear hK K
        try simp only [sp6, Act.put, List.setIfInBounds_toArray, List.set_cons_zero, List.set_cons_succ]
        refine wpAnyH_ready (rs := [2]) (by kernel_rfl) (by simp) ?_
        refine (AllReadyH.cons (o := sp2) rfl (fun K hK => ?_) AllReadyH.nil)
        unfold sp2
        go_simp
        have M3 := M2.alloc q 2
        generalize (wq2.alloc (Obj.cells #[Value.int .i64 q] 2)) = wq3 at M3 ⊢
        refine hK.out _ _ trivial fun _ => ?_
        clear hK K
        try simp only [sp2, Act.put, List.setIfInBounds_toArray, List.set_cons_zero, List.set_cons_succ]
        refine wpAnyH_ready (rs := [3]) (by kernel_rfl) (by simp) ?_
        refine (AllReadyH.cons (o := sp3) rfl (fun K hK => ?_) AllReadyH.nil)
        unfold sp3
        refine N3.step_o M3 (u := q) (h0 := wq2.heap.size) (by simp only [List.mem_cons, true_or, or_true]) (by rfl) (.tmp 59) (.tmp 61) rfl rfl rfl hlo ?_
        intro vo1 wq4 M4
        refine hK.out _ _ trivial fun _ => ?_
        clear hK K
        try simp only [sp3, Act.put, List.setIfInBounds_toArray, List.set_cons_zero, List.set_cons_succ]
        refine wpAnyH_ready (rs := [7]) (by kernel_rfl) (by simp) ?_
        refine (AllReadyH.cons (o := sp7) rfl (fun K hK => ?_) AllReadyH.nil)
        unfold sp7
        refine N3.step_r M4 (u := r) (h0 := wq1.heap.size) (by simp only [List.mem_cons, true_or, or_true]) (by rfl) (.tmp 63) (.tmp 65) rfl rfl rfl hlr ?_
        intro vr1 wq5 M5
        refine hK.out _ _ trivial fun _ => ?_
        clear hK K
        try simp only [sp7, Act.put, List.setIfInBounds_toArray, List.set_cons_zero, List.set_cons_succ]
        refine wpAnyH_ready (rs := [11]) (by kernel_rfl) (by simp) ?_
        refine (AllReadyH.cons (o := sp11) rfl (fun K hK => ?_) AllReadyH.nil)
        unfold sp11
        refine N3.step_d M5 (u := (k : Int)) (h0 := wq0.heap.size) (by simp only [List.mem_cons, true_or, or_true]) (by rfl) (.tmp 67) (.tmp 69) rfl rfl rfl hld ?_
        intro vd1 wq6 M6
        refine hK.out _ _ trivial fun _ => ?_
        clear hK K
        try simp only [sp11, Act.put, List.setIfInBounds_toArray, List.set_cons_zero, List.set_cons_succ]
        refine tk (i := 12) (o := sp12) (v := ?vt142) HP0 rfl (by kernel_rfl) (by kernel_rfl) (by kernel_rfl) (by rfl) ?ht142 ?rt142
        case ht142 => (intro w _; unfold sp12; go_simp <;> with_reducible rfl)
        try simp only [sp12, Act.put, List.setIfInBounds_toArray, List.set_cons_zero, List.set_cons_succ]
        refine wpAnyH_ready (rs := [13]) (by kernel_rfl) (by simp) ?_
        refine (AllReadyH.cons (o := sp13) rfl (fun K hK => ?_) AllReadyH.nil)
        have cb : wq6.cell? ⟨w3.heap.size, 0, none⟩ = some vr := (M6.box.cell 0).trans rfl
        have fb := M6.box.free 0
        obtain ⟨A9, c9, e9⟩ := own_slice M6.r
        rw [HR1.out] at e9
        subst e9
        unfold sp13
        go_simp
        have M7 := M6.store (.slice A9 (k + 1) c9)
        clear cb fb
        refine hK.out _ _ trivial fun _ => ?_
        clear hK K
        try simp only [sp13, Act.put, List.setIfInBounds_toArray, List.set_cons_zero, List.set_cons_succ]
        refine tk (i := 14) (o := sp14) (v := ?vt143) HP0 rfl (by kernel_rfl) (by kernel_rfl) (by kernel_rfl) (by rfl) ?ht143 ?rt143
        case ht143 => (intro w _; unfold sp14; go_simp <;> with_reducible rfl)
        try simp only [sp14, Act.put, List.setIfInBounds_toArray, List.set_cons_zero, List.set_cons_succ]
        refine wpAnyH_done (by kernel_rfl) ?_ _
        exact HN0 _ _ (NoPanic.normal ⟨vo1, _, vd1, _, _, _, _, _, _, _, _, _, _, _, _, rfl, M7⟩)
        unfold sp6
        go_simp
        have M2 := M1.alloc r 2
        generalize (wq1.alloc (Obj.cells #[Value.int .i64 r] 2)) = wq2 at M2 ⊢
        refine hK.out _ _ trivial fun _ => ?_
        clear hK K
        try simp only [sp6, Act.put, List.setIfInBounds_toArray, List.set_cons_zero, List.set_cons_succ]
        refine wpAnyH_ready (rs := [2, 4]) (by kernel_rfl) (by simp) ?_
        refine (AllReadyH.cons (o := sp2) rfl (fun K hK => ?_) (AllReadyH.cons (o := sp4) rfl (fun K hK => ?_) AllReadyH.nil))
        unfold sp2
        go_simp
        have M3 := M2.alloc q 2
        generalize (wq2.alloc (Obj.cells #[Value.int .i64 q] 2)) = wq3 at M3 ⊢
        refine hK.out _ _ trivial fun _ => ?_
        clear hK K
        try simp only [sp2, Act.put, List.setIfInBounds_toArray, List.set_cons_zero, List.set_cons_succ]
        refine wpAnyH_ready (rs := [3, 4]) (by kernel_rfl) (by simp) ?_
        refine (AllReadyH.cons (o := sp3) rfl (fun K hK => ?_) (AllReadyH.cons (o := sp4) rfl (fun K hK => ?_) AllReadyH.nil))
        unfold sp3
        refine N3.step_o M3 (u := q) (h0 := wq2.heap.size) (by simp only [List.mem_cons, true_or, or_true]) (by rfl) (.tmp 59) (.tmp 61) rfl rfl rfl hlo ?_
        intro vo1 wq4 M4
        refine hK.out _ _ trivial fun _ => ?_
        clear hK K
        try simp only [sp3, Act.put, List.setIfInBounds_toArray, List.set_cons_zero, List.set_cons_succ]
        refine wpAnyH_ready (rs := [4]) (by kernel_rfl) (by simp) ?_
        refine (AllReadyH.cons (o := sp4) rfl (fun K hK => ?_) AllReadyH.nil)
        have cb : wq4.cell? ⟨w3.heap.size, 0, none⟩ = some vr := (M4.box.cell 0).trans rfl
        unfold sp4
        go_simp
        clear cb
        refine hK.out _ _ trivial fun _ => ?_
        clear hK K
        try simp only [sp4, Act.put, List.setIfInBounds_toArray, List.set_cons_zero, List.set_cons_succ]
        refine wpAnyH_ready (rs := [7]) (by kernel_rfl) (by simp) ?_
        refine (AllReadyH.cons (o := sp7) rfl (fun K hK => ?_) AllReadyH.nil)
        unfold sp7
        refine N3.step_r M4 (u := r) (h0 := wq1.heap.size) (by simp only [List.mem_cons, true_or, or_true]) (by rfl) (.tmp 63) (.tmp 65) rfl rfl rfl hlr ?_
        intro vr1 wq5 M5
        refine hK.out _ _ trivial fun _ => ?_
        clear hK K
        try simp only [sp7, Act.put, List.setIfInBounds_toArray, List.set_cons_zero, List.set_cons_succ]
        refine wpAnyH_ready (rs := [11]) (by kernel_rfl) (by simp) ?_
        refine (AllReadyH.cons (o := sp11) rfl (fun K hK => ?_) AllReadyH.nil)
        unfold sp11
        refine N3.step_d M5 (u := (k : Int)) (h0 := wq0.heap.size) (by simp only [List.mem_cons, true_or, or_true]) (by rfl) (.tmp 67) (.tmp 69) rfl rfl rfl hld ?_
        intro vd1 wq6 M6
        refine hK.out _ _ trivial fun _ => ?_
        clear hK K
        try simp only [sp11, Act.put, List.setIfInBounds_toArray, List.set_cons_zero, List.set_cons_succ]
        refine tk (i := 12) (o := sp12) (v := ?vt144) HP0 rfl (by kernel_rfl) (by kernel_rfl) (by kernel_rfl) (by rfl) ?ht144 ?rt144
        case ht144 => (intro w _; unfold sp12; go_simp <;> with_reducible rfl)
        try simp only [sp12, Act.put, List.setIfInBounds_toArray, List.set_cons_zero, List.set_cons_succ]
        refine wpAnyH_ready (rs := [13]) (by kernel_rfl) (by simp) ?_
        refine (AllReadyH.cons (o := sp13) rfl (fun K hK => ?_) AllReadyH.nil)
        have cb : wq6.cell? ⟨w3.heap.size, 0, none⟩ = some vr := (M6.box.cell 0).trans rfl
        have fb := M6.box.free 0
        obtain ⟨A9, c9, e9⟩ := own_slice M6.r
        rw [HR1.out] at e9
        subst e9
        unfold sp13
        go_simp
        have M7 := M6.store (.slice A9 (k + 1) c9)
        clear cb fb
        refine hK.out _ _ trivial fun _ => ?_
        clear hK K
        try simp only [sp13, Act.put, List.setIfInBounds_toArray, List.set_cons_zero, List.set_cons_succ]
        refine tk (i := 14) (o := sp14) (v := ?vt145) HP0 rfl (by kernel_rfl) (by kernel_rfl) (by kernel_rfl) (by rfl) ?ht145 ?rt145
        case ht145 => (intro w _; unfold sp14; go_simp <;> with_reducible rfl)
        try simp only [sp14, Act.put, List.setIfInBounds_toArray, List.set_cons_zero, List.set_cons_succ]
        refine wpAnyH_done (by kernel_rfl) ?_ _
        exact HN0 _ _ (NoPanic.normal ⟨vo1, _, vd1, _, _, _, _, _, _, _, _, _, _, _, _, rfl, M7⟩)
        have cb : wq3.cell? ⟨w3.heap.size, 0, none⟩ = some vr := (M3.box.cell 0).trans rfl
        unfold sp4
        go_simp
        clear cb
        refine hK.out _ _ trivial fun _ => ?_
        clear hK K
        try simp only [sp4, Act.put, List.setIfInBounds_toArray, List.set_cons_zero, List.set_cons_succ]
        refine wpAnyH_ready (rs := [3]) (by kernel_rfl) (by simp) ?_
        refine (AllReadyH.cons (o := sp3) rfl (fun K hK => ?_) AllReadyH.nil)
        unfold sp3
        refine N3.step_o M3 (u := q) (h0 := wq2.heap.size) (by simp only [List.mem_cons, true_or, or_true]) (by rfl) (.tmp 59) (.tmp 61) rfl rfl rfl hlo ?_
        intro vo1 wq4 M4
        refine hK.out _ _ trivial fun _ => ?_
        clear hK K
        try simp only [sp3, Act.put, List.setIfInBounds_toArray, List.set_cons_zero, List.set_cons_succ]
        refine wpAnyH_ready (rs := [7]) (by kernel_rfl) (by simp) ?_
        refine (AllReadyH.cons (o := sp7) rfl (fun K hK => ?_) AllReadyH.nil)
        unfold sp7
        refine N3.step_r M4 (u := r) (h0 := wq1.heap.size) (by simp only [List.mem_cons, true_or, or_true]) (by rfl) (.tmp 63) (.tmp 65) rfl rfl rfl hlr ?_
        intro vr1 wq5 M5
        refine hK.out _ _ trivial fun _ => ?_
        clear hK K
        try simp only [sp7, Act.put, List.setIfInBounds_toArray, List.set_cons_zero, List.set_cons_succ]
        refine wpAnyH_ready (rs := [11]) (by kernel_rfl) (by simp) ?_
        refine (AllReadyH.cons (o := sp11) rfl (fun K hK => ?_) AllReadyH.nil)
        unfold sp11
        refine N3.step_d M5 (u := (k : Int)) (h0 := wq0.heap.size) (by simp only [List.mem_cons, true_or, or_true]) (by rfl) (.tmp 67) (.tmp 69) rfl rfl rfl hld ?_
        intro vd1 wq6 M6
        refine hK.out _ _ trivial fun _ => ?_
        clear hK K
        try simp only [sp11, Act.put, List.setIfInBounds_toArray, List.set_cons_zero, List.set_cons_succ]
        refine tk (i := 12) (o := sp12) (v := ?vt146) HP0 rfl (by kernel_rfl) (by kernel_rfl) (by kernel_rfl) (by rfl) ?ht146 ?rt146
        case ht146 => (intro w _; unfold sp12; go_simp <;> with_reducible rfl)
        try simp only [sp12, Act.put, List.setIfInBounds_toArray, List.set_cons_zero, List.set_cons_succ]
        refine wpAnyH_ready (rs := [13]) (by kernel_rfl) (by simp) ?_
        refine (AllReadyH.cons (o := sp13) rfl (fun K hK => ?_) AllReadyH.nil)
        have cb : wq6.cell? ⟨w3.heap.size, 0, none⟩ = some vr := (M6.box.cell 0).trans rfl
        have fb := M6.box.free 0
        obtain ⟨A9, c9, e9⟩ := own_slice M6.r
        rw [HR1.out] at e9
        subst e9
        unfold sp13
        go_simp
        have M7 := M6.store (.slice A9 (k + 1) c9)
        clear cb fb
        refine hK.out _ _ trivial fun _ => ?_
        clear hK K
        try simp only [sp13, Act.put, List.setIfInBounds_toArray, List.set_cons_zero, List.set_cons_succ]
        refine tk (i := 14) (o := sp14) (v := ?vt147) HP0 rfl (by kernel_rfl) (by kernel_rfl) (by kernel_rfl) (by rfl) ?ht147 ?rt147
        case ht147 => (intro w _; unfold sp14; go_simp <;> with_reducible rfl)
        try simp only [sp14, Act.put, List.setIfInBounds_toArray, List.set_cons_zero, List.set_cons_succ]
        refine wpAnyH_done (by kernel_rfl) ?_ _
        exact HN0 _ _ (NoPanic.normal ⟨vo1, _, vd1, _, _, _, _, _, _, _, _, _, _, _, _, rfl, M7⟩)
        have cb : wq2.cell? ⟨w3.heap.size, 0, none⟩ = some vr := (M2.box.cell 0).trans rfl
        unfold sp4
        go_simp
        clear cb
        refine hK.out _ _ trivial fun _ => ?_
        clear hK K
        try simp only [sp4, Act.put, List.setIfInBounds_toArray, List.set_cons_zero, List.set_cons_succ]
        refine wpAnyH_ready (rs := [2]) (by kernel_rfl) (by simp) ?_
        refine (AllReadyH.cons (o := sp2) rfl (fun K hK => ?_) AllReadyH.nil)
        unfold sp2
        go_simp
        have M3 := M2.alloc q 2
        generalize (wq2.alloc (Obj.cells #[Value.int .i64 q] 2)) = wq3 at M3 ⊢
        refine hK.out _ _ trivial fun _ => ?_
        clear hK K
        try simp only [sp2, Act.put, List.setIfInBounds_toArray, List.set_cons_zero, List.set_cons_succ]
        refine wpAnyH_ready (rs := [3]) (by kernel_rfl) (by simp) ?_
        refine (AllReadyH.cons (o := sp3) rfl (fun K hK => ?_) AllReadyH.nil)
        unfold sp3
        refine N3.step_o M3 (u := q) (h0 := wq2.heap.size) (by simp only [List.mem_cons, true_or, or_true]) (by rfl) (.tmp 59) (.tmp 61) rfl rfl rfl hlo ?_
        intro vo1 wq4 M4
        refine hK.out _ _ trivial fun _ => ?_
        clear hK K
        try simp only [sp3, Act.put, List.setIfInBounds_toArray, List.set_cons_zero, List.set_cons_succ]
        refine wpAnyH_ready (rs := [7]) (by kernel_rfl) (by simp) ?_
        refine (AllReadyH.cons (o := sp7) rfl (fun K hK => ?_) AllReadyH.nil)
        unfold sp7
        refine N3.step_r M4 (u := r) (h0 := wq1.heap.size) (by simp only [List.mem_cons, true_or, or_true]) (by rfl) (.tmp 63) (.tmp 65) rfl rfl rfl hlr ?_
        intro vr1 wq5 M5
        refine hK.out _ _ trivial fun _ => ?_
        clear hK K
        try simp only [sp7, Act.put, List.setIfInBounds_toArray, List.set_cons_zero, List.set_cons_succ]
        refine wpAnyH_ready (rs := [11]) (by kernel_rfl) (by simp) ?_
        refine (AllReadyH.cons (o := sp11) rfl (fun K hK => ?_) AllReadyH.nil)
        unfold sp11
        refine N3.step_d M5 (u := (k : Int)) (h0 := wq0.heap.size) (by simp only [List.mem_cons, true_or, or_true]) (by rfl) (.tmp 67) (.tmp 69) rfl rfl rfl hld ?_
        intro vd1 wq6 M6
        refine hK.out _ _ trivial fun _ => ?_
        clear hK K
        try simp only [sp11, Act.put, List.setIfInBounds_toArray, List.set_cons_zero, List.set_cons_succ]
        refine tk (i := 12) (o := sp12) (v := ?vt148) HP0 rfl (by kernel_rfl) (by kernel_rfl) (by kernel_rfl) (by rfl) ?ht148 ?rt148
        case ht148 => (intro w _; unfold sp12; go_simp <;> with_reducible rfl)
        try simp only [sp12, Act.put, List.setIfInBounds_toArray, List.set_cons_zero, List.set_cons_succ]
        refine wpAnyH_ready (rs := [13]) (by kernel_rfl) (by simp) ?_
        refine (AllReadyH.cons (o := sp13) rfl (fun K hK => ?_) AllReadyH.nil)
        have cb : wq6.cell? ⟨w3.heap.size, 0, none⟩ = some vr := (M6.box.cell 0).trans rfl
        have fb := M6.box.free 0
        obtain ⟨A9, c9, e9⟩ := own_slice M6.r
        rw [HR1.out] at e9
        subst e9
        unfold sp13
        go_simp
        have M7 := M6.store (.slice A9 (k + 1) c9)
        clear cb fb
        refine hK.out _ _ trivial fun _ => ?_
        clear hK K
        try simp only [sp13, Act.put, List.setIfInBounds_toArray, List.set_cons_zero, List.set_cons_succ]
        refine tk (i := 14) (o := sp14) (v := ?vt149) HP0 rfl (by kernel_rfl) (by kernel_rfl) (by kernel_rfl) (by rfl) ?ht149 ?rt149
        case ht149 => (intro w _; unfold sp14; go_simp <;> with_reducible rfl)
        try simp only [sp14, Act.put, List.setIfInBounds_toArray, List.set_cons_zero, List.set_cons_succ]
        refine wpAnyH_done (by kernel_rfl) ?_ _
        exact HN0 _ _ (NoPanic.normal ⟨vo1, _, vd1, _, _, _, _, _, _, _, _, _, _, _, _, rfl, M7⟩)
      · rintro a1 w1' ⟨vo1, vr1, vd1, y59, y60, y61, y62, y63, y64, y65, y66, y67, y68, y69, y70, rfl, hN⟩
        have HN1 := Aside0.mk hN
        clear hN HN4 HN hx
        go_wp2_with fail
        go_roundw
        case measure => simp [intOf]; omega
        case rel =>
          refine ⟨k + 1, vr1, by omega, by go_num, by rw [HL2.out], ⟨?_⟩⟩
          have := HN1.out
          rw [HQ.out, HRR.out] at this
          rw [take_snoc _ k (by rw [qL_len]; exact hlt), take_snoc _ k (by rw [rL_len]; exact hlt), ids_succ]
          exact this
    · obtain rfl : k = ws.length := by omega
      have hlz : ¬ ((ws.length : Int)) < (ws.length : Int) := by omega
      have hall := HALL.out
      have hpos : 0 < ws.length := by
        have := H5.out
        cases ws with
        | nil => simp at this
        | cons x l => simp
      have hq := q_sum ht0 H3.out H5.out
      rw [← hall] at hq
      have hn := HN.out
      have eQ : (qL t all ws).take ws.length = qL t all ws := by rw [← qL_len t all ws]; exact List.take_length
      have eR : (rL t all ws).take ws.length = rL t all ws := by rw [← rL_len t all ws]; exact List.take_length
      rw [eQ, eR] at hn
      rw [eQ]
      have o1 := hn.o
      have r1 := hn.r
      have d1 := hn.d
      rw [qL_len] at o1
      rw [rL_len] at r1
      rw [ids_len] at d1
      obtain ⟨go, co, cuo, rfl, lo1, lo2, lo3, lo4⟩ := row_of_own o1 hpos (qL_len _ _ _)
      obtain ⟨gr, cr, cur, rfl, lr1, lr2, lr3, lr4⟩ := row_of_own r1 hpos (rL_len _ _ _)
      obtain ⟨gd, cd, cud, rfl, ld1, ld2, ld3, ld4⟩ := row_of_own d1 hpos (ids_len _)
      have ne1 : go ≠ gd := fun e => by subst e; have := lo3.out.symm.trans ld3.out; simp at this
      have ne2 : gr ≠ gd := fun e => by subst e; have := lr3.out.symm.trans ld3.out; simp at this
      have ne3 : w3.heap.size ≠ gd := fun e => by rw [← e] at ld3; have := hn.box.out.symm.trans ld3.out; simp at this
      have HRI := Aside0.mk (show RowI wr go ws.length (qAt t all ws) from ⟨cuo, lo3, lo4⟩)
      have ksort := Aside0.mk (sort_calls (cap := cd) (r := rAt t all ws) wr ⟨cud, ld3, fun i hi => by rw [ld4 i hi, ids_at _ _ hi]⟩ (⟨hn.box, cur, lr3, lr4⟩ : RestsAt wr w3.heap.size gr ws.length cr (rAt t all ws)) ne3 ne2 hm)
      have HLOW := Aside0.mk (below_step' HB3.out hn.low)
      have hL : w.heap.size ≤ w3.heap.size := HB3.out.size
      obtain ⟨m, hm2⟩ : ∃ m, m = leftOf t all ws := ⟨_, rfl⟩
      have hmi : t - (qL t all ws).sum = (m : Int) := by rw [hm2]; unfold leftOf; omega
      have hml : m < ws.length := by omega
      have hmz0 : (0 : Int) ≤ (m : Int) := by omega
      have hmz : (m : Int) ≤ (cd : Int) := by omega
      obtain ⟨i0, hi, hzz⟩ := Option.map_eq_some_iff.1 infoI
      simp only [Prod.mk.injEq] at hzz
      have HCUT := (print_take_of (P := Try.prog) (Value.int .i64) (0 : Int) 37 3 .i64 Try.underlying37 hi hzz.2.1 (some ⟨gd, 0, none⟩) cd (ids ws.length) (m : Int) hmz0 (by rw [ids_len]; omega) (by rw [ids_len]; omega)).1
      rw [List.length_take, ids_len, Int.toNat_natCast, Nat.min_eq_left (by omega)] at HCUT
      have HM := Aside0.mk hm2
      have HMI := Aside0.mk hmi
      have NE1 := Aside0.mk ne1
      have LO1 := Aside0.mk lo1
      have LD1 := Aside0.mk ld1
      have LO2 := Aside0.mk lo2
      rw [hmi]
      clear hn o1 r1 d1 lo1 lo2 lo3 lo4 lr1 lr2 lr3 lr4 ld1 ld2 ld3 ld4 ne1 ne2 ne3 hm2 hmi hi hzz hall hq eQ eR HN
      go_wp2_with (go_at_call 17; refine ksort.out.mono ?_; rintro e w5 ⟨rfl, hu, f, hR, hO⟩; have HU5 := Aside0.mk hu; have HRD := Aside0.mk hR; have HO := Aside0.mk hO; have HRO := Aside0.mk (HRI.out.upd hu NE1.out); clear hu hR hO ksort)
      go_loopw [82] (fun vi wx => ∃ j : Nat, j ≤ m ∧ vi = .int .i64 j ∧ Aside0 (Upd go w5 wx) ∧ Aside0 (RowI wx go ws.length (outF (qAt t all ws) f j))) (fun i _ => m - (intOf i).toNat)
      case atStart => exact ⟨0, Nat.zero_le _, rfl, ⟨Upd.refl _ _⟩, ⟨by rw [outF_zero]; exact HRO.out⟩⟩
      case round =>
        obtain ⟨j, hj, rfl, HUX, HRX⟩ := hrel
        by_cases hjm : j < m
        · have hjz : (j : Int) < (m : Int) := by omega
          have cd0 := (HRD.out.upd HUX.out NE1.out.symm).cell (show j < ws.length by omega)
          have hfb := HO.out.bd (show j < ws.length by omega)
          have co0 := HRX.out.cell hfb
          have fo0 := HRX.out.free (f j)
          have hnh := HO.out.not_hit (show j < ws.length by omega)
          obtain ⟨i, hi⟩ : ∃ i, i = f j := ⟨_, rfl⟩
          rw [← hi] at cd0 co0 fo0 hfb
          obtain ⟨u, hu⟩ : ∃ u, u = outF (qAt t all ws) f j i := ⟨_, rfl⟩
          rw [← hu] at co0
          have hw : IntKind.i64.wrap (u + 1) = u + 1 := by
            have e1 : u = qAt t all ws i := by rw [hu, hi]; unfold outF; rw [hnh]; simp
            have e2 := q_le_left ht0 H3.out H5.out i hfb
            rw [← HALL.out] at e2
            have e3 := HMI.out
            have e4 := H2.out
            unfold I64 at e4
            rw [IntKind.wrap_i64]
            omega
          have hiz : (i : Int) < (ws.length : Int) := by omega
          have HI := Aside0.mk hi
          have HUU := Aside0.mk hu
          have HNH := Aside0.mk hnh
          clear hi hu hnh
          go_wp2_with fail
          go_roundw
          case measure => simp [intOf]; omega
          case rel =>
            refine ⟨j + 1, by omega, by go_num, ⟨HUX.out.put _ _⟩, ⟨?_⟩⟩
            have := HRX.out.put hfb (u + 1)
            rw [HUU.out, HI.out, outF_step HNH.out] at this
            rw [HUU.out, HI.out]
            exact this
        · obtain rfl : j = m := by omega
          have hjz : ¬ (j : Int) < (j : Int) := by omega
          go_wp2_with fail
          go_ret2
          have hall := HALL.out
          subst hall
          have hb := (HLOW.out.grown HU5.out.1 HLOW.out.size (fun k hk => by injection hk with hk; rw [← hk]; have := LD1.out; omega)).grown HUX.out.1 (by have := HLOW.out.size; have := HU5.out.2; omega) (fun k hk => by injection hk with hk; rw [← hk]; have := LO1.out; omega)
          have hrd := HRX.out.reads (outL t ws.sum ws f) (outL_len _ _ _ _) (fun i hi => by rw [outL_at _ _ _ _ _ hi, HM.out]) (by omega)
          refine ⟨some ⟨go, 0, none⟩, co, 0, outL t ws.sum ws f, by rw [outL_len]; rfl, by rw [outL_len]; exact hrd, ?_, hb, by rw [outL_len]; exact hm⟩
          unfold SplitIs
          rw [if_neg (by rintro (h | h | ⟨x, hx, h⟩); omega; omega; have := H3.out x hx; omega), if_neg (fun h => h H4.out), if_neg (by have := H5.out; omega)]
          exact ⟨rfl, f, HO.out, rfl⟩
end Go.Proofs.Ytimdoddaaelfjaa.Ext
