/- entry's GetPosting and GetInvoice: what the readers' closures take (printed by mkget3.py). -/
import Derived.Test.YtdfmganmchmbjaaEGet2
import Derived.Deep.RegionLaw
namespace Go.Proofs.Ytdfmganmchmbjaa.Ext
open Go.RowKit Go.Proofs.YtdfmganmchmbjaaW.PrintWords Go.Proofs.YtdfmganmchmbjaaW.PrintLast Go.Proofs.YtdfmganmchmbjaaW.PrintMore Go.Proofs.YtdfmganmchmbjaaW.Hand Go.Proofs.Ytdfmganmchmbjaa.PZ
set_option linter.unusedVariables false
set_option linter.unusedSimpArgs false
theorem r_str {W : World} {base : Nat} {ok : Nat → Prop} {v : Value} {xs : List Int} (h : Kd.R (Kd.int .u8) 5 W base ok v xs) : (convert 31 9 v).run Try.prog W = .ok (.string (strOfNums xs)) W :=
  own_string (P := Try.prog) Try.underlying31 Try.underlying5 Try.underlying9 (Kd.own_of_R h)
theorem Rs.take_len (r : Rs) (n : Nat) : (r.take n).2.xs.length ≤ r.xs.length := by
  unfold Rs.take
  by_cases h : r.bad = true ∨ r.xs.length < n
  · rw [if_pos h]; exact Nat.le_refl _
  · rw [if_neg h]; simp
theorem Rs.byte_len (r : Rs) : r.byte.2.xs.length ≤ r.xs.length := by
  have h := Rs.take_len r 1
  unfold Rs.byte
  cases ht : r.take 1 with | mk o r' => rw [ht] at h; cases o <;> exact h
theorem Rs.len4_len (r : Rs) : r.len4.2.xs.length ≤ r.xs.length := by
  have h := Rs.take_len r 4
  unfold Rs.len4
  cases ht : r.take 4 with | mk o r' => rw [ht] at h; cases o <;> exact h
theorem Rs.text_len (r : Rs) : r.text.2.xs.length ≤ r.xs.length := by
  have h1 := Rs.len4_len r
  have h := Rs.take_len r.len4.2 r.len4.1.toNat
  unfold Rs.text
  cases ht : r.len4.2.take r.len4.1.toNat with | mk o r' => rw [ht] at h; cases o <;> exact Nat.le_trans h h1
theorem Rs.count_len (r : Rs) (m : Int) : (r.count m).2.xs.length ≤ r.xs.length := by
  unfold Rs.count
  have := Rs.uint_len r
  by_cases h : m < 0 ∨ m < r.uint.1
  · rw [if_pos h]; exact this
  · rw [if_neg h]; exact this
theorem Rs.count_le (r : Rs) (m : Int) (hm : 0 ≤ m) (hb : ∀ x ∈ r.xs, IsByte x) : 0 ≤ (r.count m).1 ∧ (r.count m).1 ≤ m := by
  unfold Rs.count
  have := uint_lt r hb
  by_cases h : m < 0 ∨ m < r.uint.1
  · rw [if_pos h]; exact ⟨Int.le_refl _, hm⟩
  · rw [if_neg h]; exact ⟨this.1, by omega⟩
/-- So many elements, one behind the other. -/
def relems {α : Type} (f : Rs → α × Rs) (r : Rs) : Nat → List α × Rs
  | 0 => ([], r)
  | k + 1 => ((relems f r k).1 ++ [(f (relems f r k).2).1], (f (relems f r k).2).2)
theorem relems_len {α : Type} {f : Rs → α × Rs} (hf : ∀ r, (f r).2.xs.length ≤ r.xs.length) (r : Rs) (k : Nat) : (relems f r k).2.xs.length ≤ r.xs.length := by
  induction k with
  | zero => exact Nat.le_refl _
  | succ k ih => exact Nat.le_trans (hf _) ih
theorem relems_length {α : Type} (f : Rs → α × Rs) (r : Rs) (k : Nat) : (relems f r k).1.length = k := by
  induction k with
  | zero => rfl
  | succ k ih => simp [relems, ih]
theorem blk_set {W : World} {q : Nat} {o : Obj} (h : Blk W q o) (p : Addr) (v : Value) (hp : q ≠ p.block) : Blk (W.setCell p v) q o := ⟨(heap_setCell_other W p q v hp).trans h.out⟩
/-- What a reading closure keeps: the reader's box, the result, what is made. -/
def PP {α : Type} (w W : World) (q g p L0 tt : Nat) (Z P : Array Value) (d : Kd α) (e : TypeId) (v : Value) (xs : List α) : Prop :=
  Blk W q (Obj.cells #[.pointer (some ⟨g, 0, none⟩)] 78 (0, 0)) ∧ Blk W (q + 1) (Obj.cells Z tt (0, 0)) ∧ Blk W p (Obj.cells P tt (0, 0)) ∧ w.grownBy W (some g) ∧ L0 ≤ W.heap.size ∧ Kd.R d e W L0 (fun _ => True) v xs
def PPN (w : World) (q g p L0 : Nat) : Prop := g < q ∧ w.heap.size = q ∧ q + 1 < p ∧ p < L0
theorem PP.grown {α : Type} {w W W' : World} {q g p L0 tt : Nat} {Z P : Array Value} {d : Kd α} {e : TypeId} {v : Value} {xs : List α} (h : PP w W q g p L0 tt Z P d e v xs) (hg : W.grownBy W' (some g)) (hn : PPN w q g p L0) : PP w W' q g p L0 tt Z P d e v xs := by
  obtain ⟨h1, h2, h3, h4, h5, h6⟩ := h
  obtain ⟨n1, n2, n3, n4⟩ := hn
  exact ⟨blk_grown h1 hg (fun e => by injection e with e; omega), blk_grown h2 hg (fun e => by injection e with e; omega), blk_grown h3 hg (fun e => by injection e with e; omega), grown_trans h4 hg, Nat.le_trans h5 hg.size,
    Kd.R_mono (Kd.R_step (Kd.R_bound h6) (fun k hk2 hlt => hg.block k hlt (fun e => by injection e with e; have := hk2.2.1; omega))) (fun _ _ => trivial)⟩
theorem PP.put {α : Type} {w W W' : World} {q g p L0 tt : Nat} {Z P P' : Array Value} {d : Kd α} {e : TypeId} {v v' : Value} {xs xs' : List α} (h : PP w W q g p L0 tt Z P d e v xs) (hr : Kd.R d e W' L0 (fun _ => True) v' xs') (hb : Below L0 W W') (hn : PPN w q g p L0) (i : Nat) (hi : P.setIfInBounds i v' = P') : PP w (W'.setCell ⟨p, i, none⟩ v') q g p L0 tt Z P' d e v' xs' := by
  obtain ⟨h1, h2, h3, h4, h5, h6⟩ := h
  obtain ⟨n1, n2, n3, n4⟩ := hn
  have b1 : Blk W' q _ := ⟨(hb.block q (by omega)).trans h1.out⟩
  have b2 : Blk W' (q + 1) _ := ⟨(hb.block (q + 1) (by omega)).trans h2.out⟩
  have b3 : Blk W' p _ := ⟨(hb.block p (by omega)).trans h3.out⟩
  have g4 : w.grownBy W' (some g) := ⟨hb.os.trans h4.os, hb.tape.trans h4.tape, hb.output.trans h4.output, Nat.le_trans h4.size hb.size, fun k hk hne => (hb.block k (by omega)).trans (h4.block k hk hne)⟩
  refine ⟨blk_set b1 _ _ (by show q ≠ p; omega), blk_set b2 _ _ (by show q + 1 ≠ p; omega), b3.put i v' hi, grown_set g4 p i v' (by omega), ?_, ?_⟩
  · rw [World.size_setCell]; exact Nat.le_trans h5 hb.size
  · exact Kd.R_mono (Kd.R_far (Kd.R_bound hr) (p := ⟨p, i, none⟩) (fun k hk => by have := hk.2.1; show k ≠ p; omega) _) (fun _ _ => trivial)
def rpart (r : Rs) : S37 × Rs :=
  let t0 := r.text
  let t1 := t0.2.int
  (⟨strOfNums t0.1, t1.1⟩, t1.2)
theorem rpart_len (r : Rs) : (rpart r).2.xs.length ≤ r.xs.length := (Nat.le_trans (Rs.int_len r.text.2) (Rs.text_len r))
def rposting (r : Rs) : (Int × Int × Int × List S37) × Rs :=
  let s0 := r.uint
  let s1 := s0.2.int
  let s2 := s1.2.small
  let c := s2.2.count 16
  let p := relems rpart c.2 c.1.toNat
  ((s0.1, s1.1, s2.1, p.1), p.2)
theorem rposting_len (r : Rs) : (rposting r).2.xs.length ≤ r.xs.length := (Nat.le_trans (relems_len rpart_len (r.uint.2.int.2.small.2.count 16).2 (r.uint.2.int.2.small.2.count 16).1.toNat) (Nat.le_trans (Rs.count_len r.uint.2.int.2.small.2 16) (Nat.le_trans (Rs.small_len r.uint.2.int.2) (Nat.le_trans (Rs.int_len r.uint.2) (Rs.uint_len r)))))
set_option maxRecDepth 100000 in
set_option maxHeartbeats 6400000 in
theorem rposting_calls (g : Nat) (B : Nat → Prop) (r r' : Rs) (n0 n1 n2 : Int) (L : List S37) (he : rposting r = ((n0, n1, n2, L), r')) (w : World) (h : RdrS w g B r) (hB : ∀ k, B k → k < w.heap.size) (hm : r.xs.length ≤ 140737488355000) :
    Calls Try.prog 41 #[.agg #[.pointer (some ⟨g, 0, none⟩)]] w fun e w' => ∃ v : Value, e = .returned (.agg #[.int .u64 n0, .int .i64 n1, .int .u32 n2, v]) ∧ Kd.R k37 37 w' w.heap.size (fun _ => True) v L ∧ RdrS w' g B r' ∧ w.grownBy w' (some g) := by
  have HH := Aside0.mk h
  have HB := Aside0.mk hB
  have hgl : g < w.heap.size := by obtain ⟨A, c, h1, _⟩ := h; exact h1.lt
  unfold rposting at he
  simp only at he
  have kc0 := Aside0.mk (fun w h => Uint_calls g B r w h (by exact hm))
  have hm1 := Nat.le_trans (Rs.uint_len r) hm
  obtain ⟨⟨m0, r1⟩, hu0⟩ : ∃ u, r.uint = u := ⟨_, rfl⟩
  rw [hu0] at kc0 he hm1
  have kc1 := Aside0.mk (fun w h => Int_calls g B r1 w h (by exact hm1))
  have hm2 := Nat.le_trans (Rs.int_len r1) hm1
  obtain ⟨⟨m1, r2⟩, hu1⟩ : ∃ u, r1.int = u := ⟨_, rfl⟩
  rw [hu1] at kc1 he hm2
  have kc2 := Aside0.mk (fun w h => small_calls g B r2 w h (by exact hm2))
  have hm3 := Nat.le_trans (Rs.small_len r2) hm2
  obtain ⟨⟨m2, r3⟩, hu2⟩ : ∃ u, r2.small = u := ⟨_, rfl⟩
  rw [hu2] at kc2 he hm3
  have kcc := Aside0.mk (fun w h => Count_calls g B r3 16 w h (by exact hm3) (by omega) (by omega))
  have hmc := Nat.le_trans (Rs.count_len r3 16) hm3
  have hcl := Aside0.mk (fun hb => Rs.count_le r3 16 (by omega) hb)
  obtain ⟨⟨cn, rc⟩, huc⟩ : ∃ u, r3.count 16 = u := ⟨_, rfl⟩
  rw [huc] at kcc he hmc hcl
  have HMC := Aside0.mk hmc
  simp only [Prod.mk.injEq] at he
  obtain ⟨⟨e0, e1, e2, eL⟩, er⟩ := he
  subst e0
  subst e1
  subst e2
  subst eL
  subst er
  obtain ⟨n, hcn⟩ : ∃ n, cn.toNat = n := ⟨_, rfl⟩
  rw [hcn]
  have HCN := Aside0.mk hcn
  clear hcn
  clear h hB hm hmc huc hu0 hu1 hu2 hm1 hm2 hm3
  go_enter Try.func41, Try.ntmps41
  go_wp2_with fail
  have X1 : Aside0 (Blk ((w.alloc (Obj.cells #[.pointer (some ⟨g, 0, none⟩)] 78)).alloc (Obj.cells #[.int .u64 0, .int .i64 0, .int .u32 0, .slice none 0 0] 26)) w.heap.size (Obj.cells #[.pointer (some ⟨g, 0, none⟩)] 78 (0, 0))) := ⟨Blk.new_.alloc⟩
  have X2 : Aside0 (Blk ((w.alloc (Obj.cells #[.pointer (some ⟨g, 0, none⟩)] 78)).alloc (Obj.cells #[.int .u64 0, .int .i64 0, .int .u32 0, .slice none 0 0] 26)) (w.heap.size + 1) (Obj.cells #[.int .u64 0, .int .i64 0, .int .u32 0, .slice none 0 0] 26 (0, 0))) := ⟨Blk.new (by rw [size_alloc])⟩
  have HW : Aside0 (Below w.heap.size w ((w.alloc (Obj.cells #[.pointer (some ⟨g, 0, none⟩)] 78)).alloc (Obj.cells #[.int .u64 0, .int .i64 0, .int .u32 0, .slice none 0 0] 26))) := ⟨below_alloc (below_alloc (Below.refl _ _) _) _⟩
  obtain ⟨wa, hwa⟩ : ∃ W, (w.alloc (Obj.cells #[.pointer (some ⟨g, 0, none⟩)] 78)).alloc (Obj.cells #[.int .u64 0, .int .i64 0, .int .u32 0, .slice none 0 0] 26) = W := ⟨_, rfl⟩
  rw [hwa] at X1 X2 HW ⊢
  have R0 : Aside0 (RdrS wa.drew g B r) := ⟨RdrAt.drew (RdrAt.below HH.out HW.out)⟩
  clear hwa
  obtain ⟨q, hq⟩ : ∃ q, w.heap.size = q := ⟨_, rfl⟩
  have HQ := Aside0.mk hq
  rw [hq] at X1 X2 hgl HB ⊢
  have HGL := Aside0.mk hgl
  have A0 : Aside0 (Blk wa.drew q (Obj.cells #[.pointer (some ⟨g, 0, none⟩)] 78 (0, 0))) := ⟨X1.out.drew⟩
  have B0 : Aside0 (Blk wa.drew (q + 1) (Obj.cells #[.int .u64 0, .int .i64 0, .int .u32 0, .slice none 0 0] 26 (0, 0))) := ⟨X2.out.drew⟩
  have G0 : Aside0 (w.grownBy wa.drew (some g)) := ⟨grown_below (below_drew HW.out)⟩
  clear X1 X2 HW HH hgl hq
  have s0 : wa.drew.cell? ⟨q, 0, none⟩ = some (.pointer (some ⟨g, 0, none⟩)) := (A0.out.cell 0).trans rfl
  refine region_once (fun a W => ∃ p x4 x5 x6 x7 x8 x9 x10 x11 x12, q + 1 < p ∧ a = ⟨#[.agg #[.pointer (some ⟨g, 0, none⟩)], .pointer (some ⟨q, 0, none⟩), .pointer (some ⟨q + 1, 0, none⟩), .pointer (some ⟨p, 0, none⟩), x4, x5, x6, x7, x8, x9, x10, x11, x12, undef, undef, undef, undef, undef, undef, undef, undef, undef, undef, undef, undef, undef, undef, undef, undef, undef, undef, undef, undef], []⟩ ∧ Blk W q (Obj.cells #[.pointer (some ⟨g, 0, none⟩)] 78 (0, 0)) ∧ Blk W (q + 1) (Obj.cells #[.int .u64 0, .int .i64 0, .int .u32 0, .slice none 0 0] 26 (0, 0)) ∧ Blk W p (Obj.cells #[.int .u64 m0, .int .i64 m1, .int .u32 m2, .slice none 0 0] 26 (0, 0)) ∧ RdrS W g B r3 ∧ w.grownBy W (some g)) ?_ ?_
  · refine wp_region_held_drew (S := fun W : World => W.cell? ⟨q, 0, none⟩ = some (.pointer (some ⟨g, 0, none⟩))) (by kernel_rfl) ?_ (fun hHeld => ?_)
    · exact s0
    generalize wa.drew = wd at hHeld R0 A0 B0 G0 s0 ⊢
    refine wpAnyH_take (i := 0) (oi := { dst := some 4, op := Go.Op.fieldAddr 78 (Go.Operand.tmp 1) 0, type := 0, pos := "entry.go:69", after := #[], guard := none }) (v := ?vh0) rfl (by kernel_rfl) (by kernel_rfl) (by kernel_rfl) (fun _ _ _ h => h) (Or.inl ⟨by rfl, ?hyh0⟩) hHeld ?resth0
    case hyh0 => (intro w hSw; (try dsimp only at hSw); go_simp <;> with_reducible rfl)
    try simp only [Act.put, List.setIfInBounds_toArray, List.set_cons_zero, List.set_cons_succ]
    refine wpAnyH_take (i := 1) (oi := { dst := some 5, op := Go.Op.load 76 (Go.Operand.tmp 4), type := 76, pos := "entry.go:69", after := #[{ on := 0, ground := Go.Ground.data }], guard := none }) (v := ?vh1) rfl (by kernel_rfl) (by kernel_rfl) (by kernel_rfl) (fun _ _ _ h => h) (Or.inl ⟨by rfl, ?hyh1⟩) hHeld ?resth1
    case hyh1 => (intro w hSw; (try dsimp only at hSw); go_simp <;> with_reducible rfl)
    try simp only [Act.put, List.setIfInBounds_toArray, List.set_cons_zero, List.set_cons_succ]
    refine wpAnyH_take (i := 3) (oi := { dst := some 7, op := Go.Op.fieldAddr 78 (Go.Operand.tmp 1) 0, type := 0, pos := "entry.go:69", after := #[], guard := none }) (v := ?vh3) rfl (by kernel_rfl) (by kernel_rfl) (by kernel_rfl) (fun _ _ _ h => h) (Or.inl ⟨by rfl, ?hyh3⟩) hHeld ?resth3
    case hyh3 => (intro w hSw; (try dsimp only at hSw); go_simp <;> with_reducible rfl)
    try simp only [Act.put, List.setIfInBounds_toArray, List.set_cons_zero, List.set_cons_succ]
    refine wpAnyH_take (i := 4) (oi := { dst := some 8, op := Go.Op.load 76 (Go.Operand.tmp 7), type := 76, pos := "entry.go:69", after := #[{ on := 3, ground := Go.Ground.data }], guard := none }) (v := ?vh4) rfl (by kernel_rfl) (by kernel_rfl) (by kernel_rfl) (fun _ _ _ h => h) (Or.inl ⟨by rfl, ?hyh4⟩) hHeld ?resth4
    case hyh4 => (intro w hSw; (try dsimp only at hSw); go_simp <;> with_reducible rfl)
    try simp only [Act.put, List.setIfInBounds_toArray, List.set_cons_zero, List.set_cons_succ]
    refine wpAnyH_take (i := 6) (oi := { dst := some 10, op := Go.Op.load 78 (Go.Operand.tmp 1), type := 78, pos := "entry.go:69", after := #[], guard := none }) (v := ?vh6) rfl (by kernel_rfl) (by kernel_rfl) (by kernel_rfl) (fun _ _ _ h => h) (Or.inl ⟨by rfl, ?hyh6⟩) hHeld ?resth6
    case hyh6 => (intro w hSw; (try dsimp only at hSw); go_simp <;> with_reducible rfl)
    try simp only [Act.put, List.setIfInBounds_toArray, List.set_cons_zero, List.set_cons_succ]
    refine wpAnyH_ready (rs := [2, 9]) (by kernel_rfl) (by simp) ?_
    refine AllReadyH.cons (o := { dst := some 6, op := Go.Op.call { callee := Go.Callee.value (Go.Operand.func 42), args := #[Go.Operand.tmp 5], argTypes := #[76] }, type := 22, pos := "entry.go:69", after := #[{ on := 1, ground := Go.Ground.data }], guard := none }) rfl (fun K hK => ?_) (AllReadyH.cons (o := { dst := some 3, op := Go.Op.alloc 26, type := 0, pos := "entry.go:69", after := #[], guard := none }) rfl (fun K hK => ?_) AllReadyH.nil)
    · go_simp
      go_wp2_with (first | (go_at_call 42; (with_reducible refine (kc0.out _ R0.out).mono ?_); rintro e wr1 ⟨rfl, hr, hg⟩; (have R1 := Aside0.mk hr); (have A1 := Aside0.mk (blk_grown A0.out hg (fun e => by injection e with e; have := HGL.out; omega))); (have B1 := Aside0.mk (blk_grown B0.out hg (fun e => by injection e with e; have := HGL.out; omega))); (have G1 := Aside0.mk (grown_trans G0.out hg)); (have s1 : wr1.cell? ⟨q, 0, none⟩ = some (.pointer (some ⟨g, 0, none⟩)) := (A1.out.cell 0).trans rfl); clear hr hg R0 A0 B0 G0 s0))
      refine hK.out _ _ s1 (fun hHeld' => ?_)
      clear hK K hHeld
      have hHeld := hHeld'
      clear hHeld'
      try simp only [Act.put, List.setIfInBounds_toArray, List.set_cons_zero, List.set_cons_succ]
      refine wpAnyH_ready (rs := [5, 9]) (by kernel_rfl) (by simp) ?_
      refine AllReadyH.cons (o := { dst := some 9, op := Go.Op.call { callee := Go.Callee.value (Go.Operand.func 38), args := #[Go.Operand.tmp 8], argTypes := #[76] }, type := 2, pos := "entry.go:69", after := #[{ on := 4, ground := Go.Ground.data }, { on := 2, ground := Go.Ground.chain }], guard := none }) rfl (fun K hK => ?_) (AllReadyH.cons (o := { dst := some 3, op := Go.Op.alloc 26, type := 0, pos := "entry.go:69", after := #[], guard := none }) rfl (fun K hK => ?_) AllReadyH.nil)
      · go_simp
        go_wp2_with (first | (go_at_call 38; (with_reducible refine (kc1.out _ R1.out).mono ?_); rintro e wr2 ⟨rfl, hr, hg⟩; (have R2 := Aside0.mk hr); (have A2 := Aside0.mk (blk_grown A1.out hg (fun e => by injection e with e; have := HGL.out; omega))); (have B2 := Aside0.mk (blk_grown B1.out hg (fun e => by injection e with e; have := HGL.out; omega))); (have G2 := Aside0.mk (grown_trans G1.out hg)); (have s2 : wr2.cell? ⟨q, 0, none⟩ = some (.pointer (some ⟨g, 0, none⟩)) := (A2.out.cell 0).trans rfl); clear hr hg R1 A1 B1 G1 s1))
        refine hK.out _ _ s2 (fun hHeld' => ?_)
        clear hK K hHeld
        have hHeld := hHeld'
        clear hHeld'
        try simp only [Act.put, List.setIfInBounds_toArray, List.set_cons_zero, List.set_cons_succ]
        refine wpAnyH_ready (rs := [7, 9]) (by kernel_rfl) (by simp) ?_
        refine AllReadyH.cons (o := { dst := some 11, op := Go.Op.call { callee := Go.Callee.value (Go.Operand.func 37), args := #[Go.Operand.tmp 10], argTypes := #[78] }, type := 23, pos := "entry.go:69", after := #[{ on := 6, ground := Go.Ground.data }, { on := 5, ground := Go.Ground.chain }], guard := none }) rfl (fun K hK => ?_) (AllReadyH.cons (o := { dst := some 3, op := Go.Op.alloc 26, type := 0, pos := "entry.go:69", after := #[], guard := none }) rfl (fun K hK => ?_) AllReadyH.nil)
        · go_simp
          go_wp2_with (first | (go_at_call 37; (with_reducible refine (kc2.out _ R2.out).mono ?_); rintro e wr3 ⟨rfl, hr, hg⟩; (have R3 := Aside0.mk hr); (have A3 := Aside0.mk (blk_grown A2.out hg (fun e => by injection e with e; have := HGL.out; omega))); (have B3 := Aside0.mk (blk_grown B2.out hg (fun e => by injection e with e; have := HGL.out; omega))); (have G3 := Aside0.mk (grown_trans G2.out hg)); (have s3 : wr3.cell? ⟨q, 0, none⟩ = some (.pointer (some ⟨g, 0, none⟩)) := (A3.out.cell 0).trans rfl); clear hr hg R2 A2 B2 G2 s2))
          refine hK.out _ _ s3 (fun hHeld' => ?_)
          clear hK K hHeld
          have hHeld := hHeld'
          clear hHeld'
          try simp only [Act.put, List.setIfInBounds_toArray, List.set_cons_zero, List.set_cons_succ]
          refine wpAnyH_take (i := 8) (oi := { dst := some 12, op := Go.Op.build 26 #[(0, Go.Operand.tmp 6), (1, Go.Operand.tmp 9), (2, Go.Operand.tmp 11)], type := 26, pos := "entry.go:69", after := #[{ on := 2, ground := Go.Ground.data }, { on := 5, ground := Go.Ground.data }, { on := 7, ground := Go.Ground.data }], guard := none }) (v := ?vb1) rfl (by kernel_rfl) (by kernel_rfl) (by kernel_rfl) (fun _ _ _ h => h) (Or.inl ⟨by rfl, ?hyb1⟩) hHeld ?restb1
          case hyb1 => (intro w hSw; (try dsimp only at hSw); go_simp <;> with_reducible rfl)
          try simp only [Act.put, List.setIfInBounds_toArray, List.set_cons_zero, List.set_cons_succ]
          refine wpAnyH_ready (rs := [9]) (by kernel_rfl) (by simp) ?_
          refine AllReadyH.cons (o := { dst := some 3, op := Go.Op.alloc 26, type := 0, pos := "entry.go:69", after := #[], guard := none }) rfl (fun K hK => ?_) AllReadyH.nil
          go_simp
          have P4 : Aside0 (Blk (wr3.alloc (Obj.cells #[.int .u64 0, .int .i64 0, .int .u32 0, .slice none 0 0] 26)) wr3.heap.size (Obj.cells #[.int .u64 0, .int .i64 0, .int .u32 0, .slice none 0 0] 26 (0, 0))) := ⟨Blk.new_⟩
          have A4 : Aside0 (Blk (wr3.alloc (Obj.cells #[.int .u64 0, .int .i64 0, .int .u32 0, .slice none 0 0] 26)) q (Obj.cells #[.pointer (some ⟨g, 0, none⟩)] 78 (0, 0))) := ⟨A3.out.alloc⟩
          have B4 : Aside0 (Blk (wr3.alloc (Obj.cells #[.int .u64 0, .int .i64 0, .int .u32 0, .slice none 0 0] 26)) (q + 1) (Obj.cells #[.int .u64 0, .int .i64 0, .int .u32 0, .slice none 0 0] 26 (0, 0))) := ⟨B3.out.alloc⟩
          have R4 : Aside0 (RdrS (wr3.alloc (Obj.cells #[.int .u64 0, .int .i64 0, .int .u32 0, .slice none 0 0] 26)) g B r3) := ⟨RdrAt.alloc R3.out _⟩
          have G4 : Aside0 (w.grownBy (wr3.alloc (Obj.cells #[.int .u64 0, .int .i64 0, .int .u32 0, .slice none 0 0] 26)) (some g)) := ⟨grown_trans G3.out (grown_below (below_alloc (Below.refl _ _) _))⟩
          have hp : q + 1 < wr3.heap.size := B3.out.lt
          obtain ⟨wr4, hwr⟩ : ∃ W', wr3.alloc (Obj.cells #[.int .u64 0, .int .i64 0, .int .u32 0, .slice none 0 0] 26) = W' := ⟨_, rfl⟩
          obtain ⟨p, hpe⟩ : ∃ p, wr3.heap.size = p := ⟨_, rfl⟩
          rw [hwr] at P4 A4 B4 R4 G4 ⊢
          rw [hpe] at P4 hp ⊢
          have HP := Aside0.mk hp
          have s4 : wr4.cell? ⟨q, 0, none⟩ = some (.pointer (some ⟨g, 0, none⟩)) := (A4.out.cell 0).trans rfl
          clear hwr hpe hp R3 A3 B3 G3 s3
          refine hK.out _ _ s4 (fun hHeld' => ?_)
          clear hK K hHeld
          have hHeld := hHeld'
          clear hHeld'
          try simp only [Act.put, List.setIfInBounds_toArray, List.set_cons_zero, List.set_cons_succ]
          refine wpAnyH_ready (rs := [10]) (by kernel_rfl) (by simp) ?_
          refine AllReadyH.cons (o := { dst := none, op := Go.Op.store 26 (Go.Operand.tmp 3) (Go.Operand.tmp 12), type := 0, pos := "entry.go:69", after := #[{ on := 9, ground := Go.Ground.data }, { on := 8, ground := Go.Ground.data }, { on := 7, ground := Go.Ground.chain }, { on := 0, ground := Go.Ground.phase }, { on := 1, ground := Go.Ground.phase }, { on := 2, ground := Go.Ground.phase }, { on := 3, ground := Go.Ground.phase }, { on := 4, ground := Go.Ground.phase }, { on := 5, ground := Go.Ground.phase }, { on := 6, ground := Go.Ground.phase }, { on := 7, ground := Go.Ground.phase }, { on := 8, ground := Go.Ground.phase }, { on := 9, ground := Go.Ground.phase }], guard := none }) rfl (fun K hK => ?_) AllReadyH.nil
          have y0 := (P4.out.cell 0).trans (rfl : _ = some (Value.int .u64 0))
          have yf0 := P4.out.free 0
          have y1 := (P4.out.cell 1).trans (rfl : _ = some (Value.int .i64 0))
          have yf1 := P4.out.free 1
          have y2 := (P4.out.cell 2).trans (rfl : _ = some (Value.int .u32 0))
          have yf2 := P4.out.free 2
          have y3 := (P4.out.cell 3).trans (rfl : _ = some (Value.slice none 0 0))
          have yf3 := P4.out.free 3
          have FA : Aside0 (Blk ((((wr4.setCell ⟨p, 0, none⟩ (.int .u64 m0)).setCell ⟨p, 1, none⟩ (.int .i64 m1)).setCell ⟨p, 2, none⟩ (.int .u32 m2)).setCell ⟨p, 3, none⟩ (.slice none 0 0)) q (Obj.cells #[.pointer (some ⟨g, 0, none⟩)] 78 (0, 0))) := ⟨(blk_set (blk_set (blk_set (blk_set A4.out ⟨p, 0, none⟩ (.int .u64 m0) (by have := HP.out; show q ≠ p; omega)) ⟨p, 1, none⟩ (.int .i64 m1) (by have := HP.out; show q ≠ p; omega)) ⟨p, 2, none⟩ (.int .u32 m2) (by have := HP.out; show q ≠ p; omega)) ⟨p, 3, none⟩ (.slice none 0 0) (by have := HP.out; show q ≠ p; omega))⟩
          have FB : Aside0 (Blk ((((wr4.setCell ⟨p, 0, none⟩ (.int .u64 m0)).setCell ⟨p, 1, none⟩ (.int .i64 m1)).setCell ⟨p, 2, none⟩ (.int .u32 m2)).setCell ⟨p, 3, none⟩ (.slice none 0 0)) (q + 1) (Obj.cells #[.int .u64 0, .int .i64 0, .int .u32 0, .slice none 0 0] 26 (0, 0))) := ⟨(blk_set (blk_set (blk_set (blk_set B4.out ⟨p, 0, none⟩ (.int .u64 m0) (by have := HP.out; show q + 1 ≠ p; omega)) ⟨p, 1, none⟩ (.int .i64 m1) (by have := HP.out; show q + 1 ≠ p; omega)) ⟨p, 2, none⟩ (.int .u32 m2) (by have := HP.out; show q + 1 ≠ p; omega)) ⟨p, 3, none⟩ (.slice none 0 0) (by have := HP.out; show q + 1 ≠ p; omega))⟩
          have FP : Aside0 (Blk ((((wr4.setCell ⟨p, 0, none⟩ (.int .u64 m0)).setCell ⟨p, 1, none⟩ (.int .i64 m1)).setCell ⟨p, 2, none⟩ (.int .u32 m2)).setCell ⟨p, 3, none⟩ (.slice none 0 0)) p (Obj.cells #[.int .u64 m0, .int .i64 m1, .int .u32 m2, .slice none 0 0] 26 (0, 0))) := ⟨((((P4.out.put 0 (.int .u64 m0) rfl).put 1 (.int .i64 m1) rfl).put 2 (.int .u32 m2) rfl).put 3 (.slice none 0 0) rfl)⟩
          have FR : Aside0 (RdrS ((((wr4.setCell ⟨p, 0, none⟩ (.int .u64 m0)).setCell ⟨p, 1, none⟩ (.int .i64 m1)).setCell ⟨p, 2, none⟩ (.int .u32 m2)).setCell ⟨p, 3, none⟩ (.slice none 0 0)) g B r3) := ⟨(rdr_set (rdr_set (rdr_set (rdr_set R4.out ⟨p, 0, none⟩ (.int .u64 m0) (fun k hk => by have := HB.out k hk; have := HP.out; show k ≠ p; omega)) ⟨p, 1, none⟩ (.int .i64 m1) (fun k hk => by have := HB.out k hk; have := HP.out; show k ≠ p; omega)) ⟨p, 2, none⟩ (.int .u32 m2) (fun k hk => by have := HB.out k hk; have := HP.out; show k ≠ p; omega)) ⟨p, 3, none⟩ (.slice none 0 0) (fun k hk => by have := HB.out k hk; have := HP.out; show k ≠ p; omega))⟩
          have FG : Aside0 (w.grownBy ((((wr4.setCell ⟨p, 0, none⟩ (.int .u64 m0)).setCell ⟨p, 1, none⟩ (.int .i64 m1)).setCell ⟨p, 2, none⟩ (.int .u32 m2)).setCell ⟨p, 3, none⟩ (.slice none 0 0)) (some g)) := ⟨(grown_set (grown_set (grown_set (grown_set G4.out p 0 (.int .u64 m0) (by have := HP.out; have := HQ.out; omega)) p 1 (.int .i64 m1) (by have := HP.out; have := HQ.out; omega)) p 2 (.int .u32 m2) (by have := HP.out; have := HQ.out; omega)) p 3 (.slice none 0 0) (by have := HP.out; have := HQ.out; omega))⟩
          have sF : ((((wr4.setCell ⟨p, 0, none⟩ (.int .u64 m0)).setCell ⟨p, 1, none⟩ (.int .i64 m1)).setCell ⟨p, 2, none⟩ (.int .u32 m2)).setCell ⟨p, 3, none⟩ (.slice none 0 0)).cell? ⟨q, 0, none⟩ = some (.pointer (some ⟨g, 0, none⟩)) := (FA.out.cell 0).trans rfl
          go_simp
          refine hK.out _ _ sF (fun hHeld' => ?_)
          try simp only [Act.put, List.setIfInBounds_toArray, List.set_cons_zero, List.set_cons_succ]
          refine wpAnyH_done (by kernel_rfl) ?_ _
          exact NoPanic.normal ⟨p, _, _, _, _, _, _, _, _, _, HP.out, rfl, FA.out, FB.out, FP.out, FR.out, FG.out⟩
        · go_simp
          have P3 : Aside0 (Blk (wr2.alloc (Obj.cells #[.int .u64 0, .int .i64 0, .int .u32 0, .slice none 0 0] 26)) wr2.heap.size (Obj.cells #[.int .u64 0, .int .i64 0, .int .u32 0, .slice none 0 0] 26 (0, 0))) := ⟨Blk.new_⟩
          have A3 : Aside0 (Blk (wr2.alloc (Obj.cells #[.int .u64 0, .int .i64 0, .int .u32 0, .slice none 0 0] 26)) q (Obj.cells #[.pointer (some ⟨g, 0, none⟩)] 78 (0, 0))) := ⟨A2.out.alloc⟩
          have B3 : Aside0 (Blk (wr2.alloc (Obj.cells #[.int .u64 0, .int .i64 0, .int .u32 0, .slice none 0 0] 26)) (q + 1) (Obj.cells #[.int .u64 0, .int .i64 0, .int .u32 0, .slice none 0 0] 26 (0, 0))) := ⟨B2.out.alloc⟩
          have R3 : Aside0 (RdrS (wr2.alloc (Obj.cells #[.int .u64 0, .int .i64 0, .int .u32 0, .slice none 0 0] 26)) g B r2) := ⟨RdrAt.alloc R2.out _⟩
          have G3 : Aside0 (w.grownBy (wr2.alloc (Obj.cells #[.int .u64 0, .int .i64 0, .int .u32 0, .slice none 0 0] 26)) (some g)) := ⟨grown_trans G2.out (grown_below (below_alloc (Below.refl _ _) _))⟩
          have hp : q + 1 < wr2.heap.size := B2.out.lt
          obtain ⟨wr3, hwr⟩ : ∃ W', wr2.alloc (Obj.cells #[.int .u64 0, .int .i64 0, .int .u32 0, .slice none 0 0] 26) = W' := ⟨_, rfl⟩
          obtain ⟨p, hpe⟩ : ∃ p, wr2.heap.size = p := ⟨_, rfl⟩
          rw [hwr] at P3 A3 B3 R3 G3 ⊢
          rw [hpe] at P3 hp ⊢
          have HP := Aside0.mk hp
          have s3 : wr3.cell? ⟨q, 0, none⟩ = some (.pointer (some ⟨g, 0, none⟩)) := (A3.out.cell 0).trans rfl
          clear hwr hpe hp R2 A2 B2 G2 s2
          refine hK.out _ _ s3 (fun hHeld' => ?_)
          clear hK K hHeld
          have hHeld := hHeld'
          clear hHeld'
          try simp only [Act.put, List.setIfInBounds_toArray, List.set_cons_zero, List.set_cons_succ]
          refine wpAnyH_ready (rs := [7]) (by kernel_rfl) (by simp) ?_
          refine AllReadyH.cons (o := { dst := some 11, op := Go.Op.call { callee := Go.Callee.value (Go.Operand.func 37), args := #[Go.Operand.tmp 10], argTypes := #[78] }, type := 23, pos := "entry.go:69", after := #[{ on := 6, ground := Go.Ground.data }, { on := 5, ground := Go.Ground.chain }], guard := none }) rfl (fun K hK => ?_) AllReadyH.nil
          go_simp
          go_wp2_with (first | (go_at_call 37; (with_reducible refine (kc2.out _ R3.out).mono ?_); rintro e wr4 ⟨rfl, hr, hg⟩; (have R4 := Aside0.mk hr); (have A4 := Aside0.mk (blk_grown A3.out hg (fun e => by injection e with e; have := HGL.out; omega))); (have B4 := Aside0.mk (blk_grown B3.out hg (fun e => by injection e with e; have := HGL.out; omega))); (have P4 := Aside0.mk (blk_grown P3.out hg (fun e => by injection e with e; have := HGL.out; have := HP.out; omega))); (have G4 := Aside0.mk (grown_trans G3.out hg)); (have s4 : wr4.cell? ⟨q, 0, none⟩ = some (.pointer (some ⟨g, 0, none⟩)) := (A4.out.cell 0).trans rfl); clear hr hg R3 A3 B3 G3 s3 P3))
          refine hK.out _ _ s4 (fun hHeld' => ?_)
          clear hK K hHeld
          have hHeld := hHeld'
          clear hHeld'
          try simp only [Act.put, List.setIfInBounds_toArray, List.set_cons_zero, List.set_cons_succ]
          refine wpAnyH_take (i := 8) (oi := { dst := some 12, op := Go.Op.build 26 #[(0, Go.Operand.tmp 6), (1, Go.Operand.tmp 9), (2, Go.Operand.tmp 11)], type := 26, pos := "entry.go:69", after := #[{ on := 2, ground := Go.Ground.data }, { on := 5, ground := Go.Ground.data }, { on := 7, ground := Go.Ground.data }], guard := none }) (v := ?vb2) rfl (by kernel_rfl) (by kernel_rfl) (by kernel_rfl) (fun _ _ _ h => h) (Or.inl ⟨by rfl, ?hyb2⟩) hHeld ?restb2
          case hyb2 => (intro w hSw; (try dsimp only at hSw); go_simp <;> with_reducible rfl)
          try simp only [Act.put, List.setIfInBounds_toArray, List.set_cons_zero, List.set_cons_succ]
          refine wpAnyH_ready (rs := [10]) (by kernel_rfl) (by simp) ?_
          refine AllReadyH.cons (o := { dst := none, op := Go.Op.store 26 (Go.Operand.tmp 3) (Go.Operand.tmp 12), type := 0, pos := "entry.go:69", after := #[{ on := 9, ground := Go.Ground.data }, { on := 8, ground := Go.Ground.data }, { on := 7, ground := Go.Ground.chain }, { on := 0, ground := Go.Ground.phase }, { on := 1, ground := Go.Ground.phase }, { on := 2, ground := Go.Ground.phase }, { on := 3, ground := Go.Ground.phase }, { on := 4, ground := Go.Ground.phase }, { on := 5, ground := Go.Ground.phase }, { on := 6, ground := Go.Ground.phase }, { on := 7, ground := Go.Ground.phase }, { on := 8, ground := Go.Ground.phase }, { on := 9, ground := Go.Ground.phase }], guard := none }) rfl (fun K hK => ?_) AllReadyH.nil
          have y0 := (P4.out.cell 0).trans (rfl : _ = some (Value.int .u64 0))
          have yf0 := P4.out.free 0
          have y1 := (P4.out.cell 1).trans (rfl : _ = some (Value.int .i64 0))
          have yf1 := P4.out.free 1
          have y2 := (P4.out.cell 2).trans (rfl : _ = some (Value.int .u32 0))
          have yf2 := P4.out.free 2
          have y3 := (P4.out.cell 3).trans (rfl : _ = some (Value.slice none 0 0))
          have yf3 := P4.out.free 3
          have FA : Aside0 (Blk ((((wr4.setCell ⟨p, 0, none⟩ (.int .u64 m0)).setCell ⟨p, 1, none⟩ (.int .i64 m1)).setCell ⟨p, 2, none⟩ (.int .u32 m2)).setCell ⟨p, 3, none⟩ (.slice none 0 0)) q (Obj.cells #[.pointer (some ⟨g, 0, none⟩)] 78 (0, 0))) := ⟨(blk_set (blk_set (blk_set (blk_set A4.out ⟨p, 0, none⟩ (.int .u64 m0) (by have := HP.out; show q ≠ p; omega)) ⟨p, 1, none⟩ (.int .i64 m1) (by have := HP.out; show q ≠ p; omega)) ⟨p, 2, none⟩ (.int .u32 m2) (by have := HP.out; show q ≠ p; omega)) ⟨p, 3, none⟩ (.slice none 0 0) (by have := HP.out; show q ≠ p; omega))⟩
          have FB : Aside0 (Blk ((((wr4.setCell ⟨p, 0, none⟩ (.int .u64 m0)).setCell ⟨p, 1, none⟩ (.int .i64 m1)).setCell ⟨p, 2, none⟩ (.int .u32 m2)).setCell ⟨p, 3, none⟩ (.slice none 0 0)) (q + 1) (Obj.cells #[.int .u64 0, .int .i64 0, .int .u32 0, .slice none 0 0] 26 (0, 0))) := ⟨(blk_set (blk_set (blk_set (blk_set B4.out ⟨p, 0, none⟩ (.int .u64 m0) (by have := HP.out; show q + 1 ≠ p; omega)) ⟨p, 1, none⟩ (.int .i64 m1) (by have := HP.out; show q + 1 ≠ p; omega)) ⟨p, 2, none⟩ (.int .u32 m2) (by have := HP.out; show q + 1 ≠ p; omega)) ⟨p, 3, none⟩ (.slice none 0 0) (by have := HP.out; show q + 1 ≠ p; omega))⟩
          have FP : Aside0 (Blk ((((wr4.setCell ⟨p, 0, none⟩ (.int .u64 m0)).setCell ⟨p, 1, none⟩ (.int .i64 m1)).setCell ⟨p, 2, none⟩ (.int .u32 m2)).setCell ⟨p, 3, none⟩ (.slice none 0 0)) p (Obj.cells #[.int .u64 m0, .int .i64 m1, .int .u32 m2, .slice none 0 0] 26 (0, 0))) := ⟨((((P4.out.put 0 (.int .u64 m0) rfl).put 1 (.int .i64 m1) rfl).put 2 (.int .u32 m2) rfl).put 3 (.slice none 0 0) rfl)⟩
          have FR : Aside0 (RdrS ((((wr4.setCell ⟨p, 0, none⟩ (.int .u64 m0)).setCell ⟨p, 1, none⟩ (.int .i64 m1)).setCell ⟨p, 2, none⟩ (.int .u32 m2)).setCell ⟨p, 3, none⟩ (.slice none 0 0)) g B r3) := ⟨(rdr_set (rdr_set (rdr_set (rdr_set R4.out ⟨p, 0, none⟩ (.int .u64 m0) (fun k hk => by have := HB.out k hk; have := HP.out; show k ≠ p; omega)) ⟨p, 1, none⟩ (.int .i64 m1) (fun k hk => by have := HB.out k hk; have := HP.out; show k ≠ p; omega)) ⟨p, 2, none⟩ (.int .u32 m2) (fun k hk => by have := HB.out k hk; have := HP.out; show k ≠ p; omega)) ⟨p, 3, none⟩ (.slice none 0 0) (fun k hk => by have := HB.out k hk; have := HP.out; show k ≠ p; omega))⟩
          have FG : Aside0 (w.grownBy ((((wr4.setCell ⟨p, 0, none⟩ (.int .u64 m0)).setCell ⟨p, 1, none⟩ (.int .i64 m1)).setCell ⟨p, 2, none⟩ (.int .u32 m2)).setCell ⟨p, 3, none⟩ (.slice none 0 0)) (some g)) := ⟨(grown_set (grown_set (grown_set (grown_set G4.out p 0 (.int .u64 m0) (by have := HP.out; have := HQ.out; omega)) p 1 (.int .i64 m1) (by have := HP.out; have := HQ.out; omega)) p 2 (.int .u32 m2) (by have := HP.out; have := HQ.out; omega)) p 3 (.slice none 0 0) (by have := HP.out; have := HQ.out; omega))⟩
          have sF : ((((wr4.setCell ⟨p, 0, none⟩ (.int .u64 m0)).setCell ⟨p, 1, none⟩ (.int .i64 m1)).setCell ⟨p, 2, none⟩ (.int .u32 m2)).setCell ⟨p, 3, none⟩ (.slice none 0 0)).cell? ⟨q, 0, none⟩ = some (.pointer (some ⟨g, 0, none⟩)) := (FA.out.cell 0).trans rfl
          go_simp
          refine hK.out _ _ sF (fun hHeld' => ?_)
          try simp only [Act.put, List.setIfInBounds_toArray, List.set_cons_zero, List.set_cons_succ]
          refine wpAnyH_done (by kernel_rfl) ?_ _
          exact NoPanic.normal ⟨p, _, _, _, _, _, _, _, _, _, HP.out, rfl, FA.out, FB.out, FP.out, FR.out, FG.out⟩
      · go_simp
        have P2 : Aside0 (Blk (wr1.alloc (Obj.cells #[.int .u64 0, .int .i64 0, .int .u32 0, .slice none 0 0] 26)) wr1.heap.size (Obj.cells #[.int .u64 0, .int .i64 0, .int .u32 0, .slice none 0 0] 26 (0, 0))) := ⟨Blk.new_⟩
        have A2 : Aside0 (Blk (wr1.alloc (Obj.cells #[.int .u64 0, .int .i64 0, .int .u32 0, .slice none 0 0] 26)) q (Obj.cells #[.pointer (some ⟨g, 0, none⟩)] 78 (0, 0))) := ⟨A1.out.alloc⟩
        have B2 : Aside0 (Blk (wr1.alloc (Obj.cells #[.int .u64 0, .int .i64 0, .int .u32 0, .slice none 0 0] 26)) (q + 1) (Obj.cells #[.int .u64 0, .int .i64 0, .int .u32 0, .slice none 0 0] 26 (0, 0))) := ⟨B1.out.alloc⟩
        have R2 : Aside0 (RdrS (wr1.alloc (Obj.cells #[.int .u64 0, .int .i64 0, .int .u32 0, .slice none 0 0] 26)) g B r1) := ⟨RdrAt.alloc R1.out _⟩
        have G2 : Aside0 (w.grownBy (wr1.alloc (Obj.cells #[.int .u64 0, .int .i64 0, .int .u32 0, .slice none 0 0] 26)) (some g)) := ⟨grown_trans G1.out (grown_below (below_alloc (Below.refl _ _) _))⟩
        have hp : q + 1 < wr1.heap.size := B1.out.lt
        obtain ⟨wr2, hwr⟩ : ∃ W', wr1.alloc (Obj.cells #[.int .u64 0, .int .i64 0, .int .u32 0, .slice none 0 0] 26) = W' := ⟨_, rfl⟩
        obtain ⟨p, hpe⟩ : ∃ p, wr1.heap.size = p := ⟨_, rfl⟩
        rw [hwr] at P2 A2 B2 R2 G2 ⊢
        rw [hpe] at P2 hp ⊢
        have HP := Aside0.mk hp
        have s2 : wr2.cell? ⟨q, 0, none⟩ = some (.pointer (some ⟨g, 0, none⟩)) := (A2.out.cell 0).trans rfl
        clear hwr hpe hp R1 A1 B1 G1 s1
        refine hK.out _ _ s2 (fun hHeld' => ?_)
        clear hK K hHeld
        have hHeld := hHeld'
        clear hHeld'
        try simp only [Act.put, List.setIfInBounds_toArray, List.set_cons_zero, List.set_cons_succ]
        refine wpAnyH_ready (rs := [5]) (by kernel_rfl) (by simp) ?_
        refine AllReadyH.cons (o := { dst := some 9, op := Go.Op.call { callee := Go.Callee.value (Go.Operand.func 38), args := #[Go.Operand.tmp 8], argTypes := #[76] }, type := 2, pos := "entry.go:69", after := #[{ on := 4, ground := Go.Ground.data }, { on := 2, ground := Go.Ground.chain }], guard := none }) rfl (fun K hK => ?_) AllReadyH.nil
        go_simp
        go_wp2_with (first | (go_at_call 38; (with_reducible refine (kc1.out _ R2.out).mono ?_); rintro e wr3 ⟨rfl, hr, hg⟩; (have R3 := Aside0.mk hr); (have A3 := Aside0.mk (blk_grown A2.out hg (fun e => by injection e with e; have := HGL.out; omega))); (have B3 := Aside0.mk (blk_grown B2.out hg (fun e => by injection e with e; have := HGL.out; omega))); (have P3 := Aside0.mk (blk_grown P2.out hg (fun e => by injection e with e; have := HGL.out; have := HP.out; omega))); (have G3 := Aside0.mk (grown_trans G2.out hg)); (have s3 : wr3.cell? ⟨q, 0, none⟩ = some (.pointer (some ⟨g, 0, none⟩)) := (A3.out.cell 0).trans rfl); clear hr hg R2 A2 B2 G2 s2 P2))
        refine hK.out _ _ s3 (fun hHeld' => ?_)
        clear hK K hHeld
        have hHeld := hHeld'
        clear hHeld'
        try simp only [Act.put, List.setIfInBounds_toArray, List.set_cons_zero, List.set_cons_succ]
        refine wpAnyH_ready (rs := [7]) (by kernel_rfl) (by simp) ?_
        refine AllReadyH.cons (o := { dst := some 11, op := Go.Op.call { callee := Go.Callee.value (Go.Operand.func 37), args := #[Go.Operand.tmp 10], argTypes := #[78] }, type := 23, pos := "entry.go:69", after := #[{ on := 6, ground := Go.Ground.data }, { on := 5, ground := Go.Ground.chain }], guard := none }) rfl (fun K hK => ?_) AllReadyH.nil
        go_simp
        go_wp2_with (first | (go_at_call 37; (with_reducible refine (kc2.out _ R3.out).mono ?_); rintro e wr4 ⟨rfl, hr, hg⟩; (have R4 := Aside0.mk hr); (have A4 := Aside0.mk (blk_grown A3.out hg (fun e => by injection e with e; have := HGL.out; omega))); (have B4 := Aside0.mk (blk_grown B3.out hg (fun e => by injection e with e; have := HGL.out; omega))); (have P4 := Aside0.mk (blk_grown P3.out hg (fun e => by injection e with e; have := HGL.out; have := HP.out; omega))); (have G4 := Aside0.mk (grown_trans G3.out hg)); (have s4 : wr4.cell? ⟨q, 0, none⟩ = some (.pointer (some ⟨g, 0, none⟩)) := (A4.out.cell 0).trans rfl); clear hr hg R3 A3 B3 G3 s3 P3))
        refine hK.out _ _ s4 (fun hHeld' => ?_)
        clear hK K hHeld
        have hHeld := hHeld'
        clear hHeld'
        try simp only [Act.put, List.setIfInBounds_toArray, List.set_cons_zero, List.set_cons_succ]
        refine wpAnyH_take (i := 8) (oi := { dst := some 12, op := Go.Op.build 26 #[(0, Go.Operand.tmp 6), (1, Go.Operand.tmp 9), (2, Go.Operand.tmp 11)], type := 26, pos := "entry.go:69", after := #[{ on := 2, ground := Go.Ground.data }, { on := 5, ground := Go.Ground.data }, { on := 7, ground := Go.Ground.data }], guard := none }) (v := ?vb3) rfl (by kernel_rfl) (by kernel_rfl) (by kernel_rfl) (fun _ _ _ h => h) (Or.inl ⟨by rfl, ?hyb3⟩) hHeld ?restb3
        case hyb3 => (intro w hSw; (try dsimp only at hSw); go_simp <;> with_reducible rfl)
        try simp only [Act.put, List.setIfInBounds_toArray, List.set_cons_zero, List.set_cons_succ]
        refine wpAnyH_ready (rs := [10]) (by kernel_rfl) (by simp) ?_
        refine AllReadyH.cons (o := { dst := none, op := Go.Op.store 26 (Go.Operand.tmp 3) (Go.Operand.tmp 12), type := 0, pos := "entry.go:69", after := #[{ on := 9, ground := Go.Ground.data }, { on := 8, ground := Go.Ground.data }, { on := 7, ground := Go.Ground.chain }, { on := 0, ground := Go.Ground.phase }, { on := 1, ground := Go.Ground.phase }, { on := 2, ground := Go.Ground.phase }, { on := 3, ground := Go.Ground.phase }, { on := 4, ground := Go.Ground.phase }, { on := 5, ground := Go.Ground.phase }, { on := 6, ground := Go.Ground.phase }, { on := 7, ground := Go.Ground.phase }, { on := 8, ground := Go.Ground.phase }, { on := 9, ground := Go.Ground.phase }], guard := none }) rfl (fun K hK => ?_) AllReadyH.nil
        have y0 := (P4.out.cell 0).trans (rfl : _ = some (Value.int .u64 0))
        have yf0 := P4.out.free 0
        have y1 := (P4.out.cell 1).trans (rfl : _ = some (Value.int .i64 0))
        have yf1 := P4.out.free 1
        have y2 := (P4.out.cell 2).trans (rfl : _ = some (Value.int .u32 0))
        have yf2 := P4.out.free 2
        have y3 := (P4.out.cell 3).trans (rfl : _ = some (Value.slice none 0 0))
        have yf3 := P4.out.free 3
        have FA : Aside0 (Blk ((((wr4.setCell ⟨p, 0, none⟩ (.int .u64 m0)).setCell ⟨p, 1, none⟩ (.int .i64 m1)).setCell ⟨p, 2, none⟩ (.int .u32 m2)).setCell ⟨p, 3, none⟩ (.slice none 0 0)) q (Obj.cells #[.pointer (some ⟨g, 0, none⟩)] 78 (0, 0))) := ⟨(blk_set (blk_set (blk_set (blk_set A4.out ⟨p, 0, none⟩ (.int .u64 m0) (by have := HP.out; show q ≠ p; omega)) ⟨p, 1, none⟩ (.int .i64 m1) (by have := HP.out; show q ≠ p; omega)) ⟨p, 2, none⟩ (.int .u32 m2) (by have := HP.out; show q ≠ p; omega)) ⟨p, 3, none⟩ (.slice none 0 0) (by have := HP.out; show q ≠ p; omega))⟩
        have FB : Aside0 (Blk ((((wr4.setCell ⟨p, 0, none⟩ (.int .u64 m0)).setCell ⟨p, 1, none⟩ (.int .i64 m1)).setCell ⟨p, 2, none⟩ (.int .u32 m2)).setCell ⟨p, 3, none⟩ (.slice none 0 0)) (q + 1) (Obj.cells #[.int .u64 0, .int .i64 0, .int .u32 0, .slice none 0 0] 26 (0, 0))) := ⟨(blk_set (blk_set (blk_set (blk_set B4.out ⟨p, 0, none⟩ (.int .u64 m0) (by have := HP.out; show q + 1 ≠ p; omega)) ⟨p, 1, none⟩ (.int .i64 m1) (by have := HP.out; show q + 1 ≠ p; omega)) ⟨p, 2, none⟩ (.int .u32 m2) (by have := HP.out; show q + 1 ≠ p; omega)) ⟨p, 3, none⟩ (.slice none 0 0) (by have := HP.out; show q + 1 ≠ p; omega))⟩
        have FP : Aside0 (Blk ((((wr4.setCell ⟨p, 0, none⟩ (.int .u64 m0)).setCell ⟨p, 1, none⟩ (.int .i64 m1)).setCell ⟨p, 2, none⟩ (.int .u32 m2)).setCell ⟨p, 3, none⟩ (.slice none 0 0)) p (Obj.cells #[.int .u64 m0, .int .i64 m1, .int .u32 m2, .slice none 0 0] 26 (0, 0))) := ⟨((((P4.out.put 0 (.int .u64 m0) rfl).put 1 (.int .i64 m1) rfl).put 2 (.int .u32 m2) rfl).put 3 (.slice none 0 0) rfl)⟩
        have FR : Aside0 (RdrS ((((wr4.setCell ⟨p, 0, none⟩ (.int .u64 m0)).setCell ⟨p, 1, none⟩ (.int .i64 m1)).setCell ⟨p, 2, none⟩ (.int .u32 m2)).setCell ⟨p, 3, none⟩ (.slice none 0 0)) g B r3) := ⟨(rdr_set (rdr_set (rdr_set (rdr_set R4.out ⟨p, 0, none⟩ (.int .u64 m0) (fun k hk => by have := HB.out k hk; have := HP.out; show k ≠ p; omega)) ⟨p, 1, none⟩ (.int .i64 m1) (fun k hk => by have := HB.out k hk; have := HP.out; show k ≠ p; omega)) ⟨p, 2, none⟩ (.int .u32 m2) (fun k hk => by have := HB.out k hk; have := HP.out; show k ≠ p; omega)) ⟨p, 3, none⟩ (.slice none 0 0) (fun k hk => by have := HB.out k hk; have := HP.out; show k ≠ p; omega))⟩
        have FG : Aside0 (w.grownBy ((((wr4.setCell ⟨p, 0, none⟩ (.int .u64 m0)).setCell ⟨p, 1, none⟩ (.int .i64 m1)).setCell ⟨p, 2, none⟩ (.int .u32 m2)).setCell ⟨p, 3, none⟩ (.slice none 0 0)) (some g)) := ⟨(grown_set (grown_set (grown_set (grown_set G4.out p 0 (.int .u64 m0) (by have := HP.out; have := HQ.out; omega)) p 1 (.int .i64 m1) (by have := HP.out; have := HQ.out; omega)) p 2 (.int .u32 m2) (by have := HP.out; have := HQ.out; omega)) p 3 (.slice none 0 0) (by have := HP.out; have := HQ.out; omega))⟩
        have sF : ((((wr4.setCell ⟨p, 0, none⟩ (.int .u64 m0)).setCell ⟨p, 1, none⟩ (.int .i64 m1)).setCell ⟨p, 2, none⟩ (.int .u32 m2)).setCell ⟨p, 3, none⟩ (.slice none 0 0)).cell? ⟨q, 0, none⟩ = some (.pointer (some ⟨g, 0, none⟩)) := (FA.out.cell 0).trans rfl
        go_simp
        refine hK.out _ _ sF (fun hHeld' => ?_)
        try simp only [Act.put, List.setIfInBounds_toArray, List.set_cons_zero, List.set_cons_succ]
        refine wpAnyH_done (by kernel_rfl) ?_ _
        exact NoPanic.normal ⟨p, _, _, _, _, _, _, _, _, _, HP.out, rfl, FA.out, FB.out, FP.out, FR.out, FG.out⟩
    · go_simp
      have P1 : Aside0 (Blk (wd.alloc (Obj.cells #[.int .u64 0, .int .i64 0, .int .u32 0, .slice none 0 0] 26)) wd.heap.size (Obj.cells #[.int .u64 0, .int .i64 0, .int .u32 0, .slice none 0 0] 26 (0, 0))) := ⟨Blk.new_⟩
      have A1 : Aside0 (Blk (wd.alloc (Obj.cells #[.int .u64 0, .int .i64 0, .int .u32 0, .slice none 0 0] 26)) q (Obj.cells #[.pointer (some ⟨g, 0, none⟩)] 78 (0, 0))) := ⟨A0.out.alloc⟩
      have B1 : Aside0 (Blk (wd.alloc (Obj.cells #[.int .u64 0, .int .i64 0, .int .u32 0, .slice none 0 0] 26)) (q + 1) (Obj.cells #[.int .u64 0, .int .i64 0, .int .u32 0, .slice none 0 0] 26 (0, 0))) := ⟨B0.out.alloc⟩
      have R1 : Aside0 (RdrS (wd.alloc (Obj.cells #[.int .u64 0, .int .i64 0, .int .u32 0, .slice none 0 0] 26)) g B r) := ⟨RdrAt.alloc R0.out _⟩
      have G1 : Aside0 (w.grownBy (wd.alloc (Obj.cells #[.int .u64 0, .int .i64 0, .int .u32 0, .slice none 0 0] 26)) (some g)) := ⟨grown_trans G0.out (grown_below (below_alloc (Below.refl _ _) _))⟩
      have hp : q + 1 < wd.heap.size := B0.out.lt
      obtain ⟨wr1, hwr⟩ : ∃ W', wd.alloc (Obj.cells #[.int .u64 0, .int .i64 0, .int .u32 0, .slice none 0 0] 26) = W' := ⟨_, rfl⟩
      obtain ⟨p, hpe⟩ : ∃ p, wd.heap.size = p := ⟨_, rfl⟩
      rw [hwr] at P1 A1 B1 R1 G1 ⊢
      rw [hpe] at P1 hp ⊢
      have HP := Aside0.mk hp
      have s1 : wr1.cell? ⟨q, 0, none⟩ = some (.pointer (some ⟨g, 0, none⟩)) := (A1.out.cell 0).trans rfl
      clear hwr hpe hp R0 A0 B0 G0 s0
      refine hK.out _ _ s1 (fun hHeld' => ?_)
      clear hK K hHeld
      have hHeld := hHeld'
      clear hHeld'
      try simp only [Act.put, List.setIfInBounds_toArray, List.set_cons_zero, List.set_cons_succ]
      refine wpAnyH_ready (rs := [2]) (by kernel_rfl) (by simp) ?_
      refine AllReadyH.cons (o := { dst := some 6, op := Go.Op.call { callee := Go.Callee.value (Go.Operand.func 42), args := #[Go.Operand.tmp 5], argTypes := #[76] }, type := 22, pos := "entry.go:69", after := #[{ on := 1, ground := Go.Ground.data }], guard := none }) rfl (fun K hK => ?_) AllReadyH.nil
      go_simp
      go_wp2_with (first | (go_at_call 42; (with_reducible refine (kc0.out _ R1.out).mono ?_); rintro e wr2 ⟨rfl, hr, hg⟩; (have R2 := Aside0.mk hr); (have A2 := Aside0.mk (blk_grown A1.out hg (fun e => by injection e with e; have := HGL.out; omega))); (have B2 := Aside0.mk (blk_grown B1.out hg (fun e => by injection e with e; have := HGL.out; omega))); (have P2 := Aside0.mk (blk_grown P1.out hg (fun e => by injection e with e; have := HGL.out; have := HP.out; omega))); (have G2 := Aside0.mk (grown_trans G1.out hg)); (have s2 : wr2.cell? ⟨q, 0, none⟩ = some (.pointer (some ⟨g, 0, none⟩)) := (A2.out.cell 0).trans rfl); clear hr hg R1 A1 B1 G1 s1 P1))
      refine hK.out _ _ s2 (fun hHeld' => ?_)
      clear hK K hHeld
      have hHeld := hHeld'
      clear hHeld'
      try simp only [Act.put, List.setIfInBounds_toArray, List.set_cons_zero, List.set_cons_succ]
      refine wpAnyH_ready (rs := [5]) (by kernel_rfl) (by simp) ?_
      refine AllReadyH.cons (o := { dst := some 9, op := Go.Op.call { callee := Go.Callee.value (Go.Operand.func 38), args := #[Go.Operand.tmp 8], argTypes := #[76] }, type := 2, pos := "entry.go:69", after := #[{ on := 4, ground := Go.Ground.data }, { on := 2, ground := Go.Ground.chain }], guard := none }) rfl (fun K hK => ?_) AllReadyH.nil
      go_simp
      go_wp2_with (first | (go_at_call 38; (with_reducible refine (kc1.out _ R2.out).mono ?_); rintro e wr3 ⟨rfl, hr, hg⟩; (have R3 := Aside0.mk hr); (have A3 := Aside0.mk (blk_grown A2.out hg (fun e => by injection e with e; have := HGL.out; omega))); (have B3 := Aside0.mk (blk_grown B2.out hg (fun e => by injection e with e; have := HGL.out; omega))); (have P3 := Aside0.mk (blk_grown P2.out hg (fun e => by injection e with e; have := HGL.out; have := HP.out; omega))); (have G3 := Aside0.mk (grown_trans G2.out hg)); (have s3 : wr3.cell? ⟨q, 0, none⟩ = some (.pointer (some ⟨g, 0, none⟩)) := (A3.out.cell 0).trans rfl); clear hr hg R2 A2 B2 G2 s2 P2))
      refine hK.out _ _ s3 (fun hHeld' => ?_)
      clear hK K hHeld
      have hHeld := hHeld'
      clear hHeld'
      try simp only [Act.put, List.setIfInBounds_toArray, List.set_cons_zero, List.set_cons_succ]
      refine wpAnyH_ready (rs := [7]) (by kernel_rfl) (by simp) ?_
      refine AllReadyH.cons (o := { dst := some 11, op := Go.Op.call { callee := Go.Callee.value (Go.Operand.func 37), args := #[Go.Operand.tmp 10], argTypes := #[78] }, type := 23, pos := "entry.go:69", after := #[{ on := 6, ground := Go.Ground.data }, { on := 5, ground := Go.Ground.chain }], guard := none }) rfl (fun K hK => ?_) AllReadyH.nil
      go_simp
      go_wp2_with (first | (go_at_call 37; (with_reducible refine (kc2.out _ R3.out).mono ?_); rintro e wr4 ⟨rfl, hr, hg⟩; (have R4 := Aside0.mk hr); (have A4 := Aside0.mk (blk_grown A3.out hg (fun e => by injection e with e; have := HGL.out; omega))); (have B4 := Aside0.mk (blk_grown B3.out hg (fun e => by injection e with e; have := HGL.out; omega))); (have P4 := Aside0.mk (blk_grown P3.out hg (fun e => by injection e with e; have := HGL.out; have := HP.out; omega))); (have G4 := Aside0.mk (grown_trans G3.out hg)); (have s4 : wr4.cell? ⟨q, 0, none⟩ = some (.pointer (some ⟨g, 0, none⟩)) := (A4.out.cell 0).trans rfl); clear hr hg R3 A3 B3 G3 s3 P3))
      refine hK.out _ _ s4 (fun hHeld' => ?_)
      clear hK K hHeld
      have hHeld := hHeld'
      clear hHeld'
      try simp only [Act.put, List.setIfInBounds_toArray, List.set_cons_zero, List.set_cons_succ]
      refine wpAnyH_take (i := 8) (oi := { dst := some 12, op := Go.Op.build 26 #[(0, Go.Operand.tmp 6), (1, Go.Operand.tmp 9), (2, Go.Operand.tmp 11)], type := 26, pos := "entry.go:69", after := #[{ on := 2, ground := Go.Ground.data }, { on := 5, ground := Go.Ground.data }, { on := 7, ground := Go.Ground.data }], guard := none }) (v := ?vb4) rfl (by kernel_rfl) (by kernel_rfl) (by kernel_rfl) (fun _ _ _ h => h) (Or.inl ⟨by rfl, ?hyb4⟩) hHeld ?restb4
      case hyb4 => (intro w hSw; (try dsimp only at hSw); go_simp <;> with_reducible rfl)
      try simp only [Act.put, List.setIfInBounds_toArray, List.set_cons_zero, List.set_cons_succ]
      refine wpAnyH_ready (rs := [10]) (by kernel_rfl) (by simp) ?_
      refine AllReadyH.cons (o := { dst := none, op := Go.Op.store 26 (Go.Operand.tmp 3) (Go.Operand.tmp 12), type := 0, pos := "entry.go:69", after := #[{ on := 9, ground := Go.Ground.data }, { on := 8, ground := Go.Ground.data }, { on := 7, ground := Go.Ground.chain }, { on := 0, ground := Go.Ground.phase }, { on := 1, ground := Go.Ground.phase }, { on := 2, ground := Go.Ground.phase }, { on := 3, ground := Go.Ground.phase }, { on := 4, ground := Go.Ground.phase }, { on := 5, ground := Go.Ground.phase }, { on := 6, ground := Go.Ground.phase }, { on := 7, ground := Go.Ground.phase }, { on := 8, ground := Go.Ground.phase }, { on := 9, ground := Go.Ground.phase }], guard := none }) rfl (fun K hK => ?_) AllReadyH.nil
      have y0 := (P4.out.cell 0).trans (rfl : _ = some (Value.int .u64 0))
      have yf0 := P4.out.free 0
      have y1 := (P4.out.cell 1).trans (rfl : _ = some (Value.int .i64 0))
      have yf1 := P4.out.free 1
      have y2 := (P4.out.cell 2).trans (rfl : _ = some (Value.int .u32 0))
      have yf2 := P4.out.free 2
      have y3 := (P4.out.cell 3).trans (rfl : _ = some (Value.slice none 0 0))
      have yf3 := P4.out.free 3
      have FA : Aside0 (Blk ((((wr4.setCell ⟨p, 0, none⟩ (.int .u64 m0)).setCell ⟨p, 1, none⟩ (.int .i64 m1)).setCell ⟨p, 2, none⟩ (.int .u32 m2)).setCell ⟨p, 3, none⟩ (.slice none 0 0)) q (Obj.cells #[.pointer (some ⟨g, 0, none⟩)] 78 (0, 0))) := ⟨(blk_set (blk_set (blk_set (blk_set A4.out ⟨p, 0, none⟩ (.int .u64 m0) (by have := HP.out; show q ≠ p; omega)) ⟨p, 1, none⟩ (.int .i64 m1) (by have := HP.out; show q ≠ p; omega)) ⟨p, 2, none⟩ (.int .u32 m2) (by have := HP.out; show q ≠ p; omega)) ⟨p, 3, none⟩ (.slice none 0 0) (by have := HP.out; show q ≠ p; omega))⟩
      have FB : Aside0 (Blk ((((wr4.setCell ⟨p, 0, none⟩ (.int .u64 m0)).setCell ⟨p, 1, none⟩ (.int .i64 m1)).setCell ⟨p, 2, none⟩ (.int .u32 m2)).setCell ⟨p, 3, none⟩ (.slice none 0 0)) (q + 1) (Obj.cells #[.int .u64 0, .int .i64 0, .int .u32 0, .slice none 0 0] 26 (0, 0))) := ⟨(blk_set (blk_set (blk_set (blk_set B4.out ⟨p, 0, none⟩ (.int .u64 m0) (by have := HP.out; show q + 1 ≠ p; omega)) ⟨p, 1, none⟩ (.int .i64 m1) (by have := HP.out; show q + 1 ≠ p; omega)) ⟨p, 2, none⟩ (.int .u32 m2) (by have := HP.out; show q + 1 ≠ p; omega)) ⟨p, 3, none⟩ (.slice none 0 0) (by have := HP.out; show q + 1 ≠ p; omega))⟩
      have FP : Aside0 (Blk ((((wr4.setCell ⟨p, 0, none⟩ (.int .u64 m0)).setCell ⟨p, 1, none⟩ (.int .i64 m1)).setCell ⟨p, 2, none⟩ (.int .u32 m2)).setCell ⟨p, 3, none⟩ (.slice none 0 0)) p (Obj.cells #[.int .u64 m0, .int .i64 m1, .int .u32 m2, .slice none 0 0] 26 (0, 0))) := ⟨((((P4.out.put 0 (.int .u64 m0) rfl).put 1 (.int .i64 m1) rfl).put 2 (.int .u32 m2) rfl).put 3 (.slice none 0 0) rfl)⟩
      have FR : Aside0 (RdrS ((((wr4.setCell ⟨p, 0, none⟩ (.int .u64 m0)).setCell ⟨p, 1, none⟩ (.int .i64 m1)).setCell ⟨p, 2, none⟩ (.int .u32 m2)).setCell ⟨p, 3, none⟩ (.slice none 0 0)) g B r3) := ⟨(rdr_set (rdr_set (rdr_set (rdr_set R4.out ⟨p, 0, none⟩ (.int .u64 m0) (fun k hk => by have := HB.out k hk; have := HP.out; show k ≠ p; omega)) ⟨p, 1, none⟩ (.int .i64 m1) (fun k hk => by have := HB.out k hk; have := HP.out; show k ≠ p; omega)) ⟨p, 2, none⟩ (.int .u32 m2) (fun k hk => by have := HB.out k hk; have := HP.out; show k ≠ p; omega)) ⟨p, 3, none⟩ (.slice none 0 0) (fun k hk => by have := HB.out k hk; have := HP.out; show k ≠ p; omega))⟩
      have FG : Aside0 (w.grownBy ((((wr4.setCell ⟨p, 0, none⟩ (.int .u64 m0)).setCell ⟨p, 1, none⟩ (.int .i64 m1)).setCell ⟨p, 2, none⟩ (.int .u32 m2)).setCell ⟨p, 3, none⟩ (.slice none 0 0)) (some g)) := ⟨(grown_set (grown_set (grown_set (grown_set G4.out p 0 (.int .u64 m0) (by have := HP.out; have := HQ.out; omega)) p 1 (.int .i64 m1) (by have := HP.out; have := HQ.out; omega)) p 2 (.int .u32 m2) (by have := HP.out; have := HQ.out; omega)) p 3 (.slice none 0 0) (by have := HP.out; have := HQ.out; omega))⟩
      have sF : ((((wr4.setCell ⟨p, 0, none⟩ (.int .u64 m0)).setCell ⟨p, 1, none⟩ (.int .i64 m1)).setCell ⟨p, 2, none⟩ (.int .u32 m2)).setCell ⟨p, 3, none⟩ (.slice none 0 0)).cell? ⟨q, 0, none⟩ = some (.pointer (some ⟨g, 0, none⟩)) := (FA.out.cell 0).trans rfl
      go_simp
      refine hK.out _ _ sF (fun hHeld' => ?_)
      try simp only [Act.put, List.setIfInBounds_toArray, List.set_cons_zero, List.set_cons_succ]
      refine wpAnyH_done (by kernel_rfl) ?_ _
      exact NoPanic.normal ⟨p, _, _, _, _, _, _, _, _, _, HP.out, rfl, FA.out, FB.out, FP.out, FR.out, FG.out⟩
  rintro a1 w1 ⟨p, x4, x5, x6, x7, x8, x9, x10, x11, x12, hp, rfl, hA, hBb, hP, hR, hG⟩
  have x0 := (hA.cell 0).trans (rfl : _ = some (Value.pointer (some ⟨g, 0, none⟩)))
  have HP := Aside0.mk hp
  have R1 := Aside0.mk hR
  have HP0 : Aside0 (PP w w1 q g p w1.heap.size 26 #[.int .u64 0, .int .i64 0, .int .u32 0, .slice none 0 0] #[.int .u64 m0, .int .i64 m1, .int .u32 m2, .slice none 0 0] k37 37 (.slice none 0 0) []) := ⟨⟨hA, hBb, hP, hG, Nat.le_refl _, Kd.R_nil _ _ _ _ _⟩⟩
  have HPN : Aside0 (PPN w q g p w1.heap.size) := ⟨⟨HGL.out, HQ.out, hp, hP.lt⟩⟩
  have HCL := Aside0.mk (hcl.out hR.bytes)
  obtain ⟨L0, hL0⟩ : ∃ L, w1.heap.size = L := ⟨_, rfl⟩
  rw [hL0] at HP0 HPN
  clear hA hBb hP hR hG hp hL0 R0 A0 B0 G0 s0 hcl
  go_wp2_with fail
  refine (kcc.out w1 R1.out).mono ?_
  rintro e w2 ⟨rfl, hR, hG⟩
  have R2 := Aside0.mk hR
  have HP2 := Aside0.mk (HP0.out.grown hG HPN.out)
  clear hR hG R1 HP0 kcc x0
  have hcn : cn = (n : Int) := by have := HCL.out.1; have := HCN.out; omega
  have hn : n ≤ 16 := by have := HCL.out.2; omega
  clear HCL HCN
  subst hcn
  go_wp2_with fail
  go_loopw [16] (fun i wr => ∃ k : Nat, k ≤ n ∧ i = .int .i64 k ∧ Aside0 (RdrS wr g B (relems rpart rc k).2) ∧ ∃ A' c', Aside0 (PP w wr q g p L0 26 #[.int .u64 0, .int .i64 0, .int .u32 0, .slice none 0 0] #[.int .u64 m0, .int .i64 m1, .int .u32 m2, .slice A' k c'] k37 37 (.slice A' k c') (relems rpart rc k).1))
    (fun i _ => n - (intOf i).toNat)
  case atStart => exact ⟨0, Nat.zero_le _, rfl, R2, none, 0, HP2⟩
  case round =>
    obtain ⟨k, hk, rfl, HRk, Ak, ck, HPk⟩ := hrel
    clear R2 HP2
    by_cases hlt : k < n
    · have ew : IntKind.i64.wrap ((k : Int) + 1) = (k : Int) + 1 := by rw [IntKind.wrap_i64]; omega
      have hlt1 : (k : Int) < (n : Int) := by omega
      have hst : relems rpart rc (k + 1) = ((relems rpart rc k).1 ++ [(rpart (relems rpart rc k).2).1], (rpart (relems rpart rc k).2).2) := rfl
      have hlk := relems_length rpart rc k
      have hln := Nat.le_trans (relems_len rpart_len rc k) HMC.out
      obtain ⟨⟨Lk, rk⟩, hLk⟩ : ∃ u, relems rpart rc k = u := ⟨_, rfl⟩
      rw [hLk] at HRk HPk hlk hln hst
      simp only at HRk HPk hlk hln hst
      clear hLk
      unfold rpart at hst
      simp only at hst
      have ke0 := Aside0.mk (fun w h => Text_calls g B rk w h (by exact hln))
      have hl0 := Nat.le_trans (Rs.text_len rk) hln
      obtain ⟨⟨f0, rk1⟩, hv0⟩ : ∃ u, rk.text = u := ⟨_, rfl⟩
      rw [hv0] at ke0 hl0 hst
      simp only at hst
      have ke1 := Aside0.mk (fun w h => Int_calls g B rk1 w h (by exact hl0))
      have hl1 := Nat.le_trans (Rs.int_len rk1) hl0
      obtain ⟨⟨f1, rk2⟩, hv1⟩ : ∃ u, rk1.int = u := ⟨_, rfl⟩
      rw [hv1] at ke1 hl1 hst
      simp only at hst
      have HLK := Aside0.mk hlk
      have HST : Aside0 (relems rpart rc (k + 1) = _) := ⟨hst⟩
      clear hst hln hl0 hv0 hl1 hv1 hlk
      have HPd : Aside0 (PP w wr.drew q g p L0 26 _ _ _ _ _ _) := ⟨HPk.out.grown (grown_below (below_drew (Below.refl _ _))) HPN.out⟩
      have Rd : Aside0 (RdrS wr.drew g B rk) := ⟨RdrAt.drew HRk.out⟩
      have c1 : wr.drew.cell? ⟨q, 0, none⟩ = some (.pointer (some ⟨g, 0, none⟩)) := (HPd.out.1.cell 0).trans rfl
      have c1a : wr.cell? ⟨q, 0, none⟩ = some (.pointer (some ⟨g, 0, none⟩)) := (HPk.out.1.cell 0).trans rfl
      have c6 : wr.drew.cell? ⟨p, 3, none⟩ = some (.slice Ak k ck) := (HPd.out.2.2.1.cell 3).trans rfl
      have c6a : wr.cell? ⟨p, 3, none⟩ = some (.slice Ak k ck) := (HPk.out.2.2.1.cell 3).trans rfl
      clear HRk HPk
      go_wp2_with fail
      refine wp_region_noPanic ?_
      go_region_law (first
        | (refine Kd.R_append_step k37 (w0 := we1) L0 (by rfl) (.tmp 19) (.tmp 28) 24 37 (.agg #[.string ⟨#[]⟩, .int .i64 0]) 24 rfl Try.underlying24 info37 rfl (by decide) (by omega) (.slice Ak k ck) Lk (⟨strOfNums f0, f1⟩ : S37) [.string (strOfNums f0), .int .i64 f1] (fun _ => True) (fun _ => False) rfl rfl (k37_mkM _ _ _ (⟨strOfNums f0, f1⟩ : S37)) (fun _ hk => hk.elim) (fun _ _ => trivial) Pe1.out.2.2.2.2.2 (Below.refl L0 we1) Pe1.out.2.2.2.2.1 (by rw [HLK.out]; omega) ?_; intro v7 w7 ho hb7 hg7 hat; obtain ⟨A7, c7, ev⟩ := Kd.R_slice ho; rw [List.length_append, HLK.out, List.length_singleton] at ev; subst ev; have HO7 := Aside0.mk ho; have HB7 := Aside0.mk hb7; have P7 : Aside0 (Blk w7 p _) := ⟨⟨(hb7.block p HPN.out.2.2.2).trans Pe1.out.2.2.1.out⟩⟩; have c67 : w7.cell? ⟨p, 3, none⟩ = some (.slice Ak k ck) := (P7.out.cell 3).trans rfl; have g67 := P7.out.free 3; clear ho hb7 hg7 hat)
        | (go_simp; go_wp2_with (first
          | (go_at_call 44; (with_reducible refine (ke0.out _ Rd.out).mono ?_); rintro e we0 ⟨v5, rfl, hV, hr, hg⟩; (have Re0 := Aside0.mk hr); (have Pe0 := Aside0.mk (HPd.out.grown hg HPN.out)); (have ce0 : we0.cell? ⟨q, 0, none⟩ = some (.pointer (some ⟨g, 0, none⟩)) := (Pe0.out.1.cell 0).trans rfl); (have cs0 : we0.cell? ⟨p, 3, none⟩ = some (.slice Ak k ck) := (Pe0.out.2.2.1.cell 3).trans rfl); (have V5 := Aside0.mk hV); (have HLG : Aside0 (g < wr.drew.heap.size) := ⟨Nat.lt_trans HGL.out HPd.out.1.lt⟩); (have cv5 := r_str hV); clear hV; clear hr hg)
          | (go_at_call 38; (with_reducible refine (ke1.out _ Re0.out).mono ?_); rintro e we1 ⟨rfl, hr, hg⟩; (have Re1 := Aside0.mk hr); (have Pe1 := Aside0.mk (Pe0.out.grown hg HPN.out)); (have ce1 : we1.cell? ⟨q, 0, none⟩ = some (.pointer (some ⟨g, 0, none⟩)) := (Pe1.out.1.cell 0).trans rfl); (have cs1 : we1.cell? ⟨p, 3, none⟩ = some (.slice Ak k ck) := (Pe1.out.2.2.1.cell 3).trans rfl); (have cv6 := r_str (Kd.R_step (Kd.R_bound V5.out) (fun k hk2 hlt => hg.block k hlt (fun e => by injection e with e; have := hk2.2.1; have := HLG.out; omega)))); (have csz : ∀ o : Obj, (we1.alloc o).cell? ⟨p, 3, none⟩ = some (.slice Ak k ck) := fun o => (Pe1.out.2.2.1.alloc.cell 3).trans rfl); clear hr hg))))
      all_goals
        refine NoPanic.normal ?_
        go_wp2_with fail
        exact ⟨⟨k + 1, by omega, by simp, ⟨by rw [HST.out]; exact rdr_set (RdrAt.keep Re1.out (fun j hj _ => HB7.out.block j (by have := HB.out j hj; have := HPN.out.2.2.2; have := HP.out; omega))) ⟨p, 3, none⟩ _ (fun j hj => by have := HB.out j hj; have := HP.out; show j ≠ p; omega)⟩, A7, c7, ⟨by rw [HST.out]; exact PP.put Pe1.out HO7.out HB7.out HPN.out 3 rfl⟩⟩, by simp [intOf]; omega⟩
    · obtain rfl : k = n := by omega
      obtain ⟨h1, h2, h3, h4, h5, h6⟩ := HPk.out
      have y0 := (h3.cell 0).trans (rfl : _ = some (Value.int .u64 m0))
      have y1 := (h3.cell 1).trans (rfl : _ = some (Value.int .i64 m1))
      have y2 := (h3.cell 2).trans (rfl : _ = some (Value.int .u32 m2))
      have y3 := (h3.cell 3).trans (rfl : _ = some (Value.slice Ak k ck))
      have z0 := (h2.cell 0).trans (rfl : _ = some (Value.int .u64 0))
      have zf0 := h2.free 0
      have z1 := (h2.cell 1).trans (rfl : _ = some (Value.int .i64 0))
      have zf1 := h2.free 1
      have z2 := (h2.cell 2).trans (rfl : _ = some (Value.int .u32 0))
      have zf2 := h2.free 2
      have z3 := (h2.cell 3).trans (rfl : _ = some (Value.slice none 0 0))
      have zf3 := h2.free 3
      have FX : Aside0 (Blk ((((wr.setCell ⟨q + 1, 0, none⟩ (.int .u64 m0)).setCell ⟨q + 1, 1, none⟩ (.int .i64 m1)).setCell ⟨q + 1, 2, none⟩ (.int .u32 m2)).setCell ⟨q + 1, 3, none⟩ (.slice Ak k ck)) (q + 1) (Obj.cells #[.int .u64 m0, .int .i64 m1, .int .u32 m2, .slice Ak k ck] 26 (0, 0))) := ⟨((((h2.put 0 (.int .u64 m0) rfl).put 1 (.int .i64 m1) rfl).put 2 (.int .u32 m2) rfl).put 3 (.slice Ak k ck) rfl)⟩
      have FR : Aside0 (RdrS ((((wr.setCell ⟨q + 1, 0, none⟩ (.int .u64 m0)).setCell ⟨q + 1, 1, none⟩ (.int .i64 m1)).setCell ⟨q + 1, 2, none⟩ (.int .u32 m2)).setCell ⟨q + 1, 3, none⟩ (.slice Ak k ck)) g B (relems rpart rc k).2) := ⟨(rdr_set (rdr_set (rdr_set (rdr_set HRk.out ⟨q + 1, 0, none⟩ (.int .u64 m0) (fun k hk => by have := HB.out k hk; show k ≠ q + 1; omega)) ⟨q + 1, 1, none⟩ (.int .i64 m1) (fun k hk => by have := HB.out k hk; show k ≠ q + 1; omega)) ⟨q + 1, 2, none⟩ (.int .u32 m2) (fun k hk => by have := HB.out k hk; show k ≠ q + 1; omega)) ⟨q + 1, 3, none⟩ (.slice Ak k ck) (fun k hk => by have := HB.out k hk; show k ≠ q + 1; omega))⟩
      have FG : Aside0 (w.grownBy ((((wr.setCell ⟨q + 1, 0, none⟩ (.int .u64 m0)).setCell ⟨q + 1, 1, none⟩ (.int .i64 m1)).setCell ⟨q + 1, 2, none⟩ (.int .u32 m2)).setCell ⟨q + 1, 3, none⟩ (.slice Ak k ck)) (some g)) := ⟨(grown_set (grown_set (grown_set (grown_set h4 (q + 1) 0 (.int .u64 m0) (by have := HQ.out; omega)) (q + 1) 1 (.int .i64 m1) (by have := HQ.out; omega)) (q + 1) 2 (.int .u32 m2) (by have := HQ.out; omega)) (q + 1) 3 (.slice Ak k ck) (by have := HQ.out; omega))⟩
      have FV : Aside0 (Kd.R k37 37 ((((wr.setCell ⟨q + 1, 0, none⟩ (.int .u64 m0)).setCell ⟨q + 1, 1, none⟩ (.int .i64 m1)).setCell ⟨q + 1, 2, none⟩ (.int .u32 m2)).setCell ⟨q + 1, 3, none⟩ (.slice Ak k ck)) w.heap.size (fun _ => True) (.slice Ak k ck) (relems rpart rc k).1) := ⟨Kd.R_mono (Kd.R_lower (Kd.R_far (Kd.R_bound (Kd.R_far (Kd.R_bound (Kd.R_far (Kd.R_bound (Kd.R_far (Kd.R_bound h6) (p := ⟨q + 1, 0, none⟩) (fun k hk => by have := hk.2.1; have := HPN.out.2.2.2; have := HP.out; show k ≠ q + 1; omega) (.int .u64 m0))) (p := ⟨q + 1, 1, none⟩) (fun k hk => by have := hk.2.1; have := HPN.out.2.2.2; have := HP.out; show k ≠ q + 1; omega) (.int .i64 m1))) (p := ⟨q + 1, 2, none⟩) (fun k hk => by have := hk.2.1; have := HPN.out.2.2.2; have := HP.out; show k ≠ q + 1; omega) (.int .u32 m2))) (p := ⟨q + 1, 3, none⟩) (fun k hk => by have := hk.2.1; have := HPN.out.2.2.2; have := HP.out; show k ≠ q + 1; omega) (.slice Ak k ck)) (by have := HQ.out; have := HP.out; have := HPN.out.2.2.2; omega)) (fun _ _ => trivial)⟩
      clear h1 h2 h3 h4 h5 h6
      go_wp2_with fail
      have d0 := (FX.out.cell 0).trans (rfl : _ = some (Value.int .u64 m0))
      have d1 := (FX.out.cell 1).trans (rfl : _ = some (Value.int .i64 m1))
      have d2 := (FX.out.cell 2).trans (rfl : _ = some (Value.int .u32 m2))
      have d3 := (FX.out.cell 3).trans (rfl : _ = some (Value.slice Ak k ck))
      refine bodyPost_ret (v := .agg #[.int .u64 m0, .int .i64 m1, .int .u32 m2, .slice Ak k ck]) ?_ rfl ⟨_, rfl, FV.out, FR.out, FG.out⟩
      simp [results, Try.results41, go_sem, d0, d1, d2, d3]
end Go.Proofs.Ytdfmganmchmbjaa.Ext
