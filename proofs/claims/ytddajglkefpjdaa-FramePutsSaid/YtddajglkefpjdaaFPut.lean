/- frame.Put, proved by walking its code. -/
import Derived.Test.YtddajglkefpjdaaFMath
import Derived.Test.YtddajglkefpjdaaInRound
import Derived.Deep.RegionHeld3
import Derived.Deep.RegionHeldLaw
namespace Go.Proofs.Ytddajglkefpjdaa.Ext
open Go.RowKit Go.Shelf Go.Proofs.YtddajglkefpjdaaW.PrintWords Go.Proofs.YtddajglkefpjdaaW.PrintLast Go.Proofs.YtddajglkefpjdaaW.PrintMore Go.Proofs.YtddajglkefpjdaaW.Hand
attribute [local go_sem] Oper.semAt_some
set_option linter.unusedVariables false
theorem fPut_bad (at_ kind stamp : Int) (A : Option Addr) (n c : Nat) (w : World) (h : at_ < 0 ∨ 4096 ≤ at_ ∨ stamp = 0) :
    Calls Try.prog 8 #[.int .i64 at_, .int .u8 kind, .int .u64 stamp, .slice A n c] w fun e w' => e = .returned (.tuple #[.slice none 0 0, .int .i64 1]) ∧ Below w.heap.size w w' := by
  have key : ∀ c1 c2 c3 : Bool, decide (at_ < 0) = c1 → decide (at_ ≥ 4096) = c2 → (stamp == 0) = c3 → (c1 = true ∨ c2 = true ∨ c3 = true) →
      Calls Try.prog 8 #[.int .i64 at_, .int .u8 kind, .int .u64 stamp, .slice A n c] w fun e w' => e = .returned (.tuple #[.slice none 0 0, .int .i64 1]) ∧ Below w.heap.size w w' := by
    intro c1 c2 c3 h1 h2 h3 hc
    cases c1 <;> cases c2 <;> cases c3 <;> simp at hc
    all_goals
      go_enter Try.func8, Try.ntmps8
      go_wp2
      exact bodyPost_ret (v := .tuple #[.slice none 0 0, .int .i64 1]) (by simp [results, Try.results8, go_sem]) rfl ⟨rfl, below_alloc (Below.refl _ _) _⟩
  exact key _ _ _ rfl rfl rfl (by
    rcases h with h | h | h
    · exact .inl (decide_eq_true h)
    · exact .inr (.inl (decide_eq_true h))
    · exact .inr (.inr (beq_iff_eq.2 h)))
theorem fPut_long (at_ kind stamp : Int) (A : Option Addr) (n c : Nat) (w : World) (h0 : 0 ≤ at_) (h1 : at_ < 4096) (h2 : stamp ≠ 0) (hn : 4011 < n) :
    Calls Try.prog 8 #[.int .i64 at_, .int .u8 kind, .int .u64 stamp, .slice A n c] w fun e w' => e = .returned (.tuple #[.slice none 0 0, .int .i64 2]) ∧ Below w.heap.size w w' := by
  have d1 : decide (at_ < 0) = false := decide_eq_false (by omega)
  have d2 : decide (at_ ≥ 4096) = false := decide_eq_false (by omega)
  have d3 : (stamp == 0) = false := beq_eq_false_iff_ne.2 h2
  have d4 : decide ((n : Int) > 4011) = true := decide_eq_true (by omega)
  clear h0 h1 h2 hn
  go_enter Try.func8, Try.ntmps8
  go_wp2
  exact bodyPost_ret (v := .tuple #[.slice none 0 0, .int .i64 2]) (by simp [results, Try.results8, go_sem]) rfl ⟨rfl, below_alloc (Below.refl _ _) _⟩
theorem below_weak_ {A B : Nat} {w W : World} (h : Below A w W) (hle : B ≤ A) : Below B w W := ⟨h.os, h.tape, h.output, h.size, fun i hi => h.block i (Nat.lt_of_lt_of_le hi hle)⟩
theorem Byte_more (A : Option Addr) (c n m : Nat) (l : List Int) (hl : l.length = n) (hm : n + 1 = m) (v : Int) (w : World) (hC : Kd.C (Kd.int .u8) w A n l) (hn : n ≤ 1000000) (h0 : 0 ≤ v) (h1 : v < 256) :
    Calls Try.prog 15 #[.slice A n c, .int .u8 v] w fun e w' => ∃ A' c', e = .returned (.slice A' m c') ∧ Kd.C (Kd.int .u8) w' A' m (l ++ beN 1 v) ∧ Kd.R (Kd.int .u8) 5 w' w.heap.size (fun _ => True) (.slice A' m c') (l ++ beN 1 v) ∧ Below w.heap.size w w' := by
  subst hl; subst hm
  refine (Byte_any A c l v w hC (by omega) h0 h1).mono ?_
  rintro e w1 ⟨v1, rfl, hr, hb⟩
  obtain ⟨A1, c1, ev⟩ := Kd.R_slice hr
  subst ev
  have C1 := (Kd.R_reads' hr).2.2
  rw [List.length_append, beN_length] at C1 hr ⊢
  exact ⟨A1, c1, rfl, C1, hr, hb⟩
theorem Uint_more (A : Option Addr) (c n m : Nat) (l : List Int) (hl : l.length = n) (hm : n + 8 = m) (v : Int) (w : World) (hC : Kd.C (Kd.int .u8) w A n l) (hn : n ≤ 1000000) (h0 : 0 ≤ v) (h1 : v < top64) :
    Calls Try.prog 14 #[.slice A n c, .int .u64 v] w fun e w' => ∃ A' c', e = .returned (.slice A' m c') ∧ Kd.C (Kd.int .u8) w' A' m (l ++ beN 8 v) ∧ Kd.R (Kd.int .u8) 5 w' w.heap.size (fun _ => True) (.slice A' m c') (l ++ beN 8 v) ∧ Below w.heap.size w w' := by
  subst hl; subst hm
  refine (Uint_any A c l v w hC (by omega) h0 h1).mono ?_
  rintro e w1 ⟨v1, rfl, hr, hb⟩
  obtain ⟨A1, c1, ev⟩ := Kd.R_slice hr
  subst ev
  have C1 := (Kd.R_reads' hr).2.2
  rw [List.length_append, beN_length] at C1 hr ⊢
  exact ⟨A1, c1, rfl, C1, hr, hb⟩
theorem make_zs (m : Nat) (hm : m ≤ 1000000) (W : World) : (Instr.makeSlice 23 (.int .i64 (m : Int)) (.int .i64 (m : Int))).run Try.prog W = .ok (.slice (some ⟨W.heap.size, 0, none⟩) m m) (W.alloc (Obj.cells (nums .u8 (zs m)).toArray 5)) := by
  have h := print_make (P := Try.prog) 23 5 .u8 1 Try.underlying23 infoU8 (by decide) m (by omega) W
  rw [h, nums_zs, ← toList_madeCells_one]
theorem slice_off (g n k : Nat) (hk : k < n) (W : World) : (Instr.slice 23 (.slice (some ⟨g, 0, none⟩) n n) (some (.int .i64 (k : Int))) none none).run Try.prog W = .ok (.slice (some ⟨g, k, none⟩) (n - k) (n - k)) W := by
  obtain ⟨i0, hi, hz0, hz1, hz2⟩ := info_parts infoU8
  have hel : Try.prog.elem 23 = 5 := by simp [Program.elem, Try.underlying23]
  have hu : Try.prog.underlying 23 = some (.slice (Try.prog.elem 23)) := by rw [hel]; exact Try.underlying23
  rw [run_slice_l W 23 (some ⟨g, 0, none⟩) n n hu .i64 (k : Int) (by omega) (by omega), hel]
  have hne : ¬ n = k := by omega
  simp [sizeOf, typeInfo, hi, hz1, sliced, Result.andThen, Addr.add, hne]
  intro h; rw [h]
/-- What holds once the inside is made. -/
structure PB (w W : World) (q : Nat) (stamp : Int) (inn : List Int) : Prop where
  below : Below q w W
  box : W.heap[q]? = some (Obj.cells #[.int .u64 stamp] 22 (0, 0))
  row : RowAt W (q + 1) inn
  inbox : W.heap[q + 1 + 1]? = some (Obj.cells #[.slice (some ⟨q + 1, 0, none⟩) 4032 4032] 23 (0, 0))
theorem PB.step {w W W' : World} {q : Nat} {stamp : Int} {inn : List Int} (h : PB w W q stamp inn) (hb : Below W.heap.size W W') : PB w W' q stamp inn :=
  ⟨h.below.trans (below_weak_ hb (by have := (Array.getElem?_eq_some_iff.1 h.box).1; omega)), (hb.block q (Array.getElem?_eq_some_iff.1 h.box).1).trans h.box, h.row.below hb, (hb.block (q + 1 + 1) (Array.getElem?_eq_some_iff.1 h.inbox).1).trans h.inbox⟩
theorem PB.copied {w W W' : World} {q : Nat} {stamp : Int} {inn inn' : List Int} (h : PB w W q stamp inn) (hg : W.grownBy W' (some (q + 1))) (hr : RowAt W' (q + 1) inn') : PB w W' q stamp inn' :=
  ⟨h.below.grown hg (by have := (Array.getElem?_eq_some_iff.1 h.box).1; omega) (fun k e => by injection e with e; omega), (hg.block q (Array.getElem?_eq_some_iff.1 h.box).1 (by simp)).trans h.box, hr, (hg.block (q + 1 + 1) (Array.getElem?_eq_some_iff.1 h.inbox).1 (by simp)).trans h.inbox⟩
theorem blk_own {W W' : World} {row : Option Nat} {B L : Nat} {o : Obj} (h : W.heap[B]? = some o) (ho : o.isCells = true) (hg : W.grownBy W' row) (hr : ∀ r, row = some r → L ≤ r ∧ ∃ o : Obj, W.heap[r]? = some o ∧ o.isCells = false) : W'.heap[B]? = some o :=
  (hg.block B (Array.getElem?_eq_some_iff.1 h).1 (fun e => by
    obtain ⟨_, o2, h2, h3⟩ := hr B e.symm
    rw [h] at h2
    injection h2 with h2
    subst h2
    rw [ho] at h3
    cases h3)).trans h
theorem ko_below {W W' : World} (h : Below W.heap.size W W') : KeepsOthers W W' := ⟨h.size, fun k o hk _ => (h.block k (Array.getElem?_eq_some_iff.1 hk).1).trans hk⟩
/-- What holds while the sectors are laid. -/
structure PG (w W : World) (q : Nat) (stamp : Int) (inn : List Int) (p : Nat) (page : List Int) : Prop where
  pb : PB w W q stamp inn
  row : RowAt W p page
  box : W.heap[p + 1]? = some (Obj.cells #[.slice (some ⟨p, 0, none⟩) 4096 4096] 23 (0, 0))
  lt : q + 1 + 1 < p
theorem PG.step {w W W' : World} {q p : Nat} {stamp : Int} {inn page : List Int} (h : PG w W q stamp inn p page) (hb : Below W.heap.size W W') : PG w W' q stamp inn p page :=
  ⟨h.pb.step hb, h.row.below hb, (hb.block (p + 1) (Array.getElem?_eq_some_iff.1 h.box).1).trans h.box, h.lt⟩
theorem PG.own {w W W' : World} {q p L : Nat} {stamp : Int} {inn page : List Int} {row : Option Nat} (h : PG w W q stamp inn p page) (hL : q ≤ L) (hg : W.grownBy W' row) (hr : ∀ r, row = some r → L ≤ r ∧ ∃ o : Obj, W.heap[r]? = some o ∧ o.isCells = false) : PG w W' q stamp inn p page :=
  ⟨⟨h.pb.below.grown hg (by have := (Array.getElem?_eq_some_iff.1 h.pb.box).1; omega) (fun k e => by have := (hr k e).1; omega), blk_own h.pb.box rfl hg hr, blk_own h.pb.row rfl hg hr, blk_own h.pb.inbox rfl hg hr⟩, blk_own h.row rfl hg hr, blk_own h.box rfl hg hr, h.lt⟩
theorem PG.copied {w W W' : World} {q p : Nat} {stamp : Int} {inn page page' : List Int} (h : PG w W q stamp inn p page) (hg : W.grownBy W' (some p)) (hr : RowAt W' p page') : PG w W' q stamp inn p page' := by
  have hl := h.lt
  have k : ∀ j, j ≠ p → some j ≠ some p := fun j hj e => hj (by injection e)
  exact ⟨⟨h.pb.below.grown hg (by have := (Array.getElem?_eq_some_iff.1 h.pb.box).1; omega) (fun j e => by injection e with e; omega), (hg.block q (Array.getElem?_eq_some_iff.1 h.pb.box).1 (k _ (by omega))).trans h.pb.box, h.pb.row.grown hg (k _ (by omega)), (hg.block (q + 1 + 1) (Array.getElem?_eq_some_iff.1 h.pb.inbox).1 (k _ (by omega))).trans h.pb.inbox⟩, hr, (hg.block (p + 1) (Array.getElem?_eq_some_iff.1 h.box).1 (k _ (by omega))).trans h.box, h.lt⟩
theorem grown_setRow (W : World) (g : Nat) (cs : Array Value) : W.grownBy (W.setRow g cs) (some g) := ⟨rfl, rfl, rfl, by simp [World.setRow], fun k hk hne => setRow_other W g k _ (fun e => hne (by rw [e]))⟩
theorem rowAt_set {W : World} {g : Nat} {cur xs : List Int} (h : RowAt W g cur) : RowAt (W.setRow g (nums .u8 xs).toArray) g xs := setRow_heap W g (nums .u8 cur).toArray (nums .u8 xs).toArray 5 (0, 0) h
theorem cut_mid {A : Option Addr} {c : Nat} {xs : List Int} {a b : Nat} (h1 : a ≤ b) (hm : b ≤ xs.length) (hc : xs.length ≤ c) (ai bi : Int) (ha : ai = (a : Int)) (hb : bi = (b : Int)) :
    ∃ (A' : Option Addr) (c' : Nat), (∀ W : World, (Instr.slice 23 (.slice A xs.length c) (some (.int .i64 ai)) (some (.int .i64 bi)) none).run Try.prog W = .ok (.slice A' (b - a) c') W) ∧
      (∀ w : World, Kd.C (Kd.int .u8) w A xs.length xs → Kd.C (Kd.int .u8) w A' (b - a) ((xs.drop a).take (b - a))) ∧ b - a ≤ c' := by
  subst ha; subst hb
  obtain ⟨i0, hi, hz0, hz1, hz2⟩ := info_parts infoU8
  obtain ⟨A', h3, h4, h5⟩ := print_mid_of (P := Try.prog) (Value.int .u8) (0 : Int) 23 5 .i64 .i64 Try.underlying23 hi hz1 A c xs (a : Int) (b : Int) (by omega) (by omega) (by omega) hc
  have hl : ((xs.take b).drop a).length = b - a := by rw [List.length_drop, List.length_take]; omega
  simp only [Int.toNat_natCast, hl] at h3 h4 h5
  refine ⟨A', c - a, h3, fun w h => ?_, h5⟩
  have := h4 w (Kd.reads_of_C (enc := Value.int .u8) (d := (0 : Int)) (h1 := fun _ => rfl) h)
  rw [List.drop_take] at this
  exact Kd.C_of_reads (d := (0 : Int)) (h1 := fun _ => rfl) this
theorem R_of_row {W : World} {g base n : Nat} {xs : List Int} (h : RowAt W g xs) (hb : base ≤ g) (hn : xs.length = n) (hm : n ≤ 1000000) : Kd.R (Kd.int .u8) 5 W base (fun _ => True) (.slice (some ⟨g, 0, none⟩) n n) xs := by
  subst hn
  refine Kd.R_of_own (enc := Value.int .u8) (h1 := fun _ => rfl) ?_ (fun _ _ => trivial)
  refine ⟨by simp [encs], .inr ⟨g, xs.length, _, rfl, hb, h, Nat.le_refl _, by simp only [maxLen]; omega, by simp [nums], ?_⟩⟩
  simp only [encs, nums]
  rw [List.take_of_length_le (by simp)]
/-- The run of a copy into a row that is known whole. -/
theorem run_copy_u8 (w : World) (g off dLen dCap : Nat) (A : Option Addr) (n sCap : Nat) (cur xs : List Int) (hn : xs.length = n) (h0 : 0 < n) (hle : n ≤ dLen) (hfit : off + n ≤ cur.length) (hg : RowAt w g cur) (hC : Kd.C (Kd.int .u8) w A n xs) :
    (Builtin.copy_ #[23, 23] 3 #[.slice (some ⟨g, off, none⟩) dLen dCap, .slice A n sCap]).run Try.prog w = .ok (goInt n) (w.setRow g (nums .u8 (isplice cur off xs)).toArray) := by
  subst hn
  obtain ⟨ad, rfl, hsrc⟩ := C_cells hC h0
  have hmin : (nums .u8 xs).length = Nat.min xs.length dLen := by rw [nums_len]; exact (Nat.min_eq_left hle).symm
  have hrun := run_copy_row (P := Try.prog) w 23 23 3 5 g off dLen dCap ad xs.length sCap (nums .u8 cur).toArray 5 (nums .u8 xs) Try.underlying23 sizeU8 hg hmin hsrc (by rw [nums_len]; simpa [nums_len] using hfit) (fun x hx => by
    simp only [nums, List.mem_map] at hx
    obtain ⟨y, _, rfl⟩ := hx
    rfl)
  have e := nums_isplice cur off xs
  unfold splice at e
  rw [hrun, nums_len]
  rw [nums_len, ← List.append_assoc] at e
  rw [← e]
set_option maxRecDepth 100000 in
set_option maxHeartbeats 3200000 in
theorem fPut_row (at_ kind stamp : Int) (A : Option Addr) (c : Nat) (b : List Int) (w : World) (hC : Kd.C (Kd.int .u8) w A b.length b) (hc : b.length ≤ c) (h0 : 0 ≤ at_) (h1 : at_ < 4096) (h2 : 0 < stamp) (h3 : stamp < top64) (hk : 0 ≤ kind ∧ kind < 256) (hb : b.length ≤ 4011) :
    Calls Try.prog 8 #[.int .i64 at_, .int .u8 kind, .int .u64 stamp, .slice A b.length c] w fun e w' => ∃ p, e = .returned (.tuple #[.slice (some ⟨p, 0, none⟩) 4096 4096, .int .i64 0]) ∧ RowAt w' p (fframe at_ kind stamp b) ∧ w.heap.size ≤ p ∧ Below w.heap.size w w' := by
  have d1 : decide (at_ < 0) = false := decide_eq_false (by omega)
  have d2 : decide (at_ ≥ 4096) = false := decide_eq_false (by omega)
  have d3 : (stamp == 0) = false := beq_eq_false_iff_ne.2 (by omega)
  have d4 : decide ((b.length : Int) > 4011) = false := decide_eq_false (by omega)
  have km : ∀ W : World, (Instr.makeSlice 23 (.int .i64 4032) (.int .i64 4032)).run Try.prog W = .ok (.slice (some ⟨W.heap.size, 0, none⟩) 4032 4032) (W.alloc (Obj.cells (nums .u8 (zs 4032)).toArray 5)) := make_zs 4032 (by decide)
  have km2 : ∀ W : World, (Instr.makeSlice 23 (.int .i64 4096) (.int .i64 4096)).run Try.prog W = .ok (.slice (some ⟨W.heap.size, 0, none⟩) 4096 4096) (W.alloc (Obj.cells (nums .u8 (zs 4096)).toArray 5)) := make_zs 4096 (by decide)
  obtain ⟨Z1, HZ1⟩ : ∃ o : Obj, Aside0 (o = Obj.cells (nums .u8 (zs 4032)).toArray 5) := ⟨_, ⟨rfl⟩⟩
  rw [← HZ1.out] at km
  obtain ⟨Z2, HZ2⟩ : ∃ o : Obj, Aside0 (o = Obj.cells (nums .u8 (zs 4096)).toArray 5) := ⟨_, ⟨rfl⟩⟩
  rw [← HZ2.out] at km2
  have HC := Aside0.mk hC
  have Hc := Aside0.mk hc
  have H0 := Aside0.mk (And.intro h0 h1)
  have H2 := Aside0.mk (And.intro h2 h3)
  have HK := Aside0.mk hk
  have Hb := Aside0.mk hb
  clear hC hc h0 h1 h2 h3 hk hb
  refine (callsIn_wide (n := 5)).1 ?_
  refine callsIn_of_wp_marks Try.func8 rfl trivial ?_ rfl
  simp only [Try.ntmps8, List.size_toArray, List.length_cons, List.length_nil, Nat.reduceAdd, Nat.reduceSub, Array.replicate_succ, Array.replicate_zero, List.push_toArray, List.append_toArray, List.nil_append, List.cons_append]
  refine wpIn_wide.2 ?_
  go_wp2_with fail
  have K0 : Aside0 (PB w (((w.alloc (Obj.cells #[.int .u64 stamp] 22)).alloc Z1).alloc (Obj.cells #[.slice (some ⟨w.heap.size + 1, 0, none⟩) 4032 4032] 23)) w.heap.size stamp (zs 4032)) := by
    rw [HZ1.out]
    refine ⟨⟨below_alloc (below_alloc (below_alloc (Below.refl _ _) _) _) _, ?_, ?_, ?_⟩⟩
    · exact heap_alloc_lt _ _ (by simp; omega) (heap_alloc_lt _ _ (by simp) (heap_new _ _))
    · exact heap_alloc_lt _ _ (by simp) (heap_new' _ _ (by simp))
    · exact heap_new' _ _ (by simp)
  obtain ⟨q, hq⟩ : ∃ q, w.heap.size = q := ⟨_, rfl⟩
  rw [hq] at K0 ⊢
  obtain ⟨W0, hW0⟩ : ∃ W, (((w.alloc (Obj.cells #[.int .u64 stamp] 22)).alloc Z1).alloc (Obj.cells #[.slice (some ⟨q + 1, 0, none⟩) 4032 4032] 23)) = W := ⟨_, rfl⟩
  rw [hW0] at K0 ⊢
  clear hW0 km
  have K0d := Aside0.mk (K0.out.step (below_drew (Below.refl _ _)))
  have c10 := (cell_of_row W0.drew (q + 1 + 1) 0 _ _ _ K0d.out.inbox).trans (rfl : _ = some (Value.slice (some ⟨q + 1, 0, none⟩) 4032 4032))
  have e1 : IntKind.u64.wrap at_ = at_ := by have := H0.out; rw [IntKind.wrap_u64]; omega
  have e2 : IntKind.u64.wrap (b.length : Int) = (b.length : Int) := by have := Hb.out; rw [IntKind.wrap_u64]; omega
  have k1 := Aside0.mk (fun W => Uint_new at_ W H0.out.1 (by have := H0.out; unfold top64; omega))
  have HCd : Aside0 (Kd.C (Kd.int .u8) W0.drew A b.length b) := ⟨Kd.C_below HC.out (by rw [hq]; exact K0d.out.below)⟩
  have HL3 : Aside0 (((beN 8 at_ ++ beN 1 kind) ++ beN 8 (b.length : Int)).length = 17) := ⟨by rw [List.length_append, List.length_append, beN_length, beN_length, beN_length]⟩
  refine wp_region_noPanic ?_
  go_region_held_law (fun w' => w'.cell? ⟨q + 1 + 1, 0, none⟩ = some (Value.slice (some ⟨q + 1, 0, none⟩) 4032 4032)) (first | exact c15 | exact c14 | exact c13 | exact c12 | exact c11 | exact c10) (first
    | (refine copy_u8_step rfl (.tmp 30) (.tmp 41) rfl (q + 1) 0 4032 4032 A4 (17 + b.length) c4 (zs 4032) (fhead at_ kind b) rfl rfl (by rw [fhead_length]) (by have := Hb.out; omega) (by rw [zs_length]; have := Hb.out; omega) K4.out.row C4.out ?_; intro w5 hr5 hg5 hs5; have K5 := Aside0.mk (K4.out.copied hg5 hr5.out); have c15 := (cell_of_row w5 (q + 1 + 1) 0 _ _ _ K5.out.inbox).trans (rfl : _ = some (Value.slice (some ⟨q + 1, 0, none⟩) 4032 4032)); clear hr5 hg5 hs5)
    | (refine Kd.R_append_rows_step (Kd.int .u8) (w0 := w2) w2.heap.size (by rfl) (.tmp 39) (.tmp 40) 23 5 (.int .u8 0) 1 rfl Try.underlying23 infoU8 rfl (by decide) (by decide) (.slice A3 17 c3) ((beN 8 at_ ++ beN 1 kind) ++ beN 8 (b.length : Int)) b A b.length c (fun _ => True) (fun _ => False) rfl rfl R3.out HC3.out (fun _ _ h => h) (fun _ h => h.elim) (fun _ _ => trivial) HB3.out HB3.out.size (by rw [HL3.out]; have := Hb.out; omega) ?_; intro v4 w4 ho4 hb4 hg4 hat; obtain ⟨A4, c4, ev⟩ := Kd.R_slice ho4; subst ev; have C4 := Aside0.mk (Kd.R_reads' ho4).2.2; have K4 := Aside0.mk (K2.out.step hb4); rw [show (((beN 8 at_ ++ beN 1 kind) ++ beN 8 (b.length : Int)) ++ b).length = 17 + b.length from fhead_length at_ kind b] at C4 ⊢; have c14 := (cell_of_row w4 (q + 1 + 1) 0 _ _ _ K4.out.inbox).trans (rfl : _ = some (Value.slice (some ⟨q + 1, 0, none⟩) 4032 4032)); clear ho4 hb4 hg4 hat)
    | (go_simp; go_wp2_with (first
      | (go_at_call 14; refine (k1.out _).mono ?_; rintro e w1 ⟨A1, c1, rfl, hl1, hc1, _, hb1⟩; have K1 := Aside0.mk (K0d.out.step hb1); have C1 := Aside0.mk hc1; have HC1 := Aside0.mk (Kd.C_below HCd.out hb1); have c11 := (cell_of_row w1 (q + 1 + 1) 0 _ _ _ K1.out.inbox).trans (rfl : _ = some (Value.slice (some ⟨q + 1, 0, none⟩) 4032 4032)); clear hl1 hc1 hb1 k1)
      | (go_at_call 15; refine (Byte_more A1 c1 8 9 (beN 8 at_) (beN_length _ _) rfl kind _ C1.out (by decide) HK.out.1 HK.out.2).mono ?_; rintro e w2 ⟨A2, c2, rfl, hc2, _, hb2⟩; have K2 := Aside0.mk (K1.out.step hb2); have C2 := Aside0.mk hc2; have HC2 := Aside0.mk (Kd.C_below HC1.out hb2); have c12 := (cell_of_row w2 (q + 1 + 1) 0 _ _ _ K2.out.inbox).trans (rfl : _ = some (Value.slice (some ⟨q + 1, 0, none⟩) 4032 4032)); clear hc2 hb2)
      | (go_at_call 14; refine (Uint_more A2 c2 9 17 (beN 8 at_ ++ beN 1 kind) (by rw [List.length_append, beN_length, beN_length]) rfl (b.length : Int) _ C2.out (by decide) (by omega) (by have := Hb.out; unfold top64; omega)).mono ?_; rintro e w3 ⟨A3, c3, rfl, hc3, hr3, hb3⟩; have HC3 := Aside0.mk (Kd.C_below HC2.out hb3); have R3 := Aside0.mk hr3; have HB3 := Aside0.mk hb3; have K3 := Aside0.mk (K2.out.step hb3); have c13 := (cell_of_row w3 (q + 1 + 1) 0 _ _ _ K3.out.inbox).trans (rfl : _ = some (Value.slice (some ⟨q + 1, 0, none⟩) 4032 4032)); clear hc3 hr3 hb3))))
  refine NoPanic.normal ?_
  clear c10 c11 c12 c13 c14 c15 e1 e2 HL3 HCd K0 K0d K1 K2 K3 K4 C1 C2 C4 HC1 HC2 HC3 R3 HB3
  obtain ⟨in0, hin0⟩ : ∃ l, isplice (zs 4032) 0 (fhead at_ kind b) = l := ⟨_, rfl⟩
  rw [hin0] at K5
  have HI0 : Aside0 (fin0 at_ kind b = in0) := ⟨hin0⟩
  have HIL : Aside0 (in0.length = 4032) := ⟨by rw [← HI0.out]; exact fin0_length _ _ _ Hb.out⟩
  clear hin0
  have s1 : ∀ W : World, (Instr.slice 23 (.slice (some ⟨q + 1, 0, none⟩) 4032 4032) (some (.int .i64 4028)) none none).run Try.prog W = .ok (.slice (some ⟨q + 1, 4028, none⟩) 4 4) W := fun W => slice_off (q + 1) 4032 4028 (by decide) W
  have K5d := Aside0.mk (K5.out.step (below_drew (Below.refl _ _)))
  have C5 : Aside0 (Kd.C (Kd.int .u8) w5.drew (some ⟨q + 1, 0, none⟩) in0.length in0) := ⟨K5d.out.row.C (by rw [HIL.out]; decide)⟩
  have a0 := (cell_of_row w5.drew (q + 1 + 1) 0 _ _ _ K5d.out.inbox).trans (rfl : _ = some (Value.slice (some ⟨q + 1, 0, none⟩) 4032 4032))
  have b0 := (cell_of_row w5.drew q 0 _ _ _ K5d.out.box).trans (rfl : _ = some (Value.int .u64 stamp))
  go_wp2_with fail
  refine wp_region_noPanic ?_
  go_region_held_law (fun w' => w'.cell? ⟨q + 1 + 1, 0, none⟩ = some (Value.slice (some ⟨q + 1, 0, none⟩) 4032 4032) ∧ w'.cell? ⟨q, 0, none⟩ = some (Value.int .u64 stamp)) (first | exact ⟨a2, b2⟩ | exact ⟨a1, b1⟩ | exact ⟨a0, b0⟩) (first
    | (refine copy_u8_step rfl (.tmp 44) (.tmp 47) rfl (q + 1) 4028 4 4 A6 4 c6 in0 (fcheck stamp (in0.take 4028)) rfl rfl rfl (Nat.le_refl _) (by rw [HIL.out]; decide) K6.out.row C6.out ?_; intro w7 hr7 hg7 hs7; have K7 := Aside0.mk (K6.out.copied hg7 hr7.out); have a2 := (cell_of_row w7 (q + 1 + 1) 0 _ _ _ K7.out.inbox).trans (rfl : _ = some (Value.slice (some ⟨q + 1, 0, none⟩) 4032 4032)); have b2 := (cell_of_row w7 q 0 _ _ _ K7.out.box).trans (rfl : _ = some (Value.int .u64 stamp)); clear hr7 hg7 hs7)
    | (go_simp; go_wp2_with (first
      | (go_at_call 16; refine (check_calls stamp (some ⟨q + 1, 0, none⟩) 4032 in0 _ C5.out HIL.out (by decide) (by have := H2.out; omega) H2.out.2).mono ?_; rintro e w6 ⟨A6, c6, rfl, _, hc6, hb6⟩; have K6 := Aside0.mk (K5d.out.step hb6); have C6 := Aside0.mk hc6; have a1 := (cell_of_row w6 (q + 1 + 1) 0 _ _ _ K6.out.inbox).trans (rfl : _ = some (Value.slice (some ⟨q + 1, 0, none⟩) 4032 4032)); have b1 := (cell_of_row w6 q 0 _ _ _ K6.out.box).trans (rfl : _ = some (Value.int .u64 stamp)); clear hc6 hb6))))
  refine NoPanic.normal ?_
  clear a0 b0 a1 b1 a2 b2 K5 K5d K6 C5 C6 s1
  obtain ⟨inn, hinn⟩ : ∃ l, isplice in0 4028 (fcheck stamp (in0.take 4028)) = l := ⟨_, rfl⟩
  rw [hinn] at K7
  have HI : Aside0 (fin at_ kind stamp b = inn) := ⟨by unfold fin; rw [HI0.out]; exact hinn⟩
  have HIL : Aside0 (inn.length = 4032) := ⟨by rw [← HI.out]; exact fin_length _ _ _ _ Hb.out⟩
  clear hinn
  go_wp2_with fail
  refine ((callsIn_wide (n := 5)).1 (sectors_in Fence.wide 5 trivial rfl _)).mono ?_
  rintro e w8 ⟨rfl, rfl⟩
  have G0 : Aside0 (PG w ((w7.alloc Z2).alloc (Obj.cells #[.slice (some ⟨w7.heap.size, 0, none⟩) 4096 4096] 23)) q stamp inn w7.heap.size (zs 4096)) := by
    rw [HZ2.out]
    refine ⟨⟨K7.out.step (below_alloc (below_alloc (Below.refl _ _) _) _), ?_, ?_, ?_⟩⟩
    · exact heap_alloc_lt _ _ (by simp) (heap_new _ _)
    · exact heap_new' _ _ (by simp)
    · exact (Array.getElem?_eq_some_iff.1 K7.out.inbox).1
  obtain ⟨p, hp⟩ : ∃ p, w7.heap.size = p := ⟨_, rfl⟩
  rw [hp] at G0 ⊢
  obtain ⟨wL, hwL⟩ : ∃ W, ((w7.alloc Z2).alloc (Obj.cells #[.slice (some ⟨p, 0, none⟩) 4096 4096] 23)) = W := ⟨_, rfl⟩
  rw [hwL] at G0 ⊢
  clear hwL km2 K7 hp
  go_wp2_with fail
  refine (wpIn_wide (n := 5)).1 ?_
  have hqL : q ≤ wL.heap.size := by have := (Array.getElem?_eq_some_iff.1 G0.out.pb.box).1; omega
  obtain ⟨L0, hL0⟩ : ∃ L, wL.heap.size = L := ⟨_, rfl⟩
  refine wpIn_rangeFunc_ownF rfl (by omega) (gf := 29) (lb := #[]) rfl trivial (enters_of Try.func29 (by kernel_rfl) rfl)
    (sectors_stopsT Fence.wide _ rfl (by omega) wL) (fun _ _ => trivial) (fun _ _ _ _ _ _ _ _ => trivial) (Below.refl _ _) (fun _ => rfl)
    (fun pre W => PG w W q stamp inn p (fpage stamp inn (pre.map Subtype.val)))
    (fun _ _ _ => False)
    (fun pre W W' row hI hg hr => hI.own hqL hg hr)
    (fun _ _ _ _ _ hs _ _ => hs)
    G0.out
    (fun x => { tmps := #[.int .i64 at_, .int .u8 kind, .int .u64 stamp, .slice A b.length c, undef, undef, .pointer (some ⟨q, 0, none⟩), undef, .slice none 0 0, .int .i64 0, .pointer (some ⟨q + 1 + 1, 0, none⟩), .pointer (some ⟨p + 1, 0, none⟩), .int .i64 (((x.1 : Nat) : Int) * 504), .int .i64 (((x.1 : Nat) : Int) * 512), .bool false, .int .i64 at_, .bool false, .bool false, .int .i64 at_, .bool false, .bool false, .bool false, .int .u64 stamp, .bool false, .bool false, .bool false, .slice A b.length c, .int .i64 (b.length : Int), .bool false, .slice (some ⟨q + 1, 0, none⟩) 4032 4032, .slice (some ⟨q + 1, 0, none⟩) 4032 4032, .int .i64 at_, .int .u64 at_, .slice A1 8 c1, .int .u8 kind, .slice A2 9 c2, .slice A b.length c, .int .i64 (b.length : Int), .int .u64 (b.length : Int), .slice A3 17 c3, .slice A b.length c, .slice A4 (17 + b.length) c4, .int .i64 (17 + (b.length : Int)), .slice (some ⟨q + 1, 0, none⟩) 4032 4032, .slice (some ⟨q + 1, 4028, none⟩) 4 4, .int .u64 stamp, .slice (some ⟨q + 1, 0, none⟩) 4032 4032, .slice A6 4 c6, .int .i64 4, .slice (some ⟨p, 0, none⟩) 4096 4096, .func (Fn.func 29) #[] #[], .int .i64 (((x.1 : Nat) : Int) * 504), .int .i64 (((x.1 : Nat) : Int) * 512), undef, undef, undef, undef, undef, undef, undef, undef, undef, undef, undef, undef, undef, undef, undef, undef, undef], defers := [] }) ?assign ?body ?done ?stop
  case assign =>
    intro l x W K hK
    gi_wp2
    exact hK
  case body =>
    rintro l pre ⟨k, hk8⟩ W hI hlt
    have hPL : (fpage stamp inn (pre.map Subtype.val)).length = 4096 := fpage_length stamp inn HIL.out _ (fun j hj => by
      obtain ⟨x, _, rfl⟩ := List.mem_map.1 hj
      exact x.2)
    obtain ⟨page, hpg⟩ : ∃ l, fpage stamp inn (pre.map Subtype.val) = l := ⟨_, rfl⟩
    rw [hpg] at hPL hI
    have HPL := Aside0.mk hPL
    have HPG : Aside0 (fpage stamp inn ((pre ++ [(⟨k, hk8⟩ : N8)]).map Subtype.val) = fround stamp inn page k) := ⟨by rw [List.map_append, List.map_cons, List.map_nil, fpage_snoc, hpg]⟩
    have HI := Aside0.mk hI
    have Id := Aside0.mk (hI.step (below_drew (Below.refl _ _)))
    clear hI hpg hPL
    have ku := Aside0.mk (fun W => Uint_new stamp W (by have := H2.out; omega) H2.out.2)
    have cp := (cell_of_row W.drew (p + 1) 0 _ _ _ Id.out.box).trans (rfl : _ = some (Value.slice (some ⟨p, 0, none⟩) 4096 4096))
    have cs := (cell_of_row W.drew q 0 _ _ _ Id.out.pb.box).trans (rfl : _ = some (Value.int .u64 stamp))
    have ss : ∀ W : World, (Instr.slice 23 (.slice (some ⟨p, 0, none⟩) 4096 4096) (some (.int .i64 ((k : Int) * 512))) none none).run Try.prog W = .ok (.slice (some ⟨p, 512 * k, none⟩) (4096 - 512 * k) (4096 - 512 * k)) W := fun W => by
      rw [show (k : Int) * 512 = ((512 * k : Nat) : Int) by omega]
      exact slice_off p 4096 (512 * k) (by omega) W
    dsimp only
    gi_wp2_with fail
    refine start_in (S := (fun w' => w'.cell? ⟨p + 1, 0, none⟩ = some (Value.slice (some ⟨p, 0, none⟩) 4096 4096) ∧ w'.cell? ⟨q, 0, none⟩ = some (Value.int .u64 stamp))) (ds := []) #[false, false, false, false, false, false] (by kernel_rfl) rfl rfl (by kernel_rfl) ⟨cp, cs⟩ (fun hHeld => ?_)
    refine take_ (i := 0) (N := some 53) (v := ?_) (a' := ?_) #[true, false, false, false, false, false] rfl rfl (by kernel_rfl) (fun _ _ _ h => h) (Or.inl ⟨by rfl, ?_⟩) hHeld ?_ ?_
    rotate_left
    · rintro w' ⟨s0, s1⟩
      go_simp
      with_reducible rfl
    rotate_left
    · simp only [Act.put, List.setIfInBounds_toArray, List.set_cons_zero, List.set_cons_succ]
      rfl
    refine pure_ (i := 1) (N := some 54) (v := ?_) (a' := ?_) #[true, true, false, false, false, false] rfl rfl (by kernel_rfl) (fun _ _ _ h => h) (Or.inl ⟨by rfl, ?_⟩) ?_ ?_
    rotate_left
    · intro w'
      go_simp
      with_reducible rfl
    rotate_left
    · simp only [Act.put, List.setIfInBounds_toArray, List.set_cons_zero, List.set_cons_succ]
      rfl
    refine pure_ (i := 2) (N := some 55) (v := ?_) (a' := ?_) #[true, true, true, false, false, false] rfl rfl (by kernel_rfl) (fun _ _ _ h => h) (Or.inl ⟨by rfl, ?_⟩) ?_ ?_
    rotate_left
    · intro w'
      go_simp
      with_reducible rfl
    rotate_left
    · simp only [Act.put, List.setIfInBounds_toArray, List.set_cons_zero, List.set_cons_succ]
      rfl
    refine take_ (i := 3) (N := some 56) (v := ?_) (a' := ?_) #[true, true, true, true, false, false] rfl rfl (by kernel_rfl) (fun _ _ _ h => h) (Or.inl ⟨by rfl, ?_⟩) hHeld ?_ ?_
    rotate_left
    · rintro w' ⟨s0, s1⟩
      go_simp
      with_reducible rfl
    rotate_left
    · simp only [Act.put, List.setIfInBounds_toArray, List.set_cons_zero, List.set_cons_succ]
      rfl
    refine one_ (i := 4) (N := some 57) #[true, true, true, true, true, false] rfl rfl (by kernel_rfl) (by decide) (fun K hK => ?_)
    refine goes_ Try.func14 (by kernel_rfl) rfl #[.slice none 0 0, .int .u64 stamp] (by rfl) rfl rfl (by (try simp only [List.map_toArray, List.map_cons, List.map_nil]); first | done | rfl) ?_
    refine (ku.out _).mono ?_
    rintro e w9 ⟨A9, c9, rfl, _, hc9, _, hb9⟩
    have I9 := Aside0.mk (Id.out.step hb9)
    have HB9 : Aside0 (Below W.heap.size W w9) := ⟨Below.trans (below_drew (Below.refl _ W)) hb9⟩
    have C9 := Aside0.mk hc9
    clear hc9 hb9
    refine ⟨_, rfl, ?_⟩
    refine hK.out _ _ ⟨(cell_of_row w9 (p + 1) 0 _ _ _ I9.out.box).trans rfl, (cell_of_row w9 q 0 _ _ _ I9.out.pb.box).trans rfl⟩ (fun hHeld => ?_)
    clear hK K
    refine norm_ (a' := ?_) ?_ ?_
    rotate_left
    · show Act.put _ (some 57) _ = _
      simp only [Act.put, List.setIfInBounds_toArray, List.set_cons_zero, List.set_cons_succ]
      rfl
    refine one_ (i := 5) (N := some 58) #[true, true, true, true, true, true] rfl rfl (by kernel_rfl) (by decide) (fun K hK => ?_)
    refine copy_u8_step rfl (.tmp 55) (.tmp 57) rfl p (512 * k) (4096 - 512 * k) (4096 - 512 * k) A9 8 c9 page (beN 8 stamp) rfl rfl (beN_length _ _) (by omega) (by rw [HPL.out]; omega) I9.out.row C9.out ?_
    intro w10 hr10 hg10 hs10
    have I10 := Aside0.mk (I9.out.copied hg10 hr10.out)
    have HR10 := Aside0.mk hg10
    clear hr10 hg10 hs10
    refine hK.out _ _ ⟨(cell_of_row w10 (p + 1) 0 _ _ _ I10.out.box).trans rfl, (cell_of_row w10 q 0 _ _ _ I10.out.pb.box).trans rfl⟩ (fun hHeld => ?_)
    clear hK K
    refine norm_ (a' := ?_) ?_ ?_
    rotate_left
    · show Act.put _ (some 58) _ = _
      simp only [Act.put, List.setIfInBounds_toArray, List.set_cons_zero, List.set_cons_succ]
      rfl
    refine done_ (by kernel_rfl) ?_
    refine OnlyNormal.normal ?_
    have Jd := Aside0.mk (I10.out.step (below_drew (Below.refl _ _)))
    have HI10 : Aside0 ((isplice page (512 * k) (beN 8 stamp)).length = 4096) := ⟨by rw [isplice_length _ _ _ (by rw [beN_length, HPL.out]; omega), HPL.out]⟩
    obtain ⟨page1, hpage1⟩ : ∃ l, isplice page (512 * k) (beN 8 stamp) = l := ⟨_, rfl⟩
    rw [hpage1] at I10 Jd HI10
    have HP1 := Aside0.mk hpage1
    clear hpage1 cp cs ss
    have cp := (cell_of_row w10.drew (p + 1) 0 _ _ _ Jd.out.box).trans (rfl : _ = some (Value.slice (some ⟨p, 0, none⟩) 4096 4096))
    have ci := (cell_of_row w10.drew (q + 1 + 1) 0 _ _ _ Jd.out.pb.inbox).trans (rfl : _ = some (Value.slice (some ⟨q + 1, 0, none⟩) 4032 4032))
    have ss : ∀ W : World, (Instr.slice 23 (.slice (some ⟨p, 0, none⟩) 4096 4096) (some (.int .i64 ((k : Int) * 512 + 8))) none none).run Try.prog W = .ok (.slice (some ⟨p, 512 * k + 8, none⟩) (4088 - 512 * k) (4088 - 512 * k)) W := fun W => by
      rw [show (k : Int) * 512 + 8 = ((512 * k + 8 : Nat) : Int) by omega, show 4088 - 512 * k = 4096 - (512 * k + 8) by omega]
      exact slice_off p 4096 (512 * k + 8) (by omega) W
    obtain ⟨A14, c14, s14, t14, l14⟩ := cut_mid (A := some ⟨q + 1, 0, none⟩) (c := 4032) (xs := inn) (a := 504 * k) (b := 504 * k + 504) (by omega) (by rw [HIL.out]; omega) (by rw [HIL.out]; decide) ((k : Int) * 504) ((k : Int) * 504 + 504) (by omega) (by omega)
    have C14 := Aside0.mk (t14 w10.drew (Jd.out.pb.row.C (by rw [HIL.out]; decide)))
    rw [HIL.out] at s14
    rw [show 504 * k + 504 - 504 * k = 504 by omega] at s14 C14
    have HL14 : Aside0 (((inn.drop (504 * k)).take 504).length = 504) := ⟨by rw [List.length_take, List.length_drop, HIL.out]; omega⟩
    clear t14 l14
    have ew1 : IntKind.i64.wrap ((k : Int) * 512 + 8) = (k : Int) * 512 + 8 := by rw [IntKind.wrap_i64]; omega
    have ew2 : IntKind.i64.wrap ((k : Int) * 504 + 504) = (k : Int) * 504 + 504 := by rw [IntKind.wrap_i64]; omega
    gi_wp2_with fail
    refine start_in (S := (fun w' => w'.cell? ⟨p + 1, 0, none⟩ = some (Value.slice (some ⟨p, 0, none⟩) 4096 4096) ∧ w'.cell? ⟨q + 1 + 1, 0, none⟩ = some (Value.slice (some ⟨q + 1, 0, none⟩) 4032 4032))) (ds := []) #[false, false, false, false, false, false, false, false, false, false] (by kernel_rfl) rfl rfl (by kernel_rfl) ⟨cp, ci⟩ (fun hHeld => ?_)
    refine take_ (i := 0) (N := some 59) (v := ?_) (a' := ?_) #[true, false, false, false, false, false, false, false, false, false] rfl rfl (by kernel_rfl) (fun _ _ _ h => h) (Or.inl ⟨by rfl, ?_⟩) hHeld ?_ ?_
    rotate_left
    · rintro w' ⟨s0, s1⟩
      go_simp
      with_reducible rfl
    rotate_left
    · simp only [Act.put, List.setIfInBounds_toArray, List.set_cons_zero, List.set_cons_succ]
      rfl
    refine pure_ (i := 1) (N := some 60) (v := ?_) (a' := ?_) #[true, true, false, false, false, false, false, false, false, false] rfl rfl (by kernel_rfl) (fun _ _ _ h => h) (Or.inl ⟨by rfl, ?_⟩) ?_ ?_
    rotate_left
    · intro w'
      go_simp
      with_reducible rfl
    rotate_left
    · simp only [Act.put, List.setIfInBounds_toArray, List.set_cons_zero, List.set_cons_succ]
      rfl
    refine pure_ (i := 2) (N := some 61) (v := ?_) (a' := ?_) #[true, true, true, false, false, false, false, false, false, false] rfl rfl (by kernel_rfl) (fun _ _ _ h => h) (Or.inl ⟨by rfl, ?_⟩) ?_ ?_
    rotate_left
    · intro w'
      go_simp
      with_reducible rfl
    rotate_left
    · simp only [Act.put, List.setIfInBounds_toArray, List.set_cons_zero, List.set_cons_succ]
      rfl
    refine pure_ (i := 3) (N := some 62) (v := ?_) (a' := ?_) #[true, true, true, true, false, false, false, false, false, false] rfl rfl (by kernel_rfl) (fun _ _ _ h => h) (Or.inl ⟨by rfl, ?_⟩) ?_ ?_
    rotate_left
    · intro w'
      go_simp
      with_reducible rfl
    rotate_left
    · simp only [Act.put, List.setIfInBounds_toArray, List.set_cons_zero, List.set_cons_succ]
      rfl
    refine take_ (i := 4) (N := some 63) (v := ?_) (a' := ?_) #[true, true, true, true, true, false, false, false, false, false] rfl rfl (by kernel_rfl) (fun _ _ _ h => h) (Or.inl ⟨by rfl, ?_⟩) hHeld ?_ ?_
    rotate_left
    · rintro w' ⟨s0, s1⟩
      go_simp
      with_reducible rfl
    rotate_left
    · simp only [Act.put, List.setIfInBounds_toArray, List.set_cons_zero, List.set_cons_succ]
      rfl
    refine pure_ (i := 5) (N := some 64) (v := ?_) (a' := ?_) #[true, true, true, true, true, true, false, false, false, false] rfl rfl (by kernel_rfl) (fun _ _ _ h => h) (Or.inl ⟨by rfl, ?_⟩) ?_ ?_
    rotate_left
    · intro w'
      go_simp
      with_reducible rfl
    rotate_left
    · simp only [Act.put, List.setIfInBounds_toArray, List.set_cons_zero, List.set_cons_succ]
      rfl
    refine pure_ (i := 6) (N := some 65) (v := ?_) (a' := ?_) #[true, true, true, true, true, true, true, false, false, false] rfl rfl (by kernel_rfl) (fun _ _ _ h => h) (Or.inl ⟨by rfl, ?_⟩) ?_ ?_
    rotate_left
    · intro w'
      go_simp
      with_reducible rfl
    rotate_left
    · simp only [Act.put, List.setIfInBounds_toArray, List.set_cons_zero, List.set_cons_succ]
      rfl
    refine pure_ (i := 7) (N := some 66) (v := ?_) (a' := ?_) #[true, true, true, true, true, true, true, true, false, false] rfl rfl (by kernel_rfl) (fun _ _ _ h => h) (Or.inl ⟨by rfl, ?_⟩) ?_ ?_
    rotate_left
    · intro w'
      go_simp
      with_reducible rfl
    rotate_left
    · simp only [Act.put, List.setIfInBounds_toArray, List.set_cons_zero, List.set_cons_succ]
      rfl
    refine pure_ (i := 8) (N := some 67) (v := ?_) (a' := ?_) #[true, true, true, true, true, true, true, true, true, false] rfl rfl (by kernel_rfl) (fun _ _ _ h => h) (Or.inl ⟨by rfl, ?_⟩) ?_ ?_
    rotate_left
    · intro w'
      go_simp
      with_reducible rfl
    rotate_left
    · simp only [Act.put, List.setIfInBounds_toArray, List.set_cons_zero, List.set_cons_succ]
      rfl
    refine one_ (i := 9) (N := some 68) #[true, true, true, true, true, true, true, true, true, true] rfl rfl (by kernel_rfl) (by decide) (fun K hK => ?_)
    refine copy_u8_step rfl (.tmp 62) (.tmp 67) rfl p (512 * k + 8) (4088 - 512 * k) (4088 - 512 * k) A14 504 c14 page1 ((inn.drop (504 * k)).take 504) rfl rfl HL14.out (by omega) (by rw [HI10.out]; omega) Jd.out.row C14.out ?_
    intro w11 hr11 hg11 hs11
    have I11 := Aside0.mk (Jd.out.copied hg11 hr11.out)
    have HR11 := Aside0.mk hg11
    clear hr11 hg11 hs11
    refine hK.out _ _ ⟨(cell_of_row w11 (p + 1) 0 _ _ _ I11.out.box).trans rfl, (cell_of_row w11 (q + 1 + 1) 0 _ _ _ I11.out.pb.inbox).trans rfl⟩ (fun hHeld => ?_)
    clear hK K
    refine norm_ (a' := ?_) ?_ ?_
    rotate_left
    · show Act.put _ (some 68) _ = _
      simp only [Act.put, List.setIfInBounds_toArray, List.set_cons_zero, List.set_cons_succ]
      rfl
    refine done_ (by kernel_rfl) ?_
    refine OnlyNormal.normal ?_
    gi_wp2
    refine ⟨?_, trivial, ?_⟩
    · have g1 : KeepsOthers W w9 := ko_below (HB9.out)
      have g2 : KeepsOthers w9 w10 := KeepsOthers.of_grownBy HR10.out (fun j o e ho => by injection e with e; subst e; have := I9.out.row; rw [RowAt, ho] at this; injection this with this; subst this; rfl)
      have g3 : KeepsOthers w10 w10.drew := ko_below (below_drew (Below.refl _ _))
      have g4 : KeepsOthers w10.drew w11 := KeepsOthers.of_grownBy HR11.out (fun j o e ho => by injection e with e; subst e; have := Jd.out.row; rw [RowAt, ho] at this; injection this with this; subst this; rfl)
      exact ((g1.trans g2).trans g3).trans g4
    · have h := I11.out
      rw [← HP1.out] at h
      show PG w w11 q stamp inn p (fpage stamp inn (List.map Subtype.val (pre ++ [(⟨k, hk8⟩ : N8)])))
      rw [HPG.out]
      exact h
  case done =>
    rintro D ys W hD hys hI hK
    rw [hys] at hI
    have hF : fpage stamp inn (List.range 8) = fframe at_ kind stamp b := by unfold fframe; rw [HI.out]
    rw [hF] at hI
    have HIw := Aside0.mk hI
    have HKd := Aside0.mk hK
    have cp := (cell_of_row W (p + 1) 0 _ _ _ hI.box).trans (rfl : _ = some (Value.slice (some ⟨p, 0, none⟩) 4096 4096))
    clear hys hI hK hF
    go_wp2_with fail
    refine ⟨by simp, .inl ⟨_, _, rfl, run_takeDeferred HKd.out, ?_⟩⟩
    have HO := HIw.out.own (q := q) (p := p) (L := q) (Nat.le_refl _) (grownBy_putObj' W D (.deferred none)) (fun r e => by cases e; exact ⟨by omega, _, HKd.out, rfl⟩)
    refine ⟨.tuple #[.slice (some ⟨p, 0, none⟩) 4096 4096, .int .i64 0], ?_, ⟨p, rfl, HO.row, ?_, ?_⟩⟩
    · simp [results, Try.results8, go_sem]
    · have := HO.lt; omega
    · rw [hq]
      exact HO.pb.below
  case stop =>
    rintro D c' pre W hD hpre hF hK
    exact hF.elim
theorem fPut_yes (at_ kind stamp : Int) (A : Option Addr) (c : Nat) (b : List Int) (w : World) (hC : Kd.C (Kd.int .u8) w A b.length b) (hc : b.length ≤ c) (h0 : 0 ≤ at_) (h1 : at_ < 4096) (h2 : 0 < stamp) (h3 : stamp < top64) (hk : 0 ≤ kind ∧ kind < 256) (hb : b.length ≤ 4011) :
    Calls Try.prog 8 #[.int .i64 at_, .int .u8 kind, .int .u64 stamp, .slice A b.length c] w fun e w' => ∃ v : Value, e = .returned (.tuple #[v, .int .i64 0]) ∧ Kd.R (Kd.int .u8) 5 w' w.heap.size (fun _ => True) v (fframe at_ kind stamp b) ∧ Below w.heap.size w w' := by
  refine (fPut_row at_ kind stamp A c b w hC hc h0 h1 h2 h3 hk hb).mono ?_
  rintro e w' ⟨p, rfl, hr, hp, hbl⟩
  exact ⟨_, rfl, R_of_row hr hp (fframe_length _ _ _ _ hb) (by decide), hbl⟩
end Go.Proofs.Ytddajglkefpjdaa.Ext
