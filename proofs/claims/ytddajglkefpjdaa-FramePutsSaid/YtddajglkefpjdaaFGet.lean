/- frame.Get, proved by walking its code. -/
import Derived.Test.YtddajglkefpjdaaFPut
import Derived.Test.YtddajglkefpjdaaFBytes
import Derived.Test.YtddajglkefpjdaaInRound
namespace Go.Proofs.Ytddajglkefpjdaa.Ext
open Go.RowKit Go.Shelf Go.Proofs.YtddajglkefpjdaaW.PrintWords Go.Proofs.YtddajglkefpjdaaW.PrintLast Go.Proofs.YtddajglkefpjdaaW.PrintMore Go.Proofs.YtddajglkefpjdaaW.Hand
attribute [local go_sem] Oper.semAt_some
set_option linter.unusedVariables false
/-- What the sectors of a page hold behind their stamps. -/
def fgin (page : List Int) (ks : List Nat) : List Int := (ks.map fun k => (page.drop (512 * k + 8)).take 504).flatten
theorem fgin_snoc (page : List Int) (ks : List Nat) (k : Nat) : fgin page (ks ++ [k]) = fgin page ks ++ (page.drop (512 * k + 8)).take 504 := by simp [fgin]
theorem fgin_length (page : List Int) (hp : page.length = 4096) : ∀ (ks : List Nat), (∀ k ∈ ks, k < 8) → (fgin page ks).length = 504 * ks.length := by
  intro ks
  induction ks with
  | nil => intro _; rfl
  | cons k ks ih =>
    intro h
    have h1 := h k (List.mem_cons_self ..)
    have h2 := ih (fun j hj => h j (List.mem_cons_of_mem _ hj))
    simp only [fgin, List.map_cons, List.flatten_cons, List.length_append, List.length_take, List.length_drop, List.length_cons] at h2 ⊢
    rw [h2, hp]; omega
theorem fgin_mem (page : List Int) (hb : ∀ x ∈ page, IsByte x) (ks : List Nat) : ∀ x ∈ fgin page ks, IsByte x := by
  intro x hx
  obtain ⟨l, hl, hxl⟩ := List.mem_flatten.1 hx
  obtain ⟨k, _, rfl⟩ := List.mem_map.1 hl
  exact hb x (List.mem_of_mem_drop (List.mem_of_mem_take hxl))
theorem take_mem (r : Rs) (n : Nat) (hb : ∀ x ∈ r.xs, IsByte x) : ∀ x ∈ (r.take n).2.xs, IsByte x := by
  intro x hx
  unfold Rs.take at hx
  split at hx
  · exact hb x hx
  · exact hb x (List.mem_of_mem_drop hx)
theorem take_two_len (r : Rs) (n : Nat) : (r.take n).2.xs.length ≤ r.xs.length := by
  unfold Rs.take
  split
  · exact Nat.le_refl _
  · rw [List.length_drop]; omega
theorem uint_two (r : Rs) : r.uint.2 = (r.take 8).2 := by
  unfold Rs.uint
  cases r.take 8 with
  | mk a b => cases a <;> rfl
theorem byte_two (r : Rs) : r.byte.2 = (r.take 1).2 := by
  unfold Rs.byte
  cases r.take 1 with
  | mk a b => cases a <;> rfl
def fcnt (inn : List Int) : Int := (((⟨inn, false⟩ : Rs).uint.2.byte.2).count 4011).1
theorem fcnt_range (inn : List Int) (hb : ∀ x ∈ inn, IsByte x) : 0 ≤ fcnt inn ∧ fcnt inn ≤ 4011 := by
  unfold fcnt
  obtain ⟨r, hr⟩ : ∃ r, (⟨inn, false⟩ : Rs).uint.2.byte.2 = r := ⟨_, rfl⟩
  have hrb : ∀ x ∈ r.xs, IsByte x := by
    rw [← hr, byte_two, uint_two]
    exact take_mem _ 1 (take_mem _ 8 hb)
  rw [hr]
  have hu := uint_lt r hrb
  unfold Rs.count
  split
  · simp
  · rename_i h; omega
def fgb (inn : List Int) : List Int := (inn.drop 17).take (fcnt inn).toNat
theorem fgb_length (inn : List Int) (hl : inn.length = 4032) (hb : ∀ x ∈ inn, IsByte x) : (fgb inn).length = (fcnt inn).toNat := by
  have := fcnt_range inn hb
  unfold fgb
  rw [List.length_take, List.length_drop]; omega
theorem isplice_mem {cur xs : List Int} {off : Nat} (h1 : ∀ x ∈ cur, IsByte x) (h2 : ∀ x ∈ xs, IsByte x) : ∀ x ∈ isplice cur off xs, IsByte x := by
  intro x hx
  unfold isplice at hx
  rcases List.mem_append.1 hx with h | h
  · exact h1 x (List.mem_of_mem_take h)
  · rcases List.mem_append.1 h with h | h
    · exact h2 x h
    · exact h1 x (List.mem_of_mem_drop h)
theorem zs_mem (n : Nat) : ∀ x ∈ zs n, IsByte x := by
  intro x hx
  unfold zs at hx
  rw [List.eq_of_mem_replicate hx]
  unfold IsByte; decide
theorem beN_mem (n : Nat) (v : Int) : ∀ x ∈ beN n v, IsByte x := by
  induction n with
  | zero => intro x hx; cases hx
  | succ n ih =>
    intro x hx
    rcases List.mem_cons.1 hx with rfl | hx
    · unfold IsByte; omega
    · exact ih x hx
theorem fhead_mem (at_ kind : Int) (b : List Int) (h : ∀ x ∈ b, IsByte x) : ∀ x ∈ fhead at_ kind b, IsByte x := by
  intro x hx
  unfold fhead at hx
  rcases List.mem_append.1 hx with hx | hx
  · rcases List.mem_append.1 hx with hx | hx
    · rcases List.mem_append.1 hx with hx | hx
      · exact beN_mem _ _ x hx
      · exact beN_mem _ _ x hx
    · exact beN_mem _ _ x hx
  · exact h x hx
theorem fin0_mem (at_ kind : Int) (b : List Int) (h : ∀ x ∈ b, IsByte x) : ∀ x ∈ fin0 at_ kind b, IsByte x := isplice_mem (zs_mem _) (fhead_mem at_ kind b h)
theorem fcheck_mem (stamp : Int) (d : List Int) : ∀ x ∈ fcheck stamp d, IsByte x := placeOf_bytes _
theorem fin_mem (at_ kind stamp : Int) (b : List Int) (h : ∀ x ∈ b, IsByte x) : ∀ x ∈ fin at_ kind stamp b, IsByte x := isplice_mem (fin0_mem at_ kind b h) (fcheck_mem _ _)
theorem fpage_mem (stamp : Int) (inn : List Int) (hi : ∀ x ∈ inn, IsByte x) : ∀ (ks : List Nat) (page : List Int), (∀ x ∈ page, IsByte x) → ∀ x ∈ ks.foldl (fround stamp inn) page, IsByte x := by
  intro ks
  induction ks with
  | nil => intro page h; exact h
  | cons k ks ih =>
    intro page h
    exact ih _ (isplice_mem (isplice_mem h (beN_mem 8 stamp)) (fun x hx => hi x (List.mem_of_mem_drop (List.mem_of_mem_take hx))))
theorem fframe_bytes (at_ kind stamp : Int) (b : List Int) (h : ∀ x ∈ b, IsByte x) : ∀ x ∈ fframe at_ kind stamp b, IsByte x := fpage_mem stamp _ (fin_mem at_ kind stamp b h) (List.range 8) (zs 4096) (zs_mem _)
/-- What Get answers. -/
def fgetv (page : List Int) (at_ kind : Int) : List Int × Int × Bool :=
  if page.length = 4096 ∧ (0 ≤ at_ ∧ at_ < 4096 ∧ (⟨page, false⟩ : Rs).uint.1 ≠ 0) ∧ fframe at_ kind (⟨page, false⟩ : Rs).uint.1 (fgb (fgin page (List.range 8))) = page
  then (fgb (fgin page (List.range 8)), (⟨page, false⟩ : Rs).uint.1, true) else ([], 0, false)
theorem fGet_short (A : Option Addr) (c n : Nat) (at_ kind : Int) (w : World) (hn : n ≠ 4096) :
    Calls Try.prog 13 #[.slice A n c, .int .i64 at_, .int .u8 kind] w fun e w' => e = .returned (.tuple #[.slice none 0 0, .int .u64 0, .bool false]) ∧ Below w.heap.size w w' := by
  have d1 : ((n : Int) != 4096) = true := bne_iff_ne.2 (by omega)
  go_enter Try.func13, Try.ntmps13
  go_wp2
  exact bodyPost_ret (v := .tuple #[.slice none 0 0, .int .u64 0, .bool false]) (by simp [results, Try.results13, go_sem]) rfl ⟨rfl, below_alloc (Below.refl _ _) _⟩
theorem R_grown {W W' : World} {row : Option Nat} {base : Nat} {ok : Nat → Prop} {v : Value} {xs : List Int} {L : Nat} (hr : Kd.R (Kd.int .u8) 5 W base ok v xs) (hg : W.grownBy W' row) (hrow : ∀ r, row = some r → L ≤ r ∧ ∃ o : Obj, W.heap[r]? = some o ∧ o.isCells = false) : Kd.R (Kd.int .u8) 5 W' base ok v xs := by
  refine Kd.R_mono (Kd.R_step (Kd.R_bound hr) (fun k hk hlt => ?_)) (fun k hk => hk.1)
  obtain ⟨h0, hb, _, q, hq, cells, hc⟩ := hk
  exact hg.block k hlt (fun e => by
    obtain ⟨_, o2, h2, h3⟩ := hrow k e.symm
    rw [hc] at h2
    injection h2 with h2
    subst h2
    cases h3)
/-- What holds while the inside is gathered. -/
structure GI (w W : World) (q : Nat) (A : Option Addr) (c : Nat) (A' : Option Addr) (n c' : Nat) (inn : List Int) : Prop where
  below : Below q w W
  pbox : W.heap[q]? = some (Obj.cells #[.slice A 4096 c] 23 (0, 0))
  ibox : W.heap[q + 1]? = some (Obj.cells #[.slice A' n c'] 23 (0, 0))
  row : Kd.R (Kd.int .u8) 5 W q (fun k => k ≠ q ∧ k ≠ q + 1) (.slice A' n c') inn
theorem GI.step {w W W' : World} {q : Nat} {A A' : Option Addr} {c n c' : Nat} {inn : List Int} (h : GI w W q A c A' n c' inn) (hb : Below W.heap.size W W') : GI w W' q A c A' n c' inn :=
  ⟨h.below.trans (below_weak_ hb (by have := (Array.getElem?_eq_some_iff.1 h.pbox).1; omega)), (hb.block q (Array.getElem?_eq_some_iff.1 h.pbox).1).trans h.pbox, (hb.block (q + 1) (Array.getElem?_eq_some_iff.1 h.ibox).1).trans h.ibox, Kd.R_below h.row hb⟩
theorem GI.own {w W W' : World} {q L : Nat} {A A' : Option Addr} {c n c' : Nat} {inn : List Int} {row : Option Nat} (h : GI w W q A c A' n c' inn) (hL : q ≤ L) (hg : W.grownBy W' row) (hr : ∀ r, row = some r → L ≤ r ∧ ∃ o : Obj, W.heap[r]? = some o ∧ o.isCells = false) : GI w W' q A c A' n c' inn :=
  ⟨h.below.grown hg (by have := (Array.getElem?_eq_some_iff.1 h.pbox).1; omega) (fun k e => by have := (hr k e).1; omega), blk_own h.pbox rfl hg hr, blk_own h.ibox rfl hg hr, R_grown h.row hg hr⟩
theorem GI.put {w W W1 : World} {q : Nat} {A A' A1 : Option Addr} {c n c' n1 c1 : Nat} {inn inn1 : List Int} (h : GI w W q A c A' n c' inn) (hg : W.grownBy W1 (Value.slice A' n c').ownBlock) (hb : Below q w W1) (hr : Kd.R (Kd.int .u8) 5 W1 q (fun k => k ≠ q ∧ k ≠ q + 1) (.slice A1 n1 c1) inn1) :
    GI w (W1.setCell ⟨q + 1, 0, none⟩ (.slice A1 n1 c1)) q A c A1 n1 c1 inn1 := by
  have h1 := h.row.1
  have hp : W1.heap[q]? = some (Obj.cells #[.slice A 4096 c] 23 (0, 0)) := (hg.block q (Array.getElem?_eq_some_iff.1 h.pbox).1 (fun e => (h1 q e.symm).1 rfl)).trans h.pbox
  have hi : W1.heap[q + 1]? = some (Obj.cells #[.slice A' n c'] 23 (0, 0)) := (hg.block (q + 1) (Array.getElem?_eq_some_iff.1 h.ibox).1 (fun e => (h1 (q + 1) e.symm).2 rfl)).trans h.ibox
  exact ⟨hb.setCell (by show q ≤ q + 1; omega) _, (Below.heap_setCell W1 ⟨q + 1, 0, none⟩ _ q (by show q ≠ q + 1; omega)).trans hp, (Blk.put ⟨hi⟩ 0 _ rfl).out, Kd.R_far hr (p := ⟨q + 1, 0, none⟩) (fun k hk => hk.2) _⟩
theorem GI.mid {w W W1 : World} {q : Nat} {A A' : Option Addr} {c n c' : Nat} {inn : List Int} (h : GI w W q A c A' n c' inn) (hg : W.grownBy W1 (Value.slice A' n c').ownBlock) : W1.heap[q]? = some (Obj.cells #[.slice A 4096 c] 23 (0, 0)) ∧ W1.heap[q + 1]? = some (Obj.cells #[.slice A' n c'] 23 (0, 0)) :=
  ⟨(hg.block q (Array.getElem?_eq_some_iff.1 h.pbox).1 (fun e => (h.row.1 q e.symm).1 rfl)).trans h.pbox, (hg.block (q + 1) (Array.getElem?_eq_some_iff.1 h.ibox).1 (fun e => (h.row.1 (q + 1) e.symm).2 rfl)).trans h.ibox⟩
theorem GI.others {w W W1 : World} {q : Nat} {A A' : Option Addr} {c n c' : Nat} {inn : List Int} (h : GI w W q A c A' n c' inn) (hg : W.grownBy W1 (Value.slice A' n c').ownBlock) : KeepsOthers W W1 :=
  KeepsOthers.of_grownBy hg (fun j o e ho => by
    rcases (Kd.own_of_R h.row).2 with ⟨e2, _⟩ | ⟨g, cap, cur, e2, _, hb, _⟩
    · rw [e2] at e; cases e
    · rw [e2] at e
      injection e with e
      subst e
      rw [hb] at ho
      injection ho with ho
      subst ho
      rfl)
def GD (w W : World) (q : Nat) (A : Option Addr) (c : Nat) (A' : Option Addr) (n c' : Nat) (inn : List Int) (D : Nat) : Prop := GI w W q A c A' n c' inn ∧ W.heap[D]? = some (Obj.deferred (some []))
theorem GD.step {w W W' : World} {q D : Nat} {A A' : Option Addr} {c n c' : Nat} {inn : List Int} (h : GD w W q A c A' n c' inn D) (hb : Below W.heap.size W W') : GD w W' q A c A' n c' inn D := ⟨h.1.step hb, (hb.block D (Array.getElem?_eq_some_iff.1 h.2).1).trans h.2⟩
set_option maxRecDepth 100000 in
set_option maxHeartbeats 3200000 in
theorem fGet_full (A : Option Addr) (c : Nat) (page : List Int) (hp : page.length = 4096) (hby : ∀ x ∈ page, IsByte x) (at_ kind : Int) (hk : 0 ≤ kind ∧ kind < 256) (w : World) (hC : Kd.C (Kd.int .u8) w A 4096 page) (hc : 4096 ≤ c) :
    Calls Try.prog 13 #[.slice A 4096 c, .int .i64 at_, .int .u8 kind] w fun e w' => ∃ v : Value, e = .returned (.tuple #[v, .int .u64 (fgetv page at_ kind).2.1, .bool (fgetv page at_ kind).2.2]) ∧ Kd.R (Kd.int .u8) 5 w' w.heap.size (fun _ => True) v (fgetv page at_ kind).1 ∧ Below w.heap.size w w' := by
  have HC := Aside0.mk hC
  have Hc := Aside0.mk hc
  have HP := Aside0.mk hp
  have HBy := Aside0.mk hby
  have HK := Aside0.mk hk
  clear hC hc hp hby hk
  refine (callsIn_wide (n := 5)).1 ?_
  refine callsIn_of_wp_marks Try.func13 rfl trivial ?_ rfl
  simp only [Try.ntmps13, List.size_toArray, List.length_cons, List.length_nil, Nat.reduceAdd, Nat.reduceSub, Array.replicate_succ, Array.replicate_zero, List.push_toArray, List.append_toArray, List.nil_append, List.cons_append]
  refine wpIn_wide.2 ?_
  go_wp2_with fail
  refine ((callsIn_wide (n := 5)).1 (sectors_in Fence.wide 5 trivial rfl _)).mono ?_
  rintro e w1 ⟨rfl, rfl⟩
  have G0 : Aside0 (GI w ((w.alloc (Obj.cells #[.slice A 4096 c] 23)).alloc (Obj.cells #[.slice none 0 0] 23)) w.heap.size A c none 0 0 []) := by
    refine ⟨⟨below_alloc (below_alloc (Below.refl _ _) _) _, ?_, ?_, Kd.R_nil _ _ _ _ _⟩⟩
    · exact heap_alloc_lt _ _ (by simp) (heap_new _ _)
    · exact heap_new' _ _ (by simp)
  obtain ⟨q, hq⟩ : ∃ q, w.heap.size = q := ⟨_, rfl⟩
  rw [hq] at G0 ⊢
  obtain ⟨wL, hwL⟩ : ∃ W, ((w.alloc (Obj.cells #[.slice A 4096 c] 23)).alloc (Obj.cells #[.slice none 0 0] 23)) = W := ⟨_, rfl⟩
  rw [hwL] at G0 ⊢
  clear hwL
  go_wp2_with fail
  refine (wpIn_wide (n := 5)).1 ?_
  have hqL : q ≤ wL.heap.size := by have := (Array.getElem?_eq_some_iff.1 G0.out.pbox).1; omega
  obtain ⟨L0, hL0⟩ : ∃ L, wL.heap.size = L := ⟨_, rfl⟩
  refine wpIn_rangeFunc_ownF rfl (by omega) (gf := 29) (lb := #[]) rfl trivial (enters_of Try.func29 (by kernel_rfl) rfl)
    (sectors_stopsT Fence.wide _ rfl (by omega) wL) (fun _ _ => trivial) (fun _ _ _ _ _ _ _ _ => trivial) (Below.refl _ _) (fun _ => rfl)
    (fun pre W => ∃ A' c', GI w W q A c A' (504 * pre.length) c' (fgin page (pre.map Subtype.val)))
    (fun _ _ _ => False)
    (fun pre W W' row ⟨A', c', hI⟩ hg hr => ⟨A', c', hI.own hqL hg hr⟩)
    (fun _ _ _ _ _ hs _ _ => hs)
    ⟨none, 0, G0.out⟩
    (fun x => { tmps := #[.slice A 4096 c, .int .i64 at_, .int .u8 kind, .pointer (some ⟨q, 0, none⟩), undef, undef, .slice none 0 0, .int .u64 0, .bool false, .pointer (some ⟨q + 1, 0, none⟩), undef, .int .i64 (((x.1 : Nat) : Int) * 512), undef, undef, undef, undef, undef, undef, .slice A 4096 c, .int .i64 4096, .bool false, .func (Fn.func 29) #[] #[], .int .i64 (((x.1 : Nat) : Int) * 504), .int .i64 (((x.1 : Nat) : Int) * 512), undef, undef, undef, undef, undef, undef, undef, undef, undef, undef, undef, undef, undef, undef, undef, undef, undef, undef, undef, undef, undef, undef, undef, undef, undef, undef, undef, undef, undef, undef, undef, undef, undef, undef, undef, undef, undef, undef, undef, undef, undef, undef], defers := [] }) ?assign ?body ?done ?stop
  case assign =>
    intro l x W K hK
    gi_wp2
    exact hK
  case body =>
    rintro l pre ⟨k, hk8⟩ W ⟨A', c', hI⟩ hlt
    have hIN : (fgin page (pre.map Subtype.val)).length = 504 * pre.length := by
      have := fgin_length page HP.out (pre.map Subtype.val) (fun j hj => by
        obtain ⟨x, _, rfl⟩ := List.mem_map.1 hj
        exact x.2)
      rwa [List.length_map] at this
    have HSN : Aside0 (fgin page ((pre ++ [(⟨k, hk8⟩ : N8)]).map Subtype.val) = fgin page (pre.map Subtype.val) ++ (page.drop (512 * k + 8)).take 504) := ⟨by rw [List.map_append, List.map_cons, List.map_nil, fgin_snoc]⟩
    have HNL : Aside0 ((fgin page ((pre ++ [(⟨k, hk8⟩ : N8)]).map Subtype.val)).length = 504 * (pre ++ [(⟨k, hk8⟩ : N8)]).length) := ⟨by
      rw [HSN.out, List.length_append, hIN, List.length_take, List.length_drop, HP.out, List.length_append]
      simp; omega⟩
    obtain ⟨inn, hinn⟩ : ∃ l, fgin page (pre.map Subtype.val) = l := ⟨_, rfl⟩
    rw [hinn] at hIN hI HSN
    have HIN := Aside0.mk hIN
    have Id := Aside0.mk (hI.step (below_drew (Below.refl _ _)))
    have HqW : Aside0 (q + 1 < W.drew.heap.size) := ⟨(Array.getElem?_eq_some_iff.1 Id.out.ibox).1⟩
    clear hI hinn hIN
    have ci := (cell_of_row W.drew (q + 1) 0 _ _ _ Id.out.ibox).trans (rfl : _ = some (Value.slice A' (504 * pre.length) c'))
    have cp := (cell_of_row W.drew q 0 _ _ _ Id.out.pbox).trans (rfl : _ = some (Value.slice A 4096 c))
    obtain ⟨A14, c14, s14, t14, l14⟩ := cut_mid (A := A) (c := c) (xs := page) (a := 512 * k + 8) (b := 512 * k + 512) (by omega) (by rw [HP.out]; omega) (by rw [HP.out]; exact Hc.out) ((k : Int) * 512 + 8) ((k : Int) * 512 + 512) (by omega) (by omega)
    have C14 := Aside0.mk (t14 W.drew (Kd.C_below (by rw [HP.out]; exact HC.out) (hq ▸ Id.out.below)))
    rw [HP.out] at s14
    rw [show 512 * k + 512 - (512 * k + 8) = 504 by omega] at s14 C14
    have ew1 : IntKind.i64.wrap ((k : Int) * 512 + 8) = (k : Int) * 512 + 8 := by rw [IntKind.wrap_i64]; omega
    have ew2 : IntKind.i64.wrap ((k : Int) * 512 + 512) = (k : Int) * 512 + 512 := by rw [IntKind.wrap_i64]; omega
    clear t14 l14
    dsimp only
    gi_wp2_with fail
    refine start_in (S := (fun w' => w'.cell? ⟨q + 1, 0, none⟩ = some (Value.slice A' (504 * pre.length) c') ∧ w'.cell? ⟨q, 0, none⟩ = some (Value.slice A 4096 c))) (ds := [8]) #[false, false, false, false, false, false, false, false, false] (by kernel_rfl) rfl rfl (by kernel_rfl) ⟨ci, cp⟩ (fun hHeld => ?_)
    refine take_ (i := 0) (N := some 24) (v := ?_) (a' := ?_) #[true, false, false, false, false, false, false, false, false] rfl rfl (by kernel_rfl) (fun _ _ _ h => h) (Or.inl ⟨by rfl, ?_⟩) hHeld ?_ ?_
    rotate_left
    · rintro w' ⟨s0, s1⟩
      go_simp
      with_reducible rfl
    rotate_left
    · simp only [Act.put, List.setIfInBounds_toArray, List.set_cons_zero, List.set_cons_succ]
      rfl
    refine take_ (i := 1) (N := some 25) (v := ?_) (a' := ?_) #[true, true, false, false, false, false, false, false, false] rfl rfl (by kernel_rfl) (fun _ _ _ h => h) (Or.inl ⟨by rfl, ?_⟩) hHeld ?_ ?_
    rotate_left
    · rintro w' ⟨s0, s1⟩
      go_simp
      with_reducible rfl
    rotate_left
    · simp only [Act.put, List.setIfInBounds_toArray, List.set_cons_zero, List.set_cons_succ]
      rfl
    refine pure_ (i := 2) (N := some 26) (v := ?_) (a' := ?_) #[true, true, true, false, false, false, false, false, false] rfl rfl (by kernel_rfl) (fun _ _ _ h => h) (Or.inl ⟨by rfl, ?_⟩) ?_ ?_
    rotate_left
    · intro w'
      go_simp
      with_reducible rfl
    rotate_left
    · simp only [Act.put, List.setIfInBounds_toArray, List.set_cons_zero, List.set_cons_succ]
      rfl
    refine pure_ (i := 3) (N := some 27) (v := ?_) (a' := ?_) #[true, true, true, true, false, false, false, false, false] rfl rfl (by kernel_rfl) (fun _ _ _ h => h) (Or.inl ⟨by rfl, ?_⟩) ?_ ?_
    rotate_left
    · intro w'
      go_simp
      with_reducible rfl
    rotate_left
    · simp only [Act.put, List.setIfInBounds_toArray, List.set_cons_zero, List.set_cons_succ]
      rfl
    refine pure_ (i := 4) (N := some 28) (v := ?_) (a' := ?_) #[true, true, true, true, true, false, false, false, false] rfl rfl (by kernel_rfl) (fun _ _ _ h => h) (Or.inl ⟨by rfl, ?_⟩) ?_ ?_
    rotate_left
    · intro w'
      go_simp
      with_reducible rfl
    rotate_left
    · simp only [Act.put, List.setIfInBounds_toArray, List.set_cons_zero, List.set_cons_succ]
      rfl
    refine pure_ (i := 5) (N := some 29) (v := ?_) (a' := ?_) #[true, true, true, true, true, true, false, false, false] rfl rfl (by kernel_rfl) (fun _ _ _ h => h) (Or.inl ⟨by rfl, ?_⟩) ?_ ?_
    rotate_left
    · intro w'
      go_simp
      with_reducible rfl
    rotate_left
    · simp only [Act.put, List.setIfInBounds_toArray, List.set_cons_zero, List.set_cons_succ]
      rfl
    refine pure_ (i := 6) (N := some 30) (v := ?_) (a' := ?_) #[true, true, true, true, true, true, true, false, false] rfl rfl (by kernel_rfl) (fun _ _ _ h => h) (Or.inl ⟨by rfl, ?_⟩) ?_ ?_
    rotate_left
    · intro w'
      go_simp
      with_reducible rfl
    rotate_left
    · simp only [Act.put, List.setIfInBounds_toArray, List.set_cons_zero, List.set_cons_succ]
      rfl
    refine one_ (i := 7) (N := some 31) #[true, true, true, true, true, true, true, true, false] rfl rfl (by kernel_rfl) (by decide) (fun K hK => ?_)
    refine Kd.R_append_rows_step (Kd.int .u8) (w0 := w) q (by rfl) (.tmp 24) (.tmp 30) 23 5 (.int .u8 0) 1 rfl Try.underlying23 infoU8 rfl (by decide) (by decide) (.slice A' (504 * pre.length) c') inn ((page.drop (512 * k + 8)).take 504) A14 504 c14 (fun k => k ≠ q ∧ k ≠ q + 1) (fun _ => False) rfl rfl Id.out.row C14.out (fun _ _ h => h) (fun _ h => h.elim) (fun j hj => ⟨by have := HqW.out; omega, by have := HqW.out; omega⟩) Id.out.below (by have := HqW.out; omega) (by rw [HIN.out]; omega) ?_
    intro v5 w5 ho hb5 hg5 hat
    obtain ⟨A5, c5, ev⟩ := Kd.R_slice ho
    subst ev
    rw [← HSN.out, HNL.out] at ho
    rw [← HSN.out, HNL.out]
    have M5 := Aside0.mk (Id.out.mid hg5)
    have P5 := Aside0.mk (Id.out.put hg5 hb5 ho)
    have O5 := Aside0.mk (Id.out.others hg5)
    clear ho hb5 hg5 hat
    refine hK.out _ _ ⟨(cell_of_row w5 (q + 1) 0 _ _ _ M5.out.2).trans rfl, (cell_of_row w5 q 0 _ _ _ M5.out.1).trans rfl⟩ (fun hHeld => ?_)
    clear hK K
    refine norm_ (a' := ?_) ?_ ?_
    rotate_left
    · show Act.put _ (some 31) _ = _
      simp only [Act.put, List.setIfInBounds_toArray, List.set_cons_zero, List.set_cons_succ]
      rfl
    have ci5 := (cell_of_row w5 (q + 1) 0 _ _ _ M5.out.2).trans (rfl : _ = some (Value.slice A' (504 * pre.length) c'))
    have gi5 := blk_frozen M5.out.2 0
    refine last_ (i := 8) (N := none) #[true, true, true, true, true, true, true, true, true] rfl rfl (by kernel_rfl) (by decide) (fun K hK => ?_)
    go_simp
    refine hK.out _ _ ?_
    clear hK K
    refine done_ (by kernel_rfl) ?_
    refine OnlyNormal.normal ?_
    gi_wp2
    refine ⟨?_, trivial, ?_⟩
    · exact ((ko_below (below_drew (Below.refl _ W))).trans O5.out).trans (KeepsOthers.setCell _ _ _)
    · have h := P5.out
      have e : (pre ++ [(⟨k, hk8⟩ : N8)]).length = pre.length + 1 := by simp
      rw [e] at h
      refine ⟨A5, c5, ?_⟩
      rw [e]
      exact h
  case done =>
    rintro D ys W hD hys ⟨A', c', hI⟩ hK
    have hyl : ys.length = 8 := by have := congrArg List.length hys; simpa using this
    rw [hys, hyl] at hI
    have hIN : (fgin page (List.range 8)).length = 4032 := by rw [fgin_length page HP.out (List.range 8) (fun j hj => List.mem_range.1 hj)]; rfl
    have hIB := fgin_mem page HBy.out (List.range 8)
    have hfb := fgb_length (fgin page (List.range 8)) hIN hIB
    have hfr := fcnt_range (fgin page (List.range 8)) hIB
    have hfg : fgetv page at_ kind = if page.length = 4096 ∧ (0 ≤ at_ ∧ at_ < 4096 ∧ (⟨page, false⟩ : Rs).uint.1 ≠ 0) ∧ fframe at_ kind (⟨page, false⟩ : Rs).uint.1 (fgb (fgin page (List.range 8))) = page
      then (fgb (fgin page (List.range 8)), (⟨page, false⟩ : Rs).uint.1, true) else ([], 0, false) := rfl
    have hcn : fcnt (fgin page (List.range 8)) = (((⟨fgin page (List.range 8), false⟩ : Rs).uint.2.byte.2).count 4011).1 := rfl
    have hgb : fgb (fgin page (List.range 8)) = ((fgin page (List.range 8)).drop 17).take (fcnt (fgin page (List.range 8))).toNat := rfl
    obtain ⟨inn, hinn⟩ : ∃ l, fgin page (List.range 8) = l := ⟨_, rfl⟩
    rw [hinn] at hI hIN hIB hfb hfr hfg hcn hgb
    clear hinn
    obtain ⟨bb, hbb⟩ : ∃ l, fgb inn = l := ⟨_, rfl⟩
    obtain ⟨nn, hnn⟩ : ∃ n : Nat, fcnt inn = (n : Int) := ⟨(fcnt inn).toNat, by omega⟩
    rw [hnn, Int.toNat_natCast] at hgb
    rw [hnn, Int.toNat_natCast] at hfb
    rw [hbb] at hfb hfg hgb
    rw [hnn] at hcn hfr
    have hst := uint_lt (⟨page, false⟩ : Rs) HBy.out
    obtain ⟨st, hst0⟩ : ∃ n, (⟨page, false⟩ : Rs).uint.1 = n := ⟨_, rfl⟩
    rw [hst0] at hfg hst
    have HFG := Aside0.mk hfg
    have HST0 := Aside0.mk hst0
    have HST := Aside0.mk hst
    have HCN := Aside0.mk hcn
    have HGB := Aside0.mk hgb
    have HFB := Aside0.mk hfb
    have HFR : Aside0 (nn ≤ 4011) := ⟨by omega⟩
    have HIN := Aside0.mk hIN
    have HIB := Aside0.mk hIB
    have HBB : Aside0 (∀ x ∈ bb, IsByte x) := ⟨fun x hx => hIB x (by rw [hgb] at hx; exact List.mem_of_mem_drop (List.mem_of_mem_take hx))⟩
    have K0 : Aside0 (GD w W q A c A' 4032 c' inn D) := ⟨hI, hK⟩
    have cp := (cell_of_row W q 0 _ _ _ hI.pbox).trans (rfl : _ = some (Value.slice A 4096 c))
    have CP0 : Aside0 (Kd.C (Kd.int .u8) W A page.length page) := ⟨by rw [HP.out]; exact Kd.C_below HC.out (hq ▸ hI.below)⟩
    clear hI hK hys hyl hIN hIB hfb hfr hfg hcn hgb hbb hnn hst hst0 G0
    go_wp2_with fail
    have kn := New_calls A c page W CP0.out HBy.out (by rw [HP.out]; decide)
    rw [HP.out] at kn
    refine kn.mono ?_
    rintro e w2 ⟨g1, rfl, hr2, hb2⟩
    have HR2 := Aside0.mk hr2
    have HB2 := Aside0.mk hb2
    have HG1 : Aside0 (W.heap.size ≤ g1) := ⟨by obtain ⟨_, _, _, _, _, _, h⟩ := hr2; exact h.1⟩
    clear hr2 hb2 kn cp CP0
    go_wp2_with fail
    refine (Uint_calls g1 _ ⟨page, false⟩ w2 HR2.out (by show page.length ≤ _; rw [HP.out]; decide)).mono ?_
    rintro e w3 ⟨rfl, hr3, hg3⟩
    rw [HST0.out]
    have HB3 : Aside0 (Below W.heap.size W w3) := ⟨HB2.out.grown hg3 HB2.out.size (fun k e => by injection e with e; have := HG1.out; omega)⟩
    have K3 := Aside0.mk (K0.out.step HB3.out)
    clear hr3 hg3 HR2 HB2 HG1 K0 HB3
    have ci := (cell_of_row w3 (q + 1) 0 _ _ _ K3.out.1.ibox).trans (rfl : _ = some (Value.slice A' 4032 c'))
    have CI3 : Aside0 (Kd.C (Kd.int .u8) w3 A' inn.length inn) := ⟨(Kd.R_reads' K3.out.1.row).2.2⟩
    go_wp2_with fail
    have kn := New_calls A' c' inn w3 CI3.out HIB.out (by rw [HIN.out]; decide)
    rw [HIN.out] at kn
    refine kn.mono ?_
    rintro e w4 ⟨g2, rfl, hr4, hb4⟩
    have HR4 := Aside0.mk hr4
    have HG2 : Aside0 (w3.heap.size ≤ g2) := ⟨by obtain ⟨_, _, _, _, _, _, h⟩ := hr4; exact h.1⟩
    have HB4 := Aside0.mk hb4
    clear hr4 hb4 kn ci CI3
    go_wp2_with fail
    refine (Uint_calls g2 _ ⟨inn, false⟩ w4 HR4.out (by show inn.length ≤ _; rw [HIN.out]; decide)).mono ?_
    rintro e w5 ⟨rfl, hr5, hg5⟩
    have HB5 : Aside0 (Below w3.heap.size w3 w5) := ⟨HB4.out.grown hg5 HB4.out.size (fun k e => by injection e with e; have := HG2.out; omega)⟩
    have HR5 := Aside0.mk hr5
    clear hr5 hg5 HR4 HB4
    obtain ⟨u1, hu1⟩ : ∃ u, (⟨inn, false⟩ : Rs).uint.1 = u := ⟨_, rfl⟩
    rw [hu1]
    clear hu1
    go_wp2_with fail
    refine (Byte_calls g2 _ (⟨inn, false⟩ : Rs).uint.2 w5 HR5.out (by rw [uint_two]; exact Nat.le_trans (take_two_len _ 8) (by show inn.length ≤ _; rw [HIN.out]; decide))).mono ?_
    rintro e w6 ⟨rfl, hr6, hg6⟩
    have HB6 : Aside0 (Below w3.heap.size w3 w6) := ⟨HB5.out.grown hg6 HB5.out.size (fun k e => by injection e with e; have := HG2.out; omega)⟩
    have HR6 := Aside0.mk hr6
    clear hr6 hg6 HR5 HB5
    obtain ⟨u2, hu2⟩ : ∃ u, (⟨inn, false⟩ : Rs).uint.2.byte.1 = u := ⟨_, rfl⟩
    rw [hu2]
    clear hu2
    go_wp2_with fail
    refine (Count_calls g2 _ (⟨inn, false⟩ : Rs).uint.2.byte.2 4011 w6 HR6.out (by rw [byte_two, uint_two]; exact Nat.le_trans (take_two_len _ 1) (Nat.le_trans (take_two_len _ 8) (by show inn.length ≤ _; rw [HIN.out]; decide))) (by decide) (by decide)).mono ?_
    rintro e w7 ⟨rfl, hr7, hg7⟩
    rw [← HCN.out]
    have HB7 : Aside0 (Below w3.heap.size w3 w7) := ⟨HB6.out.grown hg7 HB6.out.size (fun k e => by injection e with e; have := HG2.out; omega)⟩
    have K7 := Aside0.mk (K3.out.step HB7.out)
    clear hr7 hg7 HR6 HB6 HB7 K3 HG2
    have ci := (cell_of_row w7 (q + 1) 0 _ _ _ K7.out.1.ibox).trans (rfl : _ = some (Value.slice A' 4032 c'))
    have ew : IntKind.i64.wrap (17 + (nn : Int)) = 17 + (nn : Int) := by have := HFR.out; rw [IntKind.wrap_i64]; omega
    have hcap : 4032 ≤ c' := by have := (Kd.R_reads' K7.out.1.row).2.1; have := HIN.out; omega
    obtain ⟨A14, c14, s14, t14, l14⟩ := cut_mid (A := A') (c := c') (xs := inn) (a := 17) (b := 17 + nn) (by omega) (by rw [HIN.out]; have := HFR.out; omega) (by rw [HIN.out]; exact hcap) 17 (17 + (nn : Int)) (by omega) (by omega)
    have C14 := Aside0.mk (t14 w7 (Kd.R_reads' K7.out.1.row).2.2)
    rw [HIN.out] at s14
    rw [show 17 + nn - 17 = nn by omega] at s14 C14
    rw [← HGB.out] at C14
    clear t14 l14 hcap
    go_wp2_with fail
    refine (Clone_calls A14 c14 nn bb HFB.out w7 C14.out (by have := HFR.out; omega)).mono ?_
    rintro e w8 ⟨A8, c8, rfl, hr8, hb8⟩
    have K8 := Aside0.mk (K7.out.step hb8)
    have R8 := Aside0.mk (Kd.R_lower (base' := q) hr8 (by have := (Array.getElem?_eq_some_iff.1 K7.out.1.pbox).1; omega))
    clear hr8 hb8 K7 C14 s14 ci ew
    by_cases hok : 0 ≤ at_ ∧ at_ < 4096 ∧ st ≠ 0
    · have kp := fPut_yes at_ kind st A8 c8 bb w8 (Kd.R_reads' R8.out).2.2 (by rw [HFB.out]; exact (Kd.R_reads' R8.out).2.1) hok.1 hok.2.1 (by have := HST.out.1; omega) HST.out.2 HK.out (by rw [HFB.out]; exact HFR.out)
      rw [HFB.out] at kp
      have KP := Aside0.mk kp
      have HOK := Aside0.mk hok
      have HFBY : Aside0 (∀ x ∈ fframe at_ kind st bb, IsByte x) := ⟨fframe_bytes at_ kind st bb HBB.out⟩
      have HFLN : Aside0 ((fframe at_ kind st bb).length = 4096) := ⟨fframe_length at_ kind st bb (by rw [HFB.out]; exact HFR.out)⟩
      clear kp hok
      obtain ⟨fr, hfr⟩ : ∃ l, fframe at_ kind st bb = l := ⟨_, rfl⟩
      rw [hfr] at KP HFBY HFLN
      rw [hfr] at HFG
      clear hfr
      go_wp2_with fail
      refine KP.out.mono ?_
      rintro e w9 ⟨v9, rfl, hr9, hb9⟩
      obtain ⟨A9, c9, ev⟩ := Kd.R_slice hr9
      subst ev
      have K9 := Aside0.mk (K8.out.step hb9)
      have R9 := Aside0.mk (Kd.R_below R8.out hb9)
      have C9 := Aside0.mk (Kd.R_reads' hr9).2.2
      rw [HFLN.out] at C9 ⊢
      have CP9 : Aside0 (Kd.C (Kd.int .u8) w9 A 4096 page) := ⟨Kd.C_below HC.out (hq ▸ K9.out.1.below)⟩
      clear hr9 hb9 KP R8 K8
      have cp := (cell_of_row w9 q 0 _ _ _ K9.out.1.pbox).trans (rfl : _ = some (Value.slice A 4096 c))
      obtain ⟨same, hsame⟩ : ∃ r, decide (fr = page) = r := ⟨_, rfl⟩
      have ke := Aside0.mk (Equal_calls A9 A c9 c 4096 4096 fr page w9 C9.out CP9.out HFBY.out HBy.out same hsame)
      cases same with
      | true =>
        have HYES : Aside0 (fgetv page at_ kind = (bb, st, true)) := ⟨by rw [HFG.out, if_pos ⟨HP.out, HOK.out, of_decide_eq_true hsame⟩]⟩
        clear hsame
        go_wp2_with (go_at_call 25; refine ke.out.mono ?_; rintro e w10 ⟨rfl, rfl⟩)
        refine ⟨by simp, .inl ⟨_, _, rfl, run_takeDeferred K9.out.2, ?_⟩⟩
        have HO := K9.out.1.own (L := q) (Nat.le_refl _) (grownBy_putObj' w9 D (.deferred none)) (fun r e => by cases e; exact ⟨by omega, _, K9.out.2, rfl⟩)
        refine ⟨.tuple #[.slice A8 nn c8, .int .u64 st, .bool true], ?_, ⟨.slice A8 nn c8, ?_, ?_, ?_⟩⟩
        · simp [results, Try.results13, go_sem]
        · rw [HYES.out]
        · rw [HYES.out, hq]
          exact R_grown (L := q) R9.out (grownBy_putObj' w9 D (.deferred none)) (fun r e => by cases e; exact ⟨by omega, _, K9.out.2, rfl⟩)
        · rw [hq]
          exact HO.below
      | false =>
        have HNO : Aside0 (fgetv page at_ kind = ([], 0, false)) := ⟨by rw [HFG.out, if_neg (fun h => of_decide_eq_false hsame h.2.2)]⟩
        clear hsame
        go_wp2_with (go_at_call 25; refine ke.out.mono ?_; rintro e w10 ⟨rfl, rfl⟩)
        refine ⟨by simp, .inl ⟨_, _, rfl, run_takeDeferred K9.out.2, ?_⟩⟩
        have HO := K9.out.1.own (L := q) (Nat.le_refl _) (grownBy_putObj' w9 D (.deferred none)) (fun r e => by cases e; exact ⟨by omega, _, K9.out.2, rfl⟩)
        refine ⟨.tuple #[.slice none 0 0, .int .u64 0, .bool false], ?_, ⟨.slice none 0 0, ?_, ?_, ?_⟩⟩
        · simp [results, Try.results13, go_sem]
        · rw [HNO.out]
        · rw [HNO.out]; exact Kd.R_nil _ _ _ _ _
        · rw [hq]
          exact HO.below
    · have HNO : Aside0 (fgetv page at_ kind = ([], 0, false)) := ⟨by rw [HFG.out, if_neg (fun h => hok h.2.1)]⟩
      go_wp2_with fail
      refine (fPut_bad at_ kind st A8 nn c8 w8 (by omega)).mono ?_
      rintro e w9 ⟨rfl, hb9⟩
      have K9 := Aside0.mk (K8.out.step hb9)
      clear hb9
      go_wp2_with fail
      refine ⟨by simp, .inl ⟨_, _, rfl, run_takeDeferred K9.out.2, ?_⟩⟩
      have HO := K9.out.1.own (L := q) (Nat.le_refl _) (grownBy_putObj' w9 D (.deferred none)) (fun r e => by cases e; exact ⟨by omega, _, K9.out.2, rfl⟩)
      refine ⟨.tuple #[.slice none 0 0, .int .u64 0, .bool false], ?_, ⟨.slice none 0 0, ?_, ?_, ?_⟩⟩
      · simp [results, Try.results13, go_sem]
      · rw [HNO.out]
      · rw [HNO.out]; exact Kd.R_nil _ _ _ _ _
      · rw [hq]
        exact HO.below
  case stop =>
    rintro D c' pre W hD hpre hF hK
    exact hF.elim
end Go.Proofs.Ytddajglkefpjdaa.Ext
