import Derived.Test.YtanjkhdagegapaaMSameA
import Derived.Test.YtanjkhdagegapaaMSameB
import Derived.Test.YtanjkhdagegapaaMSameC
import Derived.Test.YtanjkhdagegapaaMTakeW
import Derived.Test.YtanjkhdagegapaaMRep
section
/- msg.same. -/
namespace Go.Proofs.Ytanjkhdagegapaa.Ext
open Go.RowKit Go.MapKept Go.Shelf Go.Proofs.YtanjkhdagegapaaW.PrintWords Go.Proofs.YtanjkhdagegapaaW.PrintLast Go.Proofs.YtanjkhdagegapaaW.PrintMore Go.Proofs.YtanjkhdagegapaaW.Hand Go.Proofs.Ytanjkhdagegapaa.PZ
set_option linter.unusedVariables false
set_option linter.unusedSimpArgs false
theorem same_calls (x y : RQ) (A A' : Option Addr) (c c' : Nat) (w : World) (hC : Kd.C k39 w A x.f8.f6.length x.f8.f6) (hc : x.f8.f6.length ≤ c) (hC' : Kd.C k39 w A' y.f8.f6.length y.f8.f6) (hc' : y.f8.f6.length ≤ c') :
    Calls Try.prog 25 #[.agg (rqC x A x.f8.f6.length c), .agg (rqC y A' y.f8.f6.length c')] w fun e w' => e = .returned (.bool (sameB x y)) ∧ Below w.heap.size w w' := by
  cases hpx : plainB x with
  | false => exact same_A x y A A' c c' w hpx hC hc hC' hc'
  | true =>
    cases hpy : plainB y with
    | false => exact same_B x y A A' c c' w hpx hpy hC hc hC' hc'
    | true => exact same_C x y A A' c c' w hpx hpy hC hc hC' hc'
end Go.Proofs.Ytanjkhdagegapaa.Ext
end

section
/- msg.PutRequest, msg.GetRequest. -/
namespace Go.Proofs.Ytanjkhdagegapaa.Ext
open Go.RowKit Go.MapKept Go.Shelf Go.Proofs.YtanjkhdagegapaaW.PrintWords Go.Proofs.YtanjkhdagegapaaW.PrintLast Go.Proofs.YtanjkhdagegapaaW.PrintMore Go.Proofs.YtanjkhdagegapaaW.Hand Go.Proofs.Ytanjkhdagegapaa.PZ
set_option linter.unusedVariables false
set_option linter.unusedSimpArgs false
theorem signs_ok (k : Int) : (∀ c ∈ sg (signsOf k), IsSign c) ∧ (signsOf k).size ≤ 10 := by
  by_cases h1 : 1 ≤ k ∧ k ≤ 16
  · have : k = 1 ∨ k = 2 ∨ k = 3 ∨ k = 4 ∨ k = 5 ∨ k = 6 ∨ k = 7 ∨ k = 8 ∨ k = 9 ∨ k = 10 ∨ k = 11 ∨ k = 12 ∨ k = 13 ∨ k = 14 ∨ k = 15 ∨ k = 16 := by omega
    rcases this with rfl | rfl | rfl | rfl | rfl | rfl | rfl | rfl | rfl | rfl | rfl | rfl | rfl | rfl | rfl | rfl <;> exact ⟨by unfold IsSign; decide, by decide⟩
  · rw [(kinds_none k (by unfold isKind; simp; omega)).2]
    exact ⟨by unfold IsSign; decide, by decide⟩
/-- What msg.take of a kind answers is a request that may be. -/
def tkGood (l : List Int) (s : ByteArray) : Bool := ((tkAns l s).2.1.done == 0) && (tkAns l s).2.2
/-- The bytes that msg.put makes. -/
def putB (x : RQ) : List Int := beN 1 x.f0 ++ encAll x (sg (signsOf x.f0))
/-- What PutRequest answers. -/
def mput (x : RQ) : List Int × Int := if isKind x.f0 = true then (if (tkGood (putB x) (signsOf x.f0) && sameB (tkAns (putB x) (signsOf x.f0)).1 x) = true then (putB x, 0) else ([], 1)) else ([], 1)
theorem encF_bytes (x : RQ) (c : Nat) : ∀ v ∈ encF x c, IsByte v := by
  have h : ∀ (n : Nat) (a : Int), ∀ v ∈ beN n a, IsByte v := beN_bytes
  have hp : ∀ v ∈ (rqPut x).1, IsByte v := by
    unfold rqPut pput
    split
    · exact bytes8_bytes _
    · simp
  unfold encF
  repeat' split
  all_goals intro v hv
  all_goals first
    | exact h _ _ v hv
    | (rcases List.mem_append.1 hv with hv | hv; exact h _ _ v hv; first | exact bytesOf_bytes _ v hv | exact hp v hv)
theorem putB_bytes (x : RQ) : ∀ v ∈ putB x, IsByte v := by
  intro v hv
  unfold putB at hv
  rcases List.mem_append.1 hv with hv | hv
  · exact beN_bytes _ _ v hv
  · unfold encAll at hv
    rw [List.mem_flatten] at hv
    obtain ⟨l, hl, hv⟩ := hv
    rw [List.mem_map] at hl
    obtain ⟨c, _, rfl⟩ := hl
    exact encF_bytes x c v hv
theorem putB_len {x : RQ} (h : RqOk x) : (putB x).length ≤ 100000000 := by
  have := encAll_len h (sg (signsOf x.f0))
  have h2 := (signs_ok x.f0).2
  rw [sg_len] at this
  unfold putB
  rw [List.length_append, beN_length]
  omega
set_option maxRecDepth 100000 in
set_option maxHeartbeats 6400000 in
theorem PutRequest_go (x : RQ) (A : Option Addr) (c : Nat) (w : World) (hC : Kd.C k39 w A x.f8.f6.length x.f8.f6) (hc : x.f8.f6.length ≤ c) (hx : RqOk x) :
    Calls Try.prog 10 #[.agg (rqC x A x.f8.f6.length c)] w fun e w' => ∃ v : Value, e = .returned (.tuple #[v, .int .i64 (mput x).2]) ∧ Kd.R (Kd.int .u8) 5 w' w.heap.size (fun _ => True) v (mput x).1 ∧ Below w.heap.size w w' := by
  have HC := Aside0.mk hC
  have HX := Aside0.mk hx
  have HL := Aside0.mk (below_alloc (Below.refl _ w) (.cells (rqC x A x.f8.f6.length c) 27))
  have HS := Aside0.mk (signs_ok x.f0)
  have HPL := Aside0.mk (putB_len hx)
  have HPB := Aside0.mk (putB_bytes x)
  have HQ := Aside0.mk (Blk.new_ (W := w) (o := .cells (rqC x A x.f8.f6.length c) 27)).out
  have q0 : (w.alloc (.cells (rqC x A x.f8.f6.length c) 27)).drew.cell? ⟨w.heap.size, 0, none⟩ = some (.int .u8 x.f0) := (rq_cells HQ.out).1
  have q1 : ((w.alloc (.cells (rqC x A x.f8.f6.length c) 27)).alloc (.map (kE 16) 16)).drew.cell? ⟨w.heap.size, 0, none⟩ = some (.int .u8 x.f0) := (rq_cells (Blk.alloc (⟨HQ.out⟩ : Blk _ _ _) (o' := .map (kE 16) 16)).out).1
  have hlk := kinds_look (((w.alloc (.cells (rqC x A x.f8.f6.length c) 27)).alloc (.map (kE 16) 16)).drew) (w.heap.size + 1) x.f0 true (by show ((w.alloc _).alloc _).heap[_]? = _; exact heap_new' _ _ (by simp))
  rw [if_pos rfl] at hlk
  clear hC hx
  go_enter Try.func10, Try.ntmps10
  go_wp2_with fail
  refine wp_region_noPanic ?_
  refine wp_region_held_drew (S := fun w' : World => w'.cell? ⟨w.heap.size, 0, none⟩ = some (.int .u8 x.f0)) (by kernel_rfl) ?_ (fun hHeld => ?_)
  · exact q0
  refine wpAnyH_take (i := 1) (oi := { dst := some 11, op := Go.Op.fieldAddr 27 (Go.Operand.tmp 1) 0, type := 0, pos := "msg.go:124", after := #[], guard := none }) (v := ?vpr1) rfl (by kernel_rfl) (by kernel_rfl) (by kernel_rfl) (fun _ _ _ h => h) (Or.inl ⟨by rfl, ?hypr1⟩) hHeld ?restpr1
  case hypr1 => (intro w hSw; (try dsimp only at hSw); go_simp <;> with_reducible rfl)
  try simp only [Act.put, List.setIfInBounds_toArray, List.set_cons_zero, List.set_cons_succ]
  refine wpAnyH_take (i := 2) (oi := { dst := some 12, op := Go.Op.load 5 (Go.Operand.tmp 11), type := 5, pos := "msg.go:124", after := #[{ on := 1, ground := Go.Ground.data }], guard := none }) (v := ?vpr2) rfl (by kernel_rfl) (by kernel_rfl) (by kernel_rfl) (fun _ _ _ h => h) (Or.inl ⟨by rfl, ?hypr2⟩) hHeld ?restpr2
  case hypr2 => (intro w hSw; (try dsimp only at hSw); go_simp <;> with_reducible rfl)
  try simp only [Act.put, List.setIfInBounds_toArray, List.set_cons_zero, List.set_cons_succ]
  refine wpAnyH_ready (rs := [0]) (by kernel_rfl) (by simp) ?_
  refine AllReadyH.cons (o := { dst := some 10, op := Go.Op.call { callee := Go.Callee.value (Go.Operand.func 22), args := #[], argTypes := #[] }, type := 54, pos := "msg.go:124", after := #[], guard := none }) rfl (fun K hK => ?_) AllReadyH.nil
  go_simp
  go_wp2_with (first | (go_at_call 22; (with_reducible refine (kinds_calls _).mono ?_); rintro e w9 ⟨rfl, rfl⟩))
  refine hK.out _ _ (q1) (fun hHeld' => ?_)
  clear hK K hHeld
  have hHeld := hHeld'
  clear hHeld'
  try simp only [Act.put, List.setIfInBounds_toArray, List.set_cons_zero, List.set_cons_succ]
  refine wpAnyH_ready (rs := [3]) (by kernel_rfl) (by simp) ?_
  refine AllReadyH.cons (o := { dst := some 13, op := Go.Op.lookup 54 (Go.Operand.tmp 10) (Go.Operand.tmp 12) true, type := 53, pos := "msg.go:124", after := #[{ on := 0, ground := Go.Ground.data }, { on := 2, ground := Go.Ground.data }], guard := none }) rfl (fun K hK => ?_) AllReadyH.nil
  go_simp
  refine hK.out _ _ (q1) (fun hHeld' => ?_)
  clear hK K hHeld
  have hHeld := hHeld'
  clear hHeld'
  try simp only [Act.put, List.setIfInBounds_toArray, List.set_cons_zero, List.set_cons_succ]
  refine wpAnyH_take (i := 4) (oi := { dst := some 9, op := Go.Op.move (Go.Operand.tmp 13), type := 53, pos := "msg.go:124", after := #[{ on := 3, ground := Go.Ground.data }], guard := none }) (v := ?vpr4) rfl (by kernel_rfl) (by kernel_rfl) (by kernel_rfl) (fun _ _ _ h => h) (Or.inl ⟨by rfl, ?hypr4⟩) hHeld ?restpr4
  case hypr4 => (intro w hSw; (try dsimp only at hSw); go_simp <;> with_reducible rfl)
  try simp only [Act.put, List.setIfInBounds_toArray, List.set_cons_zero, List.set_cons_succ]
  refine wpAnyH_take (i := 5) (oi := { dst := some 14, op := Go.Op.extract (Go.Operand.tmp 9) 0, type := 9, pos := "msg.go:124", after := #[{ on := 4, ground := Go.Ground.data }], guard := none }) (v := ?vpr5) rfl (by kernel_rfl) (by kernel_rfl) (by kernel_rfl) (fun _ _ _ h => h) (Or.inl ⟨by rfl, ?hypr5⟩) hHeld ?restpr5
  case hypr5 => (intro w hSw; (try dsimp only at hSw); go_simp <;> with_reducible rfl)
  try simp only [Act.put, List.setIfInBounds_toArray, List.set_cons_zero, List.set_cons_succ]
  refine wpAnyH_take (i := 6) (oi := { dst := some 15, op := Go.Op.extract (Go.Operand.tmp 9) 1, type := 4, pos := "msg.go:124", after := #[{ on := 4, ground := Go.Ground.data }, { on := 7, ground := Go.Ground.gcOnly Go.Departure.lateStores }], guard := none }) (v := ?vpr6) rfl (by kernel_rfl) (by kernel_rfl) (by kernel_rfl) (fun _ _ _ h => h) (Or.inl ⟨by rfl, ?hypr6⟩) hHeld ?restpr6
  case hypr6 => (intro w hSw; (try dsimp only at hSw); go_simp <;> with_reducible rfl)
  try simp only [Act.put, List.setIfInBounds_toArray, List.set_cons_zero, List.set_cons_succ]
  refine wpAnyH_take (i := 7) (oi := { dst := some 4, op := Go.Op.assign (Go.Operand.tmp 14), type := 9, pos := "msg.go:124", after := #[{ on := 5, ground := Go.Ground.data }, { on := 0, ground := Go.Ground.chain }, { on := 0, ground := Go.Ground.phase }, { on := 1, ground := Go.Ground.phase }, { on := 2, ground := Go.Ground.phase }, { on := 3, ground := Go.Ground.phase }, { on := 4, ground := Go.Ground.phase }, { on := 5, ground := Go.Ground.phase }, { on := 6, ground := Go.Ground.textOnly Go.Departure.lateStores }], guard := none }) (v := ?vpr7) rfl (by kernel_rfl) (by kernel_rfl) (by kernel_rfl) (fun _ _ _ h => h) (Or.inl ⟨by rfl, ?hypr7⟩) hHeld ?restpr7
  case hypr7 => (intro w hSw; (try dsimp only at hSw); go_simp <;> with_reducible rfl)
  try simp only [Act.put, List.setIfInBounds_toArray, List.set_cons_zero, List.set_cons_succ]
  refine wpAnyH_take (i := 8) (oi := { dst := some 5, op := Go.Op.assign (Go.Operand.tmp 15), type := 4, pos := "msg.go:124", after := #[{ on := 6, ground := Go.Ground.data }, { on := 7, ground := Go.Ground.chain }, { on := 0, ground := Go.Ground.phase }, { on := 1, ground := Go.Ground.phase }, { on := 2, ground := Go.Ground.phase }, { on := 3, ground := Go.Ground.phase }, { on := 4, ground := Go.Ground.phase }, { on := 5, ground := Go.Ground.phase }, { on := 6, ground := Go.Ground.phase }, { on := 7, ground := Go.Ground.phase }], guard := none }) (v := ?vpr8) rfl (by kernel_rfl) (by kernel_rfl) (by kernel_rfl) (fun _ _ _ h => h) (Or.inl ⟨by rfl, ?hypr8⟩) hHeld ?restpr8
  case hypr8 => (intro w hSw; (try dsimp only at hSw); go_simp <;> with_reducible rfl)
  try simp only [Act.put, List.setIfInBounds_toArray, List.set_cons_zero, List.set_cons_succ]
  refine wpAnyH_done (by kernel_rfl) ?_ _
  refine NoPanic.normal ?_
  have HB1 : Aside0 (Below w.heap.size w ((w.alloc (.cells (rqC x A x.f8.f6.length c) 27)).alloc (.map (kE 16) 16)).drew) := ⟨below_drew (below_alloc HL.out _)⟩
  have HQ1 : Aside0 ((((w.alloc (.cells (rqC x A x.f8.f6.length c) 27)).alloc (.map (kE 16) 16)).drew).heap[w.heap.size]? = some (.cells (rqC x A x.f8.f6.length c) 27 (0, 0))) := ⟨(Blk.alloc (⟨HQ.out⟩ : Blk _ _ _) (o' := .map (kE 16) 16)).out⟩
  clear hHeld hlk q0 q1
  generalize ((w.alloc (.cells (rqC x A x.f8.f6.length c) 27)).alloc (.map (kE 16) 16)).drew = W1 at HB1 HQ1 ⊢
  obtain ⟨x0, x1, x2, x3, x4, x5, x6, x7, x8, x9, x10, x11, x12, x13, x14⟩ := rq_cells HQ1.out
  cases hk : isKind x.f0 with
  | false =>
    have HM := Aside0.mk (show mput x = ([], 1) by unfold mput; rw [hk]; rfl)
    go_wp2_with fail
    exact bodyPost_ret (v := .tuple #[.slice none 0 0, .int .i64 1]) (by simp [results, Try.results10, go_sem]) rfl (by rw [HM.out]; exact ⟨_, rfl, Kd.R_nil _ _ _ _ _, HB1.out⟩)
  | true =>
    have HK := Aside0.mk hk
    go_wp2_with fail
    (with_reducible refine (put_calls x A c (signsOf x.f0) _ (Kd.C_below HC.out HB1.out) hc HS.out.1 HS.out.2 HX.out).mono ?_)
    rintro e w3 ⟨v3, rfl, hr3, hb3⟩
    rw [show beN 1 x.f0 ++ encAll x (sg (signsOf x.f0)) = putB x from rfl] at hr3
    obtain ⟨A3, c3, rfl⟩ := Kd.R_slice hr3
    have HR3 := Aside0.mk (Kd.R_lower (base' := w.heap.size) hr3 HB1.out.size)
    have HB3 := Aside0.mk (below_step HB1.out hb3)
    have hsz := HB1.out.size
    have HQ3 := Aside0.mk ((hb3.block _ (Array.getElem?_eq_some_iff.1 HQ1.out).1).trans HQ1.out)
    have KT := Aside0.mk (take_calls A3 c3 (putB x) (signsOf x.f0) w3 (Kd.R_reads' hr3).2.2 HPB.out (Nat.le_trans HPL.out (by decide)) HS.out.1 HS.out.2)
    unfold TakePost at KT
    have HM0 := Aside0.mk (show mput x = if (tkGood (putB x) (signsOf x.f0) && sameB (tkAns (putB x) (signsOf x.f0)).1 x) = true then (putB x, 0) else ([], 1) by unfold mput; rw [HK.out, if_pos rfl])
    rw [show (((tkAns (putB x) (signsOf x.f0)).2.1.done == 0) && (tkAns (putB x) (signsOf x.f0)).2.2) = tkGood (putB x) (signsOf x.f0) from rfl] at KT
    obtain ⟨y, hy⟩ : ∃ y, (tkAns (putB x) (signsOf x.f0)).1 = y := ⟨_, rfl⟩
    obtain ⟨gd, hgd⟩ : ∃ g, tkGood (putB x) (signsOf x.f0) = g := ⟨_, rfl⟩
    rw [hy, hgd] at KT HM0
    obtain ⟨P, hP⟩ : ∃ P, putB x = P := ⟨_, rfl⟩
    rw [hP] at HR3 KT HM0 ⊢
    clear hr3 hb3 hy hgd hP x0 x1 x2 x3 x4 x5 x6 x7 x8 x9 x10 x11 x12 x13 x14
    go_wp2_with fail
    (with_reducible refine KT.out.mono ?_)
    rintro e w4 ⟨A4, cp4, rfl, hR4, hb4⟩
    have HR4 := Aside0.mk (Kd.R_reads' hR4).2
    have HB4 := Aside0.mk (below_step HB3.out hb4)
    have HQ4 := Aside0.mk ((hb4.block _ (Array.getElem?_eq_some_iff.1 HQ3.out).1).trans HQ3.out)
    have HRP := Aside0.mk (Kd.R_below HR3.out hb4)
    clear hR4 hb4 KT
    cases gd with
    | false =>
      have HM := Aside0.mk (show mput x = ([], 1) by rw [HM0.out]; rfl)
      go_wp2_with fail
      exact bodyPost_ret (v := .tuple #[.slice none 0 0, .int .i64 1]) (by simp [results, Try.results10, go_sem]) rfl (by rw [HM.out]; exact ⟨_, rfl, Kd.R_nil _ _ _ _ _, below_alloc HB4.out _⟩)
    | true =>
      have HQ5 := Aside0.mk (heap_alloc_lt w4 (.cells (rqC y A4 y.f8.f6.length cp4) 27) (Array.getElem?_eq_some_iff.1 HQ4.out).1 HQ4.out)
      have HX5 := Aside0.mk (heap_new w4 (.cells (rqC y A4 y.f8.f6.length cp4) 27))
      have HB5 := Aside0.mk (below_alloc HB4.out (.cells (rqC y A4 y.f8.f6.length cp4) 27))
      have KS := Aside0.mk (same_calls y x A4 A cp4 c (w4.alloc (.cells (rqC y A4 y.f8.f6.length cp4) 27)) (Kd.C_alloc HR4.out.2 _) HR4.out.1 (Kd.C_below HC.out HB5.out) hc)
      obtain ⟨x0, x1, x2, x3, x4, x5, x6, x7, x8, x9, x10, x11, x12, x13, x14⟩ := rq_cells HQ5.out
      obtain ⟨y0, y1, y2, y3, y4, y5, y6, y7, y8, y9, y10, y11, y12, y13, y14⟩ := rq_cells HX5.out
      go_wp2_with fail
      (with_reducible refine KS.out.mono ?_)
      rintro e w6 ⟨rfl, hb6⟩
      have HB6 := Aside0.mk (below_step HB5.out hb6)
      have HRP6 := Aside0.mk (Kd.R_below (Kd.R_alloc HRP.out (.cells (rqC y A4 y.f8.f6.length cp4) 27)) hb6)
      clear hb6 KS
      cases hsm : sameB y x with
      | false =>
        have HM := Aside0.mk (show mput x = ([], 1) by rw [HM0.out, hsm]; rfl)
        go_wp2_with fail
        exact bodyPost_ret (v := .tuple #[.slice none 0 0, .int .i64 1]) (by simp [results, Try.results10, go_sem]) rfl (by rw [HM.out]; exact ⟨_, rfl, Kd.R_nil _ _ _ _ _, HB6.out⟩)
      | true =>
        have HM := Aside0.mk (show mput x = (P, 0) by rw [HM0.out, hsm]; rfl)
        go_wp2_with fail
        exact bodyPost_ret (v := .tuple #[.slice A3 P.length c3, .int .i64 0]) (by simp [results, Try.results10, go_sem]) rfl (by rw [HM.out]; exact ⟨_, rfl, HRP6.out, HB6.out⟩)
def rqNil : RQ := rq0 0
/-- What GetRequest answers. -/
def mget (l : List Int) : RQ × Int := if l.length = 0 then (rqNil, 21) else if (isKind (rd l 0) && tkGood l (signsOf (rd l 0))) = true then ((tkAns l (signsOf (rd l 0))).1, 0) else (rqNil, 21)
def GetPost (w : World) (y : RQ) (er : Int) (e : Ending) (w' : World) : Prop :=
  ∃ (A : Option Addr) (cp : Nat), e = .returned (.tuple #[.agg (rqC y A y.f8.f6.length cp), .int .i64 er]) ∧ Kd.R k39 39 w' w.heap.size (fun _ => True) (.slice A y.f8.f6.length cp) y.f8.f6 ∧ Below w.heap.size w w'
set_option maxRecDepth 100000 in
set_option maxHeartbeats 6400000 in
theorem GetRequest_go (A : Option Addr) (c : Nat) (l : List Int) (w : World) (hr : Kd.C (Kd.int .u8) w A l.length l) (hc : l.length ≤ c) (hb : ∀ v ∈ l, IsByte v) (hm : l.length ≤ 140737488353000) :
    Calls Try.prog 12 #[.slice A l.length c] w fun e w' => GetPost w (mget l).1 (mget l).2 e w' := by
  have HR := Aside0.mk hr
  have HBY := Aside0.mk hb
  have HQ := Aside0.mk (Blk.new_ (W := w) (o := .cells rqZ 27)).out
  have HL := Aside0.mk (below_alloc (Below.refl _ w) (.cells rqZ 27))
  by_cases h0 : l.length = 0
  · have HM := Aside0.mk (show mget l = (rqNil, 21) by unfold mget; rw [if_pos h0])
    have hl0 : ((l.length : Int) == 0) = true := by rw [h0]; rfl
    clear hr hb
    go_enter Try.func12, Try.ntmps12
    go_wp2_with fail
    exact bodyPost_ret (v := .tuple #[.agg rqZ, .int .i64 21]) (by simp [results, Try.results12, go_sem]) rfl (by rw [HM.out]; exact ⟨none, 0, rfl, Kd.R_nil _ _ _ _ _, HL.out⟩)
  · obtain ⟨kd, hkd⟩ : ∃ k, rd l 0 = k := ⟨_, rfl⟩
    have HM0 := Aside0.mk (show mget l = if (isKind kd && tkGood l (signsOf kd)) = true then ((tkAns l (signsOf kd)).1, 0) else (rqNil, 21) by unfold mget; rw [if_neg h0, hkd])
    have hl0 : ((l.length : Int) == 0) = false := by simpa using h0
    have hpos : (0 : Int) < (l.length : Int) := by omega
    have hpos2 : 0 < l.length := by omega
    obtain ⟨ad, e1, hx⟩ := Kd.at_int hr 0 (by omega) (by omega)
    cases e1
    simp only [Int.toNat_zero] at hx
    rw [addr_zero, hkd] at hx
    have hx1 : (w.alloc (.cells rqZ 27)).cell? ad = some (.int .u8 kd) := (HL.out.cell (World.block_lt_of_cell? w ad hx)).trans hx
    have q0 : (w.alloc (.cells rqZ 27)).drew.cell? ad = some (.int .u8 kd) := hx1
    have q1 : ((w.alloc (.cells rqZ 27)).alloc (.map (kE 16) 16)).drew.cell? ad = some (.int .u8 kd) := ((below_alloc (Below.refl _ _) (.map (kE 16) 16)).cell (World.block_lt_of_cell? _ ad hx1)).trans hx1
    have hlk := kinds_look (((w.alloc (.cells rqZ 27)).alloc (.map (kE 16) 16)).drew) (w.heap.size + 1) kd true (by show ((w.alloc _).alloc _).heap[_]? = _; exact heap_new' _ _ (by simp))
    rw [if_pos rfl] at hlk
    have HS := Aside0.mk (signs_ok kd)
    clear hr hb hkd hx hx1
    go_enter Try.func12, Try.ntmps12
    go_wp2_with fail
    refine wp_region_noPanic ?_
    refine wp_region_held_drew (S := fun w' : World => w'.cell? ad = some (.int .u8 kd)) (by kernel_rfl) ?_ (fun hHeld => ?_)
    · exact q0
    refine wpAnyH_take (i := 1) (oi := { dst := some 14, op := Go.Op.move (Go.Operand.tmp 0), type := 29, pos := "msg.go:140", after := #[], guard := none }) (v := ?vgr1) rfl (by kernel_rfl) (by kernel_rfl) (by kernel_rfl) (fun _ _ _ h => h) (Or.inl ⟨by rfl, ?hygr1⟩) hHeld ?restgr1
    case hygr1 => (intro w hSw; (try dsimp only at hSw); go_simp <;> with_reducible rfl)
    try simp only [Act.put, List.setIfInBounds_toArray, List.set_cons_zero, List.set_cons_succ]
    refine wpAnyH_take (i := 2) (oi := { dst := some 15, op := Go.Op.indexAddr 29 (Go.Operand.tmp 14) (Go.Operand.const (Go.Value.int Go.IntKind.i64 0)), type := 0, pos := "msg.go:140", after := #[{ on := 1, ground := Go.Ground.data }], guard := none }) (v := ?vgr2) rfl (by kernel_rfl) (by kernel_rfl) (by kernel_rfl) (fun _ _ _ h => h) (Or.inl ⟨by rfl, ?hygr2⟩) hHeld ?restgr2
    case hygr2 => (intro w hSw; (try dsimp only at hSw); go_simp <;> with_reducible rfl)
    try simp only [Act.put, List.setIfInBounds_toArray, List.set_cons_zero, List.set_cons_succ]
    refine wpAnyH_take (i := 3) (oi := { dst := some 16, op := Go.Op.load 5 (Go.Operand.tmp 15), type := 5, pos := "msg.go:140", after := #[{ on := 2, ground := Go.Ground.data }], guard := none }) (v := ?vgr3) rfl (by kernel_rfl) (by kernel_rfl) (by kernel_rfl) (fun _ _ _ h => h) (Or.inl ⟨by rfl, ?hygr3⟩) hHeld ?restgr3
    case hygr3 => (intro w hSw; (try dsimp only at hSw); go_simp <;> with_reducible rfl)
    try simp only [Act.put, List.setIfInBounds_toArray, List.set_cons_zero, List.set_cons_succ]
    refine wpAnyH_ready (rs := [0]) (by kernel_rfl) (by simp) ?_
    refine AllReadyH.cons (o := { dst := some 13, op := Go.Op.call { callee := Go.Callee.value (Go.Operand.func 22), args := #[], argTypes := #[] }, type := 54, pos := "msg.go:140", after := #[], guard := none }) rfl (fun K hK => ?_) AllReadyH.nil
    go_simp
    go_wp2_with (first | (go_at_call 22; (with_reducible refine (kinds_calls _).mono ?_); rintro e w9 ⟨rfl, rfl⟩))
    refine hK.out _ _ (q1) (fun hHeld' => ?_)
    clear hK K hHeld
    have hHeld := hHeld'
    clear hHeld'
    try simp only [Act.put, List.setIfInBounds_toArray, List.set_cons_zero, List.set_cons_succ]
    refine wpAnyH_ready (rs := [4]) (by kernel_rfl) (by simp) ?_
    refine AllReadyH.cons (o := { dst := some 17, op := Go.Op.lookup 54 (Go.Operand.tmp 13) (Go.Operand.tmp 16) true, type := 53, pos := "msg.go:140", after := #[{ on := 0, ground := Go.Ground.data }, { on := 3, ground := Go.Ground.data }], guard := none }) rfl (fun K hK => ?_) AllReadyH.nil
    go_simp
    refine hK.out _ _ (q1) (fun hHeld' => ?_)
    clear hK K hHeld
    have hHeld := hHeld'
    clear hHeld'
    try simp only [Act.put, List.setIfInBounds_toArray, List.set_cons_zero, List.set_cons_succ]
    refine wpAnyH_take (i := 5) (oi := { dst := some 12, op := Go.Op.move (Go.Operand.tmp 17), type := 53, pos := "msg.go:140", after := #[{ on := 4, ground := Go.Ground.data }], guard := none }) (v := ?vgr5) rfl (by kernel_rfl) (by kernel_rfl) (by kernel_rfl) (fun _ _ _ h => h) (Or.inl ⟨by rfl, ?hygr5⟩) hHeld ?restgr5
    case hygr5 => (intro w hSw; (try dsimp only at hSw); go_simp <;> with_reducible rfl)
    try simp only [Act.put, List.setIfInBounds_toArray, List.set_cons_zero, List.set_cons_succ]
    refine wpAnyH_take (i := 6) (oi := { dst := some 18, op := Go.Op.extract (Go.Operand.tmp 12) 0, type := 9, pos := "msg.go:140", after := #[{ on := 5, ground := Go.Ground.data }], guard := none }) (v := ?vgr6) rfl (by kernel_rfl) (by kernel_rfl) (by kernel_rfl) (fun _ _ _ h => h) (Or.inl ⟨by rfl, ?hygr6⟩) hHeld ?restgr6
    case hygr6 => (intro w hSw; (try dsimp only at hSw); go_simp <;> with_reducible rfl)
    try simp only [Act.put, List.setIfInBounds_toArray, List.set_cons_zero, List.set_cons_succ]
    refine wpAnyH_take (i := 7) (oi := { dst := some 19, op := Go.Op.extract (Go.Operand.tmp 12) 1, type := 4, pos := "msg.go:140", after := #[{ on := 5, ground := Go.Ground.data }, { on := 8, ground := Go.Ground.gcOnly Go.Departure.lateStores }], guard := none }) (v := ?vgr7) rfl (by kernel_rfl) (by kernel_rfl) (by kernel_rfl) (fun _ _ _ h => h) (Or.inl ⟨by rfl, ?hygr7⟩) hHeld ?restgr7
    case hygr7 => (intro w hSw; (try dsimp only at hSw); go_simp <;> with_reducible rfl)
    try simp only [Act.put, List.setIfInBounds_toArray, List.set_cons_zero, List.set_cons_succ]
    refine wpAnyH_take (i := 8) (oi := { dst := some 4, op := Go.Op.assign (Go.Operand.tmp 18), type := 9, pos := "msg.go:140", after := #[{ on := 6, ground := Go.Ground.data }, { on := 0, ground := Go.Ground.chain }, { on := 0, ground := Go.Ground.phase }, { on := 1, ground := Go.Ground.phase }, { on := 2, ground := Go.Ground.phase }, { on := 3, ground := Go.Ground.phase }, { on := 4, ground := Go.Ground.phase }, { on := 5, ground := Go.Ground.phase }, { on := 6, ground := Go.Ground.phase }, { on := 7, ground := Go.Ground.textOnly Go.Departure.lateStores }], guard := none }) (v := ?vgr8) rfl (by kernel_rfl) (by kernel_rfl) (by kernel_rfl) (fun _ _ _ h => h) (Or.inl ⟨by rfl, ?hygr8⟩) hHeld ?restgr8
    case hygr8 => (intro w hSw; (try dsimp only at hSw); go_simp <;> with_reducible rfl)
    try simp only [Act.put, List.setIfInBounds_toArray, List.set_cons_zero, List.set_cons_succ]
    refine wpAnyH_take (i := 9) (oi := { dst := some 5, op := Go.Op.assign (Go.Operand.tmp 19), type := 4, pos := "msg.go:140", after := #[{ on := 7, ground := Go.Ground.data }, { on := 8, ground := Go.Ground.chain }, { on := 0, ground := Go.Ground.phase }, { on := 1, ground := Go.Ground.phase }, { on := 2, ground := Go.Ground.phase }, { on := 3, ground := Go.Ground.phase }, { on := 4, ground := Go.Ground.phase }, { on := 5, ground := Go.Ground.phase }, { on := 6, ground := Go.Ground.phase }, { on := 7, ground := Go.Ground.phase }, { on := 8, ground := Go.Ground.phase }], guard := none }) (v := ?vgr9) rfl (by kernel_rfl) (by kernel_rfl) (by kernel_rfl) (fun _ _ _ h => h) (Or.inl ⟨by rfl, ?hygr9⟩) hHeld ?restgr9
    case hygr9 => (intro w hSw; (try dsimp only at hSw); go_simp <;> with_reducible rfl)
    try simp only [Act.put, List.setIfInBounds_toArray, List.set_cons_zero, List.set_cons_succ]
    refine wpAnyH_done (by kernel_rfl) ?_ _
    refine NoPanic.normal ?_
    have HB1 : Aside0 (Below w.heap.size w ((w.alloc (.cells rqZ 27)).alloc (.map (kE 16) 16)).drew) := ⟨below_drew (below_alloc HL.out _)⟩
    have HQ1 : Aside0 ((((w.alloc (.cells rqZ 27)).alloc (.map (kE 16) 16)).drew).heap[w.heap.size]? = some (.cells rqZ 27 (0, 0))) := ⟨(Blk.alloc (⟨HQ.out⟩ : Blk _ _ _) (o' := .map (kE 16) 16)).out⟩
    clear hHeld hlk q0 q1
    generalize ((w.alloc (.cells rqZ 27)).alloc (.map (kE 16) 16)).drew = W1 at HB1 HQ1 ⊢
    have KT := Aside0.mk (take_calls (some ad) c l (signsOf kd) W1 (Kd.C_below HR.out HB1.out) HBY.out hm HS.out.1 HS.out.2)
    unfold TakePost at KT
    rw [show (((tkAns l (signsOf kd)).2.1.done == 0) && (tkAns l (signsOf kd)).2.2) = tkGood l (signsOf kd) from rfl] at KT
    obtain ⟨y, hy⟩ : ∃ y, (tkAns l (signsOf kd)).1 = y := ⟨_, rfl⟩
    obtain ⟨gd, hgd⟩ : ∃ g, tkGood l (signsOf kd) = g := ⟨_, rfl⟩
    rw [hy, hgd] at KT HM0
    clear hy hgd
    go_wp2_with fail
    (with_reducible refine KT.out.mono ?_)
    rintro e w4 ⟨A4, cp4, rfl, hR4, hb4⟩
    have HR4 := Aside0.mk (Kd.R_lower (base' := w.heap.size) hR4 HB1.out.size)
    have HB4 := Aside0.mk (below_step HB1.out hb4)
    have HQ4 := Aside0.mk ((hb4.block _ (Array.getElem?_eq_some_iff.1 HQ1.out).1).trans HQ1.out)
    have HB5 := Aside0.mk (below_alloc HB4.out (.cells (rqC y A4 y.f8.f6.length cp4) 27))
    have HQ5 := Aside0.mk (heap_alloc_lt w4 (.cells (rqC y A4 y.f8.f6.length cp4) 27) (Array.getElem?_eq_some_iff.1 HQ4.out).1 HQ4.out)
    have HX5 := Aside0.mk (heap_new w4 (.cells (rqC y A4 y.f8.f6.length cp4) 27))
    have HR5 := Aside0.mk (Kd.R_alloc (Kd.R_types HR4.out HQ4.out (by decide)) (.cells (rqC y A4 y.f8.f6.length cp4) 27))
    have HFIN : Aside0 (∀ W9 : World, Kpt w.heap.size w.heap.size (w4.alloc (.cells (rqC y A4 y.f8.f6.length cp4) 27)) W9 → Below w.heap.size w W9 ∧ Kd.R k39 39 W9 w.heap.size (fun _ => True) (.slice A4 y.f8.f6.length cp4) y.f8.f6) := ⟨fun W9 h2 => ⟨h2.below HB5.out HB5.out.size (Nat.le_refl _) (Nat.le_refl _), Kd.R_mono (Kd.R_step HR5.out (fun k hk hl => h2.block k hl hk.2 hk.2)) (fun _ _ => trivial)⟩⟩
    have fz := fun j => blk_frozen HQ5.out j
    have f0 := fz 0
    have f1 := fz 1
    have f2 := fz 2
    have f3 := fz 3
    have f4 := fz 4
    have f5 := fz 5
    have f6 := fz 6
    have f7 := fz 7
    have f8 := fz 8
    have f9 := fz 9
    have f10 := fz 10
    have f11 := fz 11
    have f12 := fz 12
    have f13 := fz 13
    have f14 := fz 14
    have z0 := (cell_of_row _ w.heap.size 0 _ _ _ HQ5.out).trans (rfl : _ = some (.int .u8 0 : Value))
    have z1 := (cell_of_row _ w.heap.size 1 _ _ _ HQ5.out).trans (rfl : _ = some (.int .u32 0 : Value))
    have z2 := (cell_of_row _ w.heap.size 2 _ _ _ HQ5.out).trans (rfl : _ = some (.string { data := #[] } : Value))
    have z3 := (cell_of_row _ w.heap.size 3 _ _ _ HQ5.out).trans (rfl : _ = some (.int .u32 0 : Value))
    have z4 := (cell_of_row _ w.heap.size 4 _ _ _ HQ5.out).trans (rfl : _ = some (.int .i64 0 : Value))
    have z5 := (cell_of_row _ w.heap.size 5 _ _ _ HQ5.out).trans (rfl : _ = some (.int .i64 0 : Value))
    have z6 := (cell_of_row _ w.heap.size 6 _ _ _ HQ5.out).trans (rfl : _ = some (.int .i64 0 : Value))
    have z7 := (cell_of_row _ w.heap.size 7 _ _ _ HQ5.out).trans (rfl : _ = some (.string { data := #[] } : Value))
    have z8 := (cell_of_row _ w.heap.size 8 _ _ _ HQ5.out).trans (rfl : _ = some (.int .u32 0 : Value))
    have z9 := (cell_of_row _ w.heap.size 9 _ _ _ HQ5.out).trans (rfl : _ = some (.int .i64 0 : Value))
    have z10 := (cell_of_row _ w.heap.size 10 _ _ _ HQ5.out).trans (rfl : _ = some (.int .i64 0 : Value))
    have z11 := (cell_of_row _ w.heap.size 11 _ _ _ HQ5.out).trans (rfl : _ = some (.int .i64 0 : Value))
    have z12 := (cell_of_row _ w.heap.size 12 _ _ _ HQ5.out).trans (rfl : _ = some (.int .i64 0 : Value))
    have z13 := (cell_of_row _ w.heap.size 13 _ _ _ HQ5.out).trans (rfl : _ = some (.int .i64 0 : Value))
    have z14 := (cell_of_row _ w.heap.size 14 _ _ _ HQ5.out).trans (rfl : _ = some (.slice none 0 0 : Value))
    clear fz hR4 hb4 KT
    obtain ⟨y0, y1, y2, y3, y4, y5, y6, y7, y8, y9, y10, y11, y12, y13, y14⟩ := rq_cells HX5.out
    cases hk : isKind kd with
    | false =>
      have HM := Aside0.mk (show mget l = (rqNil, 21) by rw [HM0.out, hk]; rfl)
      go_wp2_with fail
      have e3 := X15_put (q := w.heap.size) HQ5.out (.int .u8 0) (.int .u32 0) (.string { data := #[] }) (.int .u32 0) (.int .i64 0) (.int .i64 0) (.int .i64 0) (.string { data := #[] }) (.int .u32 0) (.int .i64 0) (.int .i64 0) (.int .i64 0) (.int .i64 0) (.int .i64 0) (.slice none 0 0)
      have e4 := X15_kpt (w4.alloc (.cells (rqC y A4 y.f8.f6.length cp4) 27)) w.heap.size w.heap.size (.int .u8 0) (.int .u32 0) (.string { data := #[] }) (.int .u32 0) (.int .i64 0) (.int .i64 0) (.int .i64 0) (.string { data := #[] }) (.int .u32 0) (.int .i64 0) (.int .i64 0) (.int .i64 0) (.int .i64 0) (.int .i64 0) (.slice none 0 0)
      unfold X15 at e3 e4
      generalize ((((((((((((((((w4.alloc (.cells (rqC y A4 y.f8.f6.length cp4) 27)).setCell ⟨w.heap.size, 0, none⟩ (.int .u8 0)).setCell ⟨w.heap.size, 1, none⟩ (.int .u32 0)).setCell ⟨w.heap.size, 2, none⟩ (.string { data := #[] })).setCell ⟨w.heap.size, 3, none⟩ (.int .u32 0)).setCell ⟨w.heap.size, 4, none⟩ (.int .i64 0)).setCell ⟨w.heap.size, 5, none⟩ (.int .i64 0)).setCell ⟨w.heap.size, 6, none⟩ (.int .i64 0)).setCell ⟨w.heap.size, 7, none⟩ (.string { data := #[] })).setCell ⟨w.heap.size, 8, none⟩ (.int .u32 0)).setCell ⟨w.heap.size, 9, none⟩ (.int .i64 0)).setCell ⟨w.heap.size, 10, none⟩ (.int .i64 0)).setCell ⟨w.heap.size, 11, none⟩ (.int .i64 0)).setCell ⟨w.heap.size, 12, none⟩ (.int .i64 0)).setCell ⟨w.heap.size, 13, none⟩ (.int .i64 0)).setCell ⟨w.heap.size, 14, none⟩ (.slice none 0 0)) = W9 at e3 e4 ⊢
      obtain ⟨r0, r1, r2, r3, r4, r5, r6, r7, r8, r9, r10, r11, r12, r13, r14⟩ := rq_cells (x := rqNil) e3
      exact bodyPost_ret (v := .tuple #[.agg rqZ, .int .i64 21]) (by simp [results, Try.results12, go_sem, rqNil, rq0, r0, r1, r2, r3, r4, r5, r6, r7, r8, r9, r10, r11, r12, r13, r14]) rfl (by rw [HM.out]; exact ⟨none, 0, rfl, Kd.R_nil _ _ _ _ _, (HFIN.out _ e4).1⟩)
    | true =>
      cases gd with
      | false =>
        have HM := Aside0.mk (show mget l = (rqNil, 21) by rw [HM0.out, hk]; rfl)
        go_wp2_with fail
        have e3 := X15_put (q := w.heap.size) HQ5.out (.int .u8 0) (.int .u32 0) (.string { data := #[] }) (.int .u32 0) (.int .i64 0) (.int .i64 0) (.int .i64 0) (.string { data := #[] }) (.int .u32 0) (.int .i64 0) (.int .i64 0) (.int .i64 0) (.int .i64 0) (.int .i64 0) (.slice none 0 0)
        have e4 := X15_kpt (w4.alloc (.cells (rqC y A4 y.f8.f6.length cp4) 27)) w.heap.size w.heap.size (.int .u8 0) (.int .u32 0) (.string { data := #[] }) (.int .u32 0) (.int .i64 0) (.int .i64 0) (.int .i64 0) (.string { data := #[] }) (.int .u32 0) (.int .i64 0) (.int .i64 0) (.int .i64 0) (.int .i64 0) (.int .i64 0) (.slice none 0 0)
        unfold X15 at e3 e4
        generalize ((((((((((((((((w4.alloc (.cells (rqC y A4 y.f8.f6.length cp4) 27)).setCell ⟨w.heap.size, 0, none⟩ (.int .u8 0)).setCell ⟨w.heap.size, 1, none⟩ (.int .u32 0)).setCell ⟨w.heap.size, 2, none⟩ (.string { data := #[] })).setCell ⟨w.heap.size, 3, none⟩ (.int .u32 0)).setCell ⟨w.heap.size, 4, none⟩ (.int .i64 0)).setCell ⟨w.heap.size, 5, none⟩ (.int .i64 0)).setCell ⟨w.heap.size, 6, none⟩ (.int .i64 0)).setCell ⟨w.heap.size, 7, none⟩ (.string { data := #[] })).setCell ⟨w.heap.size, 8, none⟩ (.int .u32 0)).setCell ⟨w.heap.size, 9, none⟩ (.int .i64 0)).setCell ⟨w.heap.size, 10, none⟩ (.int .i64 0)).setCell ⟨w.heap.size, 11, none⟩ (.int .i64 0)).setCell ⟨w.heap.size, 12, none⟩ (.int .i64 0)).setCell ⟨w.heap.size, 13, none⟩ (.int .i64 0)).setCell ⟨w.heap.size, 14, none⟩ (.slice none 0 0)) = W9 at e3 e4 ⊢
        obtain ⟨r0, r1, r2, r3, r4, r5, r6, r7, r8, r9, r10, r11, r12, r13, r14⟩ := rq_cells (x := rqNil) e3
        exact bodyPost_ret (v := .tuple #[.agg rqZ, .int .i64 21]) (by simp [results, Try.results12, go_sem, rqNil, rq0, r0, r1, r2, r3, r4, r5, r6, r7, r8, r9, r10, r11, r12, r13, r14]) rfl (by rw [HM.out]; exact ⟨none, 0, rfl, Kd.R_nil _ _ _ _ _, (HFIN.out _ e4).1⟩)
      | true =>
        have HM := Aside0.mk (show mget l = (y, 0) by rw [HM0.out, hk]; rfl)
        go_wp2_with fail
        have e3 := X15_put (q := w.heap.size) HQ5.out (.int .u8 y.f0) (.int .u32 y.f1) (.string y.f2) (.int .u32 y.f3) (.int .i64 y.f4) (.int .i64 y.f5) (.int .i64 y.f6) (.string y.f7) (.int .u32 y.f8.f0) (.int .i64 y.f8.f1) (.int .i64 y.f8.f2) (.int .i64 y.f8.f3) (.int .i64 y.f8.f4) (.int .i64 y.f8.f5) (.slice A4 y.f8.f6.length cp4)
        have e4 := X15_kpt (w4.alloc (.cells (rqC y A4 y.f8.f6.length cp4) 27)) w.heap.size w.heap.size (.int .u8 y.f0) (.int .u32 y.f1) (.string y.f2) (.int .u32 y.f3) (.int .i64 y.f4) (.int .i64 y.f5) (.int .i64 y.f6) (.string y.f7) (.int .u32 y.f8.f0) (.int .i64 y.f8.f1) (.int .i64 y.f8.f2) (.int .i64 y.f8.f3) (.int .i64 y.f8.f4) (.int .i64 y.f8.f5) (.slice A4 y.f8.f6.length cp4)
        unfold X15 at e3 e4
        generalize ((((((((((((((((w4.alloc (.cells (rqC y A4 y.f8.f6.length cp4) 27)).setCell ⟨w.heap.size, 0, none⟩ (.int .u8 y.f0)).setCell ⟨w.heap.size, 1, none⟩ (.int .u32 y.f1)).setCell ⟨w.heap.size, 2, none⟩ (.string y.f2)).setCell ⟨w.heap.size, 3, none⟩ (.int .u32 y.f3)).setCell ⟨w.heap.size, 4, none⟩ (.int .i64 y.f4)).setCell ⟨w.heap.size, 5, none⟩ (.int .i64 y.f5)).setCell ⟨w.heap.size, 6, none⟩ (.int .i64 y.f6)).setCell ⟨w.heap.size, 7, none⟩ (.string y.f7)).setCell ⟨w.heap.size, 8, none⟩ (.int .u32 y.f8.f0)).setCell ⟨w.heap.size, 9, none⟩ (.int .i64 y.f8.f1)).setCell ⟨w.heap.size, 10, none⟩ (.int .i64 y.f8.f2)).setCell ⟨w.heap.size, 11, none⟩ (.int .i64 y.f8.f3)).setCell ⟨w.heap.size, 12, none⟩ (.int .i64 y.f8.f4)).setCell ⟨w.heap.size, 13, none⟩ (.int .i64 y.f8.f5)).setCell ⟨w.heap.size, 14, none⟩ (.slice A4 y.f8.f6.length cp4)) = W9 at e3 e4 ⊢
        obtain ⟨r0, r1, r2, r3, r4, r5, r6, r7, r8, r9, r10, r11, r12, r13, r14⟩ := rq_cells (x := y) e3
        exact bodyPost_ret (v := .tuple #[.agg (rqC y A4 y.f8.f6.length cp4), .int .i64 0]) (by simp [results, Try.results12, go_sem, rqNil, rq0, r0, r1, r2, r3, r4, r5, r6, r7, r8, r9, r10, r11, r12, r13, r14]) rfl (by rw [HM.out]; exact ⟨A4, cp4, rfl, (HFIN.out _ e4).2, (HFIN.out _ e4).1⟩)
end Go.Proofs.Ytanjkhdagegapaa.Ext
end

section
/- quitrentlaw25.goes. -/
namespace Go.Proofs.Ytanjkhdagegapaa.Ext
open Go.RowKit Go.MapKept Go.Shelf Go.Proofs.YtanjkhdagegapaaW.PrintWords Go.Proofs.YtanjkhdagegapaaW.PrintLast Go.Proofs.YtanjkhdagegapaaW.PrintMore Go.Proofs.YtanjkhdagegapaaW.Hand Go.Proofs.Ytanjkhdagegapaa.PZ
set_option linter.unusedVariables false
set_option linter.unusedSimpArgs false
def q1 : RQ := ⟨4, 1, { data := #[97] }, 0, 5, 0, 0, { data := #[] }, ⟨0, 0, 0, 0, 0, 0, []⟩⟩
def q2 : RQ := ⟨4, 1, { data := #[] }, 0, 5, 0, 0, { data := #[] }, ⟨0, 0, 0, 0, 0, 0, []⟩⟩
def B22 : List Int := [4, 0, 0, 0, 0, 0, 0, 0, 1, 0, 0, 0, 1, 97, 0, 0, 0, 0, 0, 0, 0, 5]
def B37 : List Int := [0, 0, 0, 0, 0, 0, 0, 40, 0, 0, 0, 0, 0, 0, 0, 0, 0, 0, 0, 0, 0, 0, 0, 7, 0, 0, 0, 0, 0, 0, 0, 0, 0, 0, 0, 1, 120]
theorem m1 : mput q1 = (B22, 0) := by kernel_rfl
theorem m2 : mget B22 = (q1, 0) := by kernel_rfl
theorem m3 : mput q2 = ([], 1) := by kernel_rfl
theorem m4 : mget [] = (rqNil, 21) := by kernel_rfl
theorem m5 : rplB 40 0 7 0 { data := #[120] } = B37 := by kernel_rfl
theorem m6 : gget B37 = ((40, 0, 7, 0, { data := #[120] }), 0) := by kernel_rfl
theorem m7 : keyedB 4 = true := by kernel_rfl
theorem m8 : keyedB 11 = false := by kernel_rfl
theorem q1_ok : RqOk q1 := ⟨by decide, by decide, by decide, by decide, by decide⟩
theorem q2_ok : RqOk q2 := ⟨by decide, by decide, by decide, by decide, by decide⟩
theorem byte_lit {l : List Int} (h : (l.all fun x => decide (0 ≤ x) && decide (x < 256)) = true) : ∀ v ∈ l, IsByte v := fun v hv => by
  have := List.all_eq_true.1 h v hv
  simpa [IsByte] using this
set_option maxRecDepth 100000 in
set_option maxHeartbeats 6400000 in
theorem goes_true (w : World) : Calls Try.prog 11 #[] w fun e w' => e = .returned (.bool true) ∧ Below w.heap.size w w' := by
  have k1 : Aside0 (∀ W : World, Calls Try.prog 10 #[.agg #[.int .u8 4, .int .u32 1, .string { data := #[97] }, .int .u32 0, .int .i64 5, .int .i64 0, .int .i64 0, .string { data := #[] }, .int .u32 0, .int .i64 0, .int .i64 0, .int .i64 0, .int .i64 0, .int .i64 0, .slice none 0 0]] W fun e w' => ∃ (A : Option Addr) (c : Nat), e = .returned (.tuple #[.slice A 22 c, .int .i64 0]) ∧ Kd.C (Kd.int .u8) w' A 22 B22 ∧ 22 ≤ c ∧ Below W.heap.size W w') := ⟨fun W => (PutRequest_go q1 none 0 W (Kd.C_nil _ _) (by decide) q1_ok).mono fun e w' h => by
    rw [m1] at h
    obtain ⟨v, rfl, hr, hb⟩ := h
    obtain ⟨A, c, rfl⟩ := Kd.R_slice hr
    exact ⟨A, c, rfl, (Kd.R_reads' hr).2.2, (Kd.R_reads' hr).2.1, hb⟩⟩
  have k2 : Aside0 (∀ (A : Option Addr) (c : Nat) (W : World), Kd.C (Kd.int .u8) W A 22 B22 → 22 ≤ c → Calls Try.prog 12 #[.slice A 22 c] W fun e w' => ∃ (A' : Option Addr) (c' : Nat), e = .returned (.tuple #[.agg (rqC q1 A' 0 c'), .int .i64 0]) ∧ Below W.heap.size W w') := ⟨fun A c W hr hc => (GetRequest_go A c B22 W hr hc (byte_lit (by decide)) (by decide)).mono fun e w' h => by
    rw [m2] at h
    obtain ⟨A', c', rfl, _, hb⟩ := h
    exact ⟨A', c', rfl, hb⟩⟩
  have k3 : Aside0 (∀ W : World, Calls Try.prog 10 #[.agg #[.int .u8 4, .int .u32 1, .string { data := #[] }, .int .u32 0, .int .i64 5, .int .i64 0, .int .i64 0, .string { data := #[] }, .int .u32 0, .int .i64 0, .int .i64 0, .int .i64 0, .int .i64 0, .int .i64 0, .slice none 0 0]] W fun e w' => ∃ v : Value, e = .returned (.tuple #[v, .int .i64 1]) ∧ Below W.heap.size W w') := ⟨fun W => (PutRequest_go q2 none 0 W (Kd.C_nil _ _) (by decide) q2_ok).mono fun e w' h => by
    rw [m3] at h
    obtain ⟨v, rfl, hr, hb⟩ := h
    exact ⟨v, rfl, hb⟩⟩
  have k4 : Aside0 (∀ W : World, Calls Try.prog 12 #[.slice none 0 0] W fun e w' => ∃ (A' : Option Addr) (c' : Nat), e = .returned (.tuple #[.agg (rqC rqNil A' 0 c'), .int .i64 21]) ∧ Below W.heap.size W w') := ⟨fun W => (GetRequest_go none 0 [] W (Kd.C_nil _ _) (by decide) (by simp) (by decide)).mono fun e w' h => by
    rw [m4] at h
    obtain ⟨A', c', rfl, _, hb⟩ := h
    exact ⟨A', c', rfl, hb⟩⟩
  have k5 : Aside0 (∀ W : World, Calls Try.prog 20 #[.agg #[.int .i64 40, .int .u32 0, .int .i64 7, .int .i64 0, .string { data := #[120] }]] W fun e w' => ∃ (A : Option Addr) (c : Nat), e = .returned (.slice A 37 c) ∧ Kd.C (Kd.int .u8) w' A 37 B37 ∧ Below W.heap.size W w') := ⟨fun W => (PutReply_go 40 0 7 0 { data := #[120] } W (by decide) (by decide) (by decide)).mono fun e w' h => by
    rw [m5] at h
    obtain ⟨v, rfl, hr, hb⟩ := h
    obtain ⟨A, c, rfl⟩ := Kd.R_slice hr
    exact ⟨A, c, rfl, (Kd.R_reads' hr).2.2, hb⟩⟩
  have k6 : Aside0 (∀ (A : Option Addr) (c : Nat) (W : World), Kd.C (Kd.int .u8) W A 37 B37 → Calls Try.prog 14 #[.slice A 37 c] W fun e w' => e = .returned (.tuple #[.agg #[.int .i64 40, .int .u32 0, .int .i64 7, .int .i64 0, .string { data := #[120] }], .int .i64 0]) ∧ Below W.heap.size W w') := ⟨fun A c W hr => (GetReply_go A c B37 W hr (byte_lit (by decide)) (by decide)).mono fun e w' h => by
    rw [m6] at h
    exact h⟩
  have k7 : Aside0 (∀ W : World, Calls Try.prog 15 #[.int .u8 4] W fun e w' => e = .returned (.bool true) ∧ Below W.heap.size W w') := ⟨fun W => m7 ▸ Keyed_go 4 W⟩
  have k8 : Aside0 (∀ W : World, Calls Try.prog 15 #[.int .u8 11] W fun e w' => e = .returned (.bool false) ∧ Below W.heap.size W w') := ⟨fun W => m8 ▸ Keyed_go 11 W⟩
  go_enter Try.func11, Try.ntmps11
  go_wp2_with fail
  (with_reducible refine (k1.out _).mono ?_)
  rintro e w1 ⟨A1, c1, rfl, hC1, hc1, hb1⟩
  have HB1 := Aside0.mk (below_step (Below.refl _ w) hb1)
  have HC1 := Aside0.mk hC1
  clear hC1 hb1
  go_wp2_with fail
  (with_reducible refine (k2.out A1 c1 _ HC1.out hc1).mono ?_)
  rintro e w2 ⟨A2, c2, rfl, hb2⟩
  have HB2 := Aside0.mk (below_alloc (below_step HB1.out hb2) (.cells (rqC q1 A2 0 c2) 27))
  have HR := Aside0.mk (Blk.new_ (W := w2) (o := .cells (rqC q1 A2 0 c2) 27))
  obtain ⟨ra, hra⟩ : ∃ r, w2.heap.size = r := ⟨_, rfl⟩
  rw [hra] at HR
  clear hb2
  go_wp2_with fail
  (with_reducible refine (k3.out _).mono ?_)
  rintro e w3 ⟨v3, rfl, hb3⟩
  have HB3 := Aside0.mk (below_step HB2.out hb3)
  have HR3 := Aside0.mk (HR.out.below hb3)
  clear hb3 HR
  go_wp2_with fail
  (with_reducible refine (k4.out _).mono ?_)
  rintro e w4 ⟨A4, c4, rfl, hb4⟩
  have HB4 := Aside0.mk (below_alloc (below_step HB3.out hb4) (.cells (rqC rqNil A4 0 c4) 27))
  have HR4 := Aside0.mk ((HR3.out.below hb4).alloc (o' := .cells (rqC rqNil A4 0 c4) 27))
  clear hb4 HR3
  go_wp2_with fail
  (with_reducible refine (k5.out _).mono ?_)
  rintro e w5 ⟨A5, c5, rfl, hC5, hb5⟩
  have HB5 := Aside0.mk (below_step HB4.out hb5)
  have HR5 := Aside0.mk (HR4.out.below hb5)
  have HC5 := Aside0.mk hC5
  clear hb5 hC5 HR4
  go_wp2_with fail
  (with_reducible refine (k6.out A5 c5 _ HC5.out).mono ?_)
  rintro e w6 ⟨rfl, hb6⟩
  have HB6 := Aside0.mk (below_alloc (below_step HB5.out hb6) (.cells #[.int .i64 40, .int .u32 0, .int .i64 7, .int .i64 0, .string { data := #[120] }] 42))
  have HR6 := Aside0.mk ((HR5.out.below hb6).alloc (o' := .cells #[.int .i64 40, .int .u32 0, .int .i64 7, .int .i64 0, .string { data := #[120] }] 42))
  have HP6 := Aside0.mk (Blk.new_ (W := w6) (o := .cells #[.int .i64 40, .int .u32 0, .int .i64 7, .int .i64 0, .string { data := #[120] }] 42))
  have rc2 := (HR6.out.cell 2).trans (rfl : _ = some (Value.string { data := #[97] }))
  have rc4 := (HR6.out.cell 4).trans (rfl : _ = some (Value.int .i64 5))
  clear hb6 HR5
  go_wp2_with (first
    | (go_at_call 15; (with_reducible refine (k7.out _).mono ?_); rintro e w7 ⟨rfl, hb7⟩; have HB7 := Aside0.mk (below_step HB6.out hb7); have HP7 := Aside0.mk (HP6.out.below hb7); clear hb7)
    | (go_at_call 15; (with_reducible refine (k8.out _).mono ?_); rintro e w8 ⟨rfl, hb8⟩; have HB8 := Aside0.mk (below_step HB7.out hb8); have HP8 := HP7.out.below hb8; have p0 := (HP8.cell 0).trans (rfl : _ = some (Value.int .i64 40)); have p2 := (HP8.cell 2).trans (rfl : _ = some (Value.int .i64 7)); have p4 := (HP8.cell 4).trans (rfl : _ = some (Value.string { data := #[120] })); clear hb8 HP8))
  go_ret
  exact ⟨rfl, HB8.out⟩
end Go.Proofs.Ytanjkhdagegapaa.Ext
end
